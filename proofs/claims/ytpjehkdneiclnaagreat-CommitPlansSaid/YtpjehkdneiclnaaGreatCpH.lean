import Derived.Test.YtpjehkdneiclnaaGreatCpB
import Derived.Test.YtpjehkdneiclnaaGreatCpF
set_option linter.unusedVariables false
set_option linter.unusedSimpArgs false
set_option maxHeartbeats 4000000
set_option maxRecDepth 100000
namespace Go.Pu
open Go Go.Wc
theorem uK {V:Type} {B:(V→Prop)→V→Prop} (n:Nat) (st:Nat→V) (P:Nat→Prop)
    (hstep: ∀ i S,i<n→P i→(P (i+1)→S (st (i+1)))→B S (st i)) (hend: ∀ S,P n→B S (st n)): ∀ i,i≤n→P i→Lf B (st i):=by
  have key: ∀ j i,i+j=n→P i→Lf B (st i):=by
    intro j
    induction j with
    | zero => intro i e hP; obtain rfl : i = n := by omega
              exact Lf.fold (hend _ hP)
    | succ j ih=>intro i e hP; exact Lf.fold (hstep i _ (by omega) hP fun h=>ih (i+1) (by omega) h)
  intro i hi hP
  exact key (n - i) i (by omega) hP
theorem mA {V:Type} {B:(V→Prop)→V→Prop} (n:Nat) (st:Nat→V)
    (hstep: ∀ i S,i<n→S (st (i+1))→B S (st i)) (hend: ∀ S,B S (st n)):Lf B (st 0):=
  uK n st (fun _=>True) (fun i S hi _ h=>hstep i S hi (h trivial)) (fun S _=>hend S) 0 (Nat.zero_le _) trivial
theorem cW {i:Nat} (h:i<9000000000000000000):IntKind.wrap .i64 ((i:Int)+(1:Int))=((i+1:Nat):Int):=by
  rw [wrap64 (by omega) (by omega)]; omega
theorem dlt {i n:Nat} (h:i<n):decide ((i:Int)<(n:Int))=true:=by simp; omega
theorem dge {i n:Nat} (h:n≤i):decide ((i:Int)<(n:Int))=false:=by simp; omega
theorem cK {X:Type} {l:List X} {i:Nat} {K:X→Prop} (h:i<l.length) (H:K l[i]):ixP l (i:Int) K:=xY (List.getElem?_eq_getElem h) H
theorem gB {X:Type} {l:List X} {i:Int} {K:X→Prop} (j:Nat) (hj:i=(j:Int)) (h:j<l.length) (H:K l[j]):ixP l i K:=by subst hj; exact cK h H
theorem dJ {X:Type} {l:List X} {i:Nat} (h:i<l.length):l.take (i+1)=l.take i++[l[i]]:=by rw [List.take_add_one,List.getElem?_eq_getElem h]; rfl
theorem fT {X Y:Type} {l:List X} {f:X→Y} {i:Nat} (h:i<l.length):(l.take i).map f++[f l[i]]=(l.take (i+1)).map f:=by rw [dJ h,List.map_append]; rfl
theorem ct {n:Nat} (h:n≤4000000000):Bnd n:=by unfold Bnd; omega
end Go.Pu
namespace Go.Pu
open Go Go.Wc
def rotR (n:Nat) (x:Int):Int:=x / 2 ^ n+x % 2 ^ n*2 ^ (32 - n)
def lM (x:Int):Prop:=0≤x∧x<4294967296
def Jd (x:Int):Int:=IntKind.wrap .u32 (IntKind.wrap .u32 (Int.tdiv x 2)+IntKind.wrap .u32 (Int.tmod x 2*2147483648))
def NG (x:Int):Int:=IntKind.wrap .u32 (IntKind.wrap .u32 (x*2)+IntKind.wrap .u32 (Int.tdiv x 2147483648))
theorem wrap_u32 (n:Int):IntKind.wrap .u32 n=n % 4294967296:=by
  rw [show IntKind.wrap .u32 n=n % 4294967296 from rfl]
theorem um (n:Int):lM (IntKind.wrap .u32 n):=by rw [wrap_u32]; unfold lM; omega
theorem cV {n:Int} (h:lM n):IntKind.wrap .u32 n=n:=by rw [wrap_u32]; unfold lM at h; omega
theorem oB (n:Nat):(0:Int)<2 ^ n:=Int.pow_pos (by decide)
theorem vk {n:Nat} (h:n≤32):(2:Int) ^ n*2 ^ (32 - n)=4294967296:=by
  rw [← Int.pow_add,Nat.add_sub_of_le h]; rfl
theorem p8 {n:Nat} (h:n<32) {x:Int} (hx:lM x): ∃ P S q r b:Int,(2:Int) ^ n=P∧2 ^ (n+1)=2*P∧2 ^ (32 - n)=2*S∧2 ^ (32 - (n+1))=S∧0<P∧0<S∧P*S=2147483648∧
    0≤q∧q<S∧0≤r∧r<P∧(b=0∨b=1)∧x / 2 ^ (n+1)=q∧x / 2 ^ n=2*q+b∧x % 2 ^ n=r∧x % 2 ^ (n+1)=b*P+r∧0≤r*S∧r*S+q<2147483648:=by
  have e1:(2:Int) ^ (n+1)=2*2 ^ n:=by rw [Int.pow_succ,Int.mul_comm]
  have e2:(2:Int) ^ (32 - n)=2*2 ^ (32 - (n+1)):=by rw [show 32 - n=(32 - (n+1))+1 by omega,Int.pow_succ,Int.mul_comm]
  have e3:(2:Int) ^ n*2 ^ (32 - (n+1))=2147483648:=by
    have:=vk (n:=n) (by omega)
    rw [e2,Int.mul_left_comm] at this; omega
  have hP:=oB n
  have hS:=oB (32 - (n+1))
  refine ⟨2 ^ n,2 ^ (32 - (n+1)),x / (2*2 ^ n),x % 2 ^ n,x / 2 ^ n % 2,rfl,e1,e2,rfl,hP,hS,e3, ?_⟩
  have d1:=Int.mul_ediv_add_emod x (2 ^ n)
  have d2:=Int.emod_nonneg x (b:=2 ^ n) (by omega)
  have d3:=Int.emod_lt_of_pos x hP
  have d4:x / (2*2 ^ n)=x / 2 ^ n / 2:=by rw [Int.mul_comm,Int.ediv_ediv_of_nonneg (by omega)]
  have d5:0≤x / 2 ^ n:=Int.ediv_nonneg hx.1 (by omega)
  have d6:x / 2 ^ n<2*2 ^ (32 - (n+1)):=by
    refine Int.ediv_lt_of_lt_mul hP ?_
    have h2:=hx.2
    have:(2*2 ^ (32 - (n+1)):Int)*2 ^ n=2*(2 ^ n*2 ^ (32 - (n+1))):=by rw [Int.mul_comm (2 ^ n),Int.mul_assoc]
    rw [this,e3]; omega
  have d7:=Int.mul_ediv_add_emod x (2*2 ^ n)
  have d8:(2:Int)*2 ^ n*(x / (2*2 ^ n))=2 ^ n*(2*(x / 2 ^ n / 2)):=by rw [d4]; simp only [Int.mul_assoc,Int.mul_left_comm]
  have d9:(2:Int) ^ n*(x / 2 ^ n)=2 ^ n*(2*(x / 2 ^ n / 2))+2 ^ n*(x / 2 ^ n % 2):=by
    rw [← Int.mul_add]; congr 1; omega
  have d10:x % 2 ^ n*2 ^ (32 - (n+1))≤(2 ^ n - 1)*2 ^ (32 - (n+1)):=Int.mul_le_mul_of_nonneg_right (by omega) (by omega)
  rw [Int.sub_mul,e3] at d10
  refine ⟨?_, ?_,d2,d3, ?_, ?_, ?_,rfl, ?_, ?_, ?_⟩
  · omega
  · omega
  · omega
  · rw [e1]
  · omega
  · rw [e1,Int.mul_comm (x / 2 ^ n % 2)]; omega
  · exact Int.mul_nonneg d2 (by omega)
  · omega
theorem Ao {n:Nat} (h:n<32) {x:Int} (hx:lM x):lM (rotR n x):=by
  obtain ⟨P,S,q,r,b,h1,h2,h3,h4,h5,h6,h7,h8,h9,tv,PY,A0,PZ,Na,LB,EB,U6,Xz⟩:=p8 h hx
  unfold rotR lM
  rw [Na,LB,h3,Int.mul_left_comm]
  omega
theorem Ca {n:Nat} (h:n<32) {x:Int} (hx:lM x):Jd (rotR n x)=rotR (n+1) x:=by
  obtain ⟨P,S,q,r,b,h1,h2,h3,h4,h5,h6,h7,h8,h9,tv,PY,A0,PZ,Na,LB,EB,U6,Xz⟩:=p8 h hx
  have hw:=Ao h hx
  unfold Jd
  rw [Int.tdiv_eq_ediv_of_nonneg hw.1,Int.tmod_eq_emod_of_nonneg hw.1,wrap_u32,wrap_u32,wrap_u32]
  unfold rotR at hw ⊢
  rw [Na,LB,h3,Int.mul_left_comm] at hw
  rw [Na,LB,h3,PZ,EB,h4,Int.mul_left_comm,Int.add_mul,Int.mul_assoc,h7]
  rcases A0 with rfl | rfl <;> omega
theorem Ec {n:Nat} (h:n<32) {x:Int} (hx:lM x):NG (rotR (n+1) x)=rotR n x:=by
  obtain ⟨P,S,q,r,b,h1,h2,h3,h4,h5,h6,h7,h8,h9,tv,PY,A0,PZ,Na,LB,EB,U6,Xz⟩:=p8 h hx
  unfold NG
  have e:rotR (n+1) x=q+(b*2147483648+r*S):=by
    unfold rotR
    rw [PZ,EB,h4,Int.add_mul,Int.mul_assoc,h7]
  have e2:rotR n x=2*q+b+2*(r*S):=by
    unfold rotR
    rw [Na,LB,h3,Int.mul_left_comm]
  rw [e,e2,Int.tdiv_eq_ediv_of_nonneg (by rcases A0 with rfl | rfl <;> omega),wrap_u32,wrap_u32,wrap_u32]
  have j1:(q+(b*2147483648+r*S)) / 2147483648=b:=by rcases A0 with rfl | rfl <;> omega
  have j2:(q+(b*2147483648+r*S))*2 % 4294967296=2*q+2*(r*S):=by rcases A0 with rfl | rfl <;> omega
  rw [j1,j2]
  rcases A0 with rfl | rfl <;> omega
theorem Qz {x:Int}:rotR 0 x=x:=by unfold rotR; simp
theorem KP {x:Int} (hx:lM x):rotR 32 x=x:=by
  unfold rotR
  have h1:=hx.1; have h2:=hx.2
  rw [show (2:Int) ^ 32=4294967296 from rfl,show (2:Int) ^ (32 - 32)=1 from rfl]; omega
theorem uh {P S a r:Int} {n:Nat} (hP:P=2 ^ n) (hr:0≤r∧r<P) (ha:0≤a) (h:a*P+r<4294967296):
    ((BitVec.ofInt 32 (a*P) ||| BitVec.ofInt 32 r).toNat:Int)=a*P+r:=by
  obtain ⟨a',rfl⟩:=Int.eq_ofNat_of_zero_le ha
  obtain ⟨r',rfl⟩:=Int.eq_ofNat_of_zero_le hr.1
  subst hP
  have e:((a':Int)*2 ^ n)=((2 ^ n*a':Nat):Int):=by rw [Int.natCast_mul,Int.natCast_pow]; exact Int.mul_comm _ _
  rw [e] at h ⊢
  have hlt:r'<2 ^ n:=by have:=hr.2; exact_mod_cast this
  have hsum:2 ^ n*a'+r'<4294967296:=by clear e; generalize 2 ^ n*a'=m at*; omega
  rw [BitVec.toNat_or,BitVec.ofInt_natCast,BitVec.ofInt_natCast,BitVec.toNat_ofNat,BitVec.toNat_ofNat,Nat.mod_eq_of_lt (by omega),Nat.mod_eq_of_lt (by omega),← Nat.two_pow_add_eq_or_of_lt hlt]
  rw [Int.natCast_add]
end Go.Pu

namespace Go.Pt
open Go Go.Wc Go.Pu
def mH (m:Int):Int:=(m+5) / 6
def newB (n : Int) : List Int :=
  let m1:=mH n
  let l1:=[0,n,n+m1]
  if m1>1 then
    let m2:=mH m1
    let l2:=l1++[n+m1+m2]
    if m2>1 then l2++[n+m1+m2+mH m2] else l2
  else l1
theorem Ck {c:cD.V} {Q:cD.QT} {l:List Int} {m x:Int} (e1:c.l4=l) (e2:c.jj=m) (hl:2≤l.length∧l.length≤10) (hm:1≤m∧m≤216) (hx:l[l.length - 1]? =some x) (Mm:0≤x∧x≤1000) (hgo:m>1∨l.length=2)
    (H: ∀ c':cD.V,c'.l4=l++[x+mH m]→c'.jj=mH m→cD.L2 Q c'):cD.L2 Q c:=by
  refine cD.cM ?_
  subst e1 e2
  have hK:cD.K3 (cD.L2 Q) Q {c with v23:=true}:=by
    unfold cD.K3
    rw [ak]
    refine ⟨⟨by omega,by omega,by omega⟩, ?_⟩
    have e:IntKind.wrap .i64 (((c.l4.length:Nat):Int) - 1)=((c.l4.length - 1:Nat):Int):=by rw [wrap64 (by omega) (by omega)]; omega
    dsimp only
    rw [e]
    refine ⟨rfl,xY hx ?_⟩
    have e1:IntKind.wrap .i64 ((IntKind.wrap .i64 (c.jj+6)) - 1)=c.jj+5:=by rw [wrap64 (n:=c.jj+6) (by omega) (by omega),wrap64 (by omega) (by omega)]; omega
    have e2:IntKind.wrap .i64 (Int.tdiv (c.jj+5) 6)=mH c.jj:=by
      rw [Int.tdiv_eq_ediv_of_nonneg (by omega),wrap64 (by omega) (by omega)]; rfl
    have hu:0≤mH c.jj∧mH c.jj≤40:=by unfold mH; omega
    have e3:sub c.l4 0 (c.l4.length:Int)=c.l4:=by simp [sub]
    rw [e1,e2,wrap64 (n:=x+mH c.jj) (by omega) (by omega),e3]
    exact ⟨ct (by simp; omega),H _ rfl rfl⟩
  unfold cD.B2
  by_cases h:c.jj>1
  · rw [decide_eq_true h,ak]; exact hK
  · rw [decide_eq_false h, aa]
    have:c.l4.length=2:=by omega
    rw [show ((c.l4.length:Int)==2)=true by rw [this]; rfl]
    exact hK
theorem vo {c:cD.V} {Q:cD.QT} {l:List Int} {m:Int} (e1:c.l4=l) (e2:c.jj=m) (hm:m≤1) (hl:l.length ≠ 2) (H:Q ⟨l⟩ 0):cD.L2 Q c:=by
  refine cD.cM ?_
  subst e1 e2
  unfold cD.B2
  rw [decide_eq_false (by omega),aa]
  unfold cD.K3
  dsimp only
  rw [show ((c.l4.length:Int)==2)=false by rw [beq_eq_false_iff_ne]; omega,aa]
  exact H
theorem nT {n:Int} {Q:cD.QT} (hn:1≤n∧n≤216) (H:Q ⟨newB n⟩ 0):cD n Q:=by
  unfold cD
  rw [decide_eq_false (by omega),aa]
  unfold cD.K1
  dsimp only
  rw [decide_eq_false (by omega),aa]
  have b1:1≤mH n∧mH n≤36:=by unfold mH; omega
  refine Ck (l:=[0,n]) (m:=n) rfl rfl (by simp) hn (x:=n) rfl (by omega) (.inr rfl) fun c1 e1 e2=> ?_
  unfold newB at H
  dsimp only at H
  by_cases h1:mH n>1
  · rw [if_pos h1] at H
    have b2:1≤mH (mH n)∧mH (mH n)≤6:=by unfold mH at b1 ⊢; omega
    refine Ck e1 e2 (by simp) (by omega) (x:=n+mH n) rfl (by omega) (.inl h1) fun c2 e3 e4=> ?_
    by_cases h2:mH (mH n)>1
    · rw [if_pos h2] at H
      have b3:mH (mH (mH n))≤1:=by unfold mH at b2 ⊢; omega
      refine Ck e3 e4 (by simp) (by omega) (x:=n+mH n+mH (mH n)) rfl (by omega) (.inl h2) fun c3 e5 e6=> ?_
      exact vo e5 e6 b3 (by simp) H
    · rw [if_neg h2] at H
      exact vo e3 e4 (by omega) (by simp) H
  · rw [if_neg h1] at H
    exact vo e1 e2 (by omega) (by simp) H
structure WfB (b:List Int):Prop where
  len:3≤b.length∧b.length≤10
  Fz: ∀ x ∈ b,0≤x∧x≤1000
def lvS:List Int→Int→Int→Int
  | [],_,_=> -1
  | x::r,k,item=>if item<x then k else lvS r (k+1) item
def levelS (b:List Int) (item:Int):Int:=if item<0 then -1 else lvS b.tail 0 item
theorem yg: ∀ (r:List Int) (k item:Int),0≤k→lvS r k item= -1∨(k≤lvS r k item∧lvS r k item<k+r.length)
  | [],k,item,_=> .inl rfl
  | x :: r, k, item, hk => by
    simp only [lvS,List.length_cons]
    split
    · exact .inr ⟨Int.le_refl _,by omega⟩
    · rcases yg r (k + 1) item (by omega) with h | h
      · exact .inl h
      · exact .inr ⟨by omega,by omega⟩
theorem p9 (b:List Int) (item:Int) (hb:1≤b.length):levelS b item= -1∨(0≤levelS b item∧levelS b item+1<b.length∧0≤item):=by
  unfold levelS
  split
  · exact .inl rfl
  · have := yg b.tail 0 item (by omega)
    simp only [List.length_tail] at this
    rcases this with h | h
    · exact .inl h
    · exact .inr ⟨by omega,by omega,by omega⟩
theorem Ax {b:List Int} {Q:Int→Prop} (hb:WfB b) (H:Q ((b.length - 1:Nat):Int)):gM ⟨b⟩ Q:=by
  unfold gM
  have:=hb.len
  have e:IntKind.wrap .i64 ((b.length:Int) - 1)=((b.length - 1:Nat):Int):=by rw [wrap64 (by omega) (by omega)]; omega
  dsimp only
  rw [e,if_neg (by omega)]
  exact H
theorem nH {b:List Int} {item:Int} {Q:Int→Prop} (hb:WfB b) (H:Q (levelS b item)):b9 ⟨b⟩ item Q:=by
  unfold b9
  have hl:=hb.len
  unfold levelS at H
  rw [Cj]
  constructor
  · intro h; rw [if_pos (by simpa using h)] at H; exact H
  intro h
  rw [if_neg (by simpa using h)] at H
  refine Ax hb ?_
  refine uK (b.length - 1) (fun i=> {b9.v0 with bA:=item,s2:=⟨b⟩,v9:=((b.length - 1:Nat):Int),v10:=(i:Int)}) (fun i=>Q (lvS (b.tail.drop i) i item)) ?_ ?_ 0 (Nat.zero_le _) (by simpa using H)
  · intro i S hi hP hS
    unfold b9.B1
    dsimp only
    rw [dlt hi,ak,cW (by omega)]
    refine cK (by omega) ?_
    have e:b.tail.drop i=b[i+1]'(by omega)::b.tail.drop (i+1):=by
      rw [List.drop_eq_getElem_cons (by simp; omega)]
      simp
    rw [e] at hP
    simp only [lvS] at hP
    rw [Cj]
    constructor
    · intro h1; rw [if_pos (by simpa using h1)] at hP; exact hP
    · intro h1
      rw [if_neg (by simpa using h1)] at hP
      refine hS ?_
      have:(((i+1:Nat)):Int)=(i:Int)+1:=by omega
      rw [this]; exact hP
  · intro S hP
    unfold b9.B1
    dsimp only
    rw [dge (Nat.le_refl _),aa]
    have:b.tail.drop (b.length - 1)=[]:=List.drop_eq_nil_of_le (by simp)
    rw [this] at hP
    exact hP
def itemsS (b:List Int):Int:=b.getD (b.length - 1) 0
def pagesS (b:List Int):Int:=b.getD 1 0
theorem oC {b:List Int} (hb:WfB b) (i:Nat):0≤b.getD i 0∧b.getD i 0≤1000:=by
  rw [List.getD_eq_getElem?_getD]
  cases h:b[i]? with
  | none=>simp
  | some x=>exact hb.Fz x (List.mem_of_getElem? h)
theorem gG {l:List Int} {i:Int} {K:Int→Prop} (j:Nat) (hj:i=(j:Int)) (h:j<l.length) (H:K (l.getD j 0)):ixP l i K:=
  gB j hj h (by rw [List.getD_eq_getElem?_getD,List.getElem?_eq_getElem h] at H; exact H)
theorem Cm {b:List Int} {Q:Int→Prop} (hb:WfB b) (H:Q (itemsS b)):iA ⟨b⟩ Q:=by
  unfold iA
  have hl:=hb.len
  dsimp only
  rw [show ((b.length:Int)==0)=false by rw [beq_eq_false_iff_ne]; omega,aa]
  exact gG (b.length - 1) (by rw [wrap64 (by omega) (by omega)]; omega) (by omega) H
theorem BI {b:List Int} {Q:Int→Prop} (hb:WfB b) (H:Q (pagesS b)):iB ⟨b⟩ Q:=by
  unfold iB
  have hl:=hb.len
  dsimp only
  rw [show ((b.length:Int)==0)=false by rw [beq_eq_false_iff_ne]; omega,aa]
  exact gG 1 rfl (by omega) H
theorem E5 {b:List Int} {Q:Int→Prop} (hb:WfB b) (H:Q (itemsS b - 1)):jg ⟨b⟩ Q:=by
  unfold jg
  refine Cm hb ?_
  have:0≤itemsS b∧itemsS b≤1000:=oC hb _
  rw [wrap64 (by omega) (by omega)]
  exact H
theorem WX {x:Int} (h: -1000≤x∧x≤1000): -1000≤Int.tdiv x 6∧Int.tdiv x 6≤1000:=by
  by_cases h0:0≤x
  · rw [Int.tdiv_eq_ediv_of_nonneg h0]; omega
  · have e : Int.tdiv x 6 = -(Int.tdiv (-x) 6) := by rw [Int.neg_tdiv]; omega
    rw [e,Int.tdiv_eq_ediv_of_nonneg (by omega)]; omega
def parentS (b:List Int) (item:Int):Int × Int × Bool:=
  let l:=levelS b item
  if l<0∨item=itemsS b - 1 then (0,0,false)
  else (b.getD (l.toNat+1) 0+Int.tdiv (item - b.getD l.toNat 0) 6,Int.tmod (item - b.getD l.toNat 0) 6,true)
theorem Jm: ∀ (r:List Int) (k item:Int),(∀ x ∈ r,x≤1000)→lvS r k item ≠ -1→item<1000
  | [],k,item,_,h=>absurd rfl h
  | x :: r, k, item, hr, h => by
    simp only [lvS] at h
    split at h
    · have:=hr x (by simp); omega
    · exact Jm r (k+1) item (fun y hy=>hr y (by simp [hy])) h
theorem vp {b:List Int} {item:Int} (hb:WfB b) (h: ¬ levelS b item<0):0≤item∧item<1000:=by
  have h1:=p9 b item (by have:=hb.len; omega)
  refine ⟨by omega, ?_⟩
  unfold levelS at h
  split at h
  · omega
  · exact Jm b.tail 0 item (fun x hx=>(hb.Fz x (List.mem_of_mem_tail hx)).2) (by omega)
theorem kC {b:List Int} {item:Int} {Q:aR.QT} (hb:WfB b) (H:Q (parentS b item).1 (parentS b item).2.1 (parentS b item).2.2):aR ⟨b⟩ item Q:=by
  unfold aR
  refine nH hb ?_
  have hl:=hb.len
  unfold parentS at H
  dsimp only at H
  by_cases h:levelS b item<0
  · rw [if_pos (.inl h)] at H
    rw [decide_eq_true h,ak]
    unfold aR.K1
    rw [ak]
    exact H
  · rw [decide_eq_false h, aa]
    refine E5 hb ?_
    unfold aR.K1
    dsimp only
    by_cases h2:item=itemsS b - 1
    · rw [if_pos (.inr h2)] at H
      rw [show (item==itemsS b - 1)=true by rw [beq_iff_eq]; exact h2,ak]
      exact H
    · rw [if_neg (by rintro (h3 | h3); exact h h3; exact h2 h3)] at H
      rw [show (item==itemsS b - 1)=false by rw [beq_eq_false_iff_ne]; exact h2,aa]
      have hr:=p9 b item (by omega)
      have hi:=vp hb h
      refine gG (levelS b item).toNat (by omega) (by omega) ?_
      refine gG ((levelS b item).toNat+1) (by rw [wrap64 (by omega) (by omega)]; omega) (by omega) ?_
      have g1:=oC hb (levelS b item).toNat
      have g2:=oC hb ((levelS b item).toNat+1)
      have e1:IntKind.wrap .i64 (item - b.getD (levelS b item).toNat 0)=item - b.getD (levelS b item).toNat 0:=wrap64 (by omega) (by omega)
      have t1:=WX (x:=item - b.getD (levelS b item).toNat 0) (by omega)
      rw [e1,wrap64 (n:=Int.tdiv _ _) (by omega) (by omega),wrap64 (by omega) (by omega)]
      exact H
end Go.Pt
namespace Go.Pt
open Go Go.Wc Go.Pu
variable {b:List Int}
def upS (b:List Int):Nat→Int→Bool→List Int × Bool
  | _,_,false=>([],true)
  | 0,_,true=>([],false)
  | k+1,p,true=>(p::(upS b k (parentS b p).1 (parentS b p).2.2).1,(upS b k (parentS b p).1 (parentS b p).2.2).2)
def pathS (b:List Int) (page:Int):List Int × Bool:=
  if levelS b page=0 then (page::(upS b 12 (parentS b page).1 (parentS b page).2.2).1,(upS b 12 (parentS b page).1 (parentS b page).2.2).2) else ([],true)
theorem Mn (hb:WfB b) {Q:aY.QT}: ∀ (k:Nat) (c:aY.V),c.s2=⟨b⟩→c.l5.length+k≤100→(upS b k c.p6 c.FN).2=true→Q (c.l5++(upS b k c.p6 c.FN).1)→aY.L1 Q c:=by
  intro k
  induction k with
  | zero =>
    intro c e1 hl hf H
    refine aY.bY ?_
    unfold aY.B1
    cases hok:c.FN with
    | false=>rw [aa]; rw [hok] at H; simpa [upS] using H
    | true=>rw [hok] at hf; simp [upS] at hf
  | succ k ih =>
    intro c e1 hl hf H
    refine aY.bY ?_
    unfold aY.B1
    cases hok:c.FN with
    | false=>rw [aa]; rw [hok] at H; simpa [upS] using H
    | true =>
      rw [hok] at H hf
      simp only [upS] at H hf
      rw [ak]
      refine ⟨ct (by simp; omega), ?_⟩
      rw [e1]
      refine kC hb ?_
      refine ih _ rfl (by simp; omega) hf ?_
      simpa using H
theorem EH (hb:WfB b) {page:Int} {Q:aY.QT} (hf:(pathS b page).2=true) (H:Q (pathS b page).1):aY ⟨b⟩ page Q:=by
  unfold aY
  refine nH hb ?_
  unfold pathS at hf H
  by_cases h:levelS b page=0
  · rw [if_pos h] at hf H
    rw [show (levelS b page !=0)=false by rw [h]; rfl,aa]
    refine kC hb ?_
    exact Mn hb 12 _ rfl (by simp) hf H
  · rw [if_neg h] at hf H
    rw [show (levelS b page !=0)=true by simpa using h,ak]
    exact H
def fromI (a:Int):Nat→List Int
  | 0=>[]
  | k+1=>a::fromI (a+1) k
theorem vq (a:Int): ∀ k:Nat,fromI a k++[a+k]=fromI a (k+1)
  | 0=>by simp [fromI]
  | k + 1 => by
    have:=vq (a+1) k
    simp only [fromI,List.cons_append] at this ⊢
    rw [← this]
    congr 3; omega
theorem qV (a:Int): ∀ k:Nat,(fromI a k).length=k
  | 0=>rfl
  | k+1=>by simp [fromI,qV (a+1) k]
def kidsS (b : List Int) (item : Int) : List Int :=
  let l:=levelS b item
  if l<1 then []
  else
    let f:=b.getD (l.toNat - 1) 0+6*(item - b.getD l.toNat 0)
    fromI f (Int.toNat (min (f+6) (b.getD l.toNat 0) - f))
theorem EE (hb:WfB b) {item:Int} {Q:cx.QT} (H:Q (kidsS b item)):cx ⟨b⟩ item Q:=by
  unfold cx
  refine nH hb ?_
  unfold kidsS at H
  dsimp only at H
  have hl:=hb.len
  by_cases h:levelS b item<1
  · rw [if_pos h] at H
    rw [decide_eq_true h,ak]; exact H
  rw [if_neg h] at H
  rw [decide_eq_false h,aa]
  have hr:=p9 b item (by omega)
  have hi:=vp hb (item:=item) (by omega)
  dsimp only
  refine gG ((levelS b item).toNat - 1) (by rw [wrap64 (by omega) (by omega)]; omega) (by omega) ?_
  refine gG (levelS b item).toNat (by omega) (by omega) ?_
  have g1:=oC hb ((levelS b item).toNat - 1)
  have g2:=oC hb (levelS b item).toNat
  generalize b.getD ((levelS b item).toNat - 1) 0=x at*
  generalize hy:b.getD (levelS b item).toNat 0=y at*
  rw [wrap64 (n:=item - y) (by omega) (by omega),wrap64 (n:=6*(item - y)) (by omega) (by omega),wrap64 (n:=x+6*(item - y)) (by omega) (by omega)]
  generalize hf:x+6*(item - y)=f at*
  have hfr: -6000≤f∧f≤7001:=by omega
  let n:=Int.toNat (min (f+6) y - f)
  have hn:n≤6:=by simp only [n]; omega
  refine mA n (fun i=> {cx.v0 with s2:=⟨b⟩,uv:=levelS b item,gW:=f,l7:=fromI f i,k8:=f+i}) ?_ ?_ |> fun h=>by simpa [cx.L1,fromI] using h
  · intro i S yQ hS
    unfold cx.B1
    dsimp only
    refine gG (levelS b item).toNat (by omega) (by omega) ?_
    rw [hy,wrap64 (n:=f+6) (by omega) (by omega)]
    rw [decide_eq_true (by simp only [n] at yQ; split <;> omega),ak]
    refine ⟨ct (by simp [qV]; omega), ?_⟩
    rw [vq,wrap64 (by omega) (by omega)]
    have:f+(i:Int)+1=f+((i+1:Nat):Int):=by omega
    rw [this]
    exact hS
  · intro S
    unfold cx.B1
    dsimp only
    refine gG (levelS b item).toNat (by omega) (by omega) ?_
    rw [hy,wrap64 (n:=f+6) (by omega) (by omega)]
    rw [decide_eq_false (by simp only [n]; split <;> omega),aa]
    exact H
def blockS (b:List Int) (item place:Int):Int:=if levelS b item<0∨place<0∨place>1 then -1 else 2+2*item+place
theorem Bj (hb:WfB b) {item place:Int} {Q:aS.QT} (H:Q (blockS b item place)):aS ⟨b⟩ item place Q:=by
  unfold aS
  refine nH hb ?_
  unfold blockS at H
  unfold aS.K1
  dsimp only
  by_cases h:levelS b item<0
  · rw [if_pos (.inl h)] at H
    rw [decide_eq_true h,ak,ak]; exact H
  rw [decide_eq_false h,aa]
  by_cases h2:place<0
  · rw [if_pos (.inr (.inl h2))] at H
    rw [decide_eq_true h2,ak,ak]; exact H
  rw [decide_eq_false h2,aa]
  by_cases h3:place>1
  · rw [if_pos (.inr (.inr h3))] at H
    rw [decide_eq_true h3,ak]; exact H
  rw [if_neg (by omega)] at H
  rw [decide_eq_false h3,aa]
  have hi:=vp hb h
  rw [wrap64 (n:=2*item) (by omega) (by omega),wrap64 (n:=2+2*item) (by omega) (by omega),wrap64 (by omega) (by omega)]
  exact H
end Go.Pt
namespace Go.Pt
open Go Go.Wc Go.Pu
abbrev HS:=aL
structure WfH (h:HS):Prop where
  len:h.Level.length=h.fM.length
  small:h.Level.length≤400
  lev: ∀ x ∈ h.Level,0≤x∧x≤10
  fst: ∀ x ∈ h.fM, -1≤x∧x≤400
def hasS (h:HS) (item:Int):Bool:=decide (0≤item) && decide (item<(h.Level.length:Int))
theorem zP {h:HS} {item:Int} {Q:Bool→Prop} (H:Q (hasS h item)):eT h item Q:=by
  unfold eT
  unfold hasS at H
  rw [Cj]
  constructor
  · intro h1; rw [decide_eq_true (show 0≤item by simpa using h1),Bool.true_and] at H; exact H
  · intro h1; rw [decide_eq_false (show ¬ 0≤item by simpa using h1),Bool.false_and] at H; exact H
def kgo (h:HS) (item:Int):Nat→List Int→Int→List Int
  | 0,out,_=>out
  | f+1,out,k=>if out.length<6∧k<item∧h.Level.getD k.toNat 0=h.Level.getD item.toNat 0 - 1 then kgo h item f (out++[k]) (k+1) else out
def kidsR (h:HS) (item:Int):List Int:=if hasS h item=false∨h.fM.getD item.toNat 0<0 then [] else kgo h item 7 [] (h.fM.getD item.toNat 0)
theorem Jj {h:HS} (hw:WfH h) {item:Int} (hi:0≤item∧item<h.Level.length) {Q:aH.QT}: ∀ (f:Nat) (c:aH.V),c.s2=h→c.bA=item→0≤c.k6→c.eD.length+f=7→c.eD.length≤6→Q (kgo h item f c.eD c.k6)→aH.L2 Q c:=by
  intro f
  induction f with
  | zero=>intro c e1 e2 hk hf hl H; omega
  | succ f ih =>
    intro c e1 e2 hk hf hl H
    refine aH.cM ?_
    unfold aH.B2 aH.K3
    dsimp only
    have hs:=hw.small
    by_cases h1:c.eD.length<6
    case neg=>
      rw [decide_eq_false (by omega),aa,aa]
      simp only [kgo] at H
      rw [if_neg (fun h=>h1 h.1)] at H; exact H
    rw [decide_eq_true (by omega),ak,e2]
    by_cases h2:c.k6<item
    case neg=>
      rw [decide_eq_false h2,aa,aa]
      simp only [kgo] at H
      rw [if_neg (fun h=>h2 h.2.1)] at H; exact H
    rw [decide_eq_true h2,ak,e1]
    refine gG c.k6.toNat (by omega) (by omega) (gG item.toNat (by omega) (by omega) ?_)
    have hlv:0≤h.Level.getD item.toNat 0∧h.Level.getD item.toNat 0≤10:=by
      rw [List.getD_eq_getElem?_getD,List.getElem?_eq_getElem (by omega)]
      exact hw.lev _ (List.getElem_mem _)
    rw [wrap64 (by omega) (by omega)]
    simp only [kgo] at H
    by_cases h3:h.Level.getD c.k6.toNat 0=h.Level.getD item.toNat 0 - 1
    · rw [if_pos ⟨h1, h2, h3⟩] at H
      rw [show (h.Level.getD c.k6.toNat 0==h.Level.getD item.toNat 0 - 1)=true by rw [beq_iff_eq]; exact h3,ak]
      refine ⟨ct (by simp; omega), ?_⟩
      rw [wrap64 (by omega) (by omega)]
      exact ih _ rfl rfl (by dsimp only; omega) (by simp; omega) (by simp; omega) H
    · rw [if_neg (fun h => h3 h.2.2)] at H
      rw [show (h.Level.getD c.k6.toNat 0==h.Level.getD item.toNat 0 - 1)=false by rw [beq_eq_false_iff_ne]; exact h3,aa]
      exact H
theorem pO {h:HS} (hw:WfH h) {item:Int} {Q:aH.QT} (H:Q (kidsR h item)):aH h item Q:=by
  unfold aH aH.K1
  refine zP ?_
  unfold kidsR at H
  cases hh:hasS h item with
  | false =>
    rw [if_pos (.inl hh)] at H
    rw [Bool.not_false,ak,ak]; exact H
  | true =>
    have hi:0≤item∧item<h.Level.length:=by unfold hasS at hh; simpa using hh
    have hl:=hw.len
    rw [Bool.not_true,aa]
    refine gG item.toNat (by omega) (by omega) ?_
    dsimp only
    by_cases h2:h.fM.getD item.toNat 0<0
    · rw [if_pos (.inr h2)] at H
      rw [decide_eq_true h2,ak]; exact H
    · rw [if_neg (by rintro (h | h); rw [hh] at h; cases h; exact h2 h)] at H
      rw [decide_eq_false h2,aa]
      refine gG item.toNat (by omega) (by omega) ?_
      exact Jj hw hi 7 _ rfl rfl (by dsimp only; omega) rfl (by simp) H
theorem DJ (h:HS) (item:Int): ∀ (f:Nat) (out:List Int) (k:Int),(kgo h item f out k).length≤out.length+f
  | 0,out,k=>by simp [kgo]
  | f + 1, out, k => by
    simp only [kgo]
    split
    · have:=DJ h item f (out++[k]) (k+1); simp at this; omega
    · omega
theorem E4 (h:HS) (item:Int):(kidsR h item).length≤7:=by
  unfold kidsR
  split
  · simp
  · have:=DJ h item 7 [] (h.fM.getD item.toNat 0); simpa using this
def pgo (h : HS) (item : Int) : Nat → Int → Int × Int × Bool
  | 0,_=>(0,0,false)
  | f + 1, p => match (kidsR h p).findIdx? (· == item) with
    | some i=>(p,i,true)
    | none=>pgo h item f (p+1)
def parentR (h:HS) (item:Int):Int × Int × Bool:=pgo h item h.Level.length 0
theorem yh {l:List Int} {x:Int} {i:Nat} (hi:i<l.length) (h: ∀ j,j<i→l[j]? ≠ some x):(l.findIdx? (· ==x))=if l[i]==x then some i else l.findIdx? (· ==x):=by
  split
  · rename_i h1
    rw [List.findIdx?_eq_some_iff_getElem]
    refine ⟨hi,h1,fun j hj=> ?_⟩
    have:=h j hj
    rw [List.getElem?_eq_getElem (by omega)] at this
    simpa using this
  · rfl
theorem Jk {h : HS} (hw : WfH h) {item : Int} {Q : aB.QT} : ∀ (f : Nat) (c : aB.V), c.s2 = h → c.bA = item → 0 ≤ c.p7 → c.p7 + f = h.Level.length → Q (pgo h item f c.p7).1 (pgo h item f c.p7).2.1 (pgo h item f c.p7).2.2 → aB.L1 Q c := by
  intro f
  induction f with
  | zero =>
    intro c e1 e2 hp hf H
    refine aB.bY ?_
    unfold aB.B1
    rw [e1,decide_eq_false (by omega),aa]
    exact H
  | succ f ih =>
    intro c e1 e2 hp hf H
    refine aB.bY ?_
    unfold aB.B1
    have hs:=hw.small
    subst e1 e2
    rw [decide_eq_true (by omega),ak]
    refine pO hw ?_
    have hl:=E4 c.s2 c.p7
    simp only [pgo] at H
    have:=uK (B:=fun S=>aB.B2 (aB.L1 Q) S Q) (kidsR c.s2 c.p7).length (fun i=> {c with l8:=kidsR c.s2 c.p7,i9:=(i:Int)}) (fun i=> ∀ j,j<i→(kidsR c.s2 c.p7)[j]? ≠ some c.bA) ?_ ?_ 0 (Nat.zero_le _) (by intro j hj; omega)
    · exact this
    · intro i S hi hP hS
      unfold aB.B2
      dsimp only
      rw [dlt hi,ak]
      refine cK hi ?_
      by_cases hx:(kidsR c.s2 c.p7)[i]=c.bA
      · rw [show ((kidsR c.s2 c.p7)[i] == c.bA) = true by rw [beq_iff_eq]; exact hx, ak]
        have e:=yh hi hP
        rw [if_pos (by rw [beq_iff_eq]; exact hx)] at e
        rw [e] at H
        exact H
      · rw [show ((kidsR c.s2 c.p7)[i] == c.bA) = false by rw [beq_eq_false_iff_ne]; exact hx, aa, cW (by omega)]
        refine hS fun j hj=> ?_
        rcases Nat.lt_or_ge j i with h5 | h5
        · exact hP j h5
        · obtain rfl : j = i := by omega
          rw [List.getElem?_eq_getElem hi]; simpa using hx
    · intro S hP
      unfold aB.B2
      dsimp only
      rw [dge (Nat.le_refl _),aa]
      have e:(kidsR c.s2 c.p7).findIdx? (· ==c.bA)=none:=by
        rw [List.findIdx?_eq_none_iff]
        intro x hx
        obtain ⟨j,hj,rfl⟩:=List.mem_iff_getElem.1 hx
        have:=hP j hj
        rw [List.getElem?_eq_getElem hj] at this
        simpa using this
      rw [e] at H
      rw [wrap64 (by omega) (by omega)]
      exact ih _ rfl rfl (by dsimp only; omega) (by dsimp only; omega) H
theorem qH {h:HS} (hw:WfH h) {item:Int} {Q:aB.QT} (H:Q (parentR h item).1 (parentR h item).2.1 (parentR h item).2.2):aB h item Q:=by
  unfold aB
  exact Jk hw h.Level.length _ rfl rfl (by dsimp only; omega) (by dsimp only; omega) H
def ugo (h:HS):Nat→List Int→List Int
  | 0,out=>out
  | f+1,out=>if (parentR h (out.getLastD 0)).2.2 then ugo h f (out++[(parentR h (out.getLastD 0)).1]) else out
def pathR (h:HS) (page:Int):List Int:=if page<0∨page≥h.P then [] else ugo h 10 [page]
theorem Jl {h:HS} (hw:WfH h) {Q:aM.QT}: ∀ (f:Nat) (c:aM.V),c.s2=h→c.n6+f=10→0≤c.n6→c.eD ≠ []→c.eD.length+f≤30→Q (ugo h f c.eD)→aM.L2 Q c:=by
  intro f
  induction f with
  | zero =>
    intro c e1 hf h0 hne hl H
    refine aM.cM ?_
    unfold aM.B2
    rw [decide_eq_false (by omega),aa]
    exact H
  | succ f ih =>
    intro c e1 hf h0 hne hl H
    refine aM.cM ?_
    unfold aM.B2
    rw [decide_eq_true (by omega),ak]
    have hpos:0<c.eD.length:=List.length_pos_iff.2 hne
    refine gG (c.eD.length - 1) (by rw [wrap64 (by omega) (by omega)]; omega) (by omega) ?_
    have e:c.eD.getD (c.eD.length - 1) 0=c.eD.getLastD 0:=by
      rw [List.getD_eq_getElem?_getD,← List.getLast?_eq_getElem?,List.getLastD_eq_getLast?]
    rw [e,e1]
    refine qH hw ?_
    simp only [ugo] at H
    cases hp:(parentR h (c.eD.getLastD 0)).2.2 with
    | false=>rw [hp,if_neg (by simp)] at H; rw [Bool.not_false,ak]; exact H
    | true =>
      rw [hp,if_pos rfl] at H
      rw [Bool.not_true,aa,wrap64 (by omega) (by omega)]
      refine ⟨ct (by simp; omega), ?_⟩
      exact ih _ rfl (by dsimp only; omega) (by dsimp only; omega) (by simp) (by simp; omega) H
theorem BJ {h:HS} (hw:WfH h) {page:Int} {Q:aM.QT} (H:Q (pathR h page)):aM h page Q:=by
  unfold aM aM.K1
  unfold pathR at H
  dsimp only
  by_cases h1:page<0
  · rw [if_pos (.inl h1)] at H
    rw [decide_eq_true h1,ak,ak]; exact H
  rw [decide_eq_false h1,aa]
  by_cases h2:page≥h.P
  · rw [if_pos (.inr h2)] at H
    rw [decide_eq_true h2,ak]; exact H
  rw [if_neg (by omega)] at H
  rw [decide_eq_false h2,aa]
  exact Jl hw 10 _ rfl rfl (by simp) (by simp) (by simp) H
end Go.Pt
namespace Go.Pt
open Go Go.Wc Go.Pu
def firsts (from_:Int) (k:Nat):List Int:=(List.range k).map fun i:Nat=>from_+6*(i:Int)
def lvR (P : Int) : Nat → Int → Int → Int → List Int → List Int → Option HS
  | 0,_,_,_,_,_=>none
  | f + 1, level, from_, many, L, F =>
    if level=1∨many>1 then lvR P f (level+1) (from_+many) (mH many) (L++List.replicate (mH many).toNat level) (F++firsts from_ (mH many).toNat)
    else some ⟨P,L,F⟩
def newR (n:Int):Option HS:=lvR n 6 1 0 n (List.replicate n.toNat 0) (List.replicate n.toNat (-1))
theorem Av (a:Int) (k:Nat):firsts a k++[a+6*(k:Int)]=firsts a (k+1):=by
  simp [firsts,List.range_succ]
theorem Jh {Q : aQ.QT} : ∀ (f : Nat) (c : aQ.V) (h : HS), 1 ≤ c.gJ ∧ c.gJ ≤ 216 → 0 ≤ c.gW ∧ c.gW + 216 * (f : Int) ≤ 100000 → 1 ≤ c.fI ∧ c.fI + (f : Int) ≤ 1000 → c.s4.Level.length + 216 * f ≤ 100000 → c.s4.fM.length + 216 * f ≤ 100000 →
    lvR c.s4.P f c.fI c.gW c.gJ c.s4.Level c.s4.fM=some h→Q h 0→aQ.L3 Q c:=by
  intro f
  induction f with
  | zero=>intro c h _ _ _ _ _ e _; simp [lvR] at e
  | succ f ih =>
    intro c h hm hf hl hL hF e H
    refine aQ.ff ?_
    simp only [lvR] at e
    have go:(c.fI=1∨c.gJ>1)→aQ.K4 (aQ.L3 Q) Q {c with NW:=true}:=by
      intro hgo
      rw [if_pos hgo] at e
      unfold aQ.K4
      rw [ak]
      have hu:1≤mH c.gJ∧mH c.gJ≤36∧6*(mH c.gJ - 1)<c.gJ∧c.gJ≤6*mH c.gJ:=by unfold mH; omega
      have:=mA (B:=fun S=>aQ.B5 (aQ.L3 Q) S Q) (mH c.gJ).toNat
        (fun i=> {c with NW:=true,s4:=⟨c.s4.P,c.s4.Level++List.replicate i c.fI,c.s4.fM++firsts c.gW i⟩,n9:=(i:Int),Fw:=6*(i:Int)}) ?_ ?_
      · have e0 : (⟨c.s4.P, c.s4.Level ++ List.replicate 0 c.fI, c.s4.fM ++ firsts c.gW 0⟩ : HS) = c.s4 := by simp [firsts]
        rw [e0] at this
        exact this
      · intro i S hi hS
        unfold aQ.B5
        dsimp only
        rw [decide_eq_true (by omega),ak]
        refine ⟨ct (by simp; omega),ct (by simp [firsts]; omega), ?_⟩
        rw [wrap64 (n:=c.gW+6*(i:Int)) (by omega) (by omega),wrap64 (n:=6*(i:Int)+6) (by omega) (by omega),cW (by omega),List.append_assoc,List.append_assoc,Av]
        have e1:List.replicate i c.fI++[c.fI]=List.replicate (i+1) c.fI:=by rw [List.replicate_succ']
        have e2:6*(i:Int)+6=6*((i+1:Nat):Int):=by omega
        rw [e1,e2]
        exact hS
      · intro S
        unfold aQ.B5
        dsimp only
        rw [decide_eq_false (by omega),aa,wrap64 (n:=c.gW+c.gJ) (by omega) (by omega),wrap64 (n:=c.fI+1) (by omega) (by omega)]
        refine ih _ h (by dsimp only; omega) (by dsimp only; omega) (by dsimp only; omega) (by simp; omega) (by simp [firsts]; omega) ?_ H
        dsimp only
        rw [show (((mH c.gJ).toNat:Nat):Int)=mH c.gJ by omega]
        exact e
    unfold aQ.B3
    by_cases h1:c.fI=1
    · rw [show (c.fI == 1) = true by rw [beq_iff_eq]; exact h1, ak]
      exact go (.inl h1)
    · rw [show (c.fI == 1) = false by rw [beq_eq_false_iff_ne]; exact h1, aa]
      by_cases h2:c.gJ>1
      · rw [decide_eq_true h2]; exact go (.inr h2)
      · rw [decide_eq_false h2]
        unfold aQ.K4
        rw [aa]
        rw [if_neg (by omega)] at e
        cases e
        exact H
theorem Ej {n:Int} {h:HS} {Q:aQ.QT} (hn:1≤n∧n≤216) (e:newR n=some h) (H:Q h 0):aQ n Q:=by
  unfold aQ aQ.K1
  dsimp only
  rw [decide_eq_false (by omega),aa,decide_eq_false (by omega),aa]
  have:=mA (B:=fun S=>aQ.B2 S Q) n.toNat (fun i=> {aQ.v0 with fm:=n,v2:=⟨0,[],[]⟩,ej:=false,s4:=⟨n,List.replicate i 0,List.replicate i (-1)⟩,i5:=(i:Int)}) ?_ ?_
  · exact this
  · intro i S hi hS
    unfold aQ.B2
    dsimp only
    rw [decide_eq_true (by omega),ak]
    refine ⟨ct (by simp; omega),ct (by simp; omega), ?_⟩
    rw [cW (by omega),← List.replicate_succ',← List.replicate_succ']
    exact hS
  · intro S
    unfold aQ.B2
    dsimp only
    rw [decide_eq_false (by omega),aa]
    refine Jh 6 _ h (by dsimp only; omega) (by dsimp only; omega) (by dsimp only; omega) (by simp; omega) (by simp; omega) ?_ H
    exact e
def hOf (n:Int):HS:=(newR n).getD ⟨0,[],[]⟩
def okN (n : Int) : Bool :=
  let b:=newB n
  let h:=hOf n
  (newR n).isSome && decide (3≤b.length) && decide (b.length≤10) && b.all (fun x=>decide (0≤x) && decide (x≤1000) && decide (x≤itemsS b)) &&
  decide (h.Level.length=h.fM.length) && decide (h.Level.length≤400) && h.Level.all (fun x=>decide (0≤x) && decide (x≤10)) && h.fM.all (fun x=>decide (-1≤x) && decide (x≤400)) &&
  decide (h.P=n) && decide (pagesS b=n) && decide (itemsS b=h.Level.length) &&
  (List.range h.Level.length).all (fun i=>
    decide (kidsS b i=kidsR h i) && decide (parentS b i=parentR h i) && (pathS b i).2 && decide ((pathS b i).1=pathR h i) &&
    ((pathR h i).tail.all fun x=>decide (n≤x) && decide (x<(h.Level.length:Int))))
theorem Ml:((List.range 14).all fun n=>okN ((n:Int)+1))=true:=by decide+kernel
structure NOk (n:Int):Prop where
  Fz:1≤n∧n≤14
  new:newR n=some (hOf n)
  wb:WfB (newB n)
  top: ∀ x ∈ newB n,x≤itemsS (newB n)
  wh:WfH (hOf n)
  P:(hOf n).P=n
  Db:pagesS (newB n)=n
  items:itemsS (newB n)=(hOf n).Level.length
  NH: ∀ i:Nat,i<(hOf n).Level.length→kidsS (newB n) i=kidsR (hOf n) i
  Vx: ∀ i:Nat,i<(hOf n).Level.length→parentS (newB n) i=parentR (hOf n) i
  WW: ∀ i:Nat,i<(hOf n).Level.length→(pathS (newB n) i).2=true
  NI: ∀ i:Nat,i<(hOf n).Level.length→(pathS (newB n) i).1=pathR (hOf n) i
  up0: ∀ i:Nat,i<(hOf n).Level.length→ ∀ x ∈ (pathR (hOf n) i).tail,n≤x∧x<((hOf n).Level.length:Int)
theorem nok {n:Int} (hn:1≤n∧n≤14):NOk n:=by
  have h:=List.all_eq_true.1 Ml (n - 1).toNat (List.mem_range.2 (by omega))
  rw [show (((n - 1).toNat:Nat):Int)+1=n by omega] at h
  unfold okN at h
  dsimp only at h
  simp only [Bool.and_eq_true,decide_eq_true_eq,List.all_eq_true,List.mem_range] at h
  obtain ⟨⟨⟨⟨⟨⟨⟨⟨⟨⟨⟨h1,h2⟩,h3⟩,h4⟩,h5⟩,h6⟩,h7⟩,h8⟩,h9⟩,tv⟩,PY⟩,A0⟩:=h
  have hs:newR n=some (hOf n):=by
    unfold hOf
    cases e:newR n with
    | none=>rw [e] at h1; cases h1
    | some x=>rfl
  exact { Fz := hn, new := hs, wb := ⟨⟨h2, h3⟩, fun x hx => (h4 x hx).1⟩, top := fun x hx => (h4 x hx).2, wh := ⟨h5, h6, h7, h8⟩, P := h9, Db := tv, items := PY,
          NH:=fun i hi=>(A0 i hi).1.1.1.1,Vx:=fun i hi=>(A0 i hi).1.1.1.2,WW:=fun i hi=>(A0 i hi).1.1.2,NI:=fun i hi=>(A0 i hi).1.2,up0:=fun i hi x hx=>(A0 i hi).2 x hx}
theorem Ji: ∀ (r:List Int) (k item:Int),(∀ x ∈ r,x≤item)→lvS r k item= -1
  | [],_,_,_=>rfl
  | x :: r, k, item, h => by
    simp only [lvS]
    rw [if_neg (by have:=h x (by simp); omega)]
    exact Ji r (k+1) item fun y hy=>h y (by simp [hy])
variable {n:Int}
theorem NOk.out (N:NOk n) {item:Int} (h: ¬ (0≤item∧item<((hOf n).Level.length:Int))):levelS (newB n) item= -1:=by
  unfold levelS
  split
  · rfl
  · exact Ji _ _ _ fun x hx=>by
      have h1:=N.top x (List.mem_of_mem_tail hx)
      have h2:=N.items
      omega
theorem NOk.kids (N:NOk n) (item:Int):kidsS (newB n) item=kidsR (hOf n) item:=by
  by_cases h:0≤item∧item<((hOf n).Level.length:Int)
  · have := N.NH item.toNat (by omega)
    rwa [show ((item.toNat:Nat):Int)=item by omega] at this
  · unfold kidsS kidsR
    dsimp only
    rw [N.out h,if_pos (by omega),if_pos (.inl (by unfold hasS; rw [Bool.and_eq_false_iff]; simp; omega))]
theorem NOk.QF (N : NOk n) (p : Int) : levelS (newB n) p = 0 ↔ (0 ≤ p ∧ p < n) := by
  have hl:=N.wb.len
  have hp:=N.Db
  unfold levelS
  match e:newB n,hl with
  | a :: x :: r, hl =>
    rw [e] at hp
    have hx:x=n:=hp
    subst hx
    simp only [List.tail_cons,lvS]
    by_cases h0:p<0
    · rw [if_pos h0]; omega
    · rw [if_neg h0]
      by_cases h1:p<x
      · rw [if_pos h1]; omega
      · rw [if_neg h1]
        have:=yg r 1 p (by omega)
        simp only [Int.zero_add]
        omega
theorem NOk.pos (N:NOk n):n≤((hOf n).Level.length:Int):=by
  have h1:=N.items
  have h2:pagesS (newB n) ∈ newB n:=by
    have hl:=N.wb.len
    unfold pagesS
    rw [List.getD_eq_getElem?_getD,List.getElem?_eq_getElem (by omega)]
    exact List.getElem_mem _
  have h3:=N.top _ h2
  have h4:=N.Db
  omega
theorem NOk.path (N:NOk n) (p:Int):pathS (newB n) p=(pathR (hOf n) p,true):=by
  have hq:=N.pos
  by_cases h:0≤p∧p<n
  · have h1 := N.WW p.toNat (by omega)
    have h2:=N.NI p.toNat (by omega)
    rw [show ((p.toNat:Nat):Int)=p by omega] at h1 h2
    exact Prod.ext h2 h1
  · unfold pathS pathR
    rw [if_neg (fun e=>h ((N.QF p).1 e)),if_pos (by rw [N.P]; omega)]
theorem NOk.up (N:NOk n) (p:Int): ∀ x ∈ (pathR (hOf n) p).tail,n≤x∧x<((hOf n).Level.length:Int):=by
  have hq:=N.pos
  by_cases h:0≤p∧p<n
  · have h1 := N.up0 p.toNat (by omega)
    rw [show ((p.toNat:Nat):Int)=p by omega] at h1
    exact h1
  · unfold pathR
    rw [if_pos (by rw [N.P]; omega)]
    intro x hx; cases hx
theorem Aw (h:HS): ∀ (f:Nat) (out:List Int),out ≠ []→(ugo h f out).head? =out.head?
  | 0,out,_=>rfl
  | f + 1, out, hne => by
    simp only [ugo]
    split
    · rw [Aw h f _ (by simp)]
      cases out with
      | nil=>exact absurd rfl hne
      | cons a r=>rfl
    · rfl
theorem Ci (h:HS) (p:Int):pathR h p=[]∨ ∃ t,pathR h p=p::t:=by
  unfold pathR
  split
  · exact .inl rfl
  · have := Aw h 10 [p] (by simp)
    cases e:ugo h 10 [p] with
    | nil=>exact .inl rfl
    | cons a r=>rw [e] at this; simp at this; subst this; exact .inr ⟨r,rfl⟩
theorem NOk.zO (N : NOk n) (p item : Int) (hi : n ≤ item) : item ∈ pathR (hOf n) p ↔ item ∈ (pathR (hOf n) p).tail := by
  by_cases h:0≤p∧p<n
  · rcases Ci (hOf n) p with e | ⟨t, e⟩
    · rw [e]; simp
    · rw [e]
      simp only [List.mem_cons,List.tail_cons]
      constructor
      · rintro (rfl | h1)
        · omega
        · exact h1
      · exact .inr
  · have : pathR (hOf n) p = [] := by unfold pathR; rw [if_pos (by rw [N.P]; omega)]
    rw [this]; simp
end Go.Pt
namespace Go.Pt
open Go Go.Wc Go.Pu
def zM (h:HS) (L:List (Int × Bool)) (p:Int):List (Int × Bool):=(pathR h p).tail.foldl (fun L x=>Pu.upd L x true) L
def metS (h:HS) (ps:List Int):List (Int × Bool):=ps.foldl (zM h) []
def needS (h:HS) (ps:List Int):List Int:=((List.range (h.Level.length - h.P.toNat)).map fun i:Nat=>h.P+(i:Int)).filter fun it=>ps.any fun p=>decide (it ∈ pathR h p)
theorem EF (xs : List Int) : ∀ (L : List (Int × Bool)), (L.map (·.1)).Nodup → ((xs.foldl (fun L x => Pu.upd L x true) L).map (·.1)).Nodup ∧ ∀ k, k ∈ (xs.foldl (fun L x => Pu.upd L x true) L).map (·.1) ↔ k ∈ L.map (·.1) ∨ k ∈ xs := by
  induction xs with
  | nil=>intro L h; exact ⟨h,fun k=>by simp⟩
  | cons x xs ih =>
    intro L h
    have h2:=ih (Pu.upd L x true) (EG h x true)
    refine ⟨h2.1,fun k=> ?_⟩
    rw [List.foldl_cons,h2.2 k,Pu.zN]
    split
    · rename_i hm
      constructor
      · rintro (h3 | h3)
        · exact .inl h3
        · exact .inr (by simp [h3])
      · rintro (h3 | h3)
        · exact .inl h3
        · rcases List.mem_cons.1 h3 with rfl | h3
          · exact .inl hm
          · exact .inr h3
    · simp only [List.mem_append, List.mem_cons, List.not_mem_nil, or_false]
      exact or_assoc
theorem HZ (h:HS) (ps:List Int): ∀ (L:List (Int × Bool)),(L.map (·.1)).Nodup→((ps.foldl (zM h) L).map (·.1)).Nodup∧ ∀ k,k ∈ (ps.foldl (zM h) L).map (·.1)↔k ∈ L.map (·.1)∨ ∃ p ∈ ps,k ∈ (pathR h p).tail:=by
  induction ps with
  | nil=>intro L h; exact ⟨h,fun k=>by simp⟩
  | cons p ps ih =>
    intro L hn
    have h1:=EF (pathR h p).tail L hn
    have h2:=ih (zM h L p) h1.1
    refine ⟨h2.1,fun k=> ?_⟩
    rw [List.foldl_cons,h2.2 k]
    unfold zM
    rw [h1.2 k]
    simp only [List.mem_cons,exists_eq_or_imp]
    exact or_assoc
variable {n:Int}
theorem wO {h:HS} {ps:List Int} {x:Int} (hx:x ∈ needS h ps):h.P≤x∧(0≤h.P→x<(h.Level.length:Int)):=by
  unfold needS at hx
  obtain ⟨h1,_⟩:=List.mem_filter.1 hx
  obtain ⟨i,hi,rfl⟩:=List.mem_map.1 h1
  have:=List.mem_range.1 hi
  omega
theorem lD (h:HS) (ps:List Int):(needS h ps).Pairwise fun x y=>x<y:=by
  unfold needS
  refine List.Pairwise.filter _ ?_
  rw [List.pairwise_map]
  refine List.pairwise_lt_range.imp ?_
  intro a b hab; omega
theorem lI (h:HS) (ps:List Int):(needS h ps).length≤h.Level.length:=by
  unfold needS
  refine Nat.le_trans (List.length_filter_le _ _) ?_
  rw [List.length_map,List.length_range]
  omega
theorem NOk.perm (N:NOk n) (ps:List Int):((metS (hOf n) ps).map (·.1)).Perm (needS (hOf n) ps):=by
  have h1:=HZ (hOf n) ps [] (by simp)
  refine (List.perm_ext_iff_of_nodup h1.1 ((lD _ ps).imp fun h=>by omega)).2 fun k=> ?_
  rw [h1.2 k]
  unfold needS
  simp only [List.map_nil,List.not_mem_nil,false_or,List.mem_filter,List.mem_map,List.mem_range,List.any_eq_true,decide_eq_true_eq]
  have hP:=N.P
  have hr:=N.Fz
  constructor
  · rintro ⟨p, hp, hk⟩
    have h2:=N.up p k hk
    exact ⟨⟨(k - (hOf n).P).toNat,by omega,by omega⟩,p,hp,(N.zO p k h2.1).2 hk⟩
  · rintro ⟨⟨i, hi, rfl⟩, p, hp, hk⟩
    exact ⟨p,hp,(N.zO p _ (by omega)).1 hk⟩
theorem Ia {l m:List Int} (h:l.Perm m):l.mergeSort (fun x y=>decide (x≤y))=m.mergeSort (fun x y=>decide (x≤y)):=by
  have tr: ∀ a b c:Int,decide (a≤b)=true→decide (b≤c)=true→decide (a≤c)=true:=by intro a b c; simp; omega
  have to: ∀ a b:Int,(decide (a≤b) || decide (b≤a))=true:=by intro a b; simp; omega
  refine List.Perm.eq_of_pairwise (le:=fun x y:Int=>x≤y) (fun a b _ _ h1 h2=>Int.le_antisymm h1 h2) ?_ ?_ (((List.mergeSort_perm l _).trans h).trans (List.mergeSort_perm m _).symm)
  · exact (List.pairwise_mergeSort tr to l).imp fun h=>by simpa using h
  · exact (List.pairwise_mergeSort tr to m).imp fun h=>by simpa using h
theorem NOk.sorted (N:NOk n) (ps:List Int):sortK (some (metS (hOf n) ps))=needS (hOf n) ps:=by
  show ((metS (hOf n) ps).map (·.1)).mergeSort _=_
  rw [Ia (N.perm ps)]
  refine List.mergeSort_of_pairwise ?_
  exact (lD _ ps).imp fun h=>by simp; omega
theorem Dc (h:HS): ∀ (f:Nat) (out:List Int),(ugo h f out).length≤out.length+f
  | 0,out=>by simp [ugo]
  | f + 1, out => by
    simp only [ugo]
    split
    · have := Dc h f (out ++ [(parentR h (out.getLastD 0)).1])
      simp only [List.length_append,List.length_cons,List.length_nil] at this; omega
    · omega
theorem wP (h:HS) (p:Int):(pathR h p).length≤11:=by
  unfold pathR
  split
  · simp
  · have:=Dc h 10 [p]; simpa using this
theorem oN (N : NOk n) {ps : List Int} (hps : ps.length ≤ 100000) {Q : bU.QT} (H : Q (needS (hOf n) ps)) : bU ⟨newB n⟩ ps Q := by
  unfold bU
  have key: ∀ j (c:bU.V) (i:Nat),i+j=ps.length→c.s2=⟨newB n⟩→c.eS=some ((ps.take i).foldl (zM (hOf n)) [])→c.v11=ps→c.v12=(ps.length:Int)→c.gF=(i:Int)→bU.L1 Q c:=by
    intro j
    induction j with
    | zero =>
      rintro ⟨s2,eS,v11,v12,gF,fF,v20,v21⟩ i e e1 e2 e3 e4 e5
      dsimp only at e1 e2 e3 e4 e5
      subst e1 e2 e3 e4 e5
      refine bU.bY ?_
      unfold bU.B1; dsimp only
      rw [dge (by omega),aa]
      rw [List.take_of_length_le (by omega)]
      refine ⟨⟨?_, ?_⟩, ?_⟩
      · show (metS (hOf n) v11).length ≤ _
        have h1:=(N.perm v11).length_eq
        have h2:=lI (hOf n) v11
        have h3:=N.wh.small
        rw [List.length_map] at h1
        omega
      · intro x hx
        have hx:x ∈ (metS (hOf n) v11).map (·.1):=hx
        have h1:=wO ((N.perm v11).mem_iff.1 hx)
        have h3:=N.wh.small
        have h4:=N.P
        have h5:=N.Fz
        have:IntKind.min .i64≤0∧1000≤IntKind.max .i64:=by decide
        omega
      · rw [show sortK (some (v11.foldl (zM (hOf n)) [])) = sortK (some (metS (hOf n) v11)) from rfl, N.sorted]
        exact H
    | succ j ih =>
      rintro ⟨s2,eS,v11,v12,gF,fF,v20,v21⟩ i e e1 e2 e3 e4 e5
      dsimp only at e1 e2 e3 e4 e5
      subst e1 e2 e3 e4 e5
      refine bU.bY ?_
      unfold bU.B1; dsimp only
      rw [dlt (by omega),ak]
      refine cK (by omega) ?_
      refine EH (N.wb) ?_ ?_
      · rw [N.path]
      rw [N.path]
      dsimp only
      have hlen:=wP (hOf n) v11[i]
      have:=mA (B:=fun S=>bU.B2 (bU.L1 Q) S Q) (pathR (hOf n) v11[i]).length
        (fun k=>({s2:=⟨newB n⟩,eS:=some (((pathR (hOf n) v11[i]).take k).tail.foldl (fun L x=>Pu.upd L x true) ((v11.take i).foldl (zM (hOf n)) [])),v11:=v11,v12:=(v11.length:Int),gF:=(i:Int),fF:=pathR (hOf n) v11[i],v20:=((pathR (hOf n) v11[i]).length:Int),v21:=(k:Int)}:bU.V)) ?_ ?_
      · exact this
      · intro k S hk hS
        unfold bU.B2; dsimp only
        rw [dlt hk,ak]
        refine cK hk ?_
        by_cases h0:k=0
        · subst h0
          rw [decide_eq_false (by omega),aa]
          unfold bU.K3; dsimp only
          rw [cW (by omega)]
          rw [dJ hk] at hS
          exact hS
        · rw [decide_eq_true (by omega), ak]
          refine ⟨_,rfl, ?_⟩
          unfold bU.K3; dsimp only
          rw [cW (by omega)]
          rw [dJ hk,List.tail_append_of_ne_nil (by intro hh; have h9:=List.length_take (i:=k) (l:=pathR (hOf n) v11[i]); rw [hh] at h9; simp only [List.length_nil] at h9; omega),List.foldl_append] at hS
          exact hS
      · intro S
        unfold bU.B2; dsimp only
        rw [dge (by omega),aa,cW (by omega)]
        refine ih _ (i+1) (by omega) rfl ?_ rfl rfl rfl
        dsimp only
        rw [List.take_of_length_le (Nat.le_refl _),dJ (by omega),List.foldl_append]
        rfl
  exact key ps.length _ 0 (by omega) rfl rfl rfl rfl rfl
theorem pP {l:List Int} (hl:l.length≤100000) {x:Int} {Q:Bool→Prop} (H:Q (decide (x ∈ l))):cm l x Q:=by
  unfold cm
  have:=uK (B:=fun S=>cm.B1 S Q) l.length
    (fun i=>({cm.v0 with l0:=l,n1:=x,i5:=(i:Int)}:cm.V)) (fun i=>x ∉ l.take i) ?_ ?_ 0 (Nat.zero_le _) (by simp)
  · exact this
  · intro i S hi hP hS
    unfold cm.B1; dsimp only
    rw [dlt hi,ak]
    refine cK hi ?_
    by_cases h:l[i]=x
    · rw [show (l[i] == x) = true by simpa using h, ak]
      rw [decide_eq_true (by rw [← h]; exact List.getElem_mem _)] at H
      exact H
    · rw [show (l[i] == x) = false by simpa using h, aa, cW (by omega)]
      refine hS ?_
      rw [dJ hi]
      simp only [List.mem_append,List.mem_cons,List.not_mem_nil,or_false,not_or]
      exact ⟨hP,fun e=>h e.symm⟩
  · intro S hP
    unfold cm.B1; dsimp only
    rw [dge (by omega),aa]
    rw [List.take_of_length_le (Nat.le_refl _)] at hP
    rw [decide_eq_false hP] at H
    exact H
theorem uL (N : NOk n) {ps : List Int} (hps : ps.length ≤ 100000) {Q : bp.QT} (H : Q (needS (hOf n) ps)) : bp (hOf n) ps Q := by
  unfold bp
  have hP:=N.P
  have hr:=N.Fz
  have hs:=N.wh.small
  have hpos:=N.pos
  let out:=fun i:Nat=>((List.range i).map fun i:Nat=>n+(i:Int)).filter fun it=>ps.any fun p=>decide (it ∈ pathR (hOf n) p)
  have hout: ∀ i,(out i).length≤i:=by
    intro i
    refine Nat.le_trans (List.length_filter_le _ _) ?_
    rw [List.length_map,List.length_range]; omega
  have hsn: ∀ i:Nat,out (i+1)=out i++(if (ps.any fun p=>decide ((n+(i:Int)) ∈ pathR (hOf n) p)) then [n+(i:Int)] else []):=by
    intro i
    show List.filter _ _=_
    rw [List.range_succ,List.map_append,List.filter_append]
    simp only [List.map_cons,List.map_nil,List.filter_cons,List.filter_nil]
    rfl
  have key: ∀ j (i:Nat) (c:bp.V),i+j=(hOf n).Level.length - n.toNat→c.eo=ps→c.s2=hOf n→c.eD=out i→c.kE=n+(i:Int)→bp.L1 Q c:=by
    intro j
    induction j with
    | zero =>
      rintro i ⟨eo,s2,eD,kE,i7⟩ e e1 e2 e3 e4
      dsimp only at e1 e2 e3 e4
      subst e1 e2 e3 e4
      refine bp.bY ?_
      unfold bp.B1; dsimp only
      rw [decide_eq_false (by omega),aa]
      unfold needS at H
      rw [hP,← show i=(hOf n).Level.length - n.toNat by omega] at H
      exact H
    | succ j ih =>
      rintro i ⟨eo,s2,eD,kE,i7⟩ e e1 e2 e3 e4
      dsimp only at e1 e2 e3 e4
      subst e1 e2 e3 e4
      refine bp.bY ?_
      unfold bp.B1; dsimp only
      rw [decide_eq_true (by omega),ak]
      have:=uK (B:=fun S=>bp.B2 (bp.L1 Q) S Q) eo.length
        (fun k=>({eo:=eo,s2:=hOf n,eD:=out i,kE:=n+(i:Int),i7:=(k:Int)}:bp.V)) (fun k=> ∀ p ∈ eo.take k,(n+(i:Int)) ∉ pathR (hOf n) p) ?_ ?_ 0 (Nat.zero_le _) (by simp)
      · exact this
      · intro k S hk hP' hS
        unfold bp.B2; dsimp only
        rw [dlt hk,ak]
        refine cK hk ?_
        refine BJ N.wh ?_
        refine pP (by have:=wP (hOf n) eo[k]; omega) ?_
        by_cases h:(n+(i:Int)) ∈ pathR (hOf n) eo[k]
        · rw [decide_eq_true h, ak]
          refine ⟨ct (by have:=hout i; simp; omega), ?_⟩
          unfold bp.K3; dsimp only
          rw [wrap64 (n:=n+(i:Int)+1) (by omega) (by omega)]
          refine ih (i+1) _ (by omega) rfl rfl ?_ (by dsimp only; omega)
          dsimp only
          rw [hsn i,if_pos (List.any_eq_true.2 ⟨_,List.getElem_mem hk,decide_eq_true h⟩)]
        · rw [decide_eq_false h, aa, cW (by omega)]
          refine hS ?_
          intro p hp
          rw [dJ hk] at hp
          rcases List.mem_append.1 hp with h1 | h1
          · exact hP' p h1
          · rw [List.mem_singleton.1 h1]; exact h
      · intro S hP'
        unfold bp.B2; dsimp only
        rw [dge (by omega),aa]
        unfold bp.K3; dsimp only
        rw [wrap64 (n:=n+(i:Int)+1) (by omega) (by omega)]
        refine ih (i+1) _ (by omega) rfl rfl ?_ (by dsimp only; omega)
        dsimp only
        rw [hsn i,if_neg,List.append_nil]
        rw [List.take_of_length_le (Nat.le_refl _)] at hP'
        rw [List.any_eq_true]
        rintro ⟨p,hp,h⟩
        exact hP' p hp (by simpa using h)
  refine key ((hOf n).Level.length - n.toNat) 0 _ (by omega) rfl rfl rfl ?_
  dsimp only; omega
end Go.Pt
namespace Go.Pt
open Go Go.Wc Go.Pu
def sr (r:ax):aF:=⟨r.Place,r.bO,r.bD⟩
def tn (x:aq):aO:=⟨x.Item,x.Refs.map sr⟩
def tc (x:an):bf:=⟨x.dx,x.Bytes⟩
def fnd (l:List aq) (it:Int):Option aq:=l.find? fun x=>x.Item==it
def refsOf (o:Option aq):List ax:=(o.map (·.Refs)).getD []
def rgt (p:Int):Bool:=(p==0) || (p==1)
def okOne (h:HS) (l:List aq) (it:Int):Bool:=(fnd l it).isSome && ((refsOf (fnd l it)).length==(kidsR h it).length) && (refsOf (fnd l it)).all fun r=>rgt r.Place
def chk (n:Int):Int→List (Int × Nat)→Bool
  | _,[]=>true
  | last,(p,k)::r=>decide (last<p) && (decide (p<n) && ((k==256) && chk n p r))
def mayS (n:Int) (h:HS) (l:List aq) (c:List an):Bool:=chk n (-1) (c.map fun x=>(x.dx,x.Bytes.length)) && (needS h (c.map (·.dx))).all (okOne h l)
theorem mo {X:Type} {l:List X} {i:Nat} (h:i<l.length):l.drop i=l[i]::l.drop (i+1):=List.drop_eq_getElem_cons h
theorem HV {l : List aq} {it : Int} {Q : Int → Unit → Prop} (hl : l.length ≤ 100000)
    (H0:fnd l it=none→Q (-1) ()) (H1: ∀ i (h:i<l.length),fnd l it=some l[i]→Q (i:Int) ()):
    av (fun x0 _ K=>iw x0 it (fun r=>K r ())) (l.map tn) () Q:=by
  unfold av
  have key: ∀ j (i:Nat) (c:av.V),i+j=l.length→c.s0=l.map tn→c.v7=(l.length:Int)→c.v8=(i:Int)→fnd l it=fnd (l.drop i) it→
      av.L1 (fun x0 _ K=>iw x0 it (fun r=>K r ())) Q c ():=by
    intro j
    induction j with
    | zero =>
      rintro i ⟨s0,v7,v8⟩ e e1 e2 e3 e4
      dsimp only at e1 e2 e3
      subst e1 e2 e3
      refine av.bY _ ?_
      unfold av.B1; dsimp only
      rw [dge (by omega),aa]
      refine H0 ?_
      rw [e4,List.drop_of_length_le (by omega)]; rfl
    | succ j ih =>
      rintro i ⟨s0,v7,v8⟩ e e1 e2 e3 e4
      dsimp only at e1 e2 e3
      subst e1 e2 e3
      have hi:i<l.length:=by omega
      refine av.bY _ ?_
      unfold av.B1; dsimp only
      rw [dlt hi,ak]
      refine cK (by rw [List.length_map]; exact hi) ?_
      unfold iw
      rw [List.getElem_map]
      rw [mo hi] at e4
      unfold fnd at e4
      rw [List.find?_cons] at e4
      show br (l[i].Item==it) _ _
      cases hh:(l[i].Item==it) with
      | true=>rw [hh] at e4; rw [ak]; exact H1 i hi e4
      | false =>
        rw [hh] at e4
        rw [aa,cW (by omega)]
        exact ih (i+1) _ (by omega) rfl rfl rfl e4
  refine key l.length 0 _ (by omega) rfl ?_ rfl rfl
  dsimp only; rw [List.length_map]
theorem find_spec {l:List aq} {it:Int} {Q:List aF→Bool→Prop} (hl:l.length≤100000) (hr: ∀ x ∈ l,x.Refs.length≤100000)
    (H:Q ((refsOf (fnd l it)).map sr) (fnd l it).isSome):eX (l.map tn) it Q:=by
  unfold eX
  refine HV hl ?_ ?_
  · intro h
    rw [show decide ((-1:Int)<0)=true from rfl,ak]
    rw [h] at H
    exact H
  · intro i hi h
    rw [decide_eq_false (by omega),aa]
    refine cK (by rw [List.length_map]; exact hi) ?_
    rw [List.getElem_map]
    rw [h] at H
    refine ⟨ct ?_,H⟩
    show (l[i].Refs.map sr).length≤_
    have:=hr _ (List.getElem_mem hi)
    rw [List.length_map]; omega
theorem pN {l : List aq} {it : Int} {Q : bQ.QT} (hl : l.length ≤ 100000)
    (H:Q (refsOf (fnd l it)) (fnd l it).isSome):bQ l it Q:=by
  unfold bQ
  have key: ∀ j (i:Nat) (c:bQ.V),i+j=l.length→c.l0=l→c.bA=it→c.i6=(i:Int)→fnd l it=fnd (l.drop i) it→bQ.L1 Q c:=by
    intro j
    induction j with
    | zero =>
      rintro i ⟨l0,bA,i6⟩ e e1 e2 e3 e4
      dsimp only at e1 e2 e3
      subst e1 e2 e3
      refine bQ.bY ?_
      unfold bQ.B1; dsimp only
      rw [dge (by omega),aa]
      rw [e4,List.drop_of_length_le (by omega)] at H
      exact H
    | succ j ih =>
      rintro i ⟨l0,bA,i6⟩ e e1 e2 e3 e4
      dsimp only at e1 e2 e3
      subst e1 e2 e3
      have hi:i<l0.length:=by omega
      refine bQ.bY ?_
      unfold bQ.B1; dsimp only
      rw [dlt hi,ak]
      refine cK hi ?_
      have e5:=e4
      rw [mo hi] at e4
      unfold fnd at e4
      rw [List.find?_cons] at e4
      cases hh:(l0[i].Item==bA) with
      | true =>
        rw [hh] at e4
        rw [ak]
        refine cK hi ?_
        have e6:fnd l0 bA=some l0[i]:=e4
        rw [e6] at H
        exact H
      | false =>
        rw [hh] at e4
        rw [aa,cW (by omega)]
        exact ih (i+1) _ (by omega) rfl rfl rfl e4
  exact key l.length 0 _ (by omega) rfl rfl rfl rfl
theorem nt {c:List bf} {Q:bW.QT} (hc:c.length≤100000) (H:Q (c.map (·.dx))):bW c Q:=by
  unfold bW
  have:=mA (B:=fun S=>bW.B1 S Q) c.length (fun i=>({bW.v0 with l3:=(c.take i).map (·.dx),v6:=c,v7:=(c.length:Int),v8:=(i:Int)}:bW.V)) ?_ ?_
  · exact this
  · intro i S hi hS
    unfold bW.B1; dsimp only
    rw [dlt hi,ak]
    refine cK hi ⟨ct (by simp only [List.length_append,List.length_map,List.length_take,List.length_cons,List.length_nil]; omega), ?_⟩
    rw [fT hi,cW (by omega)]
    exact hS
  · intro S
    unfold bW.B1; dsimp only
    rw [dge (by omega),aa,List.take_of_length_le (Nat.le_refl _)]
    exact H
theorem oq {c:List an} {Q:bL.QT} (hc:c.length≤100000) (H:Q (c.map (·.dx))):bL c Q:=by
  unfold bL
  have:=mA (B:=fun S=>bL.B1 S Q) c.length (fun i=>({bL.v0 with di:=(c.take i).map (·.dx),l0:=c,i4:=(i:Int)}:bL.V)) ?_ ?_
  · exact this
  · intro i S hi hS
    unfold bL.B1; dsimp only
    rw [dlt hi,ak]
    refine cK hi ⟨ct (by simp only [List.length_append,List.length_map,List.length_take,List.length_cons,List.length_nil]; omega), ?_⟩
    rw [fT hi,cW (by omega)]
    exact hS
  · intro S
    unfold bL.B1; dsimp only
    rw [dge (by omega),aa,List.take_of_length_le (Nat.le_refl _)]
    exact H
theorem ny {c:List an} {Q:bC.QT} (hc:c.length≤100000) (H:Q (c.map tc)):bC c Q:=by
  unfold bC
  have:=mA (B:=fun S=>bC.B1 S Q) c.length (fun i=>({bC.v0 with di:=(c.take i).map tc,v6:=c,v7:=(c.length:Int),v8:=(i:Int)}:bC.V)) ?_ ?_
  · exact this
  · intro i S hi hS
    unfold bC.B1; dsimp only
    rw [dlt hi,ak]
    refine cK hi ⟨ct (by simp only [List.length_append,List.length_map,List.length_take,List.length_cons,List.length_nil]; omega), ?_⟩
    rw [show (⟨c[i].dx,c[i].Bytes⟩:bf)=tc c[i] from rfl,fT hi,cW (by omega)]
    exact hS
  · intro S
    unfold bC.B1; dsimp only
    rw [dge (by omega),aa,List.take_of_length_le (Nat.le_refl _)]
    exact H
def fullS (x:an):an:=⟨x.dx,cpL (List.replicate (Int.toNat (256:Int)) (0:Int)) x.Bytes⟩
theorem El {c:List an} {Q:cg.QT} (hc:c.length≤100000) (H:Q (c.map fullS)):cg c Q:=by
  unfold cg
  have:=mA (B:=fun S=>cg.B1 S Q) c.length (fun i=>({cg.v0 with di:=(c.take i).map fullS,v7:=c,v8:=(c.length:Int),v9:=(i:Int)}:cg.V)) ?_ ?_
  · exact this
  · intro i S hi hS
    unfold cg.B1; dsimp only
    rw [dlt hi,ak]
    refine cK hi ⟨ct (by simp only [List.length_append,List.length_map,List.length_take,List.length_cons,List.length_nil]; omega), ?_⟩
    rw [show (⟨c[i].dx,cpL (List.replicate (Int.toNat (256:Int)) (0:Int)) c[i].Bytes⟩:an)=fullS c[i] from rfl,fT hi,cW (by omega)]
    exact hS
  · intro S
    unfold cg.B1; dsimp only
    rw [dge (by omega),aa,List.take_of_length_le (Nat.le_refl _)]
    exact H
theorem sC {l : List aq} {Q : aV.QT} (hl : l.length ≤ 100000) (hr : ∀ x ∈ l, x.Refs.length ≤ 100000) (H : Q (l.map tn)) : aV l Q := by
  unfold aV
  have key: ∀ j (i:Nat) (c:aV.V),i+j=l.length→c.di=(l.take i).map tn→c.v9=l→c.v10=(l.length:Int)→c.v11=(i:Int)→aV.L1 Q c:=by
    intro j
    induction j with
    | zero =>
      rintro i ⟨di,v9,v10,v11,x6,fF,v20,v21⟩ e e1 e2 e3 e4
      dsimp only at e1 e2 e3 e4
      subst e1 e2 e3 e4
      refine aV.bY ?_
      unfold aV.B1; dsimp only
      rw [dge (by omega),aa,List.take_of_length_le (by omega)]
      exact H
    | succ j ih =>
      rintro i ⟨di,v9,v10,v11,x6,fF,v20,v21⟩ e e1 e2 e3 e4
      dsimp only at e1 e2 e3 e4
      subst e1 e2 e3 e4
      have hi:i<v9.length:=by omega
      have hb:=hr _ (List.getElem_mem hi)
      refine aV.bY ?_
      unfold aV.B1; dsimp only
      rw [dlt hi,ak]
      refine cK hi ?_
      have:=mA (B:=fun S=>aV.B2 (aV.L1 Q) S Q) v9[i].Refs.length
        (fun k=>({di:=(v9.take i).map tn,v9:=v9,v10:=(v9.length:Int),v11:=(i:Int),x6:=⟨v9[i].Item,(v9[i].Refs.take k).map sr⟩,fF:=v9[i].Refs,v20:=(v9[i].Refs.length:Int),v21:=(k:Int)}:aV.V)) ?_ ?_
      · exact this
      · intro k S hk hS
        unfold aV.B2; dsimp only
        rw [dlt hk,ak]
        refine cK hk ⟨ct (by simp only [List.length_append,List.length_map,List.length_take,List.length_cons,List.length_nil]; omega), ?_⟩
        rw [show (⟨v9[i].Refs[k].Place,v9[i].Refs[k].bO,v9[i].Refs[k].bD⟩:aF)=sr v9[i].Refs[k] from rfl,fT hk,cW (by omega)]
        exact hS
      · intro S
        unfold aV.B2; dsimp only
        rw [dge (by omega),aa,List.take_of_length_le (Nat.le_refl _)]
        refine ⟨ct (by simp only [List.length_append,List.length_map,List.length_take,List.length_cons,List.length_nil]; omega), ?_⟩
        rw [cW (by omega)]
        refine ih (i+1) _ (by omega) ?_ rfl rfl rfl
        dsimp only
        rw [show (⟨v9[i].Item,v9[i].Refs.map sr⟩:aO)=tn v9[i] from rfl,fT hi]
  exact key l.length 0 _ (by omega) rfl rfl rfl rfl
theorem k9 {r:aF} {Q:Bool→Prop} (H:Q (rgt r.Place)):dV r Q:=by
  unfold dV
  unfold rgt at H
  cases h:(r.Place==(0:Int)) with
  | true=>rw [h] at H; exact H
  | false=>rw [h] at H; exact H
theorem pK {r:ax} {Q:Bool→Prop} (H:Q (rgt r.Place)):fW r Q:=by
  unfold fW
  unfold rgt at H
  cases h:(r.Place==(0:Int)) with
  | true=>rw [h] at H; exact H
  | false=>rw [h] at H; exact H
theorem HY {l : List aF} {Q : Bool → Unit → Prop} (hl : l.length ≤ 100000) (H : Q (!(l.all fun r => rgt r.Place)) ()) :
    dK (fun x0 _ K=>gN x0 (fun r=>K r ())) l () Q:=by
  unfold dK aA
  have key: ∀ j (i:Nat) (c:aA.V),i+j=l.length→c.s0=l→c.v7=(l.length:Int)→c.v8=(i:Int)→(l.all fun r=>rgt r.Place)=((l.drop i).all fun r=>rgt r.Place)→
      aA.L1 (fun x0 _ K=>gN x0 (fun r=>K r ())) (fun r z=>Q (decide (r≥0)) z) c ():=by
    intro j
    induction j with
    | zero =>
      rintro i ⟨s0,v7,v8⟩ e e1 e2 e3 e4
      dsimp only at e1 e2 e3
      subst e1 e2 e3
      refine aA.bY _ ?_
      unfold aA.B1; dsimp only
      rw [dge (by omega),aa]
      rw [e4,List.drop_of_length_le (by omega)] at H
      exact H
    | succ j ih =>
      rintro i ⟨s0,v7,v8⟩ e e1 e2 e3 e4
      dsimp only at e1 e2 e3
      subst e1 e2 e3
      have hi:i<s0.length:=by omega
      refine aA.bY _ ?_
      unfold aA.B1; dsimp only
      rw [dlt hi,ak]
      refine cK hi ?_
      unfold gN
      refine k9 ?_
      have e5:=e4
      rw [mo hi,List.all_cons] at e4
      cases hh:rgt s0[i].Place with
      | false =>
        rw [hh] at e4
        show br true _ _
        rw [ak]
        rw [e4] at H
        rw [decide_eq_true (by omega)]
        exact H
      | true =>
        rw [hh] at e4
        show br false _ _
        rw [aa,cW (by omega)]
        exact ih (i+1) _ (by omega) rfl rfl rfl e4
  exact key l.length 0 _ (by omega) rfl rfl rfl rfl
variable {n:Int}
theorem ED (N : NOk n) {l : List aq} (hl : l.length ≤ 100000) (hr : ∀ x ∈ l, x.Refs.length ≤ 100000) {Q : bJ.QT} {need : List Int} (hn : need.length ≤ 100000) (H : Q (need.all (okOne (hOf n) l))) :
    ∀ j (i:Nat) (c:bJ.V),i+j=need.length→c.eO=l.map tn→c.s3=⟨newB n⟩→c.nS=need→c.yH=(need.length:Int)→c.v46=(i:Int)→need.all (okOne (hOf n) l)=(need.drop i).all (okOne (hOf n) l)→bJ.L3 Q c:=by
  intro j
  induction j with
  | zero =>
    rintro i ⟨eO,dN,s3,mg,nw,ej,kD,c9,v37,nS,yH,v46,nA⟩ e e1 e2 e3 e4 e5 e6
    dsimp only at e1 e2 e3 e4 e5
    subst e1 e2 e3 e4 e5
    refine bJ.ff ?_
    unfold bJ.B3; dsimp only
    rw [dge (by omega),aa]
    rw [e6,List.drop_of_length_le (by omega)] at H
    exact H
  | succ j ih =>
    rintro i ⟨eO,dN,s3,mg,nw,ej,kD,c9,v37,nS,yH,v46,nA⟩ e e1 e2 e3 e4 e5 e6
    dsimp only at e1 e2 e3 e4 e5
    subst e1 e2 e3 e4 e5
    have hi:i<nS.length:=by omega
    refine bJ.ff ?_
    unfold bJ.B3; dsimp only
    rw [dlt hi,ak]
    refine cK hi ?_
    refine find_spec hl hr ?_
    have e7:=e6
    rw [mo hi,List.all_cons] at e6
    have hlen:((refsOf (fnd l nS[i])).length)≤100000:=by
      cases hf:fnd l nS[i] with
      | none=>exact Nat.zero_le _
      | some x=>exact hr x (List.mem_of_find?_eq_some hf)
    unfold okOne at e6
    cases hs:(fnd l nS[i]).isSome with
    | false =>
      rw [hs] at e6
      rw [show (!false)=true from rfl,ak]
      unfold bJ.K4; dsimp only
      rw [ak]
      rw [show nS.all (okOne (hOf n) l)=false from e6] at H
      exact H
    | true =>
      rw [hs] at e6
      rw [show (!true)=false from rfl,aa]
      refine EE N.wb ?_
      rw [N.kids,List.length_map]
      cases hk:((refsOf (fnd l nS[i])).length==(kidsR (hOf n) nS[i]).length) with
      | false =>
        rw [hk] at e6
        rw [show (((refsOf (fnd l nS[i])).length:Int) !=((kidsR (hOf n) nS[i]).length:Int))=true by
          have:=of_decide_eq_false (show decide ((refsOf (fnd l nS[i])).length=(kidsR (hOf n) nS[i]).length)=false from hk)
          simp; omega,ak]
        unfold bJ.K4; dsimp only
        rw [ak]
        rw [show nS.all (okOne (hOf n) l)=false from e6] at H
        exact H
      | true =>
        rw [hk] at e6
        rw [show (((refsOf (fnd l nS[i])).length:Int) !=((kidsR (hOf n) nS[i]).length:Int))=false by
          have:=of_decide_eq_true (show decide ((refsOf (fnd l nS[i])).length=(kidsR (hOf n) nS[i]).length)=true from hk)
          simp; omega,aa]
        refine HY (by rw [List.length_map]; exact hlen) ?_
        unfold bJ.K4; dsimp only
        rw [List.all_map]
        show br (!((refsOf (fnd l nS[i])).all fun r=>rgt r.Place)) _ _
        cases ha:((refsOf (fnd l nS[i])).all fun r=>rgt r.Place) with
        | false =>
          rw [ha] at e6
          rw [show nS.all (okOne (hOf n) l)=false from e6] at H
          exact H
        | true =>
          rw [ha] at e6
          rw [show (!true)=false from rfl,aa,cW (by omega)]
          exact ih (i+1) _ (by omega) rfl rfl rfl rfl rfl e6
theorem ue (N : NOk n) {l : List aq} (hl : l.length ≤ 100000) (hr : ∀ x ∈ l, x.Refs.length ≤ 100000) {cs : List an} (hc : cs.length ≤ 100000) {Q : bJ.QT}
    (H:Q (mayS n (hOf n) l cs)):bJ ⟨newB n⟩ (l.map tn) (cs.map tc) Q:=by
  unfold bJ
  have key: ∀ j (i:Nat) (c:bJ.V),i+j=cs.length→c.eO=l.map tn→c.dN=cs.map tc→c.s3=⟨newB n⟩→c.nw=cs.map tc→c.ej=(cs.length:Int)→c.kD=(i:Int)→
      chk n (-1) (cs.map fun x=>(x.dx,x.Bytes.length))=chk n c.mg ((cs.drop i).map fun x=>(x.dx,x.Bytes.length))→bJ.L1 Q c:=by
    intro j
    induction j with
    | zero =>
      rintro i ⟨eO,dN,s3,mg,nw,ej,kD,c9,v37,nS,yH,v46,nA⟩ e e1 e2 e3 e4 e5 e6 e7
      dsimp only at e1 e2 e3 e4 e5 e6 e7
      subst e1 e2 e3 e4 e5 e6
      refine bJ.bY ?_
      unfold bJ.B1; dsimp only
      rw [dge (by omega),aa]
      unfold mayS at H
      rw [e7,List.drop_of_length_le (by omega)] at H
      refine nt (by rw [List.length_map]; exact hc) ?_
      rw [List.map_map]
      refine oN N (by rw [List.length_map]; exact hc) ?_
      have hnl:=lI (hOf n) (cs.map (·.dx))
      have hsm:=N.wh.small
      exact ED N hl hr (need:=needS (hOf n) (cs.map (·.dx))) (by omega) H (needS (hOf n) (cs.map (·.dx))).length 0 _ (by omega) rfl rfl rfl rfl rfl rfl
    | succ j ih =>
      rintro i ⟨eO,dN,s3,mg,nw,ej,kD,c9,v37,nS,yH,v46,nA⟩ e e1 e2 e3 e4 e5 e6 e7
      dsimp only at e1 e2 e3 e4 e5 e6 e7
      subst e1 e2 e3 e4 e5 e6
      have hi:i<cs.length:=by omega
      refine bJ.bY ?_
      unfold bJ.B1; dsimp only
      rw [dlt hi,ak]
      refine cK (by rw [List.length_map]; exact hi) ?_
      rw [List.getElem_map]
      rw [mo hi,List.map_cons] at e7
      simp only [chk] at e7
      unfold mayS at H
      show br (decide (cs[i].dx≤mg)) _ _
      by_cases h1:cs[i].dx≤mg
      · rw [decide_eq_true h1, ak]
        unfold bJ.K2; dsimp only
        rw [ak]
        rw [e7,decide_eq_false (show ¬ (mg<cs[i].dx) by omega)] at H
        exact H
      · rw [decide_eq_false h1, aa]
        rw [decide_eq_true (show mg<cs[i].dx by omega)] at e7
        refine BI N.wb ?_
        rw [N.Db]
        show br (decide (cs[i].dx≥n)) _ _
        by_cases h2:cs[i].dx≥n
        · rw [decide_eq_true h2, ak]
          unfold bJ.K2; dsimp only
          rw [ak]
          rw [e7,decide_eq_false (show ¬ (cs[i].dx<n) by omega)] at H
          exact H
        · rw [decide_eq_false h2, aa]
          rw [decide_eq_true (show cs[i].dx<n by omega)] at e7
          unfold bJ.K2; dsimp only
          show br ((cs[i].Bytes.length:Int) !=256) _ _
          by_cases h3:cs[i].Bytes.length=256
          · rw [h3] at e7 ⊢
            rw [show (((256:Nat):Int) !=256)=false by decide,aa,cW (by omega)]
            exact ih (i+1) _ (by omega) rfl rfl rfl rfl rfl rfl e7
          · rw [show (cs[i].Bytes.length == 256) = false by rw [beq_eq_false_iff_ne]; exact h3] at e7
            rw [show ((cs[i].Bytes.length:Int) !=256)=true by simp; omega,ak]
            rw [e7] at H
            exact H
  refine key cs.length 0 _ (by omega) rfl rfl rfl rfl ?_ rfl rfl
  dsimp only; rw [List.length_map]
theorem Vu (h:HS) {Q:az.QT} {S3:az.V→Prop} (rs:List ax) (hl:rs.length≤100000):
    ∀ j (i : Nat) (c : az.V), i + j = rs.length → c.ga = rs → c.xN = (i : Int) →
      (((rs.drop i).all fun r=>rgt r.Place)=false→Q false)→(((rs.drop i).all fun r=>rgt r.Place)=true→S3 {c with i9:=IntKind.wrap .i64 (c.i9+1),xN:=(rs.length:Int)})→az.L5 S3 Q c:=by
  intro j
  induction j with
  | zero =>
    rintro i ⟨l1,c2,s3,i7,nR,eP,i9,ga,Bt,xN⟩ e e1 e2 H1 H2
    dsimp only at e1 e2 H1 H2
    subst e1 e2
    refine az.nV _ ?_
    unfold az.B5; dsimp only
    rw [dge (by omega),aa]
    rw [show i=ga.length by omega]
    exact H2 (by rw [List.drop_of_length_le (by omega)]; rfl)
  | succ j ih =>
    rintro i ⟨l1,c2,s3,i7,nR,eP,i9,ga,Bt,xN⟩ e e1 e2 H1 H2
    dsimp only at e1 e2 H1 H2
    subst e1 e2
    have hi:i<ga.length:=by omega
    refine az.nV _ ?_
    unfold az.B5; dsimp only
    rw [dlt hi,ak]
    refine cK hi ?_
    refine pK ?_
    rw [mo hi,List.all_cons] at H1 H2
    cases hh:rgt ga[i].Place with
    | false =>
      rw [hh] at H1
      exact H1 rfl
    | true =>
      rw [hh] at H1 H2
      rw [show (!true)=false from rfl,aa,cW (by omega)]
      exact ih (i+1) _ (by omega) rfl rfl H1 H2
theorem Vv (N : NOk n) {l : List aq} (hl : l.length ≤ 100000) (hr : ∀ x ∈ l, x.Refs.length ≤ 100000) {Q : az.QT} {need : List Int} (hn : need.length ≤ 100000) (H : Q (need.all (okOne (hOf n) l))) :
    ∀ j (i:Nat) (c:az.V),i+j=need.length→c.l1=l→c.s3=hOf n→c.eP=need→c.i9=(i:Int)→need.all (okOne (hOf n) l)=(need.drop i).all (okOne (hOf n) l)→az.L3 Q c:=by
  intro j
  induction j with
  | zero =>
    rintro i ⟨l1,c2,s3,i7,nR,eP,i9,ga,Bt,xN⟩ e e1 e2 e3 e4 e6
    dsimp only at e1 e2 e3 e4
    subst e1 e2 e3 e4
    refine az.ff ?_
    unfold az.B3; dsimp only
    rw [dge (by omega),aa]
    rw [e6,List.drop_of_length_le (by omega)] at H
    exact H
  | succ j ih =>
    rintro i ⟨l1,c2,s3,i7,nR,eP,i9,ga,Bt,xN⟩ e e1 e2 e3 e4 e6
    dsimp only at e1 e2 e3 e4
    subst e1 e2 e3 e4
    have hi:i<eP.length:=by omega
    refine az.ff ?_
    unfold az.B3; dsimp only
    rw [dlt hi,ak]
    refine cK hi ?_
    refine pN hl ?_
    have e7:=e6
    rw [mo hi,List.all_cons] at e6
    have hlen:((refsOf (fnd l1 eP[i])).length)≤100000:=by
      cases hf:fnd l1 eP[i] with
      | none=>exact Nat.zero_le _
      | some x=>exact hr x (List.mem_of_find?_eq_some hf)
    unfold okOne at e6
    cases hs:(fnd l1 eP[i]).isSome with
    | false =>
      rw [hs] at e6
      rw [show (!false)=true from rfl,ak]
      unfold az.K4; dsimp only
      rw [ak]
      rw [show eP.all (okOne (hOf n) l1)=false from e6] at H
      exact H
    | true =>
      rw [hs] at e6
      rw [show (!true)=false from rfl,aa]
      refine cK hi ?_
      refine pO N.wh ?_
      unfold az.K4; dsimp only
      cases hk:((refsOf (fnd l1 eP[i])).length==(kidsR (hOf n) eP[i]).length) with
      | false =>
        rw [hk] at e6
        rw [show (((refsOf (fnd l1 eP[i])).length:Int) !=((kidsR (hOf n) eP[i]).length:Int))=true by
          have:=of_decide_eq_false (show decide ((refsOf (fnd l1 eP[i])).length=(kidsR (hOf n) eP[i]).length)=false from hk)
          simp; omega,ak]
        rw [show eP.all (okOne (hOf n) l1)=false from e6] at H
        exact H
      | true =>
        rw [hk] at e6
        rw [show (((refsOf (fnd l1 eP[i])).length:Int) !=((kidsR (hOf n) eP[i]).length:Int))=false by
          have:=of_decide_eq_true (show decide ((refsOf (fnd l1 eP[i])).length=(kidsR (hOf n) eP[i]).length)=true from hk)
          simp; omega,aa]
        refine Vu (hOf n) (refsOf (fnd l1 eP[i])) hlen (refsOf (fnd l1 eP[i])).length 0 _ (by omega) rfl rfl ?_ ?_
        · intro ha
          rw [List.drop_zero] at ha
          rw [ha] at e6
          rw [show eP.all (okOne (hOf n) l1)=false from e6] at H
          exact H
        · intro ha
          rw [List.drop_zero] at ha
          rw [ha] at e6
          dsimp only
          rw [cW (by omega)]
          exact ih (i+1) _ (by omega) rfl rfl rfl rfl e6
theorem wH (N : NOk n) {l : List aq} (hl : l.length ≤ 100000) (hr : ∀ x ∈ l, x.Refs.length ≤ 100000) {cs : List an} (hc : cs.length ≤ 100000) {Q : az.QT}
    (H:Q (mayS n (hOf n) l cs)):az (hOf n) l cs Q:=by
  unfold az
  have hP:=N.P
  let last:=fun i:Nat=>if i=0 then (-1:Int) else ((cs[i - 1]?).map (·.dx)).getD (-1)
  have hlast: ∀ i (h:i<cs.length),last (i+1)=cs[i].dx:=by
    intro i h
    show (if i+1=0 then (-1:Int) else ((cs[i+1 - 1]?).map (·.dx)).getD (-1))=_
    rw [if_neg (by omega),Nat.add_sub_cancel,List.getElem?_eq_getElem h]; rfl
  have key: ∀ j (i:Nat) (c:az.V),i+j=cs.length→c.l1=l→c.c2=cs→c.s3=hOf n→c.i7=(i:Int)→ -1≤last i→
      chk n (-1) (cs.map fun x=>(x.dx,x.Bytes.length))=chk n (last i) ((cs.drop i).map fun x=>(x.dx,x.Bytes.length))→az.L1 Q c:=by
    intro j
    induction j with
    | zero =>
      rintro i ⟨l1,c2,s3,i7,nR,eP,i9,ga,Bt,xN⟩ e e1 e2 e3 e4 e6 e7
      dsimp only at e1 e2 e3 e4
      subst e1 e2 e3 e4
      refine az.bY ?_
      unfold az.B1; dsimp only
      rw [dge (by omega),aa]
      unfold mayS at H
      rw [e7,List.drop_of_length_le (by omega)] at H
      refine oq hc ?_
      refine uL N (by rw [List.length_map]; exact hc) ?_
      have hnl:=lI (hOf n) (c2.map (·.dx))
      have hsm:=N.wh.small
      exact Vv N hl hr (need:=needS (hOf n) (c2.map (·.dx))) (by omega) H (needS (hOf n) (c2.map (·.dx))).length 0 _ (by omega) rfl rfl rfl rfl rfl
    | succ j ih =>
      rintro i ⟨l1,c2,s3,i7,nR,eP,i9,ga,Bt,xN⟩ e e1 e2 e3 e4 e6 e7
      dsimp only at e1 e2 e3 e4
      subst e1 e2 e3 e4
      have hi:i<c2.length:=by omega
      refine az.bY ?_
      unfold az.B1; dsimp only
      rw [dlt hi,ak]
      refine cK hi ?_
      rw [mo hi,List.map_cons] at e7
      simp only [chk] at e7
      unfold mayS at H
      have tail:last i<c2[i].dx→c2[i].dx<n→az.K2 (az.L1 Q) Q {({l1:=l1,c2:=c2,s3:=hOf n,i7:=(i:Int),nR:=nR,eP:=eP,i9:=i9,ga:=ga,Bt:=Bt,xN:=xN}:az.V) with nR:=((c2[i].Bytes.length:Int) !=256)}:=by
        intro h1 h2
        rw [decide_eq_true h1,decide_eq_true h2] at e7
        unfold az.K2; dsimp only
        by_cases h3:c2[i].Bytes.length=256
        · rw [h3] at e7 ⊢
          rw [show (((256:Nat):Int) !=256)=false by decide,aa,cW (by omega)]
          refine ih (i+1) _ (by omega) rfl rfl rfl rfl ?_ ?_
          · rw [hlast i hi]; omega
          · rw [hlast i hi]; exact e7
        · rw [show (c2[i].Bytes.length == 256) = false by rw [beq_eq_false_iff_ne]; exact h3] at e7
          rw [show ((c2[i].Bytes.length:Int) !=256)=true by simp; omega,ak]
          rw [e7] at H
          exact H
      have bad:(¬ last i<c2[i].dx∨ ¬ c2[i].dx<n)→az.K2 (az.L1 Q) Q {({l1:=l1,c2:=c2,s3:=hOf n,i7:=(i:Int),nR:=nR,eP:=eP,i9:=i9,ga:=ga,Bt:=Bt,xN:=xN}:az.V) with nR:=true}:=by
        intro h
        unfold az.K2; dsimp only
        rw [ak]
        rcases h with h | h
        · rw [decide_eq_false h] at e7
          rw [e7] at H; exact H
        · rw [decide_eq_false h, Bool.false_and, Bool.and_false] at e7
          rw [e7] at H; exact H
      by_cases h1:c2[i].dx<0
      · rw [decide_eq_true h1, ak]
        exact bad (.inl (by omega))
      rw [decide_eq_false h1,aa]
      refine cK hi ?_
      rw [hP]
      by_cases h2:c2[i].dx≥n
      · rw [decide_eq_true h2, ak]
        exact bad (.inr (by omega))
      rw [decide_eq_false h2,aa]
      by_cases h0:i=0
      · subst h0
        rw [decide_eq_false (by omega),aa]
        refine cK hi ?_
        exact tail (by show (-1:Int)<_; omega) (by omega)
      · rw [decide_eq_true (by omega), ak]
        have Vw:i - 1<c2.length:=by omega
        have Nc:last i=c2[i - 1].dx:=by
          show (if i=0 then (-1:Int) else ((c2[i - 1]?).map (·.dx)).getD (-1))=_
          rw [if_neg h0,List.getElem?_eq_getElem Vw]; rfl
        refine gB (i - 1) (by rw [wrap64 (by omega) (by omega)]; omega) Vw ?_
        refine cK hi ?_
        by_cases h3:c2[i - 1].dx≥c2[i].dx
        · rw [decide_eq_true h3, ak]
          exact bad (.inl (by omega))
        · rw [decide_eq_false h3, aa]
          refine cK hi ?_
          exact tail (by omega) (by omega)
  exact key cs.length 0 _ (by omega) rfl rfl rfl rfl (Int.le_refl _) rfl
end Go.Pt
namespace Go.Pt
open Go Go.Wc Go.Pu
theorem ixl {l:List Int} {i:Int} {K:Int→Prop} (h0:0≤i) (h1:i<(l.length:Int)) (H: ∀ x,K x):ixP l i K:=gB i.toNat (by omega) (by omega) (H _)
theorem ixv {n:Nat} {v:Vector Int n} {i:Int} {K:Int→Prop} (h0:0≤i) (h1:i<(n:Int)) (H: ∀ x,K x):ixP v.toList i K:=ixl h0 (by rw [Vector.length_toList]; exact h1) H
theorem wpos (x:Int):0≤IntKind.wrap .u64 x:=by
  rw [show IntKind.wrap .u64 x=x % 18446744073709551616 from rfl]; omega
theorem Ib {x k:Int} {Q:Int→Prop} (H: ∀ r,Q r):dU x k Q:=by
  unfold dU
  exact gD (wpos _) (gD (wpos _) (H _))
theorem kB {x k:Int} {Q:Int→Prop} (H: ∀ r,Q r):gn x k Q:=Ib H
theorem Dd {x y z b:Int} {w:Vector Int 4} {Q:Vector Int 4→Prop} (hx:0≤x∧x<4) (hy:0≤y∧y<4) (hz:0≤z∧z<4) (H: ∀ r,Q r):dP x y z b w Q:=by
  unfold dP
  refine ixv hx.1 hx.2 fun _=>ixv hy.1 hy.2 fun _=>ixv hx.1 hx.2 fun _=>ixv hz.1 hz.2 fun _=>ixv hx.1 hx.2 fun _=>Ib fun _=>ixv hz.1 hz.2 fun _=>H _
theorem uM {w:Vector Int 4} {Q:Vector Int 4→Prop} (H: ∀ r,Q r):dG w Q:=
  Dd (by decide) (by decide) (by decide) fun _=>Dd (by decide) (by decide) (by decide) fun _=>Dd (by decide) (by decide) (by decide) fun _=>Dd (by decide) (by decide) (by decide) fun _=>H _
theorem wQ {a b c d:Int} {w:Vector Int 16} {Q:bz.QT} (ha:0≤a∧a<16) (hb:0≤b∧b<16) (hc:0≤c∧c<16) (hd:0≤d∧d<16) (H: ∀ r,Q r):bz a b c d w Q:=by
  have k3: ∀ m:bz.V,m.a0=a→m.b1=b→m.c2=c→m.d3=d→bz.K3 Q m:=by
    rintro ⟨v4,a0,b1,c2,d3,q9,v23⟩ e1 e2 e3 e4
    dsimp only at e1 e2 e3 e4
    subst e1 e2 e3 e4
    exact ixv (by decide) (by decide) fun _=>ixv (by decide) (by decide) fun _=>ixv (by decide) (by decide) fun _=>ixv (by decide) (by decide) fun _=>
      ixv ha.1 ha.2 fun _=>ixv hb.1 hb.2 fun _=>ixv hc.1 hc.2 fun _=>ixv hd.1 hd.2 fun _=>H _
  unfold bz
  refine ixv ha.1 ha.2 fun _=>ixv hb.1 hb.2 fun _=>ixv hc.1 hc.2 fun _=>ixv hd.1 hd.2 fun _=>⟨?_, ?_⟩
  · exact uM fun _=>k3 _ rfl rfl rfl rfl
  · exact uM fun _=>k3 _ rfl rfl rfl rfl
theorem De {b:List Int} {Q:Int→Prop} (h:4≤b.length) (H: ∀ r,Q r):iH b Q:=by
  unfold iH
  exact ixl (by omega) (by omega) fun _=>ixl (by omega) (by omega) fun _=>ixl (by omega) (by omega) fun _=>ixl (by omega) (by omega) fun _=>H _
theorem eL {n:Int} (h: -1000≤n∧n≤1000000000):IntKind.wrap .i64 n=n:=wrap64 (by omega) (by omega)
theorem jR {l:List Int} {i j:Int} (h:0≤i∧i≤j∧j≤(l.length:Int)):((sub l i j).length:Int)=j - i:=by
  unfold sub; rw [List.length_drop,List.length_take]; omega
theorem Ic {k:Vector Int 32} {n:Vector Int 12} {c:Int} {Q:aT.QT} (H: ∀ r,Q r):aT k n c Q:=by
  have l2: ∀ (j:Nat) (m:aT.V),0≤m.v24→m.v24+(j:Int)=3→aT.L2 Q m:=by
    intro j
    induction j with
    | zero =>
      rintro m h0 h1
      refine aT.cM ?_
      unfold aT.B2
      rw [decide_eq_false (by omega),aa]
      exact H _
    | succ j ih =>
      rintro m h0 h1
      refine aT.cM ?_
      unfold aT.B2
      rw [decide_eq_true (by omega),ak,jQ]
      rw [eL (n:=4*m.v24) (by omega),eL (n:=13+m.v24) (by omega),eL (n:=m.v24+1) (by omega)]
      refine ⟨⟨by omega,by omega,by rw [Vector.length_toList]; omega⟩,De ?_ fun _=>ixv (by omega) (by omega) fun _=>ih _ (by dsimp only; omega) (by dsimp only; omega)⟩
      have:=jR (l:=m.gC.toList) (i:=4*m.v24) (j:=((12:Nat):Int)) (by rw [Vector.length_toList]; omega)
      omega
  have l1: ∀ (j:Nat) (m:aT.V),0≤m.v11→m.v11+(j:Int)=8→aT.L1 Q m:=by
    intro j
    induction j with
    | zero =>
      rintro m h0 h1
      refine aT.bY ?_
      unfold aT.B1
      rw [decide_eq_false (by omega),aa]
      exact ixv (by decide) (by decide) fun _=>l2 3 _ (by dsimp only; omega) (by dsimp only; omega)
    | succ j ih =>
      rintro m h0 h1
      refine aT.bY ?_
      unfold aT.B1
      rw [decide_eq_true (by omega),ak,jQ]
      rw [eL (n:=4*m.v11) (by omega),eL (n:=4+m.v11) (by omega),eL (n:=m.v11+1) (by omega)]
      refine ⟨⟨by omega,by omega,by rw [Vector.length_toList]; omega⟩,De ?_ fun _=>ixv (by omega) (by omega) fun _=>ih _ (by dsimp only; omega) (by dsimp only; omega)⟩
      have:=jR (l:=m.qo.toList) (i:=4*m.v11) (j:=((32:Nat):Int)) (by rw [Vector.length_toList]; omega)
      omega
  exact l1 8 _ (by dsimp only; omega) (by dsimp only; omega)
theorem FD {x:Int} (h:0≤x):Int.tmod x 4=x % 4:=Int.tmod_eq_emod_of_nonneg h
theorem RQ {x:Int} (h:0≤x):Int.tdiv x 4=x / 4:=Int.tdiv_eq_ediv_of_nonneg h
theorem EI {k : Vector Int 32} {n : Vector Int 12} {c : Int} {Q : ay.QT} (H : ∀ r, Q r) : ay k n c Q := by
  have l4: ∀ (j:Nat) (m:ay.V),0≤m.l6→m.l6+(j:Int)=64→ay.L4 Q m:=by
    intro j
    induction j with
    | zero =>
      rintro m h0 h1
      refine ay.kg ?_
      unfold ay.B4
      rw [decide_eq_false (by omega),aa]
      exact H _
    | succ j ih =>
      rintro m h0 h1
      refine ay.kg ?_
      unfold ay.B4
      rw [decide_eq_true (by omega),ak]
      rw [RQ (by omega),FD (by omega),eL (n:=m.l6 / 4) (by omega),eL (n:=8*(m.l6 % 4)) (by omega),eL (n:=m.l6+1) (by omega)]
      refine ixv (by omega) (by omega) fun _=>ixv (by omega) (by omega) fun _=>⟨by omega,ixv (by omega) (by omega) fun _=>ih _ (by dsimp only; omega) (by dsimp only; omega)⟩
  have l1 : ∀ (j : Nat) (m : ay.V), 0 ≤ m.v20 → m.v20 + (j : Int) = 10 → ay.L1 Q m := by
    intro j
    induction j with
    | zero =>
      rintro m h0 h1
      refine ay.bY ?_
      unfold ay.B1
      rw [decide_eq_false (by omega),aa]
      exact l4 64 _ (by dsimp only; omega) (by dsimp only; omega)
    | succ j ih =>
      rintro m h0 h1
      have l3: ∀ (i:Nat) (m':ay.V),m'.v20=m.v20→0≤m'.jB→m'.jB+(i:Int)=4→ay.L3 (ay.L1 Q) Q m':=by
        intro i
        induction i with
        | zero =>
          rintro m' e h0 h1
          refine ay.ff _ ?_
          unfold ay.B3
          rw [decide_eq_false (by omega),aa]
          exact ih _ (by dsimp only; rw [eL (by omega)]; omega) (by dsimp only; rw [eL (by omega)]; omega)
        | succ i wF =>
          rintro m' e h0 h1
          refine ay.ff _ ?_
          unfold ay.B3
          rw [decide_eq_true (by omega),ak]
          rw [eL (n:=m'.jB+1) (by omega),eL (n:=m'.jB+2) (by omega),eL (n:=m'.jB+3) (by omega),FD (by omega),FD (by omega),FD (by omega),
            eL (n:=4+(m'.jB+1) % 4) (by omega),eL (n:=8+(m'.jB+2) % 4) (by omega),eL (n:=12+(m'.jB+3) % 4) (by omega)]
          exact wQ (by omega) (by omega) (by omega) (by omega) fun _=>wF _ e (by dsimp only; omega) (by dsimp only; omega)
      have l2: ∀ (i:Nat) (m':ay.V),m'.v20=m.v20→0≤m'.l9→m'.l9+(i:Int)=4→ay.L2 (ay.L1 Q) Q m':=by
        intro i
        induction i with
        | zero =>
          rintro m' e h0 h1
          refine ay.cM _ ?_
          unfold ay.B2
          rw [decide_eq_false (by omega),aa]
          exact l3 4 _ e (by dsimp only; omega) (by dsimp only; omega)
        | succ i wF =>
          rintro m' e h0 h1
          refine ay.cM _ ?_
          unfold ay.B2
          rw [decide_eq_true (by omega),ak]
          rw [eL (n:=m'.l9+1) (by omega),eL (n:=4+m'.l9) (by omega),eL (n:=8+m'.l9) (by omega),eL (n:=12+m'.l9) (by omega)]
          exact wQ (by omega) (by omega) (by omega) (by omega) fun _=>wF _ e (by dsimp only; omega) (by dsimp only; omega)
      refine ay.bY ?_
      unfold ay.B1
      rw [decide_eq_true (by omega),ak]
      exact l2 4 _ rfl (by dsimp only; omega) (by dsimp only; omega)
  unfold ay
  exact Ic fun _=>l1 10 _ (by dsimp only; omega) (by dsimp only; omega)
theorem Ie {k : Vector Int 32} {n : Vector Int 12} {c : Int} {b : List Int} {Q : bI.QT} (hb : b.length ≤ 1000000) (H : ∀ r, r.length = b.length → Q r) : bI k n c b Q := by
  have l1 : ∀ (j : Nat) (m : bI.V), m.gE.length = b.length → 0 ≤ m.iJ → (b.length : Int) ≤ m.iJ + (j : Int) → m.iJ ≤ 2000000 → bI.L1 Q m := by
    intro j
    induction j with
    | zero =>
      rintro m e h0 h1 h2
      refine bI.bY ?_
      unfold bI.B1
      rw [e,if_neg (by omega),decide_eq_false (by omega),aa]
      exact H _ e
    | succ j ih =>
      rintro m e h0 h1 h2
      refine bI.bY ?_
      unfold bI.B1
      rw [e,if_neg (by omega)]
      by_cases hlt:m.iJ<(b.length:Int)
      · rw [decide_eq_true hlt, ak]
        rw [eL (n:=m.iJ+64) (by omega)]
        have hhi: ∃ hi:Int,(if (b.length:Int)<m.iJ+64 then (b.length:Int) else m.iJ+64)=hi∧m.iJ<hi∧hi≤m.iJ+64∧hi≤(b.length:Int):=by
          split
          · exact ⟨_,rfl,by omega,by omega,by omega⟩
          · exact ⟨_,rfl,by omega,by omega,by omega⟩
        obtain ⟨hi,ehi,hh1,hh2,hh3⟩:=hhi
        rw [ehi]
        refine EI fun s=>⟨⟨by omega,by omega,by omega⟩, ?_⟩
        have hsl:=jR (l:=m.gE) (i:=m.iJ) (j:=hi) (by omega)
        have l2: ∀ (i:Nat) (m':bI.V),m'.gE.length=b.length→m'.iJ=m.iJ→m'.Rl=hi - m.iJ→0≤m'.jB→m'.jB+(i:Int)=hi - m.iJ→bI.L2 (bI.L1 Q) Q m':=by
          intro i
          induction i with
          | zero =>
            rintro m' e1 e2 e3 h3 h4
            refine bI.cM _ ?_
            unfold bI.B2
            rw [decide_eq_false (by omega),aa]
            exact ih _ e1 (by dsimp only; rw [eL (by omega)]; omega) (by dsimp only; rw [eL (by omega)]; omega) (by dsimp only; rw [eL (by omega)]; omega)
          | succ i wF =>
            rintro m' e1 e2 e3 h3 h4
            refine bI.cM _ ?_
            unfold bI.B2
            rw [decide_eq_true (by omega),ak]
            rw [eL (n:=m'.iJ+m'.jB) (by omega),eL (n:=m'.jB+1) (by omega)]
            exact ixl (by omega) (by omega) fun _=>ixv (by omega) (by omega) fun _=>ixl (by omega) (by omega) fun _=>wF _ (by dsimp only; rw [List.length_set]; exact e1) e2 e3 (by dsimp only; omega) (by dsimp only; omega)
        exact l2 (hi - m.iJ).toNat _ e rfl hsl (by dsimp only; omega) (by dsimp only; omega)
      · rw [decide_eq_false hlt, aa]
        exact H _ e
  unfold bI
  exact ⟨ct (by simp; omega),l1 b.length _ (by simp) (by dsimp only; omega) (by dsimp only; omega) (by dsimp only; omega)⟩
theorem Ig {e b : Int} {Q : bX.QT} (H : ∀ r, Q r) : bX e b Q := by
  have l1: ∀ (j:Nat) (m:bX.V),0≤m.v7→m.v7+(j:Int)=12→bX.L1 Q m:=by
    intro j
    induction j with
    | zero =>
      rintro m h0 h1
      refine bX.bY ?_
      unfold bX.B1
      rw [decide_eq_false (by omega),aa]
      exact H _
    | succ j ih =>
      rintro m h0 h1
      refine bX.bY ?_
      unfold bX.B1
      rw [decide_eq_true (by omega),ak]
      by_cases h:m.v7<4
      · rw [decide_eq_true h, ak, eL (n := 8 * m.v7) (by omega)]
        refine gD (by omega) (ixv (by omega) (by omega) fun _=>ih _ ?_ ?_)
        · dsimp only; rw [eL (by omega)]; omega
        · dsimp only; rw [eL (by omega)]; omega
      · rw [decide_eq_false h, aa, eL (n := m.v7 - 4) (by omega), eL (n := 8 * (m.v7 - 4)) (by omega)]
        refine gD (by omega) (ixv (by omega) (by omega) fun _=>ih _ ?_ ?_)
        · dsimp only; rw [eL (by omega)]; omega
        · dsimp only; rw [eL (by omega)]; omega
  exact l1 12 _ (by dsimp only; omega) (by dsimp only; omega)
theorem LI {k:Vector Int 32} {e n:Int} {p:List Int} {Q:dF.QT} (hp:p.length=256) (hn:0≤n) (H: ∀ r,r.length=256→Q r 0):dF k e n p Q:=by
  unfold dF dF.K1
  rw [hp,show (((256:Nat):Int) !=256)=false by decide,aa,decide_eq_false (by omega)]
  dsimp only
  rw [aa]
  exact Ig fun _=>Ie (by omega) fun r hr=>H r (by omega)
end Go.Pt
namespace Go.Pt
open Go Go.Wc Go.Pu
theorem Ih {b:List Int} {Q:Int→Prop} (hb:b.length≤1000000) (H: ∀ r,Q r):cX b Q:=by
  have l1: ∀ (j:Nat) (m:cX.V),m.v6=b→m.v7=(b.length:Int)→0≤m.v8→m.v8+(j:Int)=(b.length:Int)→cX.L1 Q m:=by
    intro j
    induction j with
    | zero =>
      rintro m e1 e2 h0 h1
      refine cX.bY ?_
      unfold cX.B1
      rw [decide_eq_false (by omega),aa]
      exact H _
    | succ j ih =>
      rintro m e1 e2 h0 h1
      refine cX.bY ?_
      unfold cX.B1
      rw [decide_eq_true (by omega),ak]
      refine ixl (by omega) (by rw [e1]; omega) fun _=>ih _ e1 e2 ?_ ?_
      · dsimp only; rw [eL (by omega)]; omega
      · dsimp only; rw [eL (by omega)]; omega
  exact l1 b.length _ rfl rfl (by dsimp only; omega) (by dsimp only; omega)
theorem EJ {b : List Int} {Q : cu.QT} (hb : b.length = 64) (H : ∀ r, Q r) : cu b Q := by
  have l1 : ∀ (j : Nat) (m : cu.V), m.b0 = b → 0 ≤ m.v9 → m.v9 + (j : Int) = 64 → cu.L1 Q m := by
    intro j
    induction j with
    | zero =>
      rintro m e1 h0 h1
      refine cu.bY ?_
      unfold cu.B1
      rw [decide_eq_false (by omega),aa]
      exact H _
    | succ j ih =>
      rintro m e1 h0 h1
      refine cu.bY ?_
      unfold cu.B1
      rw [decide_eq_true (by omega),ak]
      have k2: ∀ m':cu.V,m'.b0=b→m'.v9=m.v9→cu.K2 (cu.L1 Q) Q m':=by
        intro m' e2 e3
        unfold cu.K2
        refine ih _ e2 ?_ ?_
        · dsimp only; rw [eL (by omega)]; omega
        · dsimp only; rw [eL (by omega)]; omega
      by_cases h:m.v9<16
      · rw [decide_eq_true h, ak, e1, eL (n := 4 * m.v9) (by omega), eL (n := 4 * m.v9 + 4) (by omega)]
        refine ⟨⟨by omega,by omega,by omega⟩,Ih ?_ fun _=>ixv (by omega) (by omega) fun _=>k2 _ rfl rfl⟩
        have:=jR (l:=b) (i:=4*m.v9) (j:=4*m.v9+4) (by omega)
        omega
      · rw [decide_eq_false h, aa, eL (n := m.v9 - 15) (by omega), eL (n := m.v9 - 2) (by omega), eL (n := m.v9 - 7) (by omega), eL (n := m.v9 - 16) (by omega)]
        exact ixv (by omega) (by omega) fun _=>ixv (by omega) (by omega) fun _=>kB fun _=>kB fun _=>kB fun _=>kB fun _=>
          ixv (by omega) (by omega) fun _=>ixv (by omega) (by omega) fun _=>ixv (by omega) (by omega) fun _=>k2 _ e1 rfl
  exact l1 64 _ rfl (by dsimp only; omega) (by dsimp only; omega)
theorem EK {h : Vector Int 8} {b : List Int} {Q : cq.QT} (hb : b.length = 64) (H : ∀ r, Q r) : cq h b Q := by
  have l2: ∀ (j:Nat) (m:cq.V),0≤m.zk→m.zk+(j:Int)=8→cq.L2 Q m:=by
    intro j
    induction j with
    | zero =>
      rintro m h0 h1
      refine cq.cM ?_
      unfold cq.B2
      rw [decide_eq_false (by omega),aa]
      exact H _
    | succ j ih =>
      rintro m h0 h1
      refine cq.cM ?_
      unfold cq.B2
      rw [decide_eq_true (by omega),ak]
      refine ixv (by omega) (by omega) fun _=>ixv (by omega) (by omega) fun _=>ixv (by omega) (by omega) fun _=>ih _ ?_ ?_
      · dsimp only; rw [eL (by omega)]; omega
      · dsimp only; rw [eL (by omega)]; omega
  have l1: ∀ (j:Nat) (m:cq.V),0≤m.jO→m.jO+(j:Int)=64→cq.L1 Q m:=by
    intro j
    induction j with
    | zero =>
      rintro m h0 h1
      refine cq.bY ?_
      unfold cq.B1
      rw [decide_eq_false (by omega),aa]
      exact l2 8 _ (by dsimp only; omega) (by dsimp only; omega)
    | succ j ih =>
      rintro m h0 h1
      refine cq.bY ?_
      unfold cq.B1
      rw [decide_eq_true (by omega),ak]
      refine ixv (by omega) (by omega) fun _=>ixv (by omega) (by omega) fun _=>ixv (by omega) (by omega) fun _=>ixv (by omega) (by omega) fun _=>ixv (by omega) (by omega) fun _=>ixv (by omega) (by omega) fun _=>ixv (by omega) (by omega) fun _=>
        kB fun _=>kB fun _=>kB fun _=>ixv (by omega) (by omega) fun _=>ixv (by omega) (by omega) fun _=>ixv (by omega) (by omega) fun _=>ixv (by omega) (by omega) fun _=>kB fun _=>kB fun _=>kB fun _=>
        ⟨⟨by omega,by omega,by rw [Vector.length_toList]; omega⟩,⟨by omega,by omega,by rw [Vector.length_toList]; omega⟩,ixv (by omega) (by omega) fun _=>ixv (by omega) (by omega) fun _=>ixv (by omega) (by omega) fun _=>ih _ ?_ ?_⟩
      · dsimp only; rw [eL (by omega)]; omega
      · dsimp only; rw [eL (by omega)]; omega
  unfold cq
  exact EJ hb fun _=>l1 64 _ (by dsimp only; omega) (by dsimp only; omega)
theorem wR {s : cO} {b : List Int} {Q : aJ.QT} (hb : b.length ≤ 1000000) (hr : s.rest.length ≤ 1000) (H : ∀ r : cO, r.rest.length = (s.rest.length + b.length) % 64 → Q r) : aJ s b Q := by
  have l2 : ∀ (j : Nat) (m : aJ.V), m.jH.length ≤ j → m.jH.length % 64 = (s.rest.length + b.length) % 64 → aJ.L2 Q m := by
    intro j
    induction j with
    | zero =>
      rintro m h0 h1
      refine aJ.cM ?_
      unfold aJ.B2
      rw [decide_eq_false (by omega),aa]
      exact H _ (by dsimp only; omega)
    | succ j ih =>
      rintro m h0 h1
      refine aJ.cM ?_
      unfold aJ.B2
      by_cases h:(m.jH.length:Int)≥64
      · rw [decide_eq_true h, ak]
        refine ⟨⟨by omega,by omega,by omega⟩,EK ?_ fun _=>⟨⟨by omega,by omega,by omega⟩,ih _ ?_ ?_⟩⟩
        · have:=jR (l:=m.jH) (i:=0) (j:=64) (by omega); omega
        · have := jR (l := m.jH) (i := 64) (j := (m.jH.length : Int)) (by omega)
          dsimp only; omega
        · have := jR (l := m.jH) (i := 64) (j := (m.jH.length : Int)) (by omega)
          dsimp only; omega
      · rw [decide_eq_false h, aa]
        exact H _ (by dsimp only; omega)
  have k3: ∀ m:aJ.V,m.s2.rest=s.rest→m.b1=b→aJ.K3 Q m:=by
    intro m e1 e2
    unfold aJ.K3
    rw [e1,e2]
    refine ⟨ct (by simp only [List.length_nil]; omega),ct (by simp only [List.length_append,List.length_nil]; omega),l2 (s.rest.length+b.length) _ ?_ ?_⟩
    · dsimp only; simp only [List.length_append,List.length_nil]; omega
    · dsimp only; simp only [List.length_append,List.length_nil,Nat.zero_add]
  have k1: ∀ m:aJ.V,m.s2.rest=s.rest→m.b1=b→aJ.K1 Q m:=by
    intro m e1 e2
    unfold aJ.K1
    cases m.kD with
    | true=>exact k3 _ e1 e2
    | false=>exact k3 _ e1 e2
  unfold aJ
  cases decide (s.n<64) with
  | true=>rw [ak]; refine k1 _ ?_ ?_ <;> rfl
  | false=>rw [aa]; refine k1 _ ?_ ?_ <;> rfl
theorem Ii {s : cO} {Q : aI.QT} (hr : s.rest.length ≤ 1000) (H : ∀ r, Q r) : aI s Q := by
  have l3: ∀ (j:Nat) (m:aI.V),0≤m.zl→m.zl+(j:Int)=32→aI.L3 Q m:=by
    intro j
    induction j with
    | zero =>
      rintro m h0 h1
      refine aI.ff ?_
      unfold aI.B3
      rw [decide_eq_false (by omega),aa]
      exact H _
    | succ j ih =>
      rintro m h0 h1
      refine aI.ff ?_
      unfold aI.B3
      rw [decide_eq_true (by omega),ak]
      rw [RQ (by omega),FD (by omega),eL (n:=m.zl / 4) (by omega),eL (n:=8*(m.zl % 4)) (by omega),eL (n:=24 - 8*(m.zl % 4)) (by omega)]
      refine ixv (by omega) (by omega) fun _=>gD (by omega) (ixv (by omega) (by omega) fun _=>ih _ ?_ ?_)
      · dsimp only; rw [eL (by omega)]; omega
      · dsimp only; rw [eL (by omega)]; omega
  have l2: ∀ (j:Nat) (m:aI.V),m.s1=s→m.lq.length+j≤200→0≤m.v21→m.v21+(j:Int)=8→aI.L2 Q m:=by
    intro j
    induction j with
    | zero =>
      rintro m e h h0 h1
      refine aI.cM ?_
      unfold aI.B2
      rw [decide_eq_false (by omega),aa,e]
      exact wR (by omega) hr fun _ _=>l3 32 _ (by dsimp only; omega) (by dsimp only; omega)
    | succ j ih =>
      rintro m e h h0 h1
      refine aI.cM ?_
      unfold aI.B2
      rw [decide_eq_true (by omega),ak]
      rw [eL (n:=7 - m.v21) (by omega),eL (n:=8*(7 - m.v21)) (by omega)]
      refine gD (by omega) ⟨ct (by simp only [List.length_cons,List.length_nil]; omega),ih _ e ?_ ?_ ?_⟩
      · dsimp only; simp only [List.length_append,List.length_cons,List.length_nil]; omega
      · dsimp only; rw [eL (by omega)]; omega
      · dsimp only; rw [eL (by omega)]; omega
  have l1: ∀ (j:Nat) (m:aI.V),m.s1=s→m.lq.length+j≤100→(s.rest.length+m.lq.length+8+j) % 64=0→aI.L1 Q m:=by
    intro j
    induction j with
    | zero =>
      rintro m e h h0
      refine aI.bY ?_
      unfold aI.B1
      rw [e,eL (n:=(s.rest.length:Int)+(m.lq.length:Int)) (by omega),eL (n:=(s.rest.length:Int)+(m.lq.length:Int)+8) (by omega),Int.tmod_eq_emod_of_nonneg (by omega)]
      rw [show (((s.rest.length:Int)+(m.lq.length:Int)+8) % 64 !=0)=false by simp; omega,aa]
      exact l2 8 _ (by first | exact e | rfl) (by dsimp only; omega) (by dsimp only; omega) (by dsimp only; omega)
    | succ j ih =>
      rintro m e h h0
      refine aI.bY ?_
      unfold aI.B1
      rw [e,eL (n:=(s.rest.length:Int)+(m.lq.length:Int)) (by omega),eL (n:=(s.rest.length:Int)+(m.lq.length:Int)+8) (by omega),Int.tmod_eq_emod_of_nonneg (by omega)]
      cases hh:(((s.rest.length:Int)+(m.lq.length:Int)+8) % 64 !=0) with
      | false =>
        rw [aa]
        exact l2 8 _ (by first | exact e | rfl) (by dsimp only; omega) (by dsimp only; omega) (by dsimp only; omega)
      | true =>
        rw [ak]
        refine ⟨ct (by simp only [List.length_cons,List.length_nil]; omega),ih _ (by first | exact e | rfl) ?_ ?_⟩
        · dsimp only; simp only [List.length_append,List.length_cons,List.length_nil]; omega
        · dsimp only; simp only [List.length_append,List.length_cons,List.length_nil]; omega
  unfold aI
  refine l1 ((64 - (s.rest.length+9) % 64) % 64) _ rfl ?_ ?_
  · dsimp only; simp only [List.length_cons,List.length_nil]; omega
  · dsimp only; simp only [List.length_cons,List.length_nil]; omega
theorem LJ {b:List Int} {Q:cZ.QT} (hb:b.length≤1000000) (H: ∀ r,Q r):cZ [b] Q:=by
  unfold cZ tw
  refine cZ.bY ?_
  unfold cZ.B1; dsimp only
  rw [show decide ((0:Int)<(([b].length:Nat):Int))=true from rfl,ak]
  refine gB 0 rfl (by simp) ?_
  refine wR hb (by decide) fun r hr=> ?_
  refine cZ.bY ?_
  unfold cZ.B1; dsimp only
  rw [show decide (IntKind.wrap .i64 ((0:Int)+1)<(([b].length:Nat):Int))=false from rfl,aa]
  exact Ii (by rw [hr]; omega) fun _=>H _
theorem EL {b:List Int} {σ:St Obj} {Q:bB.QT} (hb:b.length≤1000000) (H: ∀ r,Q r σ):bB none b σ Q:=by
  unfold bB
  rw [show (!(Option.isNone (none:Option Addr)))=false from rfl,aa]
  unfold bB.K1; dsimp only
  rw [aa]
  exact LJ hb fun _=>H _
theorem tq {k:Vector Int 32} {e pl n:Int} {p:List Int} {σ:St Obj} {Q:cw.QT} (hp:p.length=256) (hn:0≤n) (hpl:pl=0∨pl=1) (H: ∀ r d,Q r ⟨pl,e,d⟩ 0 σ):cw none k e pl n p σ Q:=by
  unfold cw
  refine LI hp hn fun r hr=> ?_
  rw [show ((0:Int) !=0)=false from rfl,aa]
  unfold lg
  have fin: ∀ m:cw.V,m.b0=none→m.cU=e→m.eY=pl→m.v31=false→m.Kh.length=256→cw.K1 Q m σ:=by
    rintro ⟨b0,cU,eY,gF,Kh,v31⟩ e1 e2 e3 e4 e5
    dsimp only at e1 e2 e3 e4 e5
    subst e1 e2 e3 e4
    unfold cw.K1; dsimp only
    rw [aa]
    exact EL (by omega) fun _=>H _ _
  rcases hpl with rfl | rfl
  · rw [show ((0 : Int) == 0) = true from rfl, ak]
    refine fin _ ?_ ?_ ?_ ?_ ?_ <;> first | rfl | exact hr
  · rw [show ((1 : Int) == 0) = false from rfl, aa]
    refine fin _ ?_ ?_ ?_ ?_ ?_ <;> first | rfl | exact hr
end Go.Pt
namespace Go.Pt
open Go Go.Wc Go.Pu
def kL:List Int:=[1116352408,1899447441,3049323471,3921009573,961987163,1508970993,2453635748,2870763221,3624381080,310598401,607225278,1426881987,1925078388,2162078206,2614888103,3248222580,3835390401,4022224774,264347078,604807628,770255983,1249150122,1555081692,1996064986,2554220882,2821834349,2952996808,3210313671,3336571891,3584528711,113926993,338241895,666307205,773529912,1294757372,1396182291,1695183700,1986661051,2177026350,2456956037,2730485921,2820302411,3259730800,3345764771,3516065817,3600352804,4094571909,275423344,430227734,506948616,659060556,883997877,958139571,1322822218,1537002063,1747873779,1955562222,2024104815,2227730452,2361852424,2428436474,2756734187,3204031479,3329325298]
def firstL:List Int:=[1779033703,3144134277,1013904242,2773480762,1359893119,2600822924,528734635,1541459225]
def xG (a b:Int):Int:=IntKind.wrap .u32 (((BitVec.ofInt (IntKind.bits .u32) a ^^^ (BitVec.ofInt (IntKind.bits .u32) b)).toNat:Int))
def ON (a b:Int):Int:=IntKind.wrap .u32 (((BitVec.ofInt (IntKind.bits .u32) a &&& (BitVec.ofInt (IntKind.bits .u32) b)).toNat:Int))
def N32 (a:Int):Int:=IntKind.wrap .u32 ((4294967295:Int) - a)
def add (a b:Int):Int:=IntKind.wrap .u32 (a+b)
theorem wA {x k:Int} {n:Nat} {Q:Int→Prop} (hx:lM x) (hn:0<n∧n<32)
    (hk:IntKind.wrap .u64 (((BitVec.ofInt (IntKind.bits .u64) (IntKind.wrap .u64 k) &&& (BitVec.ofInt (IntKind.bits .u64) (31:Int))).toNat:Int))=((32 - n:Nat):Int)) (H:Q (rotR n x)):dU x k Q:=by
  unfold dU
  rw [hk,show IntKind.wrap .u64 ((32:Int) - ((32 - n:Nat):Int))=(n:Int) by rw [wrap_u64 (by omega) (by omega)]; omega]
  refine gD (by omega) (gD (by omega) ?_)
  have e1:min (Int.toNat ((32 - n:Nat):Int)) (IntKind.bits .u32)=32 - n:=by
    rw [Int.toNat_natCast]; exact Nat.min_eq_left (show 32 - n≤32 by omega)
  have e2:min (Int.toNat (n:Int)) (IntKind.bits .u32)=n:=by
    rw [Int.toNat_natCast]; exact Nat.min_eq_left (show n≤32 by omega)
  rw [e1,e2]
  have hP:=oB n
  have hS:=oB (32 - n)
  have hPS:=vk (n:=n) (by omega)
  have e3:IntKind.wrap .u32 (x*2 ^ (32 - n))=x % 2 ^ n*2 ^ (32 - n):=by
    rw [wrap_u32,← hPS,Int.mul_comm x,Int.mul_comm (2 ^ n),Int.mul_emod_mul_of_pos _ _ hS,Int.mul_comm]
  have e4:Int.fdiv x (2 ^ n)=x / 2 ^ n:=Int.fdiv_eq_ediv_of_nonneg _ (by omega)
  have hw:=Ao (n:=n) (by omega) hx
  rw [e3,e4]
  have e5:=uh (P:=2 ^ (32 - n)) (S:=0) (a:=x % 2 ^ n) (r:=x / 2 ^ n) (n:=32 - n) rfl ⟨Int.ediv_nonneg hx.1 (by omega), ?_⟩ (Int.emod_nonneg _ (by omega)) ?_
  · have e6 : x % 2 ^ n * 2 ^ (32 - n) + x / 2 ^ n = rotR n x := by unfold rotR; exact Int.add_comm _ _
    rw [e6] at e5
    rw [show ((BitVec.ofInt (IntKind.bits .u32) (x % 2 ^ n*2 ^ (32 - n)) ||| BitVec.ofInt (IntKind.bits .u32) (x / 2 ^ n)).toNat:Int)=rotR n x from e5,cV hw]
    exact H
  · refine Int.ediv_lt_of_lt_mul hP ?_
    rw [Int.mul_comm,hPS]; exact hx.2
  · have := hw.2
    unfold rotR at this; omega
theorem iy {x k:Int} {n:Nat} {Q:Int→Prop} (hx:lM x) (hk:k=(n:Int)) (hn:0<n∧n<32) (H:Q (rotR n x)):gn x k Q:=by
  subst hk
  unfold gn
  rw [Int.tmod_eq_emod_of_nonneg (by omega),eL (n:=0 - (n:Int) % 32) (by omega)]
  refine wA hx hn ?_ H
  have: ∀ m:Fin 32,0<m.val→IntKind.wrap .u64 (((BitVec.ofInt (IntKind.bits .u64) (IntKind.wrap .u64 (0 - (m.val:Int) % 32)) &&& (BitVec.ofInt (IntKind.bits .u64) (31:Int))).toNat:Int))=((32 - m.val:Nat):Int):=by decide+kernel
  exact this ⟨n,hn.2⟩ hn.1
theorem yP (a b:Int):lM (xG a b):=um _
theorem yX (a b:Int):lM (add a b):=um _
theorem not_eq {x:Int} (hx:lM x):IntKind.wrap .u32 ((BitVec.ofInt (IntKind.bits .u32) (if IntKind.signed .u32 then -1 else IntKind.max .u32) ^^^ BitVec.ofInt (IntKind.bits .u32) x).toNat:Int)=N32 x:=by
  obtain ⟨h0,h1⟩:=hx
  obtain ⟨n,rfl⟩:=Int.eq_ofNat_of_zero_le h0
  unfold N32
  show IntKind.wrap .u32 ((BitVec.ofInt 32 4294967295 ^^^ BitVec.ofInt 32 (n:Int)).toNat:Int)=_
  rw [show BitVec.ofInt 32 4294967295=BitVec.allOnes 32 from by decide,BitVec.ofInt_natCast,BitVec.allOnes_xor,BitVec.toNat_not,BitVec.toNat_ofNat,Nat.mod_eq_of_lt (by omega)]
  congr 1
  omega
def mF (l:List Int):Prop:= ∀ x ∈ l,lM x
theorem gr {l:List Int} (h:mF l) (i:Nat):lM (l.getD i 0):=by
  rw [List.getD_eq_getElem?_getD]
  cases e:l[i]? with
  | none=>exact ⟨by decide,by decide⟩
  | some x=>exact h x (List.mem_of_getElem? e)
def bigW (a b c d:Int):Int:=a*16777216+b*65536+c*256+d
def schedS (x y a c:Int):Int:=add (add (add (xG (xG (rotR 17 y) (rotR 19 y)) (y / 1024)) a) (xG (xG (rotR 7 x) (rotR 18 x)) (x / 8))) c
def wNext (b l:List Int) (t:Nat):Int:=
  if t<16 then bigW (b.getD (4*t) 0) (b.getD (4*t+1) 0) (b.getD (4*t+2) 0) (b.getD (4*t+3) 0)
  else schedS (l.getD (t - 15) 0) (l.getD (t - 2) 0) (l.getD (t - 7) 0) (l.getD (t - 16) 0)
def wl (b:List Int):Nat→List Int
  | 0=>[]
  | t+1=>wl b t++[wNext b (wl b t) t]
theorem ye (b:List Int): ∀ t,(wl b t).length=t
  | 0=>rfl
  | t+1=>by simp [wl,ye b t]
theorem dI {b:List Int} (h:bytesL b) (i:Nat):0≤b.getD i 0∧b.getD i 0<256:=by
  rw [List.getD_eq_getElem?_getD]
  cases e:b[i]? with
  | none=>exact ⟨by decide,by decide⟩
  | some x=>exact h x (List.mem_of_getElem? e)
theorem QD {a b c d:Int} (ha:0≤a∧a<256) (hb:0≤b∧b<256) (hc:0≤c∧c<256) (hd:0≤d∧d<256):lM (bigW a b c d):=by unfold bigW lM; omega
theorem Mj {b l:List Int} (hb:bytesL b) (t:Nat):lM (wNext b l t):=by
  unfold wNext
  split
  · exact QD (dI hb _) (dI hb _) (dI hb _) (dI hb _)
  · exact yX _ _
theorem QB {b:List Int} (hb:bytesL b): ∀ t,mF (wl b t)
  | 0=>fun _ h=>by cases h
  | t + 1 => fun x h => by
    rcases List.mem_append.1 h with h | h
    · exact QB hb t x h
    · rw [List.mem_singleton.1 h]; exact Mj hb t
def s1S (e:Int):Int:=xG (xG (rotR 6 e) (rotR 11 e)) (rotR 25 e)
def s0S (a:Int):Int:=xG (xG (rotR 2 a) (rotR 13 a)) (rotR 22 a)
def chS (e f g:Int):Int:=xG (ON e f) (ON (N32 e) g)
def mjS (a b c:Int):Int:=xG (xG (ON a b) (ON a c)) (ON b c)
def stepS : List Int → Int → Int → List Int
  | [a, b, c, d, e, f, g, h], k, w =>
    let p:=add (add (add (add h (s1S e)) (chS e f g)) k) w
    [add p (add (s0S a) (mjS a b c)),a,b,c,add d p,e,f,g]
  | l,_,_=>l
def roundsS (w h:List Int):Nat→List Int
  | 0=>h
  | t+1=>stepS (roundsS w h t) (kL.getD t 0) (w.getD t 0)
def addS (h x:List Int):List Int:=List.zipWith add h x
def compS (h b:List Int):List Int:=addS h (roundsS (wl b 64) h 64)
theorem DD {l:List Int} (h:l.length=8): ∃ a b c d e f g k,l=[a,b,c,d,e,f,g,k]:=by
  match l,h with
  | [a,b,c,d,e,f,g,k],_=>exact ⟨a,b,c,d,e,f,g,k,rfl⟩
theorem afC (v:Vector Int 8): ∃ a b c d e f g k,v= #v[a,b,c,d,e,f,g,k]:=by
  obtain ⟨a,b,c,d,e,f,g,k,h⟩:=DD (l:=v.toList) (by rw [Vector.length_toList])
  exact ⟨a,b,c,d,e,f,g,k,by rw [← Vector.toList_inj,h]; rfl⟩
theorem E3 (l:List Int) (k w:Int) (h:l.length=8):(stepS l k w).length=8:=by
  obtain ⟨a,b,c,d,e,f,g,x,rfl⟩:=DD h
  rfl
theorem kz {w h:List Int} (hh:h.length=8): ∀ t,(roundsS w h t).length=8
  | 0=>hh
  | t+1=>E3 _ _ _ (kz hh t)
theorem Mk {l:List Int} {k w:Int} (hl:l.length=8) (h:mF l):mF (stepS l k w):=by
  obtain ⟨a,b,c,d,e,f,g,x,rfl⟩:=DD hl
  intro y hy
  simp only [stepS,List.mem_cons,List.not_mem_nil,or_false] at hy
  rcases hy with rfl | rfl | rfl | rfl | rfl | rfl | rfl | rfl
  · exact yX _ _
  · exact h _ (by simp)
  · exact h _ (by simp)
  · exact h _ (by simp)
  · exact yX _ _
  · exact h _ (by simp)
  · exact h _ (by simp)
  · exact h _ (by simp)
theorem vj {w h:List Int} (hh:h.length=8) (hw:mF h): ∀ t,mF (roundsS w h t)
  | 0=>hw
  | t+1=>Mk (kz hh t) (vj hh hw t)
theorem qT {h b:List Int} (hh:h.length=8):(compS h b).length=8:=by
  unfold compS addS
  rw [List.length_zipWith,kz hh,hh]; rfl
theorem Cc {h b:List Int}:mF (compS h b):=by
  intro x hx
  unfold compS addS at hx
  obtain ⟨i,hi,rfl⟩:=List.getElem_of_mem hx
  rw [List.getElem_zipWith]
  exact yX _ _
end Go.Pt
namespace Go.Pt
open Go Go.Wc Go.Pu
theorem ixr {X:Type} {l:List X} {i:Int} {x:X} {K:X→Prop} (h0:0≤i) (h:l[i.toNat]? =some x) (H:K x):ixP l i K:=by
  obtain ⟨n,rfl⟩:=Int.eq_ofNat_of_zero_le h0
  exact xY h H
theorem ixd {l:List Int} {i:Int} {n:Nat} {K:Int→Prop} (hi:i=(n:Int)) (h:n<l.length) (H:K (l.getD n 0)):ixP l i K:=by
  refine gB n hi h ?_
  rw [List.getD_eq_getElem?_getD,List.getElem?_eq_getElem h] at H
  exact H
theorem ixdv {m:Nat} {v:Vector Int m} {l:List Int} {i:Int} {n:Nat} {K:Int→Prop} (e:v.toList=l) (hi:i=(n:Int)) (h:n<m) (H:K (l.getD n 0)):ixP v.toList i K:=by
  subst e
  exact ixd hi (by rw [Vector.length_toList]; exact h) H
theorem jstep {w x:Int} (hw:0≤w) (hx:0≤x∧x<256) (h:w*256+x<4294967296):
    IntKind.wrap .u32 (((BitVec.ofInt (IntKind.bits .u32) (IntKind.wrap .u32 (w*2 ^ (min (Int.toNat (8:Int)) (IntKind.bits .u32)))) ||| (BitVec.ofInt (IntKind.bits .u32) (IntKind.wrap .u32 x))).toNat:Int))=w*256+x:=by
  have e1:w*2 ^ (min (Int.toNat (8:Int)) (IntKind.bits .u32))=w*256:=rfl
  rw [e1,cV (n:=w*256) ⟨by omega,by omega⟩,cV (n:=x) ⟨by omega,by omega⟩]
  have:=uh (P:=256) (S:=0) (a:=w) (r:=x) (n:=8) rfl hx hw h
  rw [show ((BitVec.ofInt (IntKind.bits .u32) (w*256) ||| BitVec.ofInt (IntKind.bits .u32) x).toNat:Int)=w*256+x from this]
  exact cV ⟨by omega,h⟩
theorem Cf {a b c d:Int} {Q:cX.QT} (ha:0≤a∧a<256) (hb:0≤b∧b<256) (hc:0≤c∧c<256) (hd:0≤d∧d<256) (H:Q (bigW a b c d)):cX [a,b,c,d] Q:=by
  unfold cX
  refine cX.bY ?_
  unfold cX.B1; dsimp only
  rw [show decide ((0:Int)<(([a,b,c,d].length:Nat):Int))=true from rfl,ak]
  refine ixr (by decide) rfl ?_
  rw [jstep (by decide) ha (by omega)]
  refine cX.bY ?_
  unfold cX.B1; dsimp only
  rw [show decide (IntKind.wrap .i64 ((0:Int)+1)<(([a,b,c,d].length:Nat):Int))=true from rfl,ak]
  refine ixr (by decide) rfl ?_
  rw [jstep (by omega) hb (by omega)]
  refine cX.bY ?_
  unfold cX.B1; dsimp only
  rw [show decide (IntKind.wrap .i64 (IntKind.wrap .i64 ((0:Int)+1)+1)<(([a,b,c,d].length:Nat):Int))=true from rfl,ak]
  refine ixr (by decide) rfl ?_
  rw [jstep (by omega) hc (by omega)]
  refine cX.bY ?_
  unfold cX.B1; dsimp only
  rw [show decide (IntKind.wrap .i64 (IntKind.wrap .i64 (IntKind.wrap .i64 ((0:Int)+1)+1)+1)<(([a,b,c,d].length:Nat):Int))=true from rfl,ak]
  refine ixr (by decide) rfl ?_
  rw [jstep (by omega) hd (by omega)]
  refine cX.bY ?_
  unfold cX.B1; dsimp only
  rw [show decide (IntKind.wrap .i64 (IntKind.wrap .i64 (IntKind.wrap .i64 (IntKind.wrap .i64 ((0:Int)+1)+1)+1)+1)<(([a,b,c,d].length:Nat):Int))=false from rfl,aa]
  rw [show (((0*256+a)*256+b)*256+c)*256+d=bigW a b c d by unfold bigW; omega]
  exact H
theorem NQ {l:List Int} {n:Nat} {i j:Int} (hi:i=(n:Int)) (hj:j=(n:Int)+4) (h:n+4≤l.length):sub l i j=[l.getD n 0,l.getD (n+1) 0,l.getD (n+2) 0,l.getD (n+3) 0]:=by
  subst hi hj
  unfold sub
  rw [show ((n:Int)+4).toNat=n+4 by omega,Int.toNat_natCast]
  apply List.ext_getElem
  · rw [List.length_drop,List.length_take]; simp; omega
  · intro k h1 h2
    rw [List.getElem_drop,List.getElem_take]
    have hk:k<4:=h2
    match k,hk with
    | 0,_=>simp [List.getD_eq_getElem?_getD,List.getElem?_eq_getElem (show n<l.length by omega)]
    | 1,_=>simp [List.getD_eq_getElem?_getD,List.getElem?_eq_getElem (show n+1<l.length by omega)]
    | 2,_=>simp [List.getD_eq_getElem?_getD,List.getElem?_eq_getElem (show n+2<l.length by omega)]
    | 3,_=>simp [List.getD_eq_getElem?_getD,List.getElem?_eq_getElem (show n+3<l.length by omega)]
theorem jr {n:Nat} {v:Vector Int n} {l r:List Int} {x y:Int} {i:Int} (e:v.toList=l++y::r) (hi:i=(l.length:Int)):(v.setIfInBounds (Int.toNat i) x).toList=(l++[x])++r:=by
  subst hi
  rw [Vector.toList_setIfInBounds,e,Int.toNat_natCast,List.set_append_right _ _ (Nat.le_refl _),Nat.sub_self]
  simp
theorem fd {x:Int} (n:Nat) (hx:0≤x):Int.fdiv x (2 ^ n)=x / 2 ^ n:=Int.fdiv_eq_ediv_of_nonneg _ (by have:=oB n; omega)
theorem nX {l r:List Int} {i:Nat} (h:i<l.length):(l++r).getD i 0=l.getD i 0:=by
  rw [List.getD_eq_getElem?_getD,List.getD_eq_getElem?_getD,List.getElem?_append_left h]
theorem Aq {b : List Int} {Q : cu.QT} (hl : b.length = 64) (hb : bytesL b) (H : ∀ v : Vector Int 64, v.toList = wl b 64 → Q v) : cu b Q := by
  have key: ∀ (j t:Nat) (m:cu.V),t+j=64→m.b0=b→m.v9=(t:Int)→m.w3.toList=wl b t++List.replicate j 0→cu.L1 Q m:=by
    intro j
    induction j with
    | zero =>
      intro t m ht e1 e2 e3
      refine cu.bY ?_
      unfold cu.B1
      rw [decide_eq_false (by omega),aa]
      refine H _ ?_
      rw [e3,show t=64 by omega]; simp
    | succ j ih =>
      intro t m ht e1 e2 e3
      have hlen:=ye b t
      have hww:=QB hb t
      refine cu.bY ?_
      unfold cu.B1
      rw [decide_eq_true (by omega),ak]
      have k2: ∀ m':cu.V,m'.b0=b→m'.v9=(t:Int)→m'.w3.toList=wl b (t+1)++List.replicate j 0→cu.K2 (cu.L1 Q) Q m':=by
        intro m' h1 h2 h3
        unfold cu.K2
        exact ih (t+1) _ (by omega) h1 (by dsimp only; rw [h2,cW (by omega)]) h3
      have hset: ∀ x,x=wNext b (wl b t) t→(m.w3.setIfInBounds (Int.toNat m.v9) x).toList=wl b (t+1)++List.replicate j 0:=by
        intro x hx
        rw [jr (i:=m.v9) (l:=wl b t) (y:=0) (r:=List.replicate j 0) (by rw [e3]; rfl) (by rw [e2,hlen]),hx]; rfl
      by_cases EB:t<16
      · rw [decide_eq_true (by omega), ak, e1, eL (n := 4 * m.v9) (by omega), eL (n := 4 * m.v9 + 4) (by omega)]
        refine ⟨⟨by omega,by omega,by omega⟩, ?_⟩
        rw [NQ (n:=4*t) (by omega) (by omega) (by omega)]
        refine Cf (dI hb _) (dI hb _) (dI hb _) (dI hb _) ?_
        refine ixdv e3 e2 (by omega) ?_
        refine k2 _ ?_ e2 (hset _ (by unfold wNext; rw [if_pos EB]))
        first | exact e1 | rfl
      · rw [decide_eq_false (by omega), aa, eL (n := m.v9 - 15) (by omega), eL (n := m.v9 - 2) (by omega), eL (n := m.v9 - 7) (by omega), eL (n := m.v9 - 16) (by omega)]
        refine ixdv (n:=t - 15) e3 (by omega) (by omega) ?_
        refine ixdv (n:=t - 2) e3 (by omega) (by omega) ?_
        rw [nX (by omega),nX (by omega)]
        refine iy (n:=7) (gr hww _) rfl (by decide) ?_
        refine iy (n:=18) (gr hww _) rfl (by decide) ?_
        refine iy (n:=17) (gr hww _) rfl (by decide) ?_
        refine iy (n:=19) (gr hww _) rfl (by decide) ?_
        refine ixdv (n:=t - 7) e3 (by omega) (by omega) ?_
        refine ixdv (n:=t - 16) e3 (by omega) (by omega) ?_
        rw [nX (by omega),nX (by omega)]
        refine ixdv e3 e2 (by omega) ?_
        refine k2 _ e1 e2 (hset _ ?_)
        unfold wNext
        rw [if_neg EB]
        rw [show min (Int.toNat (10:Int)) (IntKind.bits .u32)=10 from rfl,show min (Int.toNat (3:Int)) (IntKind.bits .u32)=3 from rfl,fd 10 (gr hww _).1,fd 3 (gr hww _).1]
        rfl
  refine key 64 0 _ (by omega) rfl rfl ?_
  dsimp only; exact Vector.toList_replicate ..
end Go.Pt
namespace Go.Pt
open Go Go.Wc Go.Pu
theorem QE (a b c d e f g k:Int):cpV #v[a,b,c,d,e,f,g,k] (Int.toNat (1:Int)) (sub (#v[a,b,c,d,e,f,g,k]).toList (0:Int) (7:Int))= #v[a,a,b,c,d,e,f,g]:=rfl
theorem WV {a b c d e f g k p q:Int} {S:Vector Int 8→Prop} (H:S #v[IntKind.wrap .u32 (p+q),a,b,c,IntKind.wrap .u32 (d+p),e,f,g]):
    (SlOk (#v[a,b,c,d,e,f,g,k]).toList (1:Int) ((8:Nat):Int))∧(SlOk (#v[a,b,c,d,e,f,g,k]).toList (0:Int) (7:Int))∧
    ixP (#v[a,a,b,c,d,e,f,g]).toList (0:Int) fun T7=>
    ixP ((#v[a,a,b,c,d,e,f,g]).setIfInBounds (Int.toNat (0:Int)) (IntKind.wrap .u32 (p+q))).toList (4:Int) fun wL=>
    ixP ((#v[a,a,b,c,d,e,f,g]).setIfInBounds (Int.toNat (0:Int)) (IntKind.wrap .u32 (p+q))).toList (4:Int) fun CV=>
    S (((#v[a,a,b,c,d,e,f,g]).setIfInBounds (Int.toNat (0:Int)) (IntKind.wrap .u32 (p+q))).setIfInBounds (Int.toNat (4:Int)) (IntKind.wrap .u32 (wL+p))):=by
  refine ⟨⟨by decide,by decide,by rw [Vector.length_toList]; decide⟩,⟨by decide,by decide,by rw [Vector.length_toList]; decide⟩, ?_⟩
  refine ixr (by decide) rfl (ixr (by decide) rfl (ixr (by decide) rfl ?_))
  exact H
theorem QA:kL.length=64:=rfl
theorem Ar {h : Vector Int 8} {b : List Int} {Q : cq.QT} (hb : b.length = 64) (hbb : bytesL b) (hw : mF h.toList) (H : ∀ r : Vector Int 8, r.toList = compS h.toList b → Q r) : cq h b Q := by
  have l2: ∀ (j t:Nat) (m:cq.V),t+j=8→m.zk=(t:Int)→m.x7.toList=roundsS (wl b 64) h.toList 64→m.h2.toList=(compS h.toList b).take t++h.toList.drop t→cq.L2 Q m:=by
    have XH:=kz (w:=wl b 64) (h:=h.toList) (Vector.length_toList ..) 64
    have hc8:=qT (h:=h.toList) (b:=b) (Vector.length_toList ..)
    have hh8:h.toList.length=8:=Vector.length_toList ..
    intro j
    induction j with
    | zero =>
      intro t m ht e1 e2 e3
      refine cq.cM ?_
      unfold cq.B2
      rw [decide_eq_false (by omega),aa]
      refine H _ ?_
      rw [e3,List.take_of_length_le (by omega),List.drop_of_length_le (by omega),List.append_nil]
    | succ j ih =>
      intro t m ht e1 e2 e3
      have hd:h.toList.drop t=h.toList.getD t 0::h.toList.drop (t+1):=by
        rw [List.drop_eq_getElem_cons (by omega),List.getD_eq_getElem?_getD,List.getElem?_eq_getElem (by omega)]; rfl
      have htk:((compS h.toList b).take t).length=t:=by rw [List.length_take]; omega
      have hg:((compS h.toList b).take t++h.toList.drop t).getD t 0=h.toList.getD t 0:=by
        rw [List.getD_eq_getElem?_getD,List.getElem?_append_right (by omega),htk,Nat.sub_self,hd]; rfl
      refine cq.cM ?_
      unfold cq.B2
      rw [decide_eq_true (by omega),ak]
      refine ixdv e3 e1 (by omega) ?_
      refine ixdv e2 e1 (by omega) ?_
      refine ixdv e3 e1 (by omega) ?_
      rw [hg]
      refine ih (t+1) _ (by omega) (by dsimp only; rw [e1,cW (by omega)]) e2 ?_
      dsimp only
      rw [jr (i:=m.zk) (l:=(compS h.toList b).take t) (y:=h.toList.getD t 0) (r:=h.toList.drop (t+1)) (by rw [e3,hd]) (by rw [e1,htk])]
      congr 1
      rw [dJ (by omega)]
      congr 1
      unfold compS addS
      rw [List.getElem_zipWith,List.getD_eq_getElem?_getD,List.getElem?_eq_getElem (by omega),List.getD_eq_getElem?_getD,List.getElem?_eq_getElem (by omega)]
      rfl
  have l1: ∀ (j t:Nat) (m:cq.V),t+j=64→m.jO=(t:Int)→m.h2=h→m.w5.toList=wl b 64→m.k6.toList=kL→m.x7.toList=roundsS (wl b 64) h.toList t→cq.L1 Q m:=by
    intro j
    induction j with
    | zero =>
      intro t m ht e1 e2 e3 e4 e5
      obtain rfl:t=64:=by omega
      refine cq.bY ?_
      unfold cq.B1
      rw [decide_eq_false (by omega),aa]
      refine l2 8 0 {m with zk:=(0:Int)} (by omega) rfl e5 ?_
      rw [List.take_zero,List.drop_zero,List.nil_append]
      exact congrArg _ e2
    | succ j ih =>
      rintro t ⟨h2,v4,w5,k6,x7,jO,zk⟩ ht e1 e2 e3 e4 e5
      dsimp only at e1 e2 e3 e4 e5
      obtain ⟨a,b',c,d,e,f,g,k,rfl⟩:=afC x7
      have hW:mF [a,b',c,d,e,f,g,k]:=by
        have:=vj (w:=wl b 64) (h:=h.toList) (Vector.length_toList ..) hw t
        rw [← e5] at this
        exact this
      have we:lM e:=hW _ (by simp)
      have wa:lM a:=hW _ (by simp)
      refine cq.bY ?_
      unfold cq.B1; dsimp only
      rw [e1,decide_eq_true (show (t:Int)<64 by omega),ak]
      refine ixr (by decide) rfl (ixr (by decide) rfl (ixr (by decide) rfl (ixr (by decide) rfl (ixr (by decide) rfl ?_))))
      refine ixdv e4 rfl (by omega) (ixdv e3 rfl (by omega) ?_)
      refine iy (n:=6) we rfl (by decide) (iy (n:=11) we rfl (by decide) (iy (n:=25) we rfl (by decide) ?_))
      refine ixr (by decide) rfl (ixr (by decide) rfl (ixr (by decide) rfl (ixr (by decide) rfl ?_)))
      refine iy (n:=2) wa rfl (by decide) (iy (n:=13) wa rfl (by decide) (iy (n:=22) wa rfl (by decide) ?_))
      rw [not_eq we,QE]
      rw [cW (by omega)]
      refine WV (S:=fun v=>cq.L1 Q ⟨h2,v4,w5,k6,v,((t+1:Nat):Int),zk⟩) ?_
      refine ih (t+1) _ (by omega) rfl e2 e3 e4 ?_
      show _=stepS (roundsS (wl b 64) h.toList t) (kL.getD t 0) ((wl b 64).getD t 0)
      rw [← e5]
      rfl
  unfold cq
  refine Aq hb hbb fun w hw5=> ?_
  exact l1 64 0 _ (by omega) rfl rfl hw5 rfl rfl
end Go.Pt
namespace Go.Pt
open Go Go.Wc Go.Pu
def goB:Nat→List Int→List Int→List Int × List Int
  | 0,h,l=>(h,l)
  | f+1,h,l=>if 64≤l.length then goB f (compS h (l.take 64)) (l.drop 64) else (h,l)
theorem pZ {f:Nat} {h l:List Int} (hl:l.length<64):goB f h l=(h,l):=by
  cases f with
  | zero=>rfl
  | succ f=>simp only [goB]; rw [if_neg (by omega)]
theorem Cg: ∀ (f:Nat) (h l:List Int),l.length<64*(f+1)→goB (f+1) h l=goB f h l
  | 0,h,l,hl=>by rw [pZ (by omega)]; rfl
  | f + 1, h, l, hl => by
    by_cases h1:64≤l.length
    · have e1 : goB (f + 1 + 1) h l = goB (f + 1) (compS h (l.take 64)) (l.drop 64) := by simp only [goB]; rw [if_pos h1]
      have e2:goB (f+1) h l=goB f (compS h (l.take 64)) (l.drop 64):=by simp only [goB]; rw [if_pos h1]
      rw [e1,e2]
      exact Cg f _ _ (by rw [List.length_drop]; omega)
    · rw [pZ (by omega),pZ (by omega)]
theorem Au: ∀ (f:Nat) (h l:List Int),(goB f h l).2.length≤l.length
  | 0,h,l=>Nat.le_refl _
  | f + 1, h, l => by
    simp only [goB]
    split
    · have := Au f (compS h (l.take 64)) (l.drop 64)
      rw [List.length_drop] at this; omega
    · exact Nat.le_refl _
theorem DG : ∀ (f : Nat) (h l m : List Int), (l ++ m).length < 64 * (f + 1) → goB f h (l ++ m) = goB f (goB f h l).1 ((goB f h l).2 ++ m)
  | 0,h,l,m,_=>rfl
  | f + 1, h, l, m, hl => by
    by_cases h1:64≤l.length
    · have e1 : goB (f + 1) h (l ++ m) = goB f (compS h (l.take 64)) (l.drop 64 ++ m) := by
        simp only [goB]
        rw [if_pos (by rw [List.length_append]; omega),List.take_append_of_le_length h1,List.drop_append_of_le_length h1]
      have e2:goB (f+1) h l=goB f (compS h (l.take 64)) (l.drop 64):=by simp only [goB]; rw [if_pos h1]
      rw [e1,e2]
      rw [List.length_append] at hl
      rw [DG f _ _ _ (by rw [List.length_append,List.length_drop]; omega)]
      have:=Au f (compS h (l.take 64)) (l.drop 64)
      rw [List.length_drop] at this
      rw [Cg f _ _ (by rw [List.length_append]; omega)]
    · rw [pZ (l:=l) (by omega)]
theorem DH: ∀ (f:Nat) (h l:List Int),l.length<64*(f+1)→(goB f h l).2.length=l.length % 64
  | 0,h,l,hl=>by show l.length=_; omega
  | f + 1, h, l, hl => by
    simp only [goB]
    split
    · rw [DH f _ _ (by rw [List.length_drop]; omega),List.length_drop]; omega
    · show l.length=_; omega
theorem DI: ∀ (f:Nat) (h l:List Int),∀ x ∈ (goB f h l).2,x ∈ l
  | 0,h,l=>fun x hx=>hx
  | f + 1, h, l => by
    intro x hx
    simp only [goB] at hx
    split at hx
    · exact List.mem_of_mem_drop (DI f _ _ x hx)
    · exact hx
theorem DE: ∀ (f:Nat) (h l:List Int),h.length=8→(goB f h l).1.length=8
  | 0,h,l,hh=>hh
  | f + 1, h, l, hh => by
    simp only [goB]
    split
    · exact DE f _ _ (qT hh)
    · exact hh
theorem Jf: ∀ (f:Nat) (h l:List Int),mF h→mF (goB f h l).1
  | 0,h,l,hh=>hh
  | f + 1, h, l, hh => by
    simp only [goB]
    split
    · exact Jf f _ _ Cc
    · exact hh
theorem oS {a b:List Int} (ha:bytesL a) (hb:bytesL b):bytesL (a++b):=fun x hx=>by
  rcases List.mem_append.1 hx with h | h
  · exact ha x h
  · exact hb x h
def startH (s:cO):List Int:=if s.n<64∧(s.rest.length:Int)=s.n then firstL else s.h.toList
theorem qU:mF firstL:=by
  intro x hx
  have:(firstL.all fun x=>decide (0≤x) && decide (x<4294967296))=true:=by decide+kernel
  have:=List.all_eq_true.1 this x hx
  simpa [lM] using this
theorem sO {s : cO} {b : List Int} {Q : aJ.QT} (F : Nat) (hn : 0 ≤ s.n) (hr : bytesL s.rest) (hb : bytesL b) (hl : s.rest.length + b.length < 64 * (F + 1)) (hF : F ≤ 10000000) (hw : mF s.h.toList)
    (H: ∀ r:cO,r.h.toList=(goB F (startH s) (s.rest++b)).1→r.rest=(goB F (startH s) (s.rest++b)).2→r.n=IntKind.wrap .u64 (s.n+IntKind.wrap .u64 (b.length:Int))→Q r):aJ s b Q:=by
  have l2 : ∀ (f : Nat) (m : aJ.V), m.jH.length < 64 * (f + 1) → bytesL m.jH → mF m.s2.h.toList → goB F (startH s) (s.rest ++ b) = goB f m.s2.h.toList m.jH → m.s2.n = IntKind.wrap .u64 (s.n + IntKind.wrap .u64 (b.length : Int)) → aJ.L2 Q m := by
    intro f
    induction f with
    | zero =>
      intro m h1 h2 h3 h4 h5
      refine aJ.cM ?_
      unfold aJ.B2
      rw [decide_eq_false (by omega),aa]
      exact H _ (by rw [h4]; rfl) (by rw [h4]; rfl) h5
    | succ f ih =>
      intro m h1 h2 h3 h4 h5
      refine aJ.cM ?_
      unfold aJ.B2
      by_cases h:(m.jH.length:Int)≥64
      · rw [decide_eq_true h, ak]
        refine ⟨⟨by omega,by omega,by omega⟩, ?_⟩
        have e1:sub m.jH 0 64=m.jH.take 64:=I6
        have e2:sub m.jH 64 (m.jH.length:Int)=m.jH.drop 64:=I7
        rw [e1,e2]
        refine Ar (by rw [List.length_take]; omega) (fun x hx=>h2 x (List.mem_of_mem_take hx)) h3 fun r hr2=> ?_
        refine ⟨⟨by omega,by omega,by omega⟩,ih _ ?_ ?_ ?_ ?_ h5⟩
        · dsimp only; rw [List.length_drop]; omega
        · exact fun x hx=>h2 x (List.mem_of_mem_drop hx)
        · dsimp only; rw [hr2]; exact Cc
        · rw [h4]
          simp only [goB]
          rw [if_pos (by omega),hr2]
      · rw [decide_eq_false h, aa]
        rw [pZ (l:=m.jH) (by omega)] at h4
        exact H _ (by rw [h4]) (by rw [h4]) h5
  have k3: ∀ m:aJ.V,m.s2.h.toList=startH s→m.s2.rest=s.rest→m.s2.n=s.n→m.b1=b→mF m.s2.h.toList→aJ.K3 Q m:=by
    intro m e0 e1 e3 e2 e4
    unfold aJ.K3
    rw [e1,e2,e3]
    refine ⟨ct (by simp only [List.length_nil]; omega),ct (by simp only [List.length_append,List.length_nil]; omega),l2 F _ ?_ ?_ ?_ ?_ rfl⟩
    · dsimp only; simp only [List.length_append,List.length_nil]; omega
    · exact oS (oS (fun _ h=>by cases h) hr) hb
    · exact e4
    · dsimp only; rw [e0,List.nil_append]
  unfold aJ
  by_cases h1:s.n<64
  · rw [decide_eq_true h1, ak]
    unfold aJ.K1; dsimp only
    rw [eL (n:=s.n) (by omega)]
    by_cases h2:(s.rest.length:Int)=s.n
    · rw [show ((s.rest.length : Int) == s.n) = true by rw [beq_iff_eq]; exact h2, ak]
      refine k3 _ ?_ rfl rfl rfl ?_
      · unfold startH; rw [if_pos ⟨h1,h2⟩]; rfl
      · exact qU
    · rw [show ((s.rest.length : Int) == s.n) = false by rw [beq_eq_false_iff_ne]; exact h2, aa]
      refine k3 _ ?_ rfl rfl rfl hw
      unfold startH; rw [if_neg (fun hh=>h2 hh.2)]
  · rw [decide_eq_false h1, aa]
    unfold aJ.K1; dsimp only
    rw [aa]
    refine k3 _ ?_ rfl rfl rfl hw
    unfold startH; rw [if_neg (fun hh=>h1 hh.1)]
def beS (m:Int) (k:Nat):List Int:=(List.range k).map fun j=>IntKind.wrap .u8 (m / 2 ^ (56 - 8*j))
def zS (n:Nat):Nat:=(64 - (n+9) % 64) % 64
def padS (n:Nat):List Int:=(128::List.replicate (zS n) 0)++beS (8*(n:Int)) 8
def digL (h:List Int) (k:Nat):List Int:=(List.range k).map fun i=>IntKind.wrap .u8 (h.getD (i / 4) 0 / 2 ^ (24 - 8*(i % 4)))
def sumL (b:List Int):List Int:=digL (goB (b.length+80) firstL (b++padS b.length)).1 32
theorem xI (x:Int):0≤IntKind.wrap .u8 x∧IntKind.wrap .u8 x<256:=by rw [wrap_u8]; omega
theorem Jg (m:Int) (k:Nat):bytesL (beS m k):=by
  intro x hx
  obtain ⟨i,_,rfl⟩:=List.mem_map.1 hx
  exact xI _
theorem xb (n:Nat):bytesL (padS n):=by
  refine oS ?_ (Jg _ _)
  intro x hx
  rcases List.mem_cons.1 hx with rfl | hx
  · omega
  · rw [List.eq_of_mem_replicate hx]; omega
theorem tQ (n:Nat):(padS n).length=zS n+9:=by unfold padS beS; simp only [List.length_append,List.length_cons,List.length_replicate,List.length_map,List.length_range]
theorem Mg (n:Nat):(n+(padS n).length) % 64=0:=by rw [tQ]; unfold zS; omega
theorem DC (m:Int) (k:Nat):beS m k++[IntKind.wrap .u8 (m / 2 ^ (56 - 8*k))]=beS m (k+1):=by unfold beS; rw [List.range_succ,List.map_append]; rfl
theorem An (h:List Int) (k:Nat):digL h k++[IntKind.wrap .u8 (h.getD (k / 4) 0 / 2 ^ (24 - 8*(k % 4)))]=digL h (k+1):=by unfold digL; rw [List.range_succ,List.map_append]; rfl
theorem yf (h:List Int) (k:Nat):(digL h k).length=k:=by unfold digL; simp
theorem Ch {s : cO} {Q : aI.QT} {n : Nat} (hn : s.n = (n : Int)) (hn2 : n ≤ 100000000) (hr : s.rest.length = n % 64) (hrb : bytesL s.rest) (hw : mF s.h.toList) (H : ∀ r : Vector Int 32, r.toList = digL (goB 2 (startH s) (s.rest ++ padS n)).1 32 → Q r) : aI s Q := by
  have l3: ∀ (j t:Nat) (m:aI.V),t+j=32→m.zl=(t:Int)→m.sD.h.toList=(goB 2 (startH s) (s.rest++padS n)).1→mF m.sD.h.toList→m.d6.toList=digL m.sD.h.toList t++List.replicate j 0→aI.L3 Q m:=by
    intro j
    induction j with
    | zero =>
      intro t m ht e1 e2 e4 e3
      obtain rfl:t=32:=by omega
      refine aI.ff ?_
      unfold aI.B3
      rw [decide_eq_false (by omega),aa]
      refine H _ ?_
      rw [e3,e2,List.replicate_zero,List.append_nil]
    | succ j ih =>
      intro t m ht e1 e2 e4 e3
      refine aI.ff ?_
      unfold aI.B3
      rw [e1,decide_eq_true (by omega),ak]
      rw [RQ (by omega),FD (by omega),eL (n:=(t:Int) / 4) (by omega),eL (n:=8*((t:Int) % 4)) (by omega),eL (n:=24 - 8*((t:Int) % 4)) (by omega),cW (by omega)]
      refine ixdv (n:=t / 4) rfl (by omega) (by omega) ?_
      refine gD (by omega) (ixdv (n:=t) rfl rfl (by omega) ?_)
      refine ih (t+1) _ (by omega) rfl e2 e4 ?_
      dsimp only
      rw [jr (i:=(t:Int)) (l:=digL m.sD.h.toList t) (y:=0) (r:=List.replicate j 0) (by rw [e3]; rfl) (by rw [yf])]
      congr 1
      rw [← An]
      congr 1
      rw [show min (Int.toNat (24 - 8*((t:Int) % 4))) (IntKind.bits .u32)=24 - 8*(t % 4) by
        rw [show (24 - 8*((t:Int) % 4)).toNat=24 - 8*(t % 4) by omega]; exact Nat.min_eq_left (show _≤32 by omega),fd _ (gr e4 _).1]
  have l2: ∀ (j t:Nat) (m:aI.V),t+j=8→m.s1=s→m.v21=(t:Int)→m.lq=(128::List.replicate (zS n) 0)++beS (8*(n:Int)) t→aI.L2 Q m:=by
    have hz:zS n<64:=by unfold zS; omega
    intro j
    induction j with
    | zero =>
      intro t m ht e1 e2 e3
      obtain rfl:t=8:=by omega
      refine aI.cM ?_
      unfold aI.B2
      rw [decide_eq_false (by omega),aa,e1,e3]
      refine sO 2 (by omega) hrb (xb n) (by show _+(padS n).length<_; rw [tQ]; omega) (by decide) hw fun r h1 h2 h3=> ?_
      refine l3 32 0 _ (by omega) rfl h1 ?_ ?_
      · dsimp only; rw [h1]
        refine Jf _ _ _ ?_
        unfold startH
        split
        · exact qU
        · exact hw
      · dsimp only; exact Vector.toList_replicate ..
    | succ j ih =>
      intro t m ht e1 e2 e3
      refine aI.cM ?_
      unfold aI.B2
      rw [e2,decide_eq_true (by omega),ak]
      rw [eL (n:=7 - (t:Int)) (by omega),eL (n:=8*(7 - (t:Int))) (by omega),cW (by omega),e1,hn,wrap_u64 (n:=8*(n:Int)) (by omega) (by omega)]
      have hbl:(beS (8*(n:Int)) t).length=t:=by unfold beS; simp
      refine gD (by omega) ⟨ct (by rw [e3]; simp only [List.length_append,List.length_cons,List.length_replicate,List.length_nil,hbl]; omega),ih (t+1) _ (by omega) (by first | exact e1 | rfl) rfl ?_⟩
      dsimp only
      rw [e3,List.append_assoc,← DC]
      congr 3
      rw [show min (Int.toNat (8*(7 - (t:Int)))) (IntKind.bits .u64)=56 - 8*t by
        rw [show (8*(7 - (t:Int))).toNat=56 - 8*t by omega]; exact Nat.min_eq_left (show _≤64 by omega),fd _ (by omega)]
  have l1: ∀ (j i:Nat) (m:aI.V),i+j=zS n→m.s1=s→m.lq=128::List.replicate i 0→aI.L1 Q m:=by
    have hz:zS n<64:=by unfold zS; omega
    intro j
    induction j with
    | zero =>
      intro i m hi e e3
      obtain rfl:i=zS n:=by omega
      refine aI.bY ?_
      unfold aI.B1
      rw [e3,e,List.length_cons,List.length_replicate,hr,eL (n:=((n % 64:Nat):Int)+((zS n+1:Nat):Int)) (by omega),eL (n:=((n % 64:Nat):Int)+((zS n+1:Nat):Int)+8) (by omega),Int.tmod_eq_emod_of_nonneg (by omega)]
      rw [show ((((n % 64:Nat):Int)+((zS n+1:Nat):Int)+8) % 64 !=0)=false by unfold zS; simp; omega,aa]
      exact l2 8 0 _ (by omega) (by first | exact e | rfl) rfl (by dsimp only; rw [show beS (8*(n:Int)) 0=[] from rfl,List.append_nil])
    | succ j ih =>
      intro i m hi e e3
      refine aI.bY ?_
      unfold aI.B1
      rw [e3,e,List.length_cons,List.length_replicate,hr,eL (n:=((n % 64:Nat):Int)+((i+1:Nat):Int)) (by omega),eL (n:=((n % 64:Nat):Int)+((i+1:Nat):Int)+8) (by omega),Int.tmod_eq_emod_of_nonneg (by omega)]
      rw [show ((((n % 64:Nat):Int)+((i+1:Nat):Int)+8) % 64 !=0)=true by unfold zS at hi; simp; omega,ak]
      refine ⟨ct (by simp only [List.length_cons,List.length_nil]; omega),ih (i+1) _ (by omega) (by first | exact e | rfl) ?_⟩
      dsimp only
      rw [List.replicate_succ',List.cons_append]
  unfold aI
  exact l1 (zS n) 0 _ (by omega) rfl rfl
theorem EX {b:List Int} {Q:cZ.QT} (hl:b.length≤1000000) (hb:bytesL b) (H: ∀ r:Vector Int 32,r.toList=sumL b→Q r):cZ [b] Q:=by
  unfold cZ tw
  refine cZ.bY ?_
  unfold cZ.B1; dsimp only
  rw [show decide ((0:Int)<(([b].length:Nat):Int))=true from rfl,ak]
  refine ixr (x:=b) (by decide) rfl ?_
  have hz:mF (Vector.replicate 8 (0:Int)).toList:=by
    intro x hx
    rw [Vector.toList_replicate] at hx
    rw [List.eq_of_mem_replicate hx]; exact ⟨by decide,by decide⟩
  have s0:startH ⟨Vector.replicate 8 0,[],0⟩=firstL:=by unfold startH; rw [if_pos ⟨by decide,rfl⟩]
  refine sO (b.length+80) (by decide) (fun _ h=>by cases h) hb (by simp only [List.length_nil]; omega) (by omega) hz fun r h1 h2 h3=> ?_
  rw [s0,List.nil_append] at h1 h2
  rw [wrap_u64 (n:=(b.length:Int)) (by omega) (by omega),wrap_u64 (by dsimp only; omega) (by dsimp only; omega)] at h3
  have h3:r.n=(b.length:Int):=by rw [h3]; exact Int.zero_add _
  have hlt:b.length<64*(b.length+80+1):=by omega
  have hm:=DH (b.length+80) firstL b hlt
  refine cZ.bY ?_
  unfold cZ.B1; dsimp only
  rw [show decide (IntKind.wrap .i64 ((0:Int)+1)<(([b].length:Nat):Int))=false from rfl,aa]
  have hst:startH r=(goB (b.length+80) firstL b).1:=by
    unfold startH
    split
    · rename_i hh
      rw [pZ (l:=b) (by omega)]
    · exact h1
  refine Ch (n:=b.length) h3 (by omega) (by rw [h2]; exact hm) (by rw [h2]; exact fun x hx=>hb x (DI _ _ _ x hx)) (by rw [h1]; exact Jf _ _ _ qU) fun d hd=>H d ?_
  rw [hd,hst,h2]
  unfold sumL
  have hp:=tQ b.length
  have hz:zS b.length<64:=by unfold zS; omega
  rw [DG (b.length+80) firstL b (padS b.length) (by rw [List.length_append]; omega)]
  congr 2
  have hx:((goB (b.length+80) firstL b).2++padS b.length).length<64*3:=by rw [List.length_append,hm]; omega
  have: ∀ k,goB (2+k) (goB (b.length+80) firstL b).1 ((goB (b.length+80) firstL b).2++padS b.length)=goB 2 (goB (b.length+80) firstL b).1 ((goB (b.length+80) firstL b).2++padS b.length):=by
    intro k
    induction k with
    | zero=>rfl
    | succ k ih=>rw [show 2+(k+1)=(2+k)+1 by omega,Cg _ _ _ (by omega),ih]
  rw [show b.length+80=2+(b.length+78) by omega] at this ⊢
  exact (this _).symm
end Go.Pt
namespace Go.Pt
open Go Go.Wc Go.Pu
def timesS (a b:Int):Int × Int:=
  let al:=Int.tmod a 4294967296
  let ah:=IntKind.wrap .u64 (Int.tdiv a 4294967296)
  let bl:=Int.tmod b 4294967296
  let bh:=IntKind.wrap .u64 (Int.tdiv b 4294967296)
  let low:=IntKind.wrap .u64 (al*bl)
  let mid:=IntKind.wrap .u64 (IntKind.wrap .u64 (ah*bl)+IntKind.wrap .u64 (Int.tdiv low 4294967296))
  let WU:=IntKind.wrap .u64 (IntKind.wrap .u64 (al*bh)+Int.tmod mid 4294967296)
  (IntKind.wrap .u64 (IntKind.wrap .u64 (IntKind.wrap .u64 (ah*bh)+IntKind.wrap .u64 (Int.tdiv mid 4294967296))+IntKind.wrap .u64 (Int.tdiv WU 4294967296)),
   IntKind.wrap .u64 (IntKind.wrap .u64 (WU*4294967296)+Int.tmod low 4294967296))
theorem nG {a b:Int} {Q:Int→Int→Prop} (H:Q (timesS a b).1 (timesS a b).2):fo a b Q:=H
def sqGo (p : Int) : Nat → Int → Int
  | 0,r=>r
  | k + 1, r =>
    let x:=IntKind.wrap .u64 (r+IntKind.wrap .u64 (1*2 ^ (min k 64)))
    let t:=timesS x x
    sqGo p k (if t.1<p∨(t.1=p∧t.2=0) then x else r)
def sqS (p:Int):Int:=IntKind.wrap .u32 (Int.tmod (sqGo p 36 0) 4294967296)
theorem Md {p : Int} {Q : aU.QT} (H : Q (sqS p)) : aU p Q := by
  have l1 : ∀ (k : Nat) (m : aU.V), m.p0 = p → m.k4 = (k : Int) - 1 → k ≤ 36 → Q (IntKind.wrap .u32 (Int.tmod (sqGo p k m.r3) 4294967296)) → aU.L1 Q m := by
    intro k
    induction k with
    | zero =>
      intro m e1 e2 hk H
      refine aU.bY ?_
      unfold aU.B1
      rw [decide_eq_false (by omega),aa]
      exact H
    | succ k ih =>
      intro m e1 e2 hk H
      refine aU.bY ?_
      unfold aU.B1
      rw [e2,decide_eq_true (by omega),ak]
      refine gD (by omega) (nG ?_)
      rw [show Int.toNat (((k+1:Nat):Int) - 1)=k by omega,show (IntKind.bits .u64)=64 from rfl]
      simp only [sqGo] at H
      have fin: ∀ m':aU.V,m'.p0=p→m'.k4=((k+1:Nat):Int) - 1→Q (IntKind.wrap .u32 (Int.tmod (sqGo p k m'.r3) 4294967296))→aU.K3 (aU.L1 Q) Q m':=by
        intro m' h1 h2 h3
        unfold aU.K3
        exact ih _ h1 (by dsimp only; rw [h2,eL (by omega)]; omega) (by omega) h3
      rw [e1]
      by_cases c1:(timesS (IntKind.wrap .u64 (m.r3+IntKind.wrap .u64 (1*2 ^ (min k 64)))) (IntKind.wrap .u64 (m.r3+IntKind.wrap .u64 (1*2 ^ (min k 64))))).1<p
      · rw [decide_eq_true c1, ak]
        rw [if_pos (.inl c1)] at H
        unfold aU.K2
        rw [ak]
        exact fin _ rfl rfl H
      · rw [decide_eq_false c1, aa]
        by_cases c2:(timesS (IntKind.wrap .u64 (m.r3+IntKind.wrap .u64 (1*2 ^ (min k 64)))) (IntKind.wrap .u64 (m.r3+IntKind.wrap .u64 (1*2 ^ (min k 64))))).1=p
        · rw [beq_iff_eq.2 c2, ak]
          unfold aU.K2
          dsimp only
          by_cases c3:(timesS (IntKind.wrap .u64 (m.r3+IntKind.wrap .u64 (1*2 ^ (min k 64)))) (IntKind.wrap .u64 (m.r3+IntKind.wrap .u64 (1*2 ^ (min k 64))))).2=0
          · rw [beq_iff_eq.2 c3, ak]
            rw [if_pos (.inr ⟨c2,c3⟩)] at H
            exact fin _ rfl rfl H
          · rw [beq_eq_false_iff_ne.2 c3, aa]
            rw [if_neg (fun h=>h.elim c1 fun h=>c3 h.2)] at H
            exact fin _ rfl rfl H
        · rw [beq_eq_false_iff_ne.2 c2, aa]
          unfold aU.K2
          rw [aa]
          rw [if_neg (fun h=>h.elim c1 fun h=>c2 h.1)] at H
          exact fin _ rfl rfl H
  exact l1 36 _ rfl rfl (by omega) H
def cuOk (p x:Int):Bool:=
  let t:=timesS x x
  let t1:=timesS t.2 x
  let t2:=timesS t.1 x
  let mid:=IntKind.wrap .u64 (t1.1+t2.2)
  let top:=if mid<t1.1 then IntKind.wrap .u64 (t2.1+1) else t2.1
  let want:=IntKind.wrap .u64 (p*4294967296)
  (top==0) && (decide (mid<want) || ((mid==want) && (t1.2==0)))
def cuGo (p : Int) : Nat → Int → Int
  | 0,r=>r
  | k + 1, r =>
    let x:=IntKind.wrap .u64 (r+IntKind.wrap .u64 (1*2 ^ (min k 64)))
    cuGo p k (if cuOk p x then x else r)
def cuS (p:Int):Int:=IntKind.wrap .u32 (Int.tmod (cuGo p 35 0) 4294967296)
theorem Me {p : Int} {Q : aW.QT} (H : Q (cuS p)) : aW p Q := by
  have l1 : ∀ (k : Nat) (m : aW.V), m.p0 = p → m.k4 = (k : Int) - 1 → k ≤ 36 → Q (IntKind.wrap .u32 (Int.tmod (cuGo p k m.r3) 4294967296)) → aW.L1 Q m := by
    intro k
    induction k with
    | zero =>
      intro m e1 e2 hk H
      refine aW.bY ?_
      unfold aW.B1
      rw [decide_eq_false (by omega),aa]
      exact H
    | succ k ih =>
      intro m e1 e2 hk H
      refine aW.bY ?_
      unfold aW.B1
      rw [e2,decide_eq_true (by omega),ak]
      refine gD (by omega) (nG (nG (nG ?_)))
      rw [show Int.toNat (((k+1:Nat):Int) - 1)=k by omega,show (IntKind.bits .u64)=64 from rfl]
      simp only [cuGo] at H
      obtain ⟨x,hx⟩: ∃ x,x=IntKind.wrap .u64 (m.r3+IntKind.wrap .u64 (1*2 ^ (min k 64))):=⟨_,rfl⟩
      rw [← hx] at H ⊢
      have fin: ∀ (b:Bool) (m':aW.V),m'.p0=p→m'.k4=((k+1:Nat):Int) - 1→m'.r3=m.r3→m'.x5=x→m'.MW=b→b=cuOk p x→aW.K2 (aW.L1 Q) Q m':=by
        intro b m' h1 h2 h3 h4 h5 h6
        unfold aW.K2 aW.K4
        rw [h5]
        rw [← h6] at H
        cases b with
        | true =>
          rw [ak]
          exact ih _ h1 (by dsimp only; rw [h2,eL (by omega)]; omega) (by omega) (by dsimp only; rw [h4]; exact H)
        | false =>
          rw [aa]
          exact ih _ h1 (by dsimp only; rw [h2,eL (by omega)]; omega) (by omega) (by dsimp only; rw [h3]; exact H)
      obtain ⟨t1,ht1⟩: ∃ t,t=timesS (timesS x x).2 x:=⟨_,rfl⟩
      obtain ⟨t2,ht2⟩: ∃ t,t=timesS (timesS x x).1 x:=⟨_,rfl⟩
      have hok:cuOk p x=((if IntKind.wrap .u64 (t1.1+t2.2)<t1.1 then IntKind.wrap .u64 (t2.1+1) else t2.1)==0 && (decide (IntKind.wrap .u64 (t1.1+t2.2)<IntKind.wrap .u64 (p*4294967296)) || ((IntKind.wrap .u64 (t1.1+t2.2)==IntKind.wrap .u64 (p*4294967296)) && (t1.2==0)))):=by rw [ht1,ht2]; rfl
      rw [← ht1,← ht2]
      have k3 : ∀ (top : Int) (m' : aW.V), top = (if IntKind.wrap .u64 (t1.1 + t2.2) < t1.1 then IntKind.wrap .u64 (t2.1 + 1) else t2.1) → m'.p0 = p → m'.k4 = ((k + 1 : Nat) : Int) - 1 → m'.r3 = m.r3 → m'.x5 = x → m'.Rm = t1.2 → m'.uw = IntKind.wrap .u64 (t1.1 + t2.2) → m'.wJ = top → aW.K3 (aW.L1 Q) Q m' := by
        intro top m' h0 h1 h2 h3 h4 h5 h6 h7
        rw [← h0] at hok
        unfold aW.K3
        rw [h7,h6,h1,h5]
        cases c1:(top==0) with
        | false =>
          rw [aa]
          rw [c1] at hok
          exact fin false _ (by first | exact h1 | rfl) h2 h3 h4 rfl hok.symm
        | true =>
          rw [ak]
          rw [c1] at hok
          cases c2:decide (IntKind.wrap .u64 (t1.1+t2.2)<IntKind.wrap .u64 (p*4294967296)) with
          | true =>
            rw [ak]
            rw [c2] at hok
            exact fin true _ (by first | exact h1 | rfl) h2 h3 h4 rfl hok.symm
          | false =>
            rw [aa]
            rw [c2] at hok
            cases c3:(IntKind.wrap .u64 (t1.1+t2.2)==IntKind.wrap .u64 (p*4294967296)) with
            | true =>
              rw [ak]
              rw [c3] at hok
              exact fin (t1.2==0) _ (by first | exact h1 | rfl) h2 h3 h4 rfl hok.symm
            | false =>
              rw [aa]
              rw [c3] at hok
              exact fin false _ (by first | exact h1 | rfl) h2 h3 h4 rfl hok.symm
      by_cases c:IntKind.wrap .u64 (t1.1+t2.2)<t1.1
      · rw [decide_eq_true c, ak]
        exact k3 _ _ (by rw [if_pos c]) e1 rfl rfl rfl rfl rfl rfl
      · rw [decide_eq_false c, aa]
        exact k3 _ _ (by rw [if_neg c]) e1 rfl rfl rfl rfl rfl rfl
  exact l1 35 _ rfl rfl (by omega) H
def prGo:Nat→List Int→Int→List Int
  | 0,out,_=>out
  | f+1,out,p=>if out.length<64 then (if out.all (fun x=>Int.tmod p x !=0) then prGo f (out++[p]) (p+1) else prGo f out (p+1)) else out
theorem Mf:prGo 320 [] 2=prGo 310 [] 2∧(prGo 320 [] 2).length=64:=by decide+kernel
theorem Ja:(prGo 320 [] 2).map cuS=kL∧((prGo 320 [] 2).take 8).map sqS=firstL:=by decide+kernel
end Go.Pt
namespace Go.Pt
open Go Go.Wc Go.Pu
def primesL:List Int:=prGo 320 [] 2
theorem sN:primesL.length=64:=Mf.2
theorem Am {Q : aG.QT} (H : Q primesL) : aG 64 Q := by
  have l1 : ∀ (f : Nat) (m : aG.V), m.n0 = 64 → 2 ≤ m.p4 → m.p4 + (f : Int) = 322 → (∀ x ∈ m.di, x ≠ 0) → prGo f m.di m.p4 = primesL → m.di.length ≤ 64 → aG.L1 Q m := by
    intro f
    induction f with
    | zero =>
      intro m e1 h1 h2 h3 h4 h5
      refine aG.bY ?_
      unfold aG.B1
      simp only [prGo] at h4
      have h6:=sN
      rw [h4,decide_eq_false (by omega),aa]
      exact H
    | succ f ih =>
      intro m e1 h1 h2 h3 h4 h5
      refine aG.bY ?_
      unfold aG.B1
      simp only [prGo] at h4
      by_cases hl:m.di.length<64
      · rw [e1, decide_eq_true (by omega), ak]
        rw [if_pos hl] at h4
        have l2: ∀ (j i:Nat) (m':aG.V),i+j=m.di.length→m'.n0=64→m'.p4=m.p4→m'.di=m.di→m'.i6=(i:Int)→m'.Fx=((m.di.take i).all fun x=>Int.tmod m.p4 x !=0)→aG.L2 (aG.L1 Q) Q m':=by
          intro j
          induction j with
          | zero =>
            intro i m' hi a1 a2 a3 a4 a5
            refine aG.cM _ ?_
            unfold aG.B2
            rw [a4,a3,dge (by omega),aa,a5,List.take_of_length_le (by omega)]
            have k4: ∀ (l:List Int) (m2:aG.V),m2.n0=64→m2.p4=m.p4→m2.di=l→(∀ x ∈ l,x ≠ 0)→prGo f l (m.p4+1)=primesL→l.length≤64→aG.K4 (aG.L1 Q) Q m2:=by
              intro l m2 b1 b2 b3 b4 b5 b6
              subst b3
              unfold aG.K4
              have:IntKind.wrap .u64 (m2.p4+1)=m.p4+1:=by rw [b2]; exact wrap_u64 (by omega) (by omega)
              refine ih _ b1 (by dsimp only; rw [this]; omega) (by dsimp only; rw [this]; omega) b4 (by dsimp only; rw [this]; exact b5) b6
            cases hc:(m.di.all fun x=>Int.tmod m.p4 x !=0) with
            | true =>
              rw [hc] at h4
              rw [ak]
              refine ⟨ct (by simp only [List.length_cons,List.length_nil]; omega), ?_⟩
              refine k4 _ _ a1 a2 rfl ?_ (by dsimp only; rw [a2]; exact h4) (by simp only [List.length_append,List.length_cons,List.length_nil]; omega)
              intro x hx
              rcases List.mem_append.1 hx with hx | hx
              · exact h3 x hx
              · rw [List.mem_singleton.1 hx,a2]; omega
            | false =>
              rw [hc] at h4
              rw [aa]
              exact k4 _ _ a1 a2 rfl (by rw [a3]; exact h3) (by rw [a3]; exact h4) (by rw [a3]; omega)
          | succ j wF =>
            intro i m' hi a1 a2 a3 a4 a5
            have hii:i<m.di.length:=by omega
            refine aG.cM _ ?_
            unfold aG.B2
            rw [a4,a3,dlt hii,ak,a5]
            have hsn:((m.di.take (i+1)).all fun x=>Int.tmod m.p4 x !=0)=(((m.di.take i).all fun x=>Int.tmod m.p4 x !=0) && (Int.tmod m.p4 m.di[i] !=0)):=by
              rw [dJ hii,List.all_append]; simp
            cases hc:((m.di.take i).all fun x=>Int.tmod m.p4 x !=0) with
            | true =>
              rw [hc] at hsn
              rw [ak]
              refine cK hii (VA (h3 _ (List.getElem_mem hii)) ?_)
              unfold aG.K3
              dsimp only
              refine wF (i+1) _ (by omega) a1 a2 (by first | exact a3 | rfl) (by dsimp only; rw [cW (by omega)]) ?_
              dsimp only
              rw [hsn,a2]; rfl
            | false =>
              rw [hc] at hsn
              rw [aa]
              unfold aG.K3
              dsimp only
              refine wF (i+1) _ (by omega) a1 a2 (by first | exact a3 | rfl) (by dsimp only; rw [cW (by omega)]) ?_
              dsimp only
              rw [hsn]; rfl
        exact l2 m.di.length 0 _ (by omega) (by first | exact e1 | rfl) rfl rfl rfl rfl
      · rw [e1, decide_eq_false (by omega), aa]
        rw [if_neg hl] at h4
        rw [h4]; exact H
  exact l1 320 _ rfl (by dsimp only; omega) (by dsimp only; omega) (fun _ h=>by cases h) rfl (Nat.zero_le _)
theorem Jb {Q:bF.QT} (H:Q kL firstL):bF Q:=by
  obtain ⟨P,hP⟩: ∃ P,P=primesL:=⟨_,rfl⟩
  have hlen:P.length=64:=by rw [hP]; exact sN
  have c1:P.map cuS=kL:=by rw [hP]; exact Ja.1
  have c2:(P.take 8).map sqS=firstL:=by rw [hP]; exact Ja.2
  have l2: ∀ (j i:Nat) (m:bF.V),i+j=8→m.l2=P→m.k3=kL→m.t6=(i:Int)→m.lP=(P.take i).map sqS→bF.L2 Q m:=by
    intro j
    induction j with
    | zero =>
      intro i m hi e1 e2 e3 e4
      obtain rfl:i=8:=by omega
      refine bF.cM ?_
      unfold bF.B2
      rw [e3,decide_eq_false (by omega),aa,e2,e4,c2]
      exact H
    | succ j ih =>
      intro i m hi e1 e2 e3 e4
      refine bF.cM ?_
      unfold bF.B2
      rw [e3,e1,decide_eq_true (by omega),ak]
      refine cK (by omega) (Md ⟨ct (by rw [e4]; simp only [List.length_map,List.length_take,List.length_cons,List.length_nil]; omega), ?_⟩)
      rw [cW (by omega)]
      exact ih (i+1) _ (by omega) (by first | exact e1 | rfl) e2 rfl (by dsimp only; rw [e4,fT])
  have l1: ∀ (j i:Nat) (m:bF.V),i+j=64→m.l2=P→m.t5=(i:Int)→m.lP=[]→m.k3=(P.take i).map cuS→bF.L1 Q m:=by
    intro j
    induction j with
    | zero =>
      intro i m hi e1 e3 e2 e4
      obtain rfl:i=64:=by omega
      refine bF.bY ?_
      unfold bF.B1
      rw [e3,decide_eq_false (by omega),aa]
      refine l2 8 0 _ (by omega) e1 ?_ rfl e2
      dsimp only
      rw [e4,List.take_of_length_le (by omega)]
      exact c1
    | succ j ih =>
      intro i m hi e1 e3 e2 e4
      refine bF.bY ?_
      unfold bF.B1
      rw [e3,e1,decide_eq_true (by omega),ak]
      refine cK (by omega) (Me ⟨ct (by rw [e4]; simp only [List.length_map,List.length_take,List.length_cons,List.length_nil]; omega), ?_⟩)
      rw [cW (by omega)]
      exact ih (i+1) _ (by omega) (by first | exact e1 | rfl) rfl e2 (by dsimp only; rw [e4,fT])
  unfold bF
  refine Am ?_
  rw [← hP]
  exact l1 64 0 _ (by omega) rfl rfl rfl rfl
theorem gx {x k:Int} {n:Nat} {Q:bu.QT} (hx:lM x) (hk:k=(n:Int)) (hn:0<n∧n<32) (H:Q (rotR n x)):bu x k Q:=by
  subst hk
  have l1: ∀ (j i:Nat) (m:bu.V),i+j=n→m.n1=(n:Int)→m.i5=(i:Int)→m.x0=rotR i x→bu.L1 Q m:=by
    intro j
    induction j with
    | zero =>
      intro i m hi e1 e2 e3
      obtain rfl:i=n:=by omega
      refine bu.bY ?_
      unfold bu.B1
      rw [e1,e2,dge (by omega),aa,e3]
      exact H
    | succ j ih =>
      intro i m hi e1 e2 e3
      refine bu.bY ?_
      unfold bu.B1
      rw [e1,e2,dlt (by omega),ak,cW (by omega),e3]
      refine ih (i+1) _ (by omega) (by first | exact e1 | rfl) rfl ?_
      exact Ca (by omega) hx
  unfold bu
  refine l1 n 0 _ (by omega) ?_ rfl Qz.symm
  dsimp only
  rw [show Int.tmod (n:Int) 32=(n:Int) % 32 from Int.tmod_eq_emod_of_nonneg (by omega),eL (n:=(n:Int) % 32+32) (by omega),Int.tmod_eq_emod_of_nonneg (by omega)]
  omega
theorem Jc {b : List Int} {Q : bG.QT} (hb : b.length ≤ 1000000) (H : Q (b ++ padS b.length)) : bG b Q := by
  have hz:zS b.length<64:=by unfold zS; omega
  have l2: ∀ (j t:Nat) (m:bG.V),t+j=8→m.n4=8*(b.length:Int)→m.i5=56 - 8*(t:Int)→m.di=b++((128::List.replicate (zS b.length) 0)++beS (8*(b.length:Int)) t)→bG.L2 Q m:=by
    intro j
    induction j with
    | zero =>
      intro t m ht e1 e2 e3
      obtain rfl:t=8:=by omega
      refine bG.cM ?_
      unfold bG.B2
      rw [decide_eq_false (by omega),aa,e3]
      exact H
    | succ j ih =>
      intro t m ht e1 e2 e3
      have hbl:(beS (8*(b.length:Int)) t).length=t:=by unfold beS; simp
      refine bG.cM ?_
      unfold bG.B2
      rw [e2,e1,decide_eq_true (by omega),ak,eL (n:=56 - 8*(t:Int) - 8) (by omega)]
      refine gD (by omega) ⟨ct (by rw [e3]; simp only [List.length_append,List.length_cons,List.length_replicate,List.length_nil,hbl]; omega),ih (t+1) _ (by omega) (by first | exact e1 | rfl) (by dsimp only; omega) ?_⟩
      dsimp only
      rw [e3,List.append_assoc,List.append_assoc,← DC]
      congr 4
      rw [show min (Int.toNat (56 - 8*(t:Int))) (IntKind.bits .u64)=56 - 8*t by
        rw [show (56 - 8*(t:Int)).toNat=56 - 8*t by omega]; exact Nat.min_eq_left (show _≤64 by omega),fd _ (by omega)]
  have l1: ∀ (j i:Nat) (m:bG.V),i+j=zS b.length→m.b0=b→m.di=b++(128::List.replicate i 0)→bG.L1 Q m:=by
    intro j
    induction j with
    | zero =>
      intro i m hi e e3
      obtain rfl:i=zS b.length:=by omega
      refine bG.bY ?_
      unfold bG.B1
      rw [e3,Int.tmod_eq_emod_of_nonneg (by omega)]
      have hq:((b++((128:Int)::List.replicate (zS b.length) (0:Int))).length:Int) % 64=56:=by
        simp only [List.length_append,List.length_cons,List.length_replicate]; unfold zS; omega
      rw [hq,show ((56:Int) !=56)=false from rfl,aa,e]
      rw [wrap_u64 (n:=(b.length:Int)) (by omega) (by omega),wrap_u64 (n:=(b.length:Int)*8) (by omega) (by omega)]
      exact l2 8 0 _ (by omega) (by dsimp only; omega) rfl (by dsimp only; rw [show beS (8*(b.length:Int)) 0=[] from rfl,List.append_nil])
    | succ j ih =>
      intro i m hi e e3
      refine bG.bY ?_
      unfold bG.B1
      rw [Int.tmod_eq_emod_of_nonneg (by omega)]
      rw [show (((m.di.length:Nat):Int) % 64 !=56)=true by
        rw [e3]; simp only [List.length_append,List.length_cons,List.length_replicate]; unfold zS at hi; simp; omega,ak]
      refine ⟨ct (by rw [e3]; simp only [List.length_append,List.length_cons,List.length_replicate,List.length_nil]; omega),ih (i+1) _ (by omega) (by first | exact e | rfl) ?_⟩
      dsimp only
      rw [e3,List.append_assoc,List.cons_append,← List.replicate_succ']
  unfold bG
  refine ⟨ct (by simp only [List.length_nil]; omega),ct (by simp only [List.length_append,List.length_cons,List.length_nil]; omega), ?_⟩
  exact l1 (zS b.length) 0 _ (by omega) rfl rfl
end Go.Pt
namespace Go.Pt
open Go Go.Wc Go.Pu
theorem Cb {s b : List Int} {Q : aK.QT} (hs : s.length = 8) (hw : mF s) (hb : b.length = 64) (hbb : bytesL b) (H : Q (compS s b)) : aK kL s b Q := by
  have hc8:=qT (h:=s) (b:=b) hs
  have l4: ∀ (j t:Nat) (m:aK.V),t+j=8→m.nP=roundsS (wl b 64) s 64→m.s1=s→m.i20=(t:Int)→m.qz=(compS s b).take t→aK.L4 Q m:=by
    have XH:=kz (w:=wl b 64) (h:=s) hs 64
    intro j
    induction j with
    | zero =>
      intro t m ht e1 e2 e3 e4
      obtain rfl:t=8:=by omega
      refine aK.kg ?_
      unfold aK.B4
      rw [e3,decide_eq_false (by omega),aa,e4,List.take_of_length_le (by omega)]
      exact H
    | succ j ih =>
      intro t m ht e1 e2 e3 e4
      refine aK.kg ?_
      unfold aK.B4
      rw [e3,e1,e2,decide_eq_true (by omega),ak]
      refine cK (by omega) (cK (by omega) ⟨ct (by rw [e4]; simp only [List.length_take,List.length_cons,List.length_nil]; omega), ?_⟩)
      rw [cW (by omega)]
      refine ih (t+1) _ (by omega) (by first | exact e1 | rfl) (by first | exact e2 | rfl) rfl ?_
      dsimp only
      rw [e4,dJ (by omega)]
      congr 2
      unfold compS addS
      rw [List.getElem_zipWith]
      unfold add
      rw [Int.add_comm]
  have l3: ∀ (j t:Nat) (m:aK.V),t+j=64→m.k0=kL→m.s1=s→m.w7=wl b 64→m.t14=(t:Int)→m.nP=roundsS (wl b 64) s t→aK.L3 Q m:=by
    have hwl:=ye b 64
    have hkl:=QA
    intro j
    induction j with
    | zero =>
      intro t m ht e1 e2 e3 e4 e5
      obtain rfl:t=64:=by omega
      refine aK.ff ?_
      unfold aK.B3
      rw [e4,decide_eq_false (by omega),aa]
      exact l4 8 0 _ (by omega) e5 e2 rfl rfl
    | succ j ih =>
      rintro t ⟨k0,s1,b2,w7,t8,nP,t14,qz,i20⟩ ht e1 e2 e3 e4 e5
      dsimp only at e1 e2 e3 e4 e5
      have XH:=kz (w:=wl b 64) (h:=s) hs t
      have hxw:=vj (w:=wl b 64) (h:=s) hs hw t
      rw [← e5] at XH hxw
      obtain ⟨a,b',c,d,e,f,g,k,hx⟩:=DD XH
      subst hx
      have we:lM e:=hxw _ (by simp)
      have wa:lM a:=hxw _ (by simp)
      refine aK.ff ?_
      unfold aK.B3; dsimp only
      rw [e4,decide_eq_true (show (t:Int)<64 by omega),ak,e1,e3]
      refine ixr (by decide) rfl (ixr (by decide) rfl (ixr (by decide) rfl (ixr (by decide) rfl (ixr (by decide) rfl ?_))))
      refine ixd rfl (by omega) (ixd rfl (by omega) ?_)
      refine gx (n:=6) we rfl (by decide) (gx (n:=11) we rfl (by decide) (gx (n:=25) we rfl (by decide) ?_))
      refine ixr (by decide) rfl (ixr (by decide) rfl (ixr (by decide) rfl (ixr (by decide) rfl ?_)))
      refine gx (n:=2) wa rfl (by decide) (gx (n:=13) wa rfl (by decide) (gx (n:=22) wa rfl (by decide) ?_))
      refine ixr (by decide) rfl (ixr (by decide) rfl (ixr (by decide) rfl (ixr (by decide) rfl (ixr (by decide) rfl (ixr (by decide) rfl (ixr (by decide) rfl ?_))))))
      rw [cW (by omega)]
      refine ih (t+1) _ (by omega) rfl e2 rfl rfl ?_
      show _=stepS (roundsS (wl b 64) s t) (kL.getD t 0) ((wl b 64).getD t 0)
      rw [← e5]
      rfl
  have l1 : ∀ (j t : Nat) (m : aK.V), t + j = 64 → m.k0 = kL → m.s1 = s → m.b2 = b → m.t8 = (t : Int) → m.w7 = wl b t → aK.L1 Q m := by
    intro j
    induction j with
    | zero =>
      intro t m ht e1 e2 e3 e4 e5
      obtain rfl:t=64:=by omega
      refine aK.bY ?_
      unfold aK.B1
      rw [e4,decide_eq_false (by omega),aa]
      refine ⟨ct (by rw [e2]; simp only [List.length_nil]; omega), ?_⟩
      refine l3 64 0 _ (by omega) e1 e2 e5 rfl ?_
      dsimp only; rw [e2]; rfl
    | succ j ih =>
      intro t m ht e1 e2 e3 e4 e5
      have hlen:=ye b t
      have hww:=QB hbb t
      have k2: ∀ m':aK.V,m'.k0=kL→m'.s1=s→m'.b2=b→m'.t8=(t:Int)→m'.w7=wl b (t+1)→aK.K2 (aK.L1 Q) Q m':=by
        intro m' h1 h2 h3 h4 h5
        unfold aK.K2
        exact ih (t+1) _ (by omega) h1 h2 h3 (by dsimp only; rw [h4,cW (by omega)]) h5
      refine aK.bY ?_
      unfold aK.B1
      rw [e4,decide_eq_true (by omega),ak]
      by_cases EB:t<16
      · rw [decide_eq_true (show (t : Int) < 16 by omega), ak, e3, e5, eL (n := 4 * (t : Int)) (by omega), eL (n := 4 * (t : Int) + 1) (by omega), eL (n := 4 * (t : Int) + 2) (by omega), eL (n := 4 * (t : Int) + 3) (by omega)]
        refine ixd (n:=4*t) (by omega) (by omega) (ixd (n:=4*t+1) (by omega) (by omega) (ixd (n:=4*t+2) (by omega) (by omega) (ixd (n:=4*t+3) (by omega) (by omega) ?_)))
        refine ⟨ct (by simp only [List.length_cons,List.length_nil]; omega),k2 _ e1 e2 (by first | exact e3 | rfl) (by first | exact e4 | rfl) ?_⟩
        show _=wl b t++[wNext b (wl b t) t]
        congr 2
        unfold wNext
        rw [if_pos EB]
        have q0:=dI hbb (4*t)
        have q1:=dI hbb (4*t+1)
        have q2:=dI hbb (4*t+2)
        have q3:=dI hbb (4*t+3)
        unfold bigW
        generalize b.getD (4*t) 0=x0 at*
        generalize b.getD (4*t+1) 0=x1 at*
        generalize b.getD (4*t+2) 0=x2 at*
        generalize b.getD (4*t+3) 0=x3 at*
        rw [cV (n:=x0) ⟨by omega,by omega⟩,cV (n:=x1) ⟨by omega,by omega⟩,cV (n:=x2) ⟨by omega,by omega⟩,cV (n:=x3) ⟨by omega,by omega⟩,
          cV (n:=x0*16777216) ⟨by omega,by omega⟩,cV (n:=x1*65536) ⟨by omega,by omega⟩,cV (n:=x2*256) ⟨by omega,by omega⟩,
          cV (n:=x0*16777216+x1*65536) ⟨by omega,by omega⟩,cV (n:=x0*16777216+x1*65536+x2*256) ⟨by omega,by omega⟩,cV (n:=x0*16777216+x1*65536+x2*256+x3) ⟨by omega,by omega⟩]
      · rw [decide_eq_false (show ¬ (t : Int) < 16 by omega), aa, e5, eL (n := (t : Int) - 15) (by omega), eL (n := (t : Int) - 2) (by omega), eL (n := (t : Int) - 7) (by omega), eL (n := (t : Int) - 16) (by omega)]
        refine ixd (n:=t - 15) (by omega) (by omega) (ixd (n:=t - 2) (by omega) (by omega) ?_)
        refine gx (n:=7) (gr hww _) rfl (by decide) (gx (n:=18) (gr hww _) rfl (by decide) (gx (n:=17) (gr hww _) rfl (by decide) (gx (n:=19) (gr hww _) rfl (by decide) ?_)))
        refine ixd (n:=t - 7) (by omega) (by omega) (ixd (n:=t - 16) (by omega) (by omega) ?_)
        refine ⟨ct (by simp only [List.length_cons,List.length_nil]; omega),k2 _ e1 e2 e3 (by first | exact e4 | rfl) ?_⟩
        show _=wl b t++[wNext b (wl b t) t]
        congr 2
        unfold wNext
        rw [if_neg EB]
        have q1:=gr hww (t - 15)
        have q2:=gr hww (t - 2)
        have r1:IntKind.wrap .u32 (Int.tdiv ((wl b t).getD (t - 2) 0) 1024)=(wl b t).getD (t - 2) 0 / 1024:=by
          rw [Int.tdiv_eq_ediv_of_nonneg q2.1]; exact cV (by unfold lM at q2 ⊢; omega)
        have r2:IntKind.wrap .u32 (Int.tdiv ((wl b t).getD (t - 15) 0) 8)=(wl b t).getD (t - 15) 0 / 8:=by
          rw [Int.tdiv_eq_ediv_of_nonneg q1.1]; exact cV (by unfold lM at q1 ⊢; omega)
        rw [r1,r2]
        rfl
  exact l1 64 0 _ (by omega) rfl rfl rfl rfl rfl
theorem EV {b : List Int} {Q : bH.QT} (hl : b.length ≤ 1000000) (hb : bytesL b) (H : ∀ r : Vector Int 32, r.toList = sumL b → Q r) : bH b Q := by
  have hpl:=tQ b.length
  have hpm:=Mg b.length
  have hz:zS b.length<64:=by unfold zS; omega
  obtain ⟨p,hp⟩: ∃ p,p=b++padS b.length:=⟨_,rfl⟩
  have hpb:bytesL p:=by rw [hp]; exact oS hb (xb _)
  have hplen:p.length=b.length+(padS b.length).length:=by rw [hp,List.length_append]
  have l2: ∀ (j t:Nat) (m:bH.V),t+j=32→m.i8=(t:Int)→m.s4=(goB (b.length+80) firstL p).1→mF m.s4→m.fh.toList=digL m.s4 t++List.replicate j 0→bH.L2 Q m:=by
    have h8:(goB (b.length+80) firstL p).1.length=8:=DE _ _ _ rfl
    intro j
    induction j with
    | zero =>
      intro t m ht e1 e2 e4 e3
      obtain rfl:t=32:=by omega
      refine bH.cM ?_
      unfold bH.B2
      rw [e1,decide_eq_false (by omega),aa]
      refine H _ ?_
      rw [e3,e2,List.replicate_zero,List.append_nil,hp]; rfl
    | succ j ih =>
      intro t m ht e1 e2 e4 e3
      refine bH.cM ?_
      unfold bH.B2
      rw [e1,decide_eq_true (by omega),ak]
      rw [RQ (by omega),FD (by omega),eL (n:=(t:Int) / 4) (by omega),eL (n:=8*((t:Int) % 4)) (by omega),eL (n:=24 - 8*((t:Int) % 4)) (by omega),cW (by omega)]
      refine ixd (n:=t / 4) (by omega) (by rw [e2]; omega) ?_
      refine gD (by omega) (ixdv (n:=t) rfl rfl (by omega) ?_)
      refine ih (t+1) _ (by omega) rfl e2 e4 ?_
      dsimp only
      rw [jr (i:=(t:Int)) (l:=digL m.s4 t) (y:=0) (r:=List.replicate j 0) (by rw [e3]; rfl) (by rw [yf])]
      congr 1
      rw [← An]
      congr 1
      rw [show min (Int.toNat (24 - 8*((t:Int) % 4))) (IntKind.bits .u32)=24 - 8*(t % 4) by
        rw [show (24 - 8*((t:Int) % 4)).toNat=24 - 8*(t % 4) by omega]; exact Nat.min_eq_left (show _≤32 by omega),fd _ (gr e4 _).1]
  have l1 : ∀ (f i : Nat) (m : bH.V), i ≤ p.length → (p.length - i) % 64 = 0 → p.length - i ≤ 64 * f → m.k3 = kL → m.p5 = p → m.i6 = (i : Int) → m.s4.length = 8 → mF m.s4 → (goB (b.length + 80) firstL p).1 = (goB f m.s4 (p.drop i)).1 → bH.L1 Q m := by
    intro f
    induction f with
    | zero =>
      intro i m h0 h1 h2 e1 e2 e3 e4 e5 e6
      refine bH.bY ?_
      unfold bH.B1
      rw [e2,e3,dge (by omega),aa]
      exact l2 32 0 _ (by omega) rfl e6.symm e5 (by dsimp only; exact Vector.toList_replicate ..)
    | succ f ih =>
      intro i m h0 h1 h2 e1 e2 e3 e4 e5 e6
      refine bH.bY ?_
      unfold bH.B1
      rw [e2,e3]
      by_cases hi:i<p.length
      · rw [dlt hi, ak, eL (n := (i : Int) + 64) (by omega), e1]
        refine ⟨⟨by omega,by omega,by omega⟩, ?_⟩
        have es:sub p (i:Int) ((i:Int)+64)=(p.drop i).take 64:=by
          unfold sub
          rw [show ((i:Int)+64).toNat=i+64 by omega,Int.toNat_natCast,List.drop_take,Nat.add_sub_cancel_left]
        rw [es]
        refine Cb e4 e5 (by rw [List.length_take,List.length_drop]; omega) (fun x hx=>hpb x (List.mem_of_mem_drop (List.mem_of_mem_take hx))) ?_
        refine ih (i+64) _ (by omega) (by omega) (by omega) rfl (by first | exact e2 | rfl) (by dsimp only; omega) (qT e4) Cc ?_
        rw [e6]
        simp only [goB]
        rw [if_pos (by rw [List.length_drop]; omega),List.drop_drop]
      · rw [dge (by omega), aa]
        rw [pZ (l:=p.drop i) (by rw [List.length_drop]; omega)] at e6
        exact l2 32 0 _ (by omega) rfl e6.symm e5 (by dsimp only; exact Vector.toList_replicate ..)
  unfold bH
  refine Jb (Jc hl ?_)
  rw [← hp]
  exact l1 (b.length+80) 0 _ (by omega) (by rw [hplen]; omega) (by omega) rfl rfl rfl rfl qU rfl
end Go.Pt
namespace Go.Pt
open Go Go.Wc Go.Pu
def qS (a b c d:Int):Vector Int 4:=
  let a1:=add a b
  let d1:=rotR 16 (xG d a1)
  let c1:=add c d1
  let b1:=rotR 20 (xG b c1)
  let a2:=add a1 b1
  let d2:=rotR 24 (xG d1 a2)
  let c2:=add c1 d2
  let b2:=rotR 25 (xG b1 c2)
  #v[a2,b2,c2,d2]
theorem CT {x y z bb:Int} {v:Vector Int 4} {Q:Vector Int 4→Prop} {n:Nat} {vx vy vz:Int} (hn:0<n∧n<32)
    (hk:IntKind.wrap .u64 (((BitVec.ofInt (IntKind.bits .u64) (IntKind.wrap .u64 bb) &&& (BitVec.ofInt (IntKind.bits .u64) (31:Int))).toNat:Int))=((32 - n:Nat):Int))
    (hx:0≤x) (hy:0≤y) (hz:0≤z) (ex:v.toList[x.toNat]? =some vx) (ey:v.toList[y.toNat]? =some vy) (ez:(v.setIfInBounds x.toNat (add vx vy)).toList[z.toNat]? =some vz) (ea:(v.setIfInBounds x.toNat (add vx vy)).toList[x.toNat]? =some (add vx vy))
    (H:Q ((v.setIfInBounds x.toNat (add vx vy)).setIfInBounds z.toNat (rotR n (xG vz (add vx vy))))):dP x y z bb v Q:=by
  unfold dP
  refine ixr hx ex (ixr hy ey (ixr hx ex (ixr hz ez (ixr hx ea ?_))))
  refine wA (n:=n) (yP _ _) hn hk ?_
  exact ixr hz ez H
theorem RN {a b c d bb:Int} {Q:Vector Int 4→Prop} {n:Nat} (hn:0<n∧n<32)
    (hk:IntKind.wrap .u64 (((BitVec.ofInt (IntKind.bits .u64) (IntKind.wrap .u64 bb) &&& (BitVec.ofInt (IntKind.bits .u64) (31:Int))).toNat:Int))=((32 - n:Nat):Int))
    (H:Q #v[add a b,b,c,rotR n (xG d (add a b))]):dP 0 1 3 bb #v[a,b,c,d] Q:=
  CT hn hk (by decide) (by decide) (by decide) rfl rfl rfl rfl H
theorem RO {a b c d bb:Int} {Q:Vector Int 4→Prop} {n:Nat} (hn:0<n∧n<32)
    (hk:IntKind.wrap .u64 (((BitVec.ofInt (IntKind.bits .u64) (IntKind.wrap .u64 bb) &&& (BitVec.ofInt (IntKind.bits .u64) (31:Int))).toNat:Int))=((32 - n:Nat):Int))
    (H:Q #v[a,rotR n (xG b (add c d)),add c d,d]):dP 2 3 1 bb #v[a,b,c,d] Q:=
  CT hn hk (by decide) (by decide) (by decide) rfl rfl rfl rfl H
theorem ql {a b c d:Int} {Q:Vector Int 4→Prop} (H:Q (qS a b c d)):dG #v[a,b,c,d] Q:=by
  unfold dG
  refine RN (n:=16) (by decide) (by decide+kernel) (RO (n:=20) (by decide) (by decide+kernel) (RN (n:=24) (by decide) (by decide+kernel) (RO (n:=25) (by decide) (by decide+kernel) H)))
theorem oO {x k:Int} {n:Nat} {Q:bK.QT} (hx:lM x) (hk:k=((32 - n:Nat):Int)) (hn:n≤32) (H:Q (rotR n x)):bK x k Q:=by
  subst hk
  have l1: ∀ (j i:Nat) (m:bK.V),n+j=32 - i→i≤32→m.n1=((32 - n:Nat):Int)→m.i5=(i:Int)→m.x0=rotR (32 - i) x→bK.L1 Q m:=by
    intro j
    induction j with
    | zero =>
      intro i m hi yQ e1 e2 e3
      refine bK.bY ?_
      unfold bK.B1
      rw [e1,e2,dge (by omega),aa,e3,← hi]
      exact H
    | succ j ih =>
      intro i m hi yQ e1 e2 e3
      refine bK.bY ?_
      unfold bK.B1
      rw [e1,e2,dlt (by omega),ak,cW (by omega),e3]
      refine ih (i+1) _ (by omega) (by omega) (by first | exact e1 | rfl) rfl ?_
      have:=Ec (n:=32 - (i+1)) (by omega) hx
      rw [show 32 - (i+1)+1=32 - i by omega] at this
      exact this
  unfold bK
  exact l1 (32 - n) 0 _ (by omega) (by omega) rfl rfl (KP hx).symm
theorem pF {a b c d:Int} {Q:Vector Int 4→Prop} (H:Q (qS a b c d)):fB #v[a,b,c,d] Q:=by
  unfold fB
  refine ixr (by decide) rfl (ixr (by decide) rfl (ixr (by decide) rfl (ixr (by decide) rfl ?_)))
  refine oO (n:=16) (yP _ _) rfl (by decide) ?_
  refine oO (n:=20) (yP _ _) rfl (by decide) ?_
  refine oO (n:=24) (yP _ _) rfl (by decide) ?_
  refine oO (n:=25) (yP _ _) rfl (by decide) ?_
  exact H
def qAt (w:List Int) (p:Nat × Nat × Nat × Nat):List Int:=
  let q:=qS (w.getD p.1 0) (w.getD p.2.1 0) (w.getD p.2.2.1 0) (w.getD p.2.2.2 0)
  (((w.set p.1 (q.toList.getD 0 0)).set p.2.1 (q.toList.getD 1 0)).set p.2.2.1 (q.toList.getD 2 0)).set p.2.2.2 (q.toList.getD 3 0)
theorem xH {w:List Int} {p:Nat × Nat × Nat × Nat}:(qAt w p).length=w.length:=by unfold qAt; simp only [List.length_set]
theorem vset {n:Nat} {v:Vector Int n} {i:Int} {k:Nat} {x:Int} {l:List Int} (e:v.toList=l) (hi:i=(k:Int)):(v.setIfInBounds (Int.toNat i) x).toList=l.set k x:=by
  subst hi e; rw [Vector.toList_setIfInBounds,Int.toNat_natCast]
theorem qm {v:Vector Int 16} {w:List Int} {i j k l:Int} {a b c d:Nat} {Q:bz.QT} (e:v.toList=w) (hi:i=(a:Int)) (hj:j=(b:Int)) (hk:k=(c:Int)) (hl:l=(d:Int))
    (ha:a<16) (hb:b<16) (hc:c<16) (hd:d<16) (H: ∀ r:Vector Int 16,r.toList=qAt w (a,b,c,d)→Q r):bz i j k l v Q:=by
  have k3: ∀ m:bz.V,m.v4=v→m.a0=i→m.b1=j→m.c2=k→m.d3=l→m.v23=qS (w.getD a 0) (w.getD b 0) (w.getD c 0) (w.getD d 0)→bz.K3 Q m:=by
    rintro ⟨v4,a0,b1,c2,d3,q9,v23⟩ e1 e2 e3 e4 e5 e6
    dsimp only at e1 e2 e3 e4 e5 e6
    subst e1 e2 e3 e4 e5 e6
    unfold bz.K3 bz.K1; dsimp only
    refine ixdv (n:=0) rfl rfl (by decide) (ixdv (n:=1) rfl rfl (by decide) (ixdv (n:=2) rfl rfl (by decide) (ixdv (n:=3) rfl rfl (by decide) ?_)))
    refine ixdv (n:=a) rfl hi ha (ixdv (n:=b) rfl hj hb (ixdv (n:=c) rfl hk hc (ixdv (n:=d) rfl hl hd ?_)))
    refine H _ ?_
    exact vset (vset (vset (vset e hi) hj) hk) hl
  unfold bz
  refine ixdv e hi ha (ixdv e hj hb (ixdv e hk hc (ixdv e hl hd ⟨?_, ?_⟩)))
  · refine ql ?_
    exact k3 _ rfl rfl rfl rfl rfl rfl
  · refine ql ?_
    exact k3 _ rfl rfl rfl rfl rfl rfl
def colP (i:Nat):Nat × Nat × Nat × Nat:=(i,4+i,8+i,12+i)
def diaP (i:Nat):Nat × Nat × Nat × Nat:=(i,4+(i+1) % 4,8+(i+2) % 4,12+(i+3) % 4)
def colS (w:List Int) (k:Nat):List Int:=(List.range k).foldl (fun w i=>qAt w (colP i)) w
def diaS (w:List Int) (k:Nat):List Int:=(List.range k).foldl (fun w i=>qAt w (diaP i)) w
def dblS (w:List Int):List Int:=diaS (colS w 4) 4
def rndS (w:List Int):Nat→List Int
  | 0=>w
  | r+1=>dblS (rndS w r)
theorem wB (w:List Int) (k:Nat):colS w (k+1)=qAt (colS w k) (colP k):=by unfold colS; rw [List.range_succ,List.foldl_append]; rfl
theorem wC (w:List Int) (k:Nat):diaS w (k+1)=qAt (diaS w k) (diaP k):=by unfold diaS; rw [List.range_succ,List.foldl_append]; rfl
theorem yR (w:List Int): ∀ k,(colS w k).length=w.length
  | 0=>rfl
  | k+1=>by rw [wB,xH,yR w k]
theorem yS (w:List Int): ∀ k,(diaS w k).length=w.length
  | 0=>rfl
  | k+1=>by rw [wC,xH,yS w k]
theorem yT (w:List Int): ∀ k,(rndS w k).length=w.length
  | 0=>rfl
  | k+1=>by show (dblS _).length=_; unfold dblS; rw [yS,yR,yT w k]
def outL (first w:List Int) (k:Nat):List Int:=(List.range k).map fun i=>IntKind.wrap .u8 (add (w.getD (i / 4) 0) (first.getD (i / 4) 0) / 2 ^ (8*(i % 4)))
theorem ug (f w:List Int) (k:Nat):(outL f w k).length=k:=by unfold outL; simp
theorem wD (f w:List Int) (k:Nat):outL f w k++[IntKind.wrap .u8 (add (w.getD (k / 4) 0) (f.getD (k / 4) 0) / 2 ^ (8*(k % 4)))]=outL f w (k+1):=by unfold outL; rw [List.range_succ,List.map_append]; rfl
def litW (a b c d:Int):Int:=a+b*256+c*65536+d*16777216
def wdS (l:List Int) (i:Nat):Int:=litW (l.getD (4*i) 0) (l.getD (4*i+1) 0) (l.getD (4*i+2) 0) (l.getD (4*i+3) 0)
def wds (l:List Int) (k:Nat):List Int:=(List.range k).map (wdS l)
theorem nu (l:List Int) (k:Nat):(wds l k).length=k:=by unfold wds; simp
theorem qn (l:List Int) (k:Nat):wds l k++[wdS l k]=wds l (k+1):=by unfold wds; rw [List.range_succ,List.map_append]; rfl
def sigL:List Int:=[1634760805,857760878,2036477234,1797285236]
def firS (key nonce:List Int) (c:Int):List Int:=sigL++(wds key 8++(c::wds nonce 3))
def blkS (key nonce:List Int) (c:Int):List Int:=outL (firS key nonce c) (rndS (firS key nonce c) 10) 64
theorem or4 {a b c d:Int} (ha:0≤a∧a<256) (hb:0≤b∧b<256) (hc:0≤c∧c<256) (hd:0≤d∧d<256):
    IntKind.wrap .u32 (((BitVec.ofInt (IntKind.bits .u32) (IntKind.wrap .u32 (((BitVec.ofInt (IntKind.bits .u32) (IntKind.wrap .u32 (((BitVec.ofInt (IntKind.bits .u32) (IntKind.wrap .u32 a) ||| (BitVec.ofInt (IntKind.bits .u32) (IntKind.wrap .u32 ((IntKind.wrap .u32 b)*2 ^ (min (Int.toNat (8:Int)) (IntKind.bits .u32)))))).toNat:Int))) ||| (BitVec.ofInt (IntKind.bits .u32) (IntKind.wrap .u32 ((IntKind.wrap .u32 c)*2 ^ (min (Int.toNat (16:Int)) (IntKind.bits .u32)))))).toNat:Int))) ||| (BitVec.ofInt (IntKind.bits .u32) (IntKind.wrap .u32 ((IntKind.wrap .u32 d)*2 ^ (min (Int.toNat (24:Int)) (IntKind.bits .u32)))))).toNat:Int))=litW a b c d:=by
  have comm: ∀ (x y z:Int) (n:Nat),(((BitVec.ofInt 32 y ||| BitVec.ofInt 32 x).toNat:Int))=z→((BitVec.ofInt (IntKind.bits .u32) x ||| BitVec.ofInt (IntKind.bits .u32) y).toNat:Int)=z:=by
    intro x y z n h
    rw [← h]
    show ((BitVec.ofInt 32 x ||| BitVec.ofInt 32 y).toNat:Int)=_
    rw [BitVec.or_comm]
  rw [show min (Int.toNat (8:Int)) (IntKind.bits .u32)=8 from rfl,show min (Int.toNat (16:Int)) (IntKind.bits .u32)=16 from rfl,show min (Int.toNat (24:Int)) (IntKind.bits .u32)=24 from rfl]
  rw [cV (n:=a) ⟨by omega,by omega⟩,cV (n:=b) ⟨by omega,by omega⟩,cV (n:=c) ⟨by omega,by omega⟩,cV (n:=d) ⟨by omega,by omega⟩]
  rw [show (2:Int) ^ 8=256 from rfl,show (2:Int) ^ 16=65536 from rfl,show (2:Int) ^ 24=16777216 from rfl]
  rw [cV (n:=b*256) ⟨by omega,by omega⟩,cV (n:=c*65536) ⟨by omega,by omega⟩,cV (n:=d*16777216) ⟨by omega,by omega⟩]
  have e1:=comm a (b*256) _ 0 (uh (P:=256) (S:=0) (a:=b) (r:=a) (n:=8) rfl ha (by omega) (by omega))
  rw [e1,cV (n:=b*256+a) ⟨by omega,by omega⟩]
  have e2:=comm (b*256+a) (c*65536) _ 0 (uh (P:=65536) (S:=0) (a:=c) (r:=b*256+a) (n:=16) rfl (by omega) (by omega) (by omega))
  rw [e2,cV (n:=c*65536+(b*256+a)) ⟨by omega,by omega⟩]
  have e3:=comm (c*65536+(b*256+a)) (d*16777216) _ 0 (uh (P:=16777216) (S:=0) (a:=d) (r:=c*65536+(b*256+a)) (n:=24) rfl (by omega) (by omega) (by omega))
  rw [e3,cV (n:=d*16777216+(c*65536+(b*256+a))) ⟨by omega,by omega⟩]
  unfold litW; omega
theorem uj {l:List Int} {Q:Int→Prop} (hl:4≤l.length) (hb:bytesL l) (H:Q (litW (l.getD 0 0) (l.getD 1 0) (l.getD 2 0) (l.getD 3 0))):iH l Q:=by
  unfold iH
  refine ixd (n:=0) rfl (by omega) (ixd (n:=1) rfl (by omega) (ixd (n:=2) rfl (by omega) (ixd (n:=3) rfl (by omega) ?_)))
  rw [or4 (dI hb _) (dI hb _) (dI hb _) (dI hb _)]
  exact H
theorem uk {a b c d:Int} {Q:Int→Prop} (ha:0≤a∧a<256) (hb:0≤b∧b<256) (hc:0≤c∧c<256) (hd:0≤d∧d<256) (H:Q (litW a b c d)):gj [a,b,c,d] Q:=by
  unfold gj
  refine ixr (by decide) rfl (ixr (by decide) rfl (ixr (by decide) rfl (ixr (by decide) rfl ?_)))
  rw [cV (n:=a) ⟨by omega,by omega⟩,cV (n:=b) ⟨by omega,by omega⟩,cV (n:=c) ⟨by omega,by omega⟩,cV (n:=d) ⟨by omega,by omega⟩,
    cV (n:=256*b) ⟨by omega,by omega⟩,cV (n:=65536*c) ⟨by omega,by omega⟩,cV (n:=16777216*d) ⟨by omega,by omega⟩,
    cV (n:=a+256*b) ⟨by omega,by omega⟩,cV (n:=a+256*b+65536*c) ⟨by omega,by omega⟩,cV (n:=a+256*b+65536*c+16777216*d) ⟨by omega,by omega⟩]
  rw [show a+256*b+65536*c+16777216*d=litW a b c d by unfold litW; omega]
  exact H
end Go.Pt
namespace Go.Pt
open Go Go.Wc Go.Pu
theorem jP {l:List Int} {n m k:Nat} {i j:Int} (hi:i=(n:Int)) (hj:j=(m:Int)) (h:n+k<m):(sub l i j).getD k 0=l.getD (n+k) 0:=by
  subst hi hj
  unfold sub
  rw [Int.toNat_natCast,Int.toNat_natCast,List.getD_eq_getElem?_getD,List.getD_eq_getElem?_getD,List.getElem?_drop,List.getElem?_take]
  rw [if_pos h]
theorem wE {l:List Int} {i j:Int} (h:bytesL l):bytesL (sub l i j):=fun x hx=>by
  unfold sub at hx
  exact h x (List.mem_of_mem_take (List.mem_of_mem_drop hx))
theorem Bk {k : Vector Int 32} {n : Vector Int 12} {c : Int} {Q : aT.QT} (hk : bytesL k.toList) (hn : bytesL n.toList) (H : ∀ r : Vector Int 16, r.toList = firS k.toList n.toList c → Q r) : aT k n c Q := by
  have hkl:k.toList.length=32:=Vector.length_toList ..
  have hnl:n.toList.length=12:=Vector.length_toList ..
  have l2: ∀ (j t:Nat) (m:aT.V),t+j=3→m.gC=n→m.v24=(t:Int)→m.w7.toList=(sigL++(wds k.toList 8++(c::wds n.toList t)))++List.replicate j 0→aT.L2 Q m:=by
    intro j
    induction j with
    | zero =>
      intro t m ht e1 e2 e3
      obtain rfl:t=3:=by omega
      refine aT.cM ?_
      unfold aT.B2
      rw [e2,decide_eq_false (by omega),aa]
      refine H _ ?_
      rw [e3,List.replicate_zero,List.append_nil]; rfl
    | succ j ih =>
      intro t m ht e1 e2 e3
      have hlen:(sigL++(wds k.toList 8++(c::wds n.toList t))).length=13+t:=by
        simp only [List.length_append,List.length_cons,nu]; show 4+_=_; omega
      refine aT.cM ?_
      unfold aT.B2
      rw [e2,decide_eq_true (by omega),ak,e1,jQ,eL (n:=4*(t:Int)) (by omega),eL (n:=13+(t:Int)) (by omega),cW (by omega)]
      refine ⟨⟨by omega,by omega,by rw [hnl]; omega⟩, ?_⟩
      have hsl:=jR (l:=n.toList) (i:=4*(t:Int)) (j:=((12:Nat):Int)) (by rw [hnl]; omega)
      refine uj (by omega) (wE hn) ?_
      rw [jP (n:=4*t) (by omega) rfl (by omega),jP (n:=4*t) (by omega) rfl (by omega),jP (n:=4*t) (by omega) rfl (by omega),jP (n:=4*t) (by omega) rfl (by omega)]
      refine ixdv (n:=13+t) rfl (by omega) (by omega) ?_
      refine ih (t+1) _ (by omega) (by first | exact e1 | rfl) rfl ?_
      dsimp only
      rw [jr (i:=13+(t:Int)) (l:=sigL++(wds k.toList 8++(c::wds n.toList t))) (y:=0) (r:=List.replicate j 0) (by rw [e3]; rfl) (by rw [hlen]; omega)]
      congr 1
      rw [List.append_assoc,List.append_assoc,List.cons_append,← qn n.toList t]
      rfl
  have l1: ∀ (j t:Nat) (m:aT.V),t+j=8→m.qo=k→m.gC=n→m.bM=c→m.v11=(t:Int)→m.w7.toList=(sigL++wds k.toList t)++List.replicate (j+4) 0→aT.L1 Q m:=by
    intro j
    induction j with
    | zero =>
      intro t m ht e1 e4 e5 e2 e3
      obtain rfl:t=8:=by omega
      have hlen:(sigL++wds k.toList 8).length=12:=by
        simp only [List.length_append,nu]; rfl
      refine aT.bY ?_
      unfold aT.B1
      rw [e2,decide_eq_false (by omega),aa]
      refine ixdv (n:=12) rfl rfl (by decide) ?_
      refine l2 3 0 _ (by omega) e4 rfl ?_
      dsimp only
      rw [jr (i:=(12:Int)) (l:=sigL++wds k.toList 8) (y:=0) (r:=List.replicate 3 0) (by rw [e3]; rfl) (by rw [hlen]; rfl)]
      rw [e5,List.append_assoc sigL]
      rfl
    | succ j ih =>
      intro t m ht e1 e4 e5 e2 e3
      have hlen:(sigL++wds k.toList t).length=4+t:=by
        simp only [List.length_append,nu]; rfl
      refine aT.bY ?_
      unfold aT.B1
      rw [e2,decide_eq_true (by omega),ak,e1,jQ,eL (n:=4*(t:Int)) (by omega),eL (n:=4+(t:Int)) (by omega),cW (by omega)]
      refine ⟨⟨by omega,by omega,by rw [hkl]; omega⟩, ?_⟩
      have hsl:=jR (l:=k.toList) (i:=4*(t:Int)) (j:=((32:Nat):Int)) (by rw [hkl]; omega)
      refine uj (by omega) (wE hk) ?_
      rw [jP (n:=4*t) (by omega) rfl (by omega),jP (n:=4*t) (by omega) rfl (by omega),jP (n:=4*t) (by omega) rfl (by omega),jP (n:=4*t) (by omega) rfl (by omega)]
      refine ixdv (n:=4+t) rfl (by omega) (by omega) ?_
      refine ih (t+1) _ (by omega) (by first | exact e1 | rfl) e4 e5 rfl ?_
      dsimp only
      rw [jr (i:=4+(t:Int)) (l:=sigL++wds k.toList t) (y:=0) (r:=List.replicate (j+4) 0) (by rw [e3,show j+1+4=(j+4)+1 by omega]; rfl) (by rw [hlen]; omega)]
      congr 1
      rw [List.append_assoc,← qn k.toList t]
      rfl
  unfold aT
  exact l1 8 0 _ (by omega) rfl rfl rfl rfl rfl
theorem yU (k n:List Int) (c:Int):(firS k n c).length=16:=by
  unfold firS; simp only [List.length_append,List.length_cons,nu]; rfl
theorem FC {first w:List Int} {t:Nat}:IntKind.wrap .u8 (Int.fdiv (IntKind.wrap .u32 (w.getD (t / 4) 0+first.getD (t / 4) 0)) (2 ^ (min (Int.toNat (8*((t:Int) % 4))) (IntKind.bits .u32))))=IntKind.wrap .u8 (add (w.getD (t / 4) 0) (first.getD (t / 4) 0) / 2 ^ (8*(t % 4))):=by
  rw [show min (Int.toNat (8*((t:Int) % 4))) (IntKind.bits .u32)=8*(t % 4) by
    rw [show (8*((t:Int) % 4)).toNat=8*(t % 4) by omega]; exact Nat.min_eq_left (show _≤32 by omega)]
  rw [fd _ (um _).1]; rfl
theorem yV {k : Vector Int 32} {n : Vector Int 12} {c : Int} {Q : ay.QT} (hk : bytesL k.toList) (hn : bytesL n.toList) (H : ∀ r : Vector Int 64, r.toList = blkS k.toList n.toList c → Q r) : ay k n c Q := by
  obtain ⟨F,hF⟩: ∃ F,F=firS k.toList n.toList c:=⟨_,rfl⟩
  have RP:F.length=16:=by rw [hF,yU]
  have l4: ∀ (j t:Nat) (m:ay.V),t+j=64→m.l6=(t:Int)→m.bw.toList=F→m.w8.toList=rndS F 10→m.pJ.toList=outL F (rndS F 10) t++List.replicate j 0→ay.L4 Q m:=by
    intro j
    induction j with
    | zero =>
      intro t m ht e1 e2 e3 e4
      obtain rfl:t=64:=by omega
      refine ay.kg ?_
      unfold ay.B4
      rw [e1,decide_eq_false (by omega),aa]
      refine H _ ?_
      rw [e4,List.replicate_zero,List.append_nil,hF]; rfl
    | succ j ih =>
      intro t m ht e1 e2 e3 e4
      refine ay.kg ?_
      unfold ay.B4
      rw [e1,decide_eq_true (by omega),ak]
      rw [RQ (by omega),FD (by omega),eL (n:=(t:Int) / 4) (by omega),eL (n:=8*((t:Int) % 4)) (by omega),cW (by omega)]
      refine ixdv (n:=t / 4) e3 (by omega) (by omega) (ixdv (n:=t / 4) e2 (by omega) (by omega) ?_)
      refine ⟨by omega,ixdv (n:=t) rfl rfl (by omega) ?_⟩
      refine ih (t+1) _ (by omega) rfl e2 e3 ?_
      dsimp only
      rw [jr (i:=(t:Int)) (l:=outL F (rndS F 10) t) (y:=0) (r:=List.replicate j 0) (by rw [e4]; rfl) (by rw [ug]),FC,wD]
  have l1 : ∀ (j r : Nat) (m : ay.V), r + j = 10 → m.v20 = (r : Int) → m.bw.toList = F → m.w8.toList = rndS F r → ay.L1 Q m := by
    intro j
    induction j with
    | zero =>
      intro r m hr e1 e2 e3
      obtain rfl:r=10:=by omega
      refine ay.bY ?_
      unfold ay.B1
      rw [e1,decide_eq_false (by omega),aa]
      exact l4 64 0 _ (by omega) rfl e2 e3 (by dsimp only; exact Vector.toList_replicate ..)
    | succ j ih =>
      intro r m hr e1 e2 e3
      have l3: ∀ (j' t:Nat) (m':ay.V),t+j'=4→m'.v20=(r:Int)→m'.jB=(t:Int)→m'.bw.toList=F→m'.w8.toList=diaS (colS (rndS F r) 4) t→ay.L3 (ay.L1 Q) Q m':=by
        intro j'
        induction j' with
        | zero =>
          intro t m' ht a1 a2 a3 a4
          obtain rfl:t=4:=by omega
          refine ay.ff _ ?_
          unfold ay.B3
          rw [a2,decide_eq_false (by omega),aa]
          exact ih (r+1) _ (by omega) (by dsimp only; rw [a1,cW (by omega)]) a3 a4
        | succ j' wF =>
          intro t m' ht a1 a2 a3 a4
          refine ay.ff _ ?_
          unfold ay.B3
          rw [a2,decide_eq_true (by omega),ak]
          rw [eL (n:=(t:Int)+1) (by omega),eL (n:=(t:Int)+2) (by omega),eL (n:=(t:Int)+3) (by omega),FD (by omega),FD (by omega),FD (by omega),
            eL (n:=4+((t:Int)+1) % 4) (by omega),eL (n:=8+((t:Int)+2) % 4) (by omega),eL (n:=12+((t:Int)+3) % 4) (by omega)]
          refine qm (a:=t) (b:=4+(t+1) % 4) (c:=8+(t+2) % 4) (d:=12+(t+3) % 4) a4 rfl (by omega) (by omega) (by omega) (by omega) (by omega) (by omega) (by omega) fun v hv=> ?_
          exact wF (t+1) _ (by omega) a1 (by dsimp only; omega) a3 (by dsimp only; rw [hv,wC]; rfl)
      have l2: ∀ (j' t:Nat) (m':ay.V),t+j'=4→m'.v20=(r:Int)→m'.l9=(t:Int)→m'.bw.toList=F→m'.w8.toList=colS (rndS F r) t→ay.L2 (ay.L1 Q) Q m':=by
        intro j'
        induction j' with
        | zero =>
          intro t m' ht a1 a2 a3 a4
          obtain rfl:t=4:=by omega
          refine ay.cM _ ?_
          unfold ay.B2
          rw [a2,decide_eq_false (by omega),aa]
          exact l3 4 0 _ (by omega) a1 rfl a3 a4
        | succ j' wF =>
          intro t m' ht a1 a2 a3 a4
          refine ay.cM _ ?_
          unfold ay.B2
          rw [a2,decide_eq_true (by omega),ak]
          rw [eL (n:=(t:Int)+1) (by omega),eL (n:=4+(t:Int)) (by omega),eL (n:=8+(t:Int)) (by omega),eL (n:=12+(t:Int)) (by omega)]
          refine qm (a:=t) (b:=4+t) (c:=8+t) (d:=12+t) a4 rfl (by omega) (by omega) (by omega) (by omega) (by omega) (by omega) (by omega) fun v hv=> ?_
          exact wF (t+1) _ (by omega) a1 (by dsimp only; omega) a3 (by dsimp only; rw [hv,wB]; rfl)
      refine ay.bY ?_
      unfold ay.B1
      rw [e1,decide_eq_true (by omega),ak]
      exact l2 4 0 _ (by omega) (by first | exact e1 | rfl) rfl e2 e3
  unfold ay
  refine Bk hk hn fun r hr=> ?_
  exact l1 10 0 _ (by omega) rfl (by dsimp only; rw [hr,hF]) (by dsimp only; rw [hr,hF]; rfl)
end Go.Pt
namespace Go.Pt
open Go Go.Wc Go.Pu
def plN:List (Nat × Nat × Nat × Nat):=[(0,4,8,12),(1,5,9,13),(2,6,10,14),(3,7,11,15),(0,5,10,15),(1,6,11,12),(2,7,8,13),(3,4,9,14)]
def plI (p:Nat × Nat × Nat × Nat):List Int:=[(p.1:Int),(p.2.1:Int),(p.2.2.1:Int),(p.2.2.2:Int)]
theorem NP (w:List Int):dblS w=plN.foldl qAt w:=by
  unfold dblS diaS colS plN
  simp only [List.range,List.range.loop,List.foldl_cons,List.foldl_nil,colP,diaP]
theorem RR: ∀ p ∈ plN,p.1<16∧p.2.1<16∧p.2.2.1<16∧p.2.2.2<16:=by decide
theorem ixs {l:List Int} {i:Int} {n:Nat} {K:Int→Prop} (hi:i=(n:Int)) (h:n<l.length) (H: ∀ x,K x):ixP l i K:=gB n hi h (H _)
theorem yW {k : Vector Int 32} {n : Vector Int 12} {c : Int} {Q : af.QT} (hk : bytesL k.toList) (hn : bytesL n.toList) (H : ∀ r : Vector Int 64, r.toList = blkS k.toList n.toList c → Q r) : af k n c Q := by
  have hkl:k.toList.length=32:=Vector.length_toList ..
  have hnl:n.toList.length=12:=Vector.length_toList ..
  obtain ⟨F,hF⟩: ∃ F,F=firS k.toList n.toList c:=⟨_,rfl⟩
  have RP:F.length=16:=by rw [hF,yU]
  have RS: ∀ r,(rndS F r).length=16:=fun r=>by rw [yT,RP]
  obtain ⟨R,hR⟩: ∃ R,R=rndS F 10:=⟨_,rfl⟩
  have hRl:R.length=16:=by rw [hR]; exact RS 10
  have l7 : ∀ (j t : Nat) (m : af.V), t + j = 16 → m.i17 = (t : Int) → m.bw = F → m.rA = R → m.nU.toList = outL F (R) (4 * t) ++ List.replicate (4 * j) 0 → af.L7 Q m := by
    intro j
    induction j with
    | zero =>
      intro t m ht e1 e2 e3 e4
      obtain rfl:t=16:=by omega
      refine af.MP ?_
      unfold af.B7
      rw [e1,decide_eq_false (by omega),aa]
      refine H _ ?_
      rw [e4]; simp only [Nat.mul_zero,List.replicate_zero,List.append_nil]; rw [hR,hF]; rfl
    | succ j ih =>
      intro t m ht e1 e2 e3 e4
      have l8: ∀ (j' u:Nat) (m':af.V),u+j'=4→m'.FE=(u:Int)→m'.i17=(t:Int)→m'.bw=F→m'.rA=R→m'.RU=add ((R).getD t 0) (F.getD t 0)→m'.nU.toList=outL F (R) (4*t+u)++List.replicate (4*j+j') 0→af.L8 (af.L7 Q) Q m':=by
        intro j'
        induction j' with
        | zero =>
          intro u m' hu a1 a2 a3 a4 a5 a6
          obtain rfl:u=4:=by omega
          refine af.MQ _ ?_
          unfold af.B8
          rw [a1,decide_eq_false (by omega),aa,a2,cW (by omega)]
          exact ih (t+1) _ (by omega) rfl a3 a4 (by dsimp only; rw [a6]; rfl)
        | succ j' wF =>
          intro u m' hu a1 a2 a3 a4 a5 a6
          refine af.MQ _ ?_
          unfold af.B8
          rw [a1,a2,decide_eq_true (by omega),ak,eL (n:=8*(u:Int)) (by omega),eL (n:=4*(t:Int)) (by omega),eL (n:=4*(t:Int)+(u:Int)) (by omega),cW (by omega)]
          refine gD (by omega) (ixdv (n:=4*t+u) rfl (by omega) (by omega) ?_)
          refine wF (u+1) _ (by omega) rfl (by first | exact a2 | rfl) a3 a4 a5 ?_
          dsimp only
          rw [jr (i:=4*(t:Int)+(u:Int)) (l:=outL F (R) (4*t+u)) (y:=0) (r:=List.replicate (4*j+j') 0) (by rw [a6]; rfl) (by rw [ug]; omega)]
          congr 1
          rw [show 4*t+(u+1)=(4*t+u)+1 by omega,← wD]
          congr 1
          have e1:(4*t+u) / 4=t:=by omega
          have e2:(4*t+u) % 4=u:=by omega
          rw [e1,e2,a5]
          rw [show min (Int.toNat (8*(u:Int))) (IntKind.bits .u32)=8*u by
            rw [show (8*(u:Int)).toNat=8*u by omega]; exact Nat.min_eq_left (show _≤32 by omega)]
          rw [fd _ (yX _ _).1]
      refine af.MP ?_
      unfold af.B7
      rw [e1,e2,e3,decide_eq_true (by omega),ak]
      refine ixd rfl (by rw [hRl]; omega) (ixd rfl (by omega) ?_)
      exact l8 4 0 _ (by omega) rfl (by first | exact e1 | rfl) (by first | exact e2 | rfl) (by first | exact e3 | rfl) rfl (by dsimp only; rw [e4,show 4*(j+1)=4*j+4 by omega]; rfl)
  have l3 : ∀ (j r : Nat) (m : af.V), r + j = 10 → m.gl = (r : Int) → m.bw = F → m.rA = rndS F r → af.L3 Q m := by
    intro j
    induction j with
    | zero =>
      intro r m hr e1 e2 e3
      obtain rfl:r=10:=by omega
      refine af.ff ?_
      unfold af.B3
      rw [e1,decide_eq_false (by omega),aa]
      exact l7 16 0 _ (by omega) rfl e2 (e3.trans hR.symm) (by dsimp only; exact Vector.toList_replicate ..)
    | succ j ih =>
      intro r m hr e1 e2 e3
      have l4 : ∀ (j' t : Nat) (m' : af.V), t + j' = 8 → m'.gl = (r : Int) → m'.bw = F → m'.v59 = plN.map plI → m'.Fv = 8 → m'.nR = (t : Int) → m'.rA = (plN.take t).foldl qAt (rndS F r) → af.L4 (af.L3 Q) Q m' := by
        intro j'
        induction j' with
        | zero =>
          intro t m' ht a1 a2 a3 a4 a5 a6
          obtain rfl:t=8:=by omega
          refine af.kg _ ?_
          unfold af.B4
          rw [a5,a4,decide_eq_false (by omega),aa,a1,cW (by omega)]
          exact ih (r+1) _ (by omega) rfl a2 (by dsimp only; rw [a6]; exact (NP _).symm)
        | succ j' wF =>
          intro t m' ht a1 a2 a3 a4 a5 a6
          have htl:t<plN.length:=by show t<8; omega
          obtain ⟨p,hp⟩: ∃ p,p=plN[t]:=⟨_,rfl⟩
          obtain ⟨h1,h2,h3,h4⟩:=RR p (by rw [hp]; exact List.getElem_mem htl)
          obtain ⟨w,hw⟩: ∃ w,w=(plN.take t).foldl qAt (rndS F r):=⟨_,rfl⟩
          have hwl:w.length=16:=by
            rw [hw]
            have: ∀ (ps:List (Nat × Nat × Nat × Nat)) (w:List Int),(ps.foldl qAt w).length=w.length:=by
              intro ps
              induction ps with
              | nil=>intro w; rfl
              | cons p ps ih=>intro w; rw [List.foldl_cons,ih,xH]
            rw [this,RS]
          have hnext:(plN.take (t+1)).foldl qAt (rndS F r)=qAt w p:=by rw [dJ htl,List.foldl_append,← hw,← hp]; rfl
          obtain ⟨a,b,c',d⟩:=p
          dsimp only at h1 h2 h3 h4
          have Fw: ∀ m2:af.V,m2.gl=(r:Int)→m2.bw=F→m2.v59=plN.map plI→m2.Fv=8→m2.nR=(t:Int)→m2.rA=w→m2.Ke=plI (a,b,c',d)→m2.Xp=qS (w.getD a 0) (w.getD b 0) (w.getD c' 0) (w.getD d 0)→ ∀ bb,af.KO (af.L3 Q) (af.L4 (af.L3 Q) Q) Q bb m2:=by
            intro m2 b1 b2 b3 b4 b5 b6 b7 b8 bb
            unfold af.KO af.K6
            refine af.nV _ _ ?_
            unfold af.B5; dsimp only
            rw [show decide ((0:Int)<4)=true from rfl,ak,b7,b8,b6]
            refine ixr (by decide) rfl (ixdv (n:=0) rfl rfl (by decide) (ixs (n:=a) rfl (by omega) fun _=> ?_))
            refine af.nV _ _ ?_
            unfold af.B5; dsimp only
            rw [show decide (IntKind.wrap .i64 ((0:Int)+1)<4)=true from rfl,ak]
            refine ixr (by decide) rfl (ixdv (n:=1) rfl rfl (by decide) (ixs (n:=b) rfl (by rw [List.length_set]; omega) fun _=> ?_))
            refine af.nV _ _ ?_
            unfold af.B5; dsimp only
            rw [show decide (IntKind.wrap .i64 (IntKind.wrap .i64 ((0:Int)+1)+1)<4)=true from rfl,ak]
            refine ixr (by decide) rfl (ixdv (n:=2) rfl rfl (by decide) (ixs (n:=c') rfl (by rw [List.length_set,List.length_set]; omega) fun _=> ?_))
            refine af.nV _ _ ?_
            unfold af.B5; dsimp only
            rw [show decide (IntKind.wrap .i64 (IntKind.wrap .i64 (IntKind.wrap .i64 ((0:Int)+1)+1)+1)<4)=true from rfl,ak]
            refine ixr (by decide) rfl (ixdv (n:=3) rfl rfl (by decide) (ixs (n:=d) rfl (by rw [List.length_set,List.length_set,List.length_set]; omega) fun _=> ?_))
            refine af.nV _ _ ?_
            unfold af.B5; dsimp only
            rw [show decide (IntKind.wrap .i64 (IntKind.wrap .i64 (IntKind.wrap .i64 (IntKind.wrap .i64 ((0:Int)+1)+1)+1)+1)<4)=false from rfl,aa,b5,cW (by omega)]
            refine wF (t+1) _ (by omega) b1 b2 b3 b4 rfl ?_
            dsimp only
            rw [hnext]
            unfold qAt; dsimp only
            simp only [Int.toNat_natCast]
          refine af.kg _ ?_
          unfold af.B4
          rw [a5,a4,decide_eq_true (by omega),ak,a3,a6,← hw]
          refine gB t rfl (by rw [List.length_map]; exact htl) ?_
          rw [List.getElem_map,← hp]
          refine ixr (by decide) rfl (ixd (n:=a) rfl (by omega) (ixr (by decide) rfl (ixd (n:=b) rfl (by omega) (ixr (by decide) rfl (ixd (n:=c') rfl (by omega) (ixr (by decide) rfl (ixd (n:=d) rfl (by omega) ⟨?_, ?_⟩)))))))
          · refine pF ?_
            refine Fw _ ?_ ?_ ?_ ?_ ?_ ?_ ?_ ?_ _ <;> first | rfl | exact a1 | exact a2 | exact a3 | exact a4 | exact a5
          · refine pF ?_
            refine Fw _ ?_ ?_ ?_ ?_ ?_ ?_ ?_ ?_ _ <;> first | rfl | exact a1 | exact a2 | exact a3 | exact a4 | exact a5
      refine af.ff ?_
      unfold af.B3
      rw [e1,decide_eq_true (by omega),ak]
      show af.L4 _ Q _
      exact l4 8 0 _ (by omega) (by first | exact e1 | rfl) e2 rfl rfl rfl e3
  have l2: ∀ (j t:Nat) (m:af.V),t+j=3→m.gC=n→m.i9=(t:Int)→m.bw=sigL++(wds k.toList 8++(c::wds n.toList t))→af.L2 Q m:=by
    intro j
    induction j with
    | zero =>
      intro t m ht e1 e2 e3
      obtain rfl:t=3:=by omega
      refine af.cM ?_
      unfold af.B2
      have e4:m.bw=F:=by rw [e3,hF]; rfl
      rw [e2,decide_eq_false (by omega),aa]
      refine ⟨ct (by rw [e4]; simp only [List.length_nil]; omega), ?_⟩
      exact l3 10 0 _ (by omega) rfl e4 (by dsimp only; rw [e4]; rfl)
    | succ j ih =>
      intro t m ht e1 e2 e3
      have hlen:(sigL++(wds k.toList 8++(c::wds n.toList t))).length=13+t:=by
        simp only [List.length_append,List.length_cons,nu]; show 4+_=_; omega
      refine af.cM ?_
      unfold af.B2
      rw [e2,decide_eq_true (by omega),ak,e1,jQ,eL (n:=4*(t:Int)) (by omega),eL (n:=4*(t:Int)+4) (by omega),cW (by omega)]
      refine ⟨⟨by omega,by omega,by rw [hnl]; omega⟩, ?_⟩
      rw [NQ (n:=4*t) (by omega) (by omega) (by rw [hnl]; omega)]
      refine uk (dI hn _) (dI hn _) (dI hn _) (dI hn _) ⟨ct (by rw [e3,hlen]; simp only [List.length_cons,List.length_nil]; omega), ?_⟩
      refine ih (t+1) _ (by omega) (by first | exact e1 | rfl) rfl ?_
      dsimp only
      rw [e3,List.append_assoc,List.append_assoc,List.cons_append,← qn n.toList t]
      rfl
  have l1: ∀ (j t:Nat) (m:af.V),t+j=8→m.qo=k→m.gC=n→m.bM=c→m.i8=(t:Int)→m.bw=sigL++wds k.toList t→af.L1 Q m:=by
    intro j
    induction j with
    | zero =>
      intro t m ht e1 e4 e5 e2 e3
      obtain rfl:t=8:=by omega
      have hlen:(sigL++wds k.toList 8).length=12:=by simp only [List.length_append,nu]; rfl
      refine af.bY ?_
      unfold af.B1
      rw [e2,decide_eq_false (by omega),aa,e3,e5]
      refine ⟨ct (by rw [hlen]; simp only [List.length_cons,List.length_nil]; omega), ?_⟩
      refine l2 3 0 _ (by omega) e4 rfl ?_
      dsimp only
      rw [List.append_assoc]; rfl
    | succ j ih =>
      intro t m ht e1 e4 e5 e2 e3
      have hlen:(sigL++wds k.toList t).length=4+t:=by simp only [List.length_append,nu]; rfl
      refine af.bY ?_
      unfold af.B1
      rw [e2,decide_eq_true (by omega),ak,e1,jQ,eL (n:=4*(t:Int)) (by omega),eL (n:=4*(t:Int)+4) (by omega),cW (by omega)]
      refine ⟨⟨by omega,by omega,by rw [hkl]; omega⟩, ?_⟩
      rw [NQ (n:=4*t) (by omega) (by omega) (by rw [hkl]; omega)]
      refine uk (dI hk _) (dI hk _) (dI hk _) (dI hk _) ⟨ct (by rw [e3,hlen]; simp only [List.length_cons,List.length_nil]; omega), ?_⟩
      refine ih (t+1) _ (by omega) (by first | exact e1 | rfl) e4 e5 rfl ?_
      dsimp only
      rw [e3,List.append_assoc,← qn k.toList t]
      rfl
  unfold af
  exact l1 8 0 _ (by omega) rfl rfl rfl rfl rfl
end Go.Pt
namespace Go.Pt
open Go Go.Wc Go.Pu
def X8 (a b:Int):Int:=IntKind.wrap .u8 (((BitVec.ofInt (IntKind.bits .u8) a ^^^ (BitVec.ofInt (IntKind.bits .u8) b)).toNat:Int))
def ctr (c:Int) (q:Nat):Int:=IntKind.wrap .u32 (c+(q:Int))
theorem MR {c:Int} (h:lM c):ctr c 0=c:=by unfold ctr; rw [show c+((0:Nat):Int)=c by omega]; exact cV h
theorem MS (c:Int) (q:Nat):IntKind.wrap .u32 (ctr c q+1)=ctr c (q+1):=by unfold ctr; simp only [wrap_u32]; omega
def strS (k n:List Int) (c:Int) (i:Nat):Int:=(blkS k n (ctr c (i / 64))).getD (i % 64) 0
def turnL (k n:List Int) (c:Int) (b:List Int) (t:Nat):List Int:=(List.range t).map fun i=>X8 (b.getD i 0) (strS k n c i)
theorem lH (k n:List Int) (c:Int) (b:List Int) (t:Nat):(turnL k n c b t).length=t:=by unfold turnL; simp
theorem Bl (k n:List Int) (c:Int) (b:List Int) (t:Nat):turnL k n c b t++[X8 (b.getD t 0) (strS k n c t)]=turnL k n c b (t+1):=by unfold turnL; rw [List.range_succ,List.map_append]; rfl
theorem KQ (a b:Int):0≤X8 a b∧X8 a b<256:=xI _
theorem yY (k n:List Int) (c:Int) (b:List Int) (t:Nat):bytesL (turnL k n c b t):=by
  intro x hx
  obtain ⟨i,_,rfl⟩:=List.mem_map.1 hx
  exact KQ _ _
def cipS (k n:List Int) (c:Int) (b:List Int):List Int:=turnL k n c b b.length
theorem yZ (k n:List Int) (c:Int):(blkS k n c).length=64:=ug _ _ _
theorem uo {l r:List Int} {i:Nat} (h:l.length≤i):(l++r).getD i 0=r.getD (i - l.length) 0:=by
  rw [List.getD_eq_getElem?_getD,List.getD_eq_getElem?_getD,List.getElem?_append_right h]
theorem Ed {l:List Int} {t i:Nat}:(l.drop t).getD i 0=l.getD (t+i) 0:=by
  rw [List.getD_eq_getElem?_getD,List.getD_eq_getElem?_getD,List.getElem?_drop]
theorem Ee {l:List Int} {t:Nat} (h:t<l.length):l.drop t=l.getD t 0::l.drop (t+1):=by
  rw [List.drop_eq_getElem_cons h,List.getD_eq_getElem?_getD,List.getElem?_eq_getElem h]; rfl
theorem FF {k n:List Int} {c:Int} {b:List Int} {t:Nat}:(turnL k n c b t++b.drop t).getD t 0=b.getD t 0:=by
  rw [uo (by rw [lH]; omega),lH,Nat.sub_self,Ed]; rfl
theorem y3 {k n:List Int} {c:Int} {b:List Int} {t:Nat} (h:t<b.length):(turnL k n c b t++b.drop t).set t (X8 (b.getD t 0) (strS k n c t))=turnL k n c b (t+1)++b.drop (t+1):=by
  rw [List.set_append_right _ _ (by rw [lH]; omega),lH,Nat.sub_self,Ee h,List.set_cons_zero,← Bl,List.append_assoc]; rfl
theorem qp {k n:List Int} {c:Int} {b:List Int} {t:Nat} (h:t≤b.length):(turnL k n c b t++b.drop t).length=b.length:=by
  rw [List.length_append,lH,List.length_drop]; omega
theorem Bn {k : Vector Int 32} {n : Vector Int 12} {c : Int} {b : List Int} {Q : bI.QT} (hk : bytesL k.toList) (hn : bytesL n.toList) (hc : lM c) (hb : b.length ≤ 1000000) (H : Q (cipS k.toList n.toList c b)) : bI k n c b Q := by
  obtain ⟨kl,hkl⟩: ∃ l,l=k.toList:=⟨_,rfl⟩
  obtain ⟨nl,hnl⟩: ∃ l,l=n.toList:=⟨_,rfl⟩
  rw [← hkl,← hnl] at H
  have l1 : ∀ (f q : Nat) (m : bI.V), (b.length + 63) / 64 ≤ q + f → q ≤ (b.length + 63) / 64 → m.jS = k → m.iI = n → m.bM = ctr c q → m.iJ = ((64 * q : Nat) : Int) → m.gE = turnL kl nl c b (min (64 * q) b.length) ++ b.drop (min (64 * q) b.length) → bI.L1 Q m := by
    intro f
    induction f with
    | zero =>
      intro q m h1 h2 e1 e2 e3 e4 e5
      refine bI.bY ?_
      unfold bI.B1
      have hlen:m.gE.length=b.length:=by rw [e5,qp (by omega)]
      rw [hlen,if_neg (by omega),e4,decide_eq_false (by omega),aa,e5,Nat.min_eq_right (by omega),List.drop_of_length_le (Nat.le_refl _),List.append_nil]
      exact H
    | succ f ih =>
      intro q m h1 h2 e1 e2 e3 e4 e5
      refine bI.bY ?_
      unfold bI.B1
      have hlen:m.gE.length=b.length:=by rw [e5,qp (by omega)]
      rw [hlen,if_neg (by omega),e4]
      by_cases hlt:64*q<b.length
      · rw [decide_eq_true (by omega), ak, e1, e2]
        refine yV hk hn fun s hs=> ?_
        rw [← hkl,← hnl,e3] at hs
        rw [eL (n:=((64*q:Nat):Int)+64) (by omega)]
        obtain ⟨hi,ehi,hh⟩: ∃ hi:Nat,(if (b.length:Int)<((64*q:Nat):Int)+64 then (b.length:Int) else ((64*q:Nat):Int)+64)=(hi:Int)∧hi=min (64*(q+1)) b.length:=by
          by_cases Xq:(b.length:Int)<((64*q:Nat):Int)+64
          · exact ⟨b.length,by rw [if_pos Xq],by omega⟩
          · exact ⟨64*(q+1),by rw [if_neg Xq]; omega,by omega⟩
        rw [ehi]
        refine ⟨⟨by omega,by omega,by omega⟩, ?_⟩
        have hsl:=jR (l:=m.gE) (i:=((64*q:Nat):Int)) (j:=(hi:Int)) (by omega)
        have l2: ∀ (j t:Nat) (m':bI.V),t+j=hi - 64*q→m'.jS=k→m'.iI=n→m'.bM=ctr c q→m'.iJ=((64*q:Nat):Int)→m'.RV=s→m'.Rl=((hi - 64*q:Nat):Int)→m'.jB=(t:Int)→m'.gE=turnL kl nl c b (64*q+t)++b.drop (64*q+t)→bI.L2 (bI.L1 Q) Q m':=by
          intro j
          induction j with
          | zero =>
            intro t m' ht a1 a2 a3 a4 a5 a6 a7 a8
            refine bI.cM _ ?_
            unfold bI.B2
            rw [a6,a7,dge (by omega),aa,a3,MS,a4,eL (n:=((64*q:Nat):Int)+64) (by omega)]
            exact ih (q+1) _ (by omega) (by omega) a1 a2 rfl (by dsimp only; omega) (by dsimp only; rw [a8,show 64*q+t=min (64*(q+1)) b.length by omega])
          | succ j wF =>
            intro t m' ht a1 a2 a3 a4 a5 a6 a7 a8
            have wG:m'.gE.length=b.length:=by rw [a8,qp (by omega)]
            refine bI.cM _ ?_
            unfold bI.B2
            rw [a6,a7,a4,dlt (by omega),ak,eL (n:=((64*q:Nat):Int)+(t:Int)) (by omega),cW (by omega)]
            refine ixd (n:=64*q+t) (by omega) (by omega) ?_
            refine ixdv (n:=t) (l:=blkS kl nl (ctr c q)) (by rw [a5]; exact hs) rfl (by omega) ?_
            refine ixs (n:=64*q+t) (by omega) (by omega) fun _=> ?_
            refine wF (t+1) _ (by omega) a1 a2 a3 (by first | exact a4 | rfl) a5 (by first | exact a6 | rfl) rfl ?_
            dsimp only
            rw [a8,FF]
            rw [show (((64*q:Nat):Int)+(t:Int)).toNat=64*q+t by omega]
            have hst:(blkS kl nl (ctr c q)).getD t 0=strS kl nl c (64*q+t):=by
              unfold strS
              rw [show (64*q+t) / 64=q by omega,show (64*q+t) % 64=t by omega]
            rw [hst]
            exact y3 (by omega)
        refine l2 (hi - 64*q) 0 _ (by omega) (by first | exact e1 | rfl) (by first | exact e2 | rfl) e3 (by first | exact e4 | rfl) rfl (by dsimp only; omega) rfl ?_
        dsimp only
        rw [e5,Nat.min_eq_left (by omega)]; rfl
      · rw [decide_eq_false (by omega), aa, e5, Nat.min_eq_right (by omega), List.drop_of_length_le (Nat.le_refl _), List.append_nil]
        exact H
  unfold bI
  refine ⟨ct (by simp only [List.length_nil]; omega), ?_⟩
  exact l1 ((b.length+63) / 64) 0 _ (by omega) (Nat.zero_le _) rfl rfl (MR hc).symm rfl (by dsimp only; rw [Nat.mul_zero,Nat.zero_min]; rfl)
def strm (k n:List Int) (c:Int):Nat→List Int
  | 0=>[]
  | q+1=>strm k n c q++blkS k n (ctr c q)
theorem nW (k n:List Int) (c:Int): ∀ q,(strm k n c q).length=64*q
  | 0=>rfl
  | q+1=>by show (strm k n c q++blkS k n (ctr c q)).length=_; rw [List.length_append,nW k n c q,yZ]; omega
theorem y4 (k n:List Int) (c:Int): ∀ q i,i<64*q→(strm k n c q).getD i 0=strS k n c i
  | 0,i,h=>by omega
  | q + 1, i, h => by
    show (strm k n c q++blkS k n (ctr c q)).getD i 0=_
    have hl:=nW k n c q
    by_cases h1:i<64*q
    · rw [nX (by omega),y4 k n c q i h1]
    · rw [uo (by omega), hl]
      unfold strS
      rw [show i / 64=q by omega,show i % 64=i - 64*q by omega]
theorem xJ {k : Vector Int 32} {n : Vector Int 12} {c : Int} {sz : Nat} {Q : bt.QT} (hk : bytesL k.toList) (hn : bytesL n.toList) (hc : lM c) (hb : sz ≤ 1000000)
    (H: ∀ l:List Int,l.length=sz→(∀ i,i<sz→l.getD i 0=strS k.toList n.toList c i)→Q l):bt k n c (sz:Int) Q:=by
  have l2: ∀ (f q:Nat) (m:bt.V),(sz+63) / 64≤q+f→q≤(sz+63) / 64→m.jS=k→m.iI=n→m.bM=ctr c q→m.ki=(sz:Int)→m.gE=strm k.toList n.toList c q→bt.L2 Q m:=by
    have fin: ∀ (q:Nat) (m:bt.V),sz≤64*q→m.ki=(sz:Int)→m.gE=strm k.toList n.toList c q→(SlOk m.gE (0:Int) m.ki)∧Q (sub m.gE (0:Int) m.ki):=by
      intro q m hq e4 e5
      have hl:=nW k.toList n.toList c q
      rw [e4,e5]
      refine ⟨⟨by omega,by omega,by omega⟩, ?_⟩
      refine H _ ?_ ?_
      · have:=jR (l:=strm k.toList n.toList c q) (i:=0) (j:=(sz:Int)) (by omega); omega
      · intro i hi
        have Yi:=jP (l:=strm k.toList n.toList c q) (n:=0) (m:=sz) (k:=i) (i:=(0:Int)) (j:=(sz:Int)) rfl rfl (by omega)
        rw [Yi,Nat.zero_add]
        exact y4 _ _ _ _ _ (by omega)
    intro f
    induction f with
    | zero =>
      intro q m h1 h2 e1 e2 e3 e4 e5
      have hl:=nW k.toList n.toList c q
      refine bt.cM ?_
      unfold bt.B2
      rw [decide_eq_false (by rw [e4,e5]; omega),aa]
      exact fin q m (by omega) e4 e5
    | succ f ih =>
      intro q m h1 h2 e1 e2 e3 e4 e5
      have hl:=nW k.toList n.toList c q
      refine bt.cM ?_
      unfold bt.B2
      by_cases hlt:64*q<sz
      · rw [decide_eq_true (by rw [e4, e5]; omega), ak, e1, e2]
        refine yW hk hn fun r hr=> ?_
        rw [e3] at hr
        refine ⟨ct (by rw [e5,hr,hl,yZ]; omega), ?_⟩
        rw [e3,MS]
        exact ih (q+1) _ (by omega) (by omega) (by first | exact e1 | rfl) (by first | exact e2 | rfl) rfl e4 (by dsimp only; rw [e5,hr]; rfl)
      · rw [decide_eq_false (by rw [e4, e5]; omega), aa]
        exact fin q m (by omega) e4 e5
  unfold bt
  rw [decide_eq_false (by omega),aa,decide_eq_false (by omega)]
  unfold bt.K1; dsimp only
  rw [aa]
  exact l2 ((sz+63) / 64) 0 _ (by omega) (Nat.zero_le _) rfl rfl (MR hc).symm rfl rfl
theorem y5 {k:Vector Int 32} {n:Vector Int 12} {c:Int} {b:List Int} {Q:bV.QT} (hk:bytesL k.toList) (hn:bytesL n.toList) (hc:lM c) (hb:b.length≤1000000) (H:Q (cipS k.toList n.toList c b)):bV k n c b Q:=by
  unfold bV
  rw [if_neg (by omega)]
  refine xJ hk hn hc hb fun s hs hg=>⟨ct (by simp only [List.length_nil]; omega), ?_⟩
  have l1: ∀ (j t:Nat) (m:bV.V),t+j=b.length→m.b3=b→m.s9=s→m.i11=(t:Int)→m.qt=turnL k.toList n.toList c b t++b.drop t→bV.L1 Q m:=by
    intro j
    induction j with
    | zero =>
      intro t m ht e1 e2 e3 e4
      obtain rfl:t=b.length:=by omega
      refine bV.bY ?_
      unfold bV.B1
      rw [e3,e2,dge (by omega),aa,e4,List.drop_of_length_le (Nat.le_refl _),List.append_nil]
      exact H
    | succ j ih =>
      intro t m ht e1 e2 e3 e4
      have hl:m.qt.length=b.length:=by rw [e4,qp (by omega)]
      refine bV.bY ?_
      unfold bV.B1
      rw [e3,e2,e1,dlt (by omega),ak,cW (by omega)]
      refine ixd (n:=t) rfl (by omega) (ixd (n:=t) rfl (by omega) (ixs (n:=t) rfl (by omega) fun _=> ?_))
      rw [hg t (by omega)]
      refine ih (t+1) _ (by omega) (by first | exact e1 | rfl) (by first | exact e2 | rfl) rfl ?_
      dsimp only
      rw [e4,Int.toNat_natCast]
      exact y3 (by omega)
  exact l1 b.length 0 _ (by omega) rfl rfl rfl rfl
def nonB (e b:Int) (i:Nat):Int:=if i<4 then IntKind.wrap .u8 (e / 2 ^ (8*i)) else IntKind.wrap .u8 (b / 2 ^ (8*(i - 4)))
def nonL (e b:Int) (k:Nat):List Int:=(List.range k).map (nonB e b)
theorem uq (e b:Int) (k:Nat):(nonL e b k).length=k:=by unfold nonL; simp
theorem rD (e b:Int) (k:Nat):nonL e b k++[nonB e b k]=nonL e b (k+1):=by unfold nonL; rw [List.range_succ,List.map_append]; rfl
theorem ur (e b:Int) (k:Nat):bytesL (nonL e b k):=by
  intro x hx
  obtain ⟨i,_,rfl⟩:=List.mem_map.1 hx
  unfold nonB
  split <;> exact xI _
theorem NR {x:Int} (hx:0≤x) {i:Nat} (hi:i<4):IntKind.wrap .u8 (Int.fdiv x (2 ^ (min (Int.toNat (8*(i:Int))) (IntKind.bits .u32))))=IntKind.wrap .u8 (x / 2 ^ (8*i)):=by
  rw [show min (Int.toNat (8*(i:Int))) (IntKind.bits .u32)=8*i by
    rw [show (8*(i:Int)).toNat=8*i by omega]; exact Nat.min_eq_left (show _≤32 by omega),fd _ hx]
theorem RW {x:Int} (hx:0≤x) {i:Nat} (hi:i<8):IntKind.wrap .u8 (Int.fdiv x (2 ^ (min (Int.toNat (8*(i:Int))) (IntKind.bits .u64))))=IntKind.wrap .u8 (x / 2 ^ (8*i)):=by
  rw [show min (Int.toNat (8*(i:Int))) (IntKind.bits .u64)=8*i by
    rw [show (8*(i:Int)).toNat=8*i by omega]; exact Nat.min_eq_left (show _≤64 by omega),fd _ hx]
theorem Bo {e b : Int} {Q : bX.QT} (he : 0 ≤ e) (hb : 0 ≤ b) (H : ∀ r : Vector Int 12, r.toList = nonL e b 12 → Q r) : bX e b Q := by
  have l1: ∀ (j t:Nat) (m:bX.V),t+j=12→m.iz=e→m.gu=b→m.v7=(t:Int)→m.n5.toList=nonL e b t++List.replicate j 0→bX.L1 Q m:=by
    intro j
    induction j with
    | zero =>
      intro t m ht e1 e2 e3 e4
      obtain rfl:t=12:=by omega
      refine bX.bY ?_
      unfold bX.B1
      rw [e3,decide_eq_false (by omega),aa]
      refine H _ ?_
      rw [e4,List.replicate_zero,List.append_nil]
    | succ j ih =>
      intro t m ht e1 e2 e3 e4
      have fin: ∀ (x:Int) (m':bX.V),x=nonB e b t→m'.iz=e→m'.gu=b→m'.v7=(t:Int)→m'.n5=m.n5.setIfInBounds (Int.toNat (t:Int)) x→bX.K2 (bX.L1 Q) Q m':=by
        intro x m' hx a1 a2 a3 a4
        unfold bX.K2
        refine ih (t+1) _ (by omega) a1 a2 (by dsimp only; rw [a3,cW (by omega)]) ?_
        dsimp only
        rw [a4,jr (i:=(t:Int)) (l:=nonL e b t) (y:=0) (r:=List.replicate j 0) (by rw [e4]; rfl) (by rw [uq]),hx,rD]
      refine bX.bY ?_
      unfold bX.B1
      rw [e3,decide_eq_true (by omega),ak]
      by_cases h:t<4
      · rw [decide_eq_true (show (t : Int) < 4 by omega), ak, eL (n := 8 * (t : Int)) (by omega), e1, NR he h]
        refine gD (by omega) (ixdv (n:=t) rfl rfl (by omega) ?_)
        exact fin _ _ (by unfold nonB; rw [if_pos h]) (by first | exact e1 | rfl) e2 (by first | exact e3 | rfl) rfl
      · rw [decide_eq_false (show ¬ (t : Int) < 4 by omega), aa, eL (n := (t : Int) - 4) (by omega), show (t : Int) - 4 = ((t - 4 : Nat) : Int) by omega, eL (n := 8 * ((t - 4 : Nat) : Int)) (by omega), e2, RW hb (by omega)]
        refine gD (by omega) (ixdv (n:=t) rfl rfl (by omega) ?_)
        exact fin _ _ (by unfold nonB; rw [if_neg h]) e1 (by first | exact e2 | rfl) (by first | exact e3 | rfl) rfl
  exact l1 12 0 _ (by omega) rfl rfl rfl (by dsimp only; exact Vector.toList_replicate ..)
theorem y6 {e b:Int} {Q:bx.QT} (he:0≤e) (hb:0≤b) (H: ∀ r:Vector Int 12,r.toList=nonL e b 12→Q r):bx e b Q:=by
  have l2: ∀ (j t:Nat) (m:bx.V),t+j=8→m.gu=b→m.i7=(t:Int)→m.eD.toList=nonL e b (4+t)++List.replicate j 0→bx.L2 Q m:=by
    intro j
    induction j with
    | zero =>
      intro t m ht e2 e3 e4
      obtain rfl:t=8:=by omega
      refine bx.cM ?_
      unfold bx.B2
      rw [e3,decide_eq_false (by omega),aa]
      refine H _ ?_
      rw [e4,List.replicate_zero,List.append_nil]
    | succ j ih =>
      intro t m ht e2 e3 e4
      refine bx.cM ?_
      unfold bx.B2
      rw [e3,decide_eq_true (by omega),ak,eL (n:=8*(t:Int)) (by omega),eL (n:=4+(t:Int)) (by omega),cW (by omega),e2,RW hb (by omega)]
      refine gD (by omega) (ixdv (n:=4+t) rfl (by omega) (by omega) ?_)
      refine ih (t+1) _ (by omega) (by first | exact e2 | rfl) rfl ?_
      dsimp only
      rw [jr (i:=4+(t:Int)) (l:=nonL e b (4+t)) (y:=0) (r:=List.replicate j 0) (by rw [e4]; rfl) (by rw [uq]; omega)]
      rw [show 4+(t+1)=(4+t)+1 by omega,← rD]
      congr 2
      unfold nonB
      rw [if_neg (by omega),Nat.add_sub_cancel_left]
  have l1: ∀ (j t:Nat) (m:bx.V),t+j=4→m.iz=e→m.gu=b→m.i6=(t:Int)→m.eD.toList=nonL e b t++List.replicate (j+8) 0→bx.L1 Q m:=by
    intro j
    induction j with
    | zero =>
      intro t m ht e1 e2 e3 e4
      obtain rfl:t=4:=by omega
      refine bx.bY ?_
      unfold bx.B1
      rw [e3,decide_eq_false (by omega),aa]
      exact l2 8 0 _ (by omega) e2 rfl e4
    | succ j ih =>
      intro t m ht e1 e2 e3 e4
      refine bx.bY ?_
      unfold bx.B1
      rw [e3,decide_eq_true (by omega),ak,eL (n:=8*(t:Int)) (by omega),cW (by omega),e1,NR he (by omega)]
      refine gD (by omega) (ixdv (n:=t) rfl rfl (by omega) ?_)
      refine ih (t+1) _ (by omega) (by first | exact e1 | rfl) e2 rfl ?_
      dsimp only
      rw [jr (i:=(t:Int)) (l:=nonL e b t) (y:=0) (r:=List.replicate (j+8) 0) (by rw [e4,show j+1+8=(j+8)+1 by omega]; rfl) (by rw [uq]),← rD]
      congr 2
      unfold nonB
      rw [if_pos (by omega)]
  exact l1 4 0 _ (by omega) rfl rfl rfl (by dsimp only; exact Vector.toList_replicate ..)
end Go.Pt
namespace Go.Pt
open Go Go.Wc Go.Pu
theorem CS {m:bR.V} {Q:bR.QT} (hb:m.fh.length≤1000) (H: ∀ r,r.length=m.fh.length+1→Q r):bR.K7 Q m:=by
  unfold bR.K7
  exact ⟨ct (by simp only [List.length_cons,List.length_nil]; omega),H _ (by simp only [List.length_append,List.length_cons,List.length_nil])⟩
theorem KJ {b:List Int} {n:Int} {Q:bR.QT} (hb:b.length≤900) (H: ∀ r,r.length=b.length+1→Q r):bR b n 1 Q:=by
  unfold bR
  refine ⟨ct (by omega), ?_⟩
  unfold kr
  exact CS (by dsimp only; omega) H
theorem KK {b:List Int} {n:Int} {Q:bR.QT} (hb:b.length≤900) (H: ∀ r,r.length=b.length+4→Q r):bR b n 4 Q:=by
  unfold bR
  refine ⟨ct (by omega), ?_⟩
  unfold kr
  show bR.K4 Q _
  unfold bR.K4 bR.K5 bR.K6
  refine ⟨ct ?_,ct ?_,ct ?_,CS ?_ fun r hr=>H r ?_⟩
  · dsimp only; simp only [List.length_append,List.length_cons,List.length_nil]; omega
  · dsimp only; simp only [List.length_append,List.length_cons,List.length_nil]; omega
  · dsimp only; simp only [List.length_append,List.length_cons,List.length_nil]; omega
  · dsimp only; simp only [List.length_append,List.length_cons,List.length_nil]; omega
  · dsimp only at hr; simp only [List.length_append,List.length_cons,List.length_nil] at hr; omega
theorem KL {r:aF} {Q:List Int→Prop} (H: ∀ x,x.length=37→Q x):mI r Q:=by
  unfold mI
  refine KJ (by decide) fun a ha=>KK (by simp only [List.length_nil] at ha; omega) fun c hc=> ?_
  have:=Vector.length_toList (xs:=r.bD)
  exact ⟨ct (by simp only [List.length_nil] at ha; omega),H _ (by simp only [List.length_append]; simp only [List.length_nil] at ha; omega)⟩
theorem KM {b:List Int} {Q:List Int→Int→Prop} (hb:b.length≤256) (H: ∀ x,x.length=256→Q x 0):mJ b 256 Q:=by
  unfold mJ
  rw [decide_eq_false (by omega),aa]
  refine ⟨ct (by omega), ?_⟩
  rw [eL (n:=256 - (b.length:Int)) (by omega)]
  refine ⟨by omega,ct (by omega),H _ ?_⟩
  simp only [List.length_append,List.length_replicate]; omega
theorem KN {r:aF} {Q:cn.QT} (hr:r.Place=0∨r.Place=1) (H: ∀ x,x.length=256→Q x 0):cn [r] Q:=by
  unfold cn
  rw [show decide ((([r].length:Nat):Int)<1)=false from rfl,aa]
  rw [show decide ((([r].length:Nat):Int)>6)=false from rfl]
  unfold cn.K1; dsimp only
  rw [aa]
  refine cn.cM ?_
  unfold cn.B2; dsimp only
  rw [show decide ((0:Int)<(([r].length:Nat):Int))=true from rfl,ak]
  refine gB 0 rfl (by simp) ?_
  show br (r.Place !=0) _ _
  have k3: ∀ m:cn.V,m.Bh=false→m.b4.length=1→m.v20=1→m.v21=0→cn.K3 (cn.L2 Q) Q m:=by
    rintro ⟨gV,kO,b4,fF,v20,v21,r6,Bh⟩ e1 e2 e3 e4
    dsimp only at e1 e2 e3 e4
    subst e1 e3 e4
    unfold cn.K3; dsimp only
    rw [aa]
    refine KL fun x hx=>⟨ct (by omega), ?_⟩
    refine cn.cM ?_
    unfold cn.B2; dsimp only
    rw [show decide (IntKind.wrap .i64 ((0:Int)+1)<1)=false from rfl,aa]
    refine KM ?_ H
    simp only [List.length_append]; omega
  rcases hr with h | h
  · rw [h, show ((0 : Int) != 0) = false from rfl, aa]
    refine k3 _ ?_ ?_ ?_ ?_ <;> rfl
  · rw [h, show ((1 : Int) != 0) = true from rfl, ak]
    refine k3 _ ?_ ?_ ?_ ?_
    · show (r.Place != 1) = false
      rw [h]; rfl
    · rfl
    · rfl
    · rfl
def aN:List aq:=[⟨1,[⟨1,0,Vector.replicate 32 0⟩]⟩]
def aC:List an:=[⟨0,List.replicate (Int.toNat 256) 0⟩]
theorem aMay:mayS 1 (hOf 1) aN aC=true:=by decide+kernel
theorem aNeed:needS (hOf 1) [0]=[1]:=by decide+kernel
theorem RG:parentS (newB 1) 0=(1,0,true):=by decide+kernel
theorem RH:(parentS (newB 1) 1).2.2=false:=by decide+kernel
theorem RJ:blockS (newB 1) 0 0=2:=by decide+kernel
theorem RK:blockS (newB 1) 1 1=5:=by decide+kernel
theorem Bi:NOk 1:=nok (by decide)
theorem xF {b:List Int} (hb:WfB b) {item place v:Int} {Q:aS.QT} (h:blockS b item place=v) (H:Q v):aS ⟨b⟩ item place Q:=Bj hb (h ▸ H)
theorem RL {p:Addr} {key:Vector Int 32} {pg:List Int} {σ:St Obj} {Q:St Obj→Prop} {x:aD} (hp:pg.length=256) (hx:σ p=some (.aD x))
    (e:x=⟨none,key,2,⟨newB 1⟩,⟨0,0,Vector.replicate 32 0⟩,some [(1,[⟨1,0,Vector.replicate 32 0⟩])],[]⟩)
    (H: ∀ r d,Q (sset σ p (.aD ⟨none,key,2,⟨newB 1⟩,⟨0,0,Vector.replicate 32 0⟩,some [(1,[⟨0,2,d⟩])],[⟨2,r⟩]⟩))):cB (some p) 0 pg σ Q:=by
  subst e
  unfold cB
  refine ⟨_,hx, ?_⟩
  refine kC Bi.wb ?_
  rw [RG]
  refine ⟨_,_,rfl,rfl, ?_⟩
  refine gB 0 rfl (by simp) ?_
  refine xF Bi.wb RJ ?_
  dsimp only
  refine ⟨?_, ?_⟩
  · refine tq hp (by decide) (.inl rfl) fun r d => ⟨ct (by simp), fun _ => ?_⟩
    rw [mK]
    exact H r d
  · refine tq hp (by decide) (.inl rfl) fun r d => ⟨ct (by simp), fun _ => ?_⟩
    rw [mK]
    exact H r d
theorem RM {p:Addr} {pg:List Int} {σ:St Obj} {Q:St Obj→Prop} {x:aD} {b:List Int} {key:Vector Int 32} {N:Option (List (Int × List aF))} (hp:pg.length=256) (hx:σ p=some (.aD x))
    (e:x=⟨none,key,2,⟨newB 1⟩,⟨0,0,Vector.replicate 32 0⟩,N,[⟨2,b⟩]⟩)
    (H: ∀ r d,Q (sset σ p (.aD ⟨none,key,2,⟨newB 1⟩,⟨1,2,d⟩,N,[⟨2,b⟩,⟨5,r⟩]⟩))):cB (some p) 1 pg σ Q:=by
  subst e
  unfold cB
  refine ⟨_,hx, ?_⟩
  refine kC Bi.wb ?_
  rw [RH,aa]
  refine xF Bi.wb RK ?_
  dsimp only
  refine ⟨?_, ?_⟩
  · exact tq hp (by decide) (.inr rfl) fun r d=>⟨_,hx,ct (by simp),H r d⟩
  · exact tq hp (by decide) (.inr rfl) fun r d=>⟨_,hx,ct (by simp),H r d⟩
theorem ud {key:Vector Int 32} {σ:St Obj} {Q:aE.QT} (H: ∀ b1 b2 n d σ',Q [⟨2,b1⟩,⟨5,b2⟩] [n] ⟨1,2,d⟩ 0 σ'):
    aE none key 2 ⟨newB 1⟩ ⟨0,0,Vector.replicate 32 0⟩ [⟨1,[⟨1,0,Vector.replicate 32 0⟩]⟩] [⟨0,List.replicate (Int.toNat 256) 0⟩] σ Q:=by
  unfold aE
  refine ue Bi (l:=aN) (cs:=aC) (by decide) (by decide) (by decide) ?_
  rw [aMay]
  rw [show (!true)=false from rfl,aa]
  refine k9 ?_
  show aE.K1 Q _ σ
  unfold aE.K1; dsimp only
  rw [show (!(rgt 0))=false from rfl,aa]
  intro p
  refine nt (show (1:Nat)≤100000 by decide) ?_
  refine oN Bi (ps:=[0]) (by decide) ?_
  rw [aNeed]
  intro hp
  refine aE.cM ?_
  unfold aE.B2; dsimp only
  rw [show decide ((0:Int)<(([(1:Int)].length:Nat):Int))=true from rfl,ak]
  refine gB 0 rfl Nat.zero_lt_one ?_
  refine ⟨_,iu _ _ _, ?_⟩
  refine find_spec (l:=aN) (it:=1) (by decide) (by decide) ?_
  refine ⟨_,rfl, ?_⟩
  try dsimp only
  rw [mL]
  refine aE.cM ?_
  unfold aE.B2; dsimp only
  rw [show decide (IntKind.wrap .i64 ((0:Int)+1)<(([(1:Int)].length:Nat):Int))=false from rfl,aa]
  refine aE.ff ?_
  unfold aE.B3; dsimp only
  rw [show decide ((0:Int)<(([(⟨0,List.replicate (Int.toNat 256) 0⟩:bf)].length:Nat):Int))=true from rfl,ak]
  refine gB 0 rfl Nat.zero_lt_one ?_
  refine RL (List.length_replicate ..) (iu _ _ _) rfl fun r d=> ?_
  try dsimp only
  rw [mL]
  refine aE.ff ?_
  unfold aE.B3; dsimp only
  rw [show decide (IntKind.wrap .i64 ((0:Int)+1)<(([(⟨0,List.replicate (Int.toNat 256) 0⟩:bf)].length:Nat):Int))=false from rfl,aa]
  refine aE.kg ?_
  unfold aE.B4; dsimp only
  rw [show decide ((0:Int)<(([(1:Int)].length:Nat):Int))=true from rfl,ak]
  refine gB 0 rfl Nat.zero_lt_one ?_
  refine ⟨_,iu _ _ _, ?_⟩
  refine ⟨_,_,rfl,rfl, ?_⟩
  refine ⟨ct (show (1:Nat)≤4000000000 by decide),ct (show (1:Nat)≤4000000000 by decide), ?_⟩
  refine ⟨_,_,rfl,rfl, ?_⟩
  refine KN (.inl rfl) fun pg hpg=> ?_
  try dsimp only
  rw [mL]
  refine RM hpg (iu _ _ _) rfl fun r2 d2=> ?_
  try dsimp only
  rw [mL]
  refine aE.kg ?_
  unfold aE.B4; dsimp only
  rw [show decide (IntKind.wrap .i64 ((0:Int)+1)<(([(1:Int)].length:Nat):Int))=false from rfl,aa]
  refine ⟨_,iu _ _ _, ?_⟩
  exact H _ _ _ _ _
theorem aEnd {m:au.V} {σ:St Obj} {b1 b2:List Int} {n:aO} {d:Vector Int 32} {Q:au.QT} (e1:m.s1=⟨newB 1⟩) (H:Q true σ):
    au.K1 Q {m with l3:=[⟨2,b1⟩,⟨5,b2⟩],n4:=[n],r5:=⟨1,2,d⟩,e6:=0} σ:=by
  unfold au.K1
  dsimp only
  rw [show ((0:Int)==0)=true from rfl,ak]
  rw [show (((([(⟨2,b1⟩:cv),⟨5,b2⟩]:List cv).length:Nat):Int)==2)=true from rfl,ak]
  refine gB 0 rfl (by simp) ?_
  show br ((2:Int)==2) _ _
  rw [show ((2:Int)==2)=true from rfl,ak]
  refine gB 1 rfl (by simp) ?_
  show br ((5:Int)==5) _ _
  rw [show ((5:Int)==5)=true from rfl,ak,show ((1:Int)==1)=true from rfl,ak,ak]
  rw [show ((([n].length:Nat):Int)==1)=true from rfl,ak,e1]
  refine oN Bi (by simp) ?_
  rw [aNeed]
  exact H
theorem uf {σ:St Obj} {Q:au.QT} (H: ∀ σ',Q true σ'):au σ Q:=by
  unfold au
  refine nT (by decide) ?_
  have fin: ∀ m:au.V,m.s1=⟨newB 1⟩→m.v12=Vector.replicate 32 0→m.kO=⟨0,0,Vector.replicate 32 0⟩→m.jO=[⟨1,[⟨1,0,Vector.replicate 32 0⟩]⟩]→m.v21=[⟨0,List.replicate (Int.toNat 256) 0⟩]→
      ∀ b,au.K8 Q b m σ:=by
    rintro m e1 e2 e3 e4 e5 b
    unfold au.K8
    rw [e1,e2,e3,e4,e5]
    refine ud fun b1 b2 n d σ'=> ?_
    exact aEnd rfl (H σ')
  have Yc: ∀ m:au.V,m.s1=⟨newB 1⟩→m.v12=Vector.replicate 32 0→m.kO=⟨0,0,Vector.replicate 32 0⟩→m.jO=[⟨1,[⟨1,0,Vector.replicate 32 0⟩]⟩]→m.v21=[⟨0,List.replicate (Int.toNat 256) 0⟩]→
      ∀ b,au.K5 Q b m σ:=by
    rintro m e1 e2 e3 e4 e5 b
    unfold au.K5
    refine ⟨?_,fin _ e1 e2 e3 e4 e5 _⟩
    rw [e1,e2,e3,e4,e5]
    refine ud fun b1 b2 n d σ'=> ?_
    exact aEnd rfl (H σ')
  unfold au.K2 au.K3 au.K4 au.K12 au.Yd au.Ye au.Yf au.K17 au.K19 au.K20 au.K21 au.K22 au.K25 au.K27 au.K28 au.Yg au.K29 au.Yh au.Xo au.K24 au.KO au.K11 au.K9 au.Rk
  repeat' apply And.intro
  all_goals first
    | exact fin _ rfl rfl rfl rfl rfl _
    | exact Yc _ rfl rfl rfl rfl rfl _
    | skip
end Go.Pt
namespace Go.Pt
open Go Go.Wc Go.Pu
def digV (b:List Int):Vector Int 32:=Vector.ofFn fun i:Fin 32=>(sumL b).getD i.val 0
theorem Je (b:List Int):(sumL b).length=32:=yf _ _
theorem DF {b:List Int} {r:Vector Int 32} (h:r.toList=sumL b):r=digV b:=by
  apply Vector.ext
  intro i hi
  unfold digV
  rw [Vector.getElem_ofFn]
  have h1:r[i]=r.toList[i]'(by rw [Vector.length_toList]; exact hi):=(Vector.getElem_toList ..).symm
  rw [h1,List.getD_eq_getElem?_getD,List.getElem?_eq_getElem (by rw [Je]; exact hi)]
  simp only [h]; rfl
def hidB (key:Vector Int 32) (e n:Int) (p:List Int):List Int:=cipS key.toList (nonL e n 12) 0 p
theorem qu (key:Vector Int 32) (e n:Int) (p:List Int):(hidB key e n p).length=p.length:=lH _ _ _ _ _
theorem vl (key:Vector Int 32) (e n:Int) (p:List Int):bytesL (hidB key e n p):=yY _ _ _ _ _
theorem EW {key:Vector Int 32} {e n:Int} {p:List Int} {Q:dF.QT} (hk:bytesL key.toList) (hp:p.length=256) (he:0≤e) (hn:0≤n∧n<1000000) (H:Q (hidB key e n p) 0):dF key e n p Q:=by
  unfold dF dF.K1
  rw [hp,show (((256:Nat):Int) !=256)=false by decide,aa,decide_eq_false (by omega)]
  dsimp only
  rw [aa,wrap_u64 (n:=n) (by omega) (by omega)]
  refine Bo he hn.1 fun r hr=> ?_
  refine Bn hk (by rw [hr]; exact ur _ _ _) ⟨by decide,by decide⟩ (by omega) ?_
  rw [hr]; exact H
theorem Ce {key:Vector Int 32} {e n:Int} {p:List Int} {Q:cr.QT} (hk:bytesL key.toList) (hp:p.length=256) (he:0≤e) (hn:0≤n∧n<1000000) (H:Q (hidB key e n p) 0):cr key e n p Q:=by
  unfold cr cr.K1
  rw [hp,show (((256:Nat):Int) !=256)=false by decide,aa,decide_eq_false (by omega)]
  dsimp only
  rw [aa,wrap_u64 (n:=n) (by omega) (by omega)]
  refine y6 he hn.1 fun r hr=> ?_
  refine y5 hk (by rw [hr]; exact ur _ _ _) ⟨by decide,by decide⟩ (by omega) ?_
  rw [hr]; exact H
theorem oR {k:Vector Int 32} {e pl n:Int} {p:List Int} {σ:St Obj} {Q:cw.QT} (hk:bytesL k.toList) (he:0≤e) (hp:p.length=256) (hn:0≤n∧n<1000000) (hpl:pl=0∨pl=1)
    (H:Q (hidB k e n p) ⟨pl,e,digV (hidB k e n p)⟩ 0 σ):cw none k e pl n p σ Q:=by
  unfold cw
  refine EW hk hp he hn ?_
  rw [show ((0:Int) !=0)=false from rfl,aa]
  unfold lg
  have fin: ∀ m:cw.V,m.b0=none→m.cU=e→m.eY=pl→m.v31=false→m.Kh=hidB k e n p→cw.K1 Q m σ:=by
    rintro ⟨b0,cU,eY,gF,Kh,v31⟩ e1 e2 e3 e4 e5
    dsimp only at e1 e2 e3 e4 e5
    subst e1 e2 e3 e4 e5
    unfold cw.K1; dsimp only
    rw [aa]
    unfold bB
    rw [show (!(Option.isNone (none:Option Addr)))=false from rfl,aa]
    unfold bB.K1; dsimp only
    rw [aa]
    refine EX (by rw [qu]; omega) (vl _ _ _ _) fun r hr=> ?_
    rw [DF hr]
    exact H
  rcases hpl with rfl | rfl
  · rw [show ((0 : Int) == 0) = true from rfl, ak]
    refine fin _ ?_ ?_ ?_ ?_ ?_ <;> rfl
  · rw [show ((1 : Int) == 0) = false from rfl, aa]
    refine fin _ ?_ ?_ ?_ ?_ ?_ <;> rfl
theorem BL {k:Vector Int 32} {e pl n:Int} {p:List Int} {Q:cj.QT} (hk:bytesL k.toList) (he:0≤e) (hp:p.length=256) (hn:0≤n∧n<1000000) (hpl:pl=0∨pl=1)
    (H:Q (hidB k e n p) ⟨pl,e,digV (hidB k e n p)⟩ 0):cj k e pl n p Q:=by
  unfold cj
  refine Ce hk hp he hn ?_
  rw [show ((0:Int) !=0)=false from rfl,aa,decide_eq_false (by omega),aa,decide_eq_false (by omega)]
  unfold cj.K1; dsimp only
  rw [aa]
  refine EV (by rw [qu]; omega) (vl _ _ _ _) fun r hr=> ?_
  rw [DF hr]
  exact H
def Mh (e:Int) (k:Nat):List Int:=(List.range k).map fun i=>IntKind.wrap .u8 (e / 2 ^ (8*i))
def layR (r:ax):List Int:=(IntKind.wrap .u8 r.Place::Mh r.bO 4)++r.bD.toList
theorem vm (r:ax):(layR r).length=37:=by
  unfold layR Mh; simp only [List.length_append,List.length_cons,List.length_map,List.length_range,Vector.length_toList]
def catR:List ax→List Int
  | []=>[]
  | r::l=>layR r++catR l
theorem m7: ∀ l,(catR l).length=37*l.length
  | []=>rfl
  | r::l=>by show (layR r++catR l).length=_; rw [List.length_append,vm,m7 l,List.length_cons]; omega
theorem rU: ∀ (l:List ax) r,catR (l++[r])=catR l++layR r
  | [],r=>by show layR r++[]=_; rw [List.append_nil]; rfl
  | a::l,r=>by show layR a++catR (l++[r])=(layR a++catR l)++layR r; rw [rU l r,List.append_assoc]
def layS (l:List ax):List Int:=(IntKind.wrap .u8 (l.length:Int)::catR l)++List.replicate (255 - 37*l.length) 0
theorem qv {l:List ax} (h:l.length≤6):(layS l).length=256:=by
  unfold layS; simp only [List.length_append,List.length_cons,List.length_replicate,m7]; omega
theorem xe {m:bR.V} {Q:bR.QT} (hb:m.fh.length≤1000) (H:Q (m.fh++[IntKind.wrap .u8 m.n1])):bR.K7 Q m:=by
  unfold bR.K7
  exact ⟨ct (by simp only [List.length_cons,List.length_nil]; omega),H⟩
theorem EY {b:List Int} {n:Int} {Q:bR.QT} (hb:b.length≤900) (H:Q (b++[IntKind.wrap .u8 n])):bR b n 1 Q:=by
  unfold bR
  refine ⟨ct (by omega), ?_⟩
  unfold kr
  exact xe (by dsimp only; omega) H
theorem EZ {b:List Int} {n:Int} {Q:bR.QT} (hb:b.length≤900) (hn:0≤n) (H:Q (b++Mh n 4)):bR b n 4 Q:=by
  unfold bR
  refine ⟨ct (by omega), ?_⟩
  unfold kr
  show bR.K4 Q _
  unfold bR.K4 bR.K5 bR.K6
  have f1: ∀ x:Int,0≤x→Int.fdiv x (2 ^ (min (Int.toNat (8:Int)) (IntKind.bits .u64)))=x / 256:=fun x hx=>fd 8 hx
  refine ⟨ct ?_,ct ?_,ct ?_,xe ?_ ?_⟩
  · dsimp only; simp only [List.length_append,List.length_cons,List.length_nil]; omega
  · dsimp only; simp only [List.length_append,List.length_cons,List.length_nil]; omega
  · dsimp only; simp only [List.length_append,List.length_cons,List.length_nil]; omega
  · dsimp only; simp only [List.length_append,List.length_cons,List.length_nil]; omega
  · dsimp only
    rw [f1 _ hn,f1 _ (by omega),f1 _ (by omega)]
    simp only [List.append_assoc,List.cons_append,List.nil_append]
    have e:Mh n 4=[IntKind.wrap .u8 n,IntKind.wrap .u8 (n / 256),IntKind.wrap .u8 (n / 256 / 256),IntKind.wrap .u8 (n / 256 / 256 / 256)]:=by
      show [_,_,_,_]=[_,_,_,_]
      have p0:n / 2 ^ (8*0)=n:=by simp
      have p1:n / 2 ^ (8*1)=n / 256:=rfl
      have p2:n / 2 ^ (8*2)=n / 256 / 256:=by show n / 65536=_; omega
      have p3:n / 2 ^ (8*3)=n / 256 / 256 / 256:=by show n / 16777216=_; omega
      dsimp only
      rw [p0,p1,p2,p3]
    rw [e] at H
    exact H
theorem E0 {r:ax} {Q:List Int→Prop} (hp:r.Place=0∨r.Place=1) (he:lM r.bO) (H:Q (layR r)):mI (sr r) Q:=by
  unfold mI
  have hd:(sr r).bD.toList.length=32:=Vector.length_toList ..
  have e1:IntKind.wrap .u8 (IntKind.wrap .u64 (sr r).Place)=IntKind.wrap .u8 r.Place:=by
    show IntKind.wrap .u8 (IntKind.wrap .u64 r.Place)=_
    rw [wrap_u64 (n:=r.Place) (by omega) (by omega)]
  have e2:IntKind.wrap .u64 (sr r).bO=r.bO:=wrap_u64 he.1 (by have:=he.2; show r.bO<_; omega)
  refine EY (by decide) ?_
  rw [e1,e2]
  refine EZ (by simp) he.1 ?_
  refine ⟨ct (by rw [hd]; unfold Mh; simp only [List.length_append,List.length_cons,List.length_map,List.length_range,List.length_nil]; decide), ?_⟩
  exact H
theorem E2 {r:ax} {Q:List Int→Prop} (he:lM r.bO) (H:Q (layR r)):cy r Q:=by
  have hd:r.bD.toList.length=32:=Vector.length_toList ..
  have l1: ∀ (j t:Nat) (m:cy.V),t+j=4→m.r1=r→m.i4=(t:Int)→m.di=IntKind.wrap .u8 r.Place::Mh r.bO t→cy.L1 Q m:=by
    intro j
    induction j with
    | zero =>
      intro t m ht e1 e2 e3
      obtain rfl:t=4:=by omega
      refine cy.bY ?_
      unfold cy.B1
      rw [e2,decide_eq_false (by omega),aa,e1,e3]
      exact ⟨ct (by rw [hd]; unfold Mh; simp only [List.length_cons,List.length_map,List.length_range]; omega),H⟩
    | succ j ih =>
      intro t m ht e1 e2 e3
      refine cy.bY ?_
      unfold cy.B1
      rw [e2,decide_eq_true (by omega),ak,e1,eL (n:=8*(t:Int)) (by omega),cW (by omega),NR he.1 (by omega),e3]
      refine gD (by omega) ⟨ct (by unfold Mh; simp only [List.length_cons,List.length_map,List.length_range,List.length_nil]; omega), ?_⟩
      refine ih (t+1) _ (by omega) (by first | exact e1 | rfl) rfl ?_
      dsimp only
      unfold Mh
      rw [List.range_succ,List.map_append]; rfl
  exact l1 4 0 _ (by omega) rfl rfl rfl
def okR (l:List ax):Prop:= ∀ r ∈ l,(r.Place=0∨r.Place=1)∧lM r.bO
theorem EM {l : List ax} {Q : cn.QT} (hl : 1 ≤ l.length ∧ l.length ≤ 6) (hr : okR l) (H : Q (layS l) 0) : cn (l.map sr) Q := by
  unfold cn
  rw [List.length_map,decide_eq_false (by omega),aa,decide_eq_false (by omega)]
  unfold cn.K1; dsimp only
  rw [aa]
  have l2: ∀ (j t:Nat) (m:cn.V),t+j=l.length→m.fF=l.map sr→m.v20=(l.length:Int)→m.v21=(t:Int)→m.b4=IntKind.wrap .u8 (l.length:Int)::catR (l.take t)→cn.L2 Q m:=by
    intro j
    induction j with
    | zero =>
      intro t m ht e1 e2 e3 e4
      obtain rfl:t=l.length:=by omega
      refine cn.cM ?_
      unfold cn.B2
      rw [e3,e2,dge (by omega),aa,e4,List.take_of_length_le (Nat.le_refl _)]
      unfold mJ
      have hb:(IntKind.wrap .u8 (l.length:Int)::catR l).length=1+37*l.length:=by rw [List.length_cons,m7]; omega
      rw [hb,decide_eq_false (by omega),aa]
      refine ⟨ct (by rw [hb]; omega), ?_⟩
      dsimp only
      rw [eL (n:=256 - ((1+37*l.length:Nat):Int)) (by omega)]
      refine ⟨by omega,ct (by rw [hb]; omega), ?_⟩
      rw [show (256 - ((1+37*l.length:Nat):Int)).toNat=255 - 37*l.length by omega]
      exact H
    | succ j ih =>
      intro t m ht e1 e2 e3 e4
      have hi:t<l.length:=by omega
      have hc:=m7 (l.take t)
      rw [List.length_take] at hc
      refine cn.cM ?_
      unfold cn.B2
      rw [e3,e2,e1,dlt hi,ak]
      refine cK (by rw [List.length_map]; exact hi) ?_
      rw [List.getElem_map]
      obtain ⟨h1,h2⟩:=hr _ (List.getElem_mem hi)
      have k3: ∀ m':cn.V,m'.fF=l.map sr→m'.v20=(l.length:Int)→m'.v21=(t:Int)→m'.b4=IntKind.wrap .u8 (l.length:Int)::catR (l.take t)→m'.r6=sr l[t]→m'.Bh=false→cn.K3 (cn.L2 Q) Q m':=by
        intro m' a1 a2 a3 a4 a5 a6
        unfold cn.K3
        rw [a6,aa,a5]
        refine E0 h1 h2 ⟨ct (by rw [a4,vm,List.length_cons]; omega), ?_⟩
        refine ih (t+1) _ (by omega) a1 a2 (by dsimp only; rw [a3,cW (by omega)]) ?_
        dsimp only
        rw [a4,dJ hi,rU]; rfl
      rcases h1 with hh | hh
      · rw [show ((sr l[t]).Place != 0) = false by show (l[t].Place != 0) = false; rw [hh]; rfl, aa]
        exact k3 _ (by first | exact e1 | rfl) (by first | exact e2 | rfl) (by first | exact e3 | rfl) e4 rfl rfl
      · rw [show ((sr l[t]).Place != 0) = true by show (l[t].Place != 0) = true; rw [hh]; rfl, ak]
        exact k3 _ (by first | exact e1 | rfl) (by first | exact e2 | rfl) (by first | exact e3 | rfl) e4 rfl (by show (l[t].Place !=1)=false; rw [hh]; rfl)
  exact l2 l.length 0 _ (by omega) rfl (by dsimp only; rw [List.length_map]) rfl (by dsimp only; rw [List.length_map]; rfl)
theorem BM {l:List ax} {Q:aZ.QT} (hl:1≤l.length∧l.length≤6) (hr:okR l) (H:Q (layS l) 0):aZ l Q:=by
  unfold aZ
  rw [decide_eq_false (by omega),aa,decide_eq_false (by omega)]
  unfold aZ.K1; dsimp only
  rw [aa]
  have l4: ∀ (j i:Nat) (m:aZ.V),i+j=255 - 37*l.length→m.nB=(IntKind.wrap .u8 (l.length:Int)::catR l)++List.replicate i 0→aZ.L4 Q m:=by
    intro j
    induction j with
    | zero =>
      intro i m hi e
      obtain rfl:i=255 - 37*l.length:=by omega
      refine aZ.kg ?_
      unfold aZ.B4
      have hb:m.nB.length=256:=by rw [e]; exact qv hl.2
      rw [hb,show decide (((256:Nat):Int)<256)=false from rfl,aa,e]
      exact H
    | succ j ih =>
      intro i m hi e
      refine aZ.kg ?_
      unfold aZ.B4
      have hb:m.nB.length=1+37*l.length+i:=by rw [e]; simp only [List.length_append,List.length_cons,List.length_replicate,m7]; omega
      rw [hb,decide_eq_true (by omega),ak]
      refine ⟨ct (by simp only [List.length_cons,List.length_nil]; omega),ih (i+1) _ (by omega) ?_⟩
      dsimp only
      rw [e,List.append_assoc,← List.replicate_succ']
  have l2: ∀ (j t:Nat) (m:aZ.V),t+j=l.length→m.l0=l→m.i5=(t:Int)→m.nB=IntKind.wrap .u8 (l.length:Int)::catR (l.take t)→aZ.L2 Q m:=by
    intro j
    induction j with
    | zero =>
      intro t m ht e1 e3 e4
      obtain rfl:t=l.length:=by omega
      refine aZ.cM ?_
      unfold aZ.B2
      rw [e3,e1,dge (by omega),aa]
      exact l4 (255 - 37*l.length) 0 _ (by omega) (by rw [e4,List.take_of_length_le (Nat.le_refl _),List.replicate_zero,List.append_nil])
    | succ j ih =>
      intro t m ht e1 e3 e4
      have hi:t<l.length:=by omega
      have hc:=m7 (l.take t)
      rw [List.length_take] at hc
      refine aZ.cM ?_
      unfold aZ.B2
      rw [e3,e1,dlt hi,ak]
      obtain ⟨h1,h2⟩:=hr _ (List.getElem_mem hi)
      refine cK hi ?_
      rw [decide_eq_false (by omega),aa]
      refine cK hi ?_
      unfold aZ.K3
      rw [decide_eq_false (by omega)]
      dsimp only
      rw [aa]
      refine cK hi (E2 h2 ⟨ct (by rw [e4,vm,List.length_cons]; omega), ?_⟩)
      rw [cW (by omega)]
      refine ih (t+1) _ (by omega) (by first | exact e1 | rfl) rfl ?_
      dsimp only
      rw [e4,dJ hi,rU]; rfl
  exact l2 l.length 0 _ (by omega) rfl rfl rfl
end Go.Pt
