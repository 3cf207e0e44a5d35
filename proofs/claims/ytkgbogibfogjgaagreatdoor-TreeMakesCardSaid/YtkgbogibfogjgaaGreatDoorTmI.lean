import Derived.Test.YtkgbogibfogjgaaGreatDoorTmB
import Derived.Test.YtkgbogibfogjgaaGreatDoorTmH
import Derived.Test.YtkgbogibfogjgaaGreatDoorTmK
set_option linter.unusedVariables false
set_option linter.unusedSimpArgs false
set_option maxHeartbeats 4000000
set_option maxRecDepth 100000
namespace Go.Pu
open Go Go.Wc
theorem Bz {V:Type} {B:(V→Prop)→V→Prop} (n:Nat) (st:Nat→V) (P:Nat→Prop)
    (hstep: ∀ i S,i<n→P i→(P (i+1)→S (st (i+1)))→B S (st i)) (hend: ∀ S,P n→B S (st n)): ∀ i,i≤n→P i→Lf B (st i):=by
  have key: ∀ j i,i+j=n→P i→Lf B (st i):=by
    intro j
    induction j with
    | zero => intro i e hP; obtain rfl : i = n := by omega
              exact Lf.fold (hend _ hP)
    | succ j ih=>intro i e hP; exact Lf.fold (hstep i _ (by omega) hP fun h=>ih (i+1) (by omega) h)
  intro i hi hP
  exact key (n - i) i (by omega) hP
theorem sB {V:Type} {B:(V→Prop)→V→Prop} (n:Nat) (st:Nat→V)
  (hstep: ∀ i S,i<n→S (st (i+1))→B S (st i)) (hend: ∀ S,B S (st n)):Lf B (st 0):=
 Bz n st (fun _=>True) (fun i S hi _ h=>hstep i S hi (h trivial)) (fun S _=>hend S) 0 (Nat.zero_le _) trivial
theorem cu {i:Nat} (h:i<9000000000000000000):IntKind.wrap .i64 ((i:Int)+(1:Int))=((i+1:Nat):Int):=by
 rw [wrap64 (by omega) (by omega)]; omega
theorem dlt {i n:Nat} (h:i<n):decide ((i:Int)<(n:Int))=true:=by simp; omega
theorem dge {i n:Nat} (h:n≤i):decide ((i:Int)<(n:Int))=false:=by simp; omega
theorem dm {X:Type} {l:List X} {i:Nat} {K:X→Prop} (h:i<l.length) (H:K l[i]):ixP l (i:Int) K:=sA (List.getElem?_eq_getElem h) H
theorem iD {X:Type} {l:List X} {i:Int} {K:X→Prop} (j:Nat) (hj:i=(j:Int)) (h:j<l.length) (H:K l[j]):ixP l i K:=by subst hj; exact dm h H
theorem eB {X:Type} {l:List X} {i:Nat} (h:i<l.length):l.take (i+1)=l.take i++[l[i]]:=by rw [List.take_add_one,List.getElem?_eq_getElem h]; rfl
theorem kG {X Y:Type} {l:List X} {f:X→Y} {i:Nat} (h:i<l.length):(l.take i).map f++[f l[i]]=(l.take (i+1)).map f:=by rw [eB h,List.map_append]; rfl
theorem bO {n:Nat} (h:n≤4000000000):Bnd n:=by unfold Bnd; omega
end Go.Pu
namespace Go.Pu
open Go Go.Wc
def rotR (n:Nat) (x:Int):Int:=x / 2 ^ n+x % 2 ^ n*2 ^ (32 - n)
def iO (x:Int):Prop:=0≤x∧x<4294967296
def BA (x:Int):Int:=IntKind.wrap .u32 (IntKind.wrap .u32 (Int.tdiv x 2)+IntKind.wrap .u32 (Int.tmod x 2*2147483648))
def GA (x:Int):Int:=IntKind.wrap .u32 (IntKind.wrap .u32 (x*2)+IntKind.wrap .u32 (Int.tdiv x 2147483648))
theorem wrap_u32 (n:Int):IntKind.wrap .u32 n=n % 4294967296:=by
 rw [show IntKind.wrap .u32 n=n % 4294967296 from rfl]
theorem oQ (n:Int):iO (IntKind.wrap .u32 n):=by rw [wrap_u32]; unfold iO; omega
theorem bG {n:Int} (h:iO n):IntKind.wrap .u32 n=n:=by rw [wrap_u32]; unfold iO at h; omega
theorem jO (n:Nat):(0:Int)<2 ^ n:=Int.pow_pos (by decide)
theorem oR {n:Nat} (h:n≤32):(2:Int) ^ n*2 ^ (32 - n)=4294967296:=by
 rw [← Int.pow_add,Nat.add_sub_of_le h]; rfl
theorem kY {n:Nat} (h:n<32) {x:Int} (hx:iO x): ∃ P S q r b:Int,(2:Int) ^ n=P∧2 ^ (n+1)=2*P∧2 ^ (32 - n)=2*S∧2 ^ (32 - (n+1))=S∧0<P∧0<S∧P*S=2147483648∧
  0≤q∧q<S∧0≤r∧r<P∧(b=0∨b=1)∧x / 2 ^ (n+1)=q∧x / 2 ^ n=2*q+b∧x % 2 ^ n=r∧x % 2 ^ (n+1)=b*P+r∧0≤r*S∧r*S+q<2147483648:=by
 have e1:(2:Int) ^ (n+1)=2*2 ^ n:=by rw [Int.pow_succ,Int.mul_comm]
 have e2:(2:Int) ^ (32 - n)=2*2 ^ (32 - (n+1)):=by rw [show 32 - n=(32 - (n+1))+1 by omega,Int.pow_succ,Int.mul_comm]
 have e3:(2:Int) ^ n*2 ^ (32 - (n+1))=2147483648:=by
  have:=oR (n:=n) (by omega)
  rw [e2,Int.mul_left_comm] at this; omega
 have hP:=jO n
 have hS:=jO (32 - (n+1))
 refine ⟨2 ^ n,2 ^ (32 - (n+1)),x / (2*2 ^ n),x % 2 ^ n,x / 2 ^ n % 2,rfl,e1,e2,rfl,hP,hS,e3, ?_⟩
 have d1:=Int.mul_ediv_add_emod x (2 ^ n)
 have d2:=Int.emod_nonneg x (b:=2 ^ n) (by omega)
 have d3:=Int.emod_lt_of_pos x hP
 have d4:x / (2*2 ^ n)=x / 2 ^ n / 2:=by rw [Int.mul_comm,Int.ediv_ediv_of_nonneg (by omega)]
 have d5:0≤x / 2 ^ n:=Int.ediv_nonneg hx.1 (by omega)
 have d6:x / 2 ^ n<2*2 ^ (32 - (n+1)):=by
  refine Int.ediv_lt_of_lt_mul hP ?_
  have h2:=hx.2
  have:(2*2 ^ (32 - (n+1)):Int)*2 ^ n=2*(2 ^ n*2 ^ (32 - (n+1))):=by rw [Int.mul_comm (2 ^ n),Int.mul_assoc]
  rw [this,e3]; omega
 have d7:=Int.mul_ediv_add_emod x (2*2 ^ n)
 have d8:(2:Int)*2 ^ n*(x / (2*2 ^ n))=2 ^ n*(2*(x / 2 ^ n / 2)):=by rw [d4]; simp only [Int.mul_assoc,Int.mul_left_comm]
 have d9:(2:Int) ^ n*(x / 2 ^ n)=2 ^ n*(2*(x / 2 ^ n / 2))+2 ^ n*(x / 2 ^ n % 2):=by
  rw [← Int.mul_add]; congr 1; omega
 have d10:x % 2 ^ n*2 ^ (32 - (n+1))≤(2 ^ n - 1)*2 ^ (32 - (n+1)):=Int.mul_le_mul_of_nonneg_right (by omega) (by omega)
 rw [Int.sub_mul,e3] at d10
 refine ⟨?_, ?_,d2,d3, ?_, ?_, ?_,rfl, ?_, ?_, ?_⟩
 ·omega
 ·omega
 ·omega
 ·rw [e1]
 ·omega
 ·rw [e1,Int.mul_comm (x / 2 ^ n % 2)]; omega
 ·exact Int.mul_nonneg d2 (by omega)
 ·omega
theorem uc {n:Nat} (h:n<32) {x:Int} (hx:iO x):iO (rotR n x):=by
 obtain ⟨P,S,q,r,b,h1,h2,h3,h4,h5,h6,h7,h8,h9,HU,KV,z8,HV,KW,KX,z9,Xj,Xk⟩:=kY h hx
 unfold rotR iO
 rw [KW,KX,h3,Int.mul_left_comm]
 omega
theorem wU {n:Nat} (h:n<32) {x:Int} (hx:iO x):BA (rotR n x)=rotR (n+1) x:=by
 obtain ⟨P,S,q,r,b,h1,h2,h3,h4,h5,h6,h7,h8,h9,HU,KV,z8,HV,KW,KX,z9,Xj,Xk⟩:=kY h hx
 have hw:=uc h hx
 unfold BA
 rw [Int.tdiv_eq_ediv_of_nonneg hw.1,Int.tmod_eq_emod_of_nonneg hw.1,wrap_u32,wrap_u32,wrap_u32]
 unfold rotR at hw ⊢
 rw [KW,KX,h3,Int.mul_left_comm] at hw
 rw [KW,KX,h3,HV,z9,h4,Int.mul_left_comm,Int.add_mul,Int.mul_assoc,h7]
 rcases z8 with rfl | rfl <;> omega
theorem Aa {n:Nat} (h:n<32) {x:Int} (hx:iO x):GA (rotR (n+1) x)=rotR n x:=by
 obtain ⟨P,S,q,r,b,h1,h2,h3,h4,h5,h6,h7,h8,h9,HU,KV,z8,HV,KW,KX,z9,Xj,Xk⟩:=kY h hx
 unfold GA
 have e:rotR (n+1) x=q+(b*2147483648+r*S):=by
  unfold rotR
  rw [HV,z9,h4,Int.add_mul,Int.mul_assoc,h7]
 have e2:rotR n x=2*q+b+2*(r*S):=by
  unfold rotR
  rw [KW,KX,h3,Int.mul_left_comm]
 rw [e,e2,Int.tdiv_eq_ediv_of_nonneg (by rcases z8 with rfl | rfl <;> omega),wrap_u32,wrap_u32,wrap_u32]
 have j1:(q+(b*2147483648+r*S)) / 2147483648=b:=by rcases z8 with rfl | rfl <;> omega
 have j2:(q+(b*2147483648+r*S))*2 % 4294967296=2*q+2*(r*S):=by rcases z8 with rfl | rfl <;> omega
 rw [j1,j2]
 rcases z8 with rfl | rfl <;> omega
theorem HY {x:Int}:rotR 0 x=x:=by unfold rotR; simp
theorem EN {x:Int} (hx:iO x):rotR 32 x=x:=by
 unfold rotR
 have h1:=hx.1; have h2:=hx.2
 rw [show (2:Int) ^ 32=4294967296 from rfl,show (2:Int) ^ (32 - 32)=1 from rfl]; omega
theorem oS {P S a r:Int} {n:Nat} (hP:P=2 ^ n) (hr:0≤r∧r<P) (ha:0≤a) (h:a*P+r<4294967296):
  ((BitVec.ofInt 32 (a*P) ||| BitVec.ofInt 32 r).toNat:Int)=a*P+r:=by
 obtain ⟨a',rfl⟩:=Int.eq_ofNat_of_zero_le ha
 obtain ⟨r',rfl⟩:=Int.eq_ofNat_of_zero_le hr.1
 subst hP
 have e:((a':Int)*2 ^ n)=((2 ^ n*a':Nat):Int):=by rw [Int.natCast_mul,Int.natCast_pow]; exact Int.mul_comm _ _
 rw [e] at h ⊢
 have hlt:r'<2 ^ n:=by have:=hr.2; exact_mod_cast this
 have hsum:2 ^ n*a'+r'<4294967296:=by clear e; generalize 2 ^ n*a'=m at*; omega
 rw [BitVec.toNat_or,BitVec.ofInt_natCast,BitVec.ofInt_natCast,BitVec.toNat_ofNat,BitVec.toNat_ofNat,Nat.mod_eq_of_lt (by omega),Nat.mod_eq_of_lt (by omega),← Nat.two_pow_add_eq_or_of_lt hlt]
 rw [Int.natCast_add]
end Go.Pu

namespace Go.Pt
open Go Go.Wc Go.Pu
def iK (m:Int):Int:=(m+5) / 6
def newB (n:Int):List Int:=
 let m1:=iK n
 let l1:=[0,n,n+m1]
 if m1>1 then
  let m2:=iK m1
  let l2:=l1++[n+m1+m2]
  if m2>1 then l2++[n+m1+m2+iK m2] else l2
 else l1
theorem xj {c:bx.V} {Q:bx.QT} {l:List Int} {m x:Int} (e1:c.l4=l) (e2:c.eP=m) (hl:2≤l.length∧l.length≤10) (hm:1≤m∧m≤216) (hx:l[l.length - 1]? =some x) (xk:0≤x∧x≤1000) (hgo:m>1∨l.length=2)
  (H: ∀ c':bx.V,c'.l4=l++[x+iK m]→c'.eP=iK m→bx.L2 Q c'):bx.L2 Q c:=by
 refine bx.bW ?_
 subst e1 e2
 have hK:bx.K3 (bx.L2 Q) Q {c with jI:=true}:=by
  unfold bx.K3
  rw [av]
  refine ⟨⟨by omega,by omega,by omega⟩, ?_⟩
  have e:IntKind.wrap .i64 (((c.l4.length:Nat):Int) - 1)=((c.l4.length - 1:Nat):Int):=by rw [wrap64 (by omega) (by omega)]; omega
  dsimp only
  rw [e]
  refine ⟨rfl,sA hx ?_⟩
  have e1:IntKind.wrap .i64 ((IntKind.wrap .i64 (c.eP+6)) - 1)=c.eP+5:=by rw [wrap64 (n:=c.eP+6) (by omega) (by omega),wrap64 (by omega) (by omega)]; omega
  have e2:IntKind.wrap .i64 (Int.tdiv (c.eP+5) 6)=iK c.eP:=by
   rw [Int.tdiv_eq_ediv_of_nonneg (by omega),wrap64 (by omega) (by omega)]; rfl
  have hu:0≤iK c.eP∧iK c.eP≤40:=by unfold iK; omega
  have e3:sub c.l4 0 (c.l4.length:Int)=c.l4:=by simp [sub]
  rw [e1,e2,wrap64 (n:=x+iK c.eP) (by omega) (by omega),e3]
  exact ⟨bO (by simp; omega),H _ rfl rfl⟩
 unfold bx.B2
 by_cases h:c.eP>1
 ·rw [decide_eq_true h,av]; exact hK
 ·rw [decide_eq_false h,ai]
  have:c.l4.length=2:=by omega
  rw [show ((c.l4.length:Int)==2)=true by rw [this]; rfl]
  exact hK
theorem oX {c:bx.V} {Q:bx.QT} {l:List Int} {m:Int} (e1:c.l4=l) (e2:c.eP=m) (hm:m≤1) (hl:l.length ≠ 2) (H:Q ⟨l⟩ 0):bx.L2 Q c:=by
 refine bx.bW ?_
 subst e1 e2
 unfold bx.B2
 rw [decide_eq_false (by omega),ai]
 unfold bx.K3
 dsimp only
 rw [show ((c.l4.length:Int)==2)=false by rw [beq_eq_false_iff_ne]; omega,ai]
 exact H
theorem jR {n:Int} {Q:bx.QT} (hn:1≤n∧n≤216) (H:Q ⟨newB n⟩ 0):bx n Q:=by
 unfold bx
 rw [decide_eq_false (by omega),ai]
 unfold bx.K1
 dsimp only
 rw [decide_eq_false (by omega),ai]
 have b1:1≤iK n∧iK n≤36:=by unfold iK; omega
 refine xj (l:=[0,n]) (m:=n) rfl rfl (by simp) hn (x:=n) rfl (by omega) (.inr rfl) fun c1 e1 e2=> ?_
 unfold newB at H
 dsimp only at H
 by_cases h1:iK n>1
 ·rw [if_pos h1] at H
  have b2:1≤iK (iK n)∧iK (iK n)≤6:=by unfold iK at b1 ⊢; omega
  refine xj e1 e2 (by simp) (by omega) (x:=n+iK n) rfl (by omega) (.inl h1) fun c2 e3 e4=> ?_
  by_cases h2:iK (iK n)>1
  ·rw [if_pos h2] at H
   have b3:iK (iK (iK n))≤1:=by unfold iK at b2 ⊢; omega
   refine xj e3 e4 (by simp) (by omega) (x:=n+iK n+iK (iK n)) rfl (by omega) (.inl h2) fun c3 e5 e6=> ?_
   exact oX e5 e6 b3 (by simp) H
  ·rw [if_neg h2] at H
   exact oX e3 e4 (by omega) (by simp) H
 ·rw [if_neg h1] at H
  exact oX e1 e2 (by omega) (by simp) H
structure WfB (b:List Int):Prop where
 len:3≤b.length∧b.length≤10
 MX: ∀ x ∈ b,0≤x∧x≤1000
def lvS:List Int→Int→Int→Int
 | [],_,_=> -1
 | x::r,k,item=>if item<x then k else lvS r (k+1) item
def levelS (b:List Int) (item:Int):Int:=if item<0 then -1 else lvS b.tail 0 item
theorem yT: ∀ (r:List Int) (k item:Int),0≤k→lvS r k item= -1∨(k≤lvS r k item∧lvS r k item<k+r.length)
 | [],k,item,_=> .inl rfl
 | x::r,k,item,hk=>by
  simp only [lvS,List.length_cons]
  split
  ·exact .inr ⟨Int.le_refl _,by omega⟩
  ·rcases yT r (k+1) item (by omega) with h | h
   ·exact .inl h
   ·exact .inr ⟨by omega,by omega⟩
theorem oY (b:List Int) (item:Int) (hb:1≤b.length):levelS b item= -1∨(0≤levelS b item∧levelS b item+1<b.length∧0≤item):=by
 unfold levelS
 split
 ·exact .inl rfl
 ·have:=yT b.tail 0 item (by omega)
  simp only [List.length_tail] at this
  rcases this with h | h
  ·exact .inl h
  ·exact .inr ⟨by omega,by omega,by omega⟩
theorem uq {b:List Int} {Q:Int→Prop} (hb:WfB b) (H:Q ((b.length - 1:Nat):Int)):dQ ⟨b⟩ Q:=by
 unfold dQ
 have:=hb.len
 have e:IntKind.wrap .i64 ((b.length:Int) - 1)=((b.length - 1:Nat):Int):=by rw [wrap64 (by omega) (by omega)]; omega
 dsimp only
 rw [e,if_neg (by omega)]
 exact H
theorem oZ {b:List Int} {item:Int} {Q:Int→Prop} (hb:WfB b) (H:Q (levelS b item)):bp ⟨b⟩ item Q:=by
 unfold bp
 have hl:=hb.len
 unfold levelS at H
 rw [wE]
 constructor
 ·intro h; rw [if_pos (by simpa using h)] at H; exact H
 intro h
 rw [if_neg (by simpa using h)] at H
 refine uq hb ?_
 refine Bz (b.length - 1) (fun i=> {bp.v0 with bT:=item,s2:=⟨b⟩,v9:=((b.length - 1:Nat):Int),v10:=(i:Int)}) (fun i=>Q (lvS (b.tail.drop i) i item)) ?_ ?_ 0 (Nat.zero_le _) (by simpa using H)
 ·intro i S hi hP hS
  unfold bp.B1
  dsimp only
  rw [dlt hi,av,cu (by omega)]
  refine dm (by omega) ?_
  have e:b.tail.drop i=b[i+1]'(by omega)::b.tail.drop (i+1):=by
   rw [List.drop_eq_getElem_cons (by simp; omega)]
   simp
  rw [e] at hP
  simp only [lvS] at hP
  rw [wE]
  constructor
  ·intro h1; rw [if_pos (by simpa using h1)] at hP; exact hP
  ·intro h1
   rw [if_neg (by simpa using h1)] at hP
   refine hS ?_
   have:(((i+1:Nat)):Int)=(i:Int)+1:=by omega
   rw [this]; exact hP
 ·intro S hP
  unfold bp.B1
  dsimp only
  rw [dge (Nat.le_refl _),ai]
  have:b.tail.drop (b.length - 1)=[]:=List.drop_eq_nil_of_le (by simp)
  rw [this] at hP
  exact hP
def itemsS (b:List Int):Int:=b.getD (b.length - 1) 0
def pagesS (b:List Int):Int:=b.getD 1 0
theorem ur {b:List Int} (hb:WfB b) (i:Nat):0≤b.getD i 0∧b.getD i 0≤1000:=by
 rw [List.getD_eq_getElem?_getD]
 cases h:b[i]? with
 | none=>simp
 | some x=>exact hb.MX x (List.mem_of_getElem? h)
theorem fK {l:List Int} {i:Int} {K:Int→Prop} (j:Nat) (hj:i=(j:Int)) (h:j<l.length) (H:K (l.getD j 0)):ixP l i K:=
 iD j hj h (by rw [List.getD_eq_getElem?_getD,List.getElem?_eq_getElem h] at H; exact H)
theorem o5 {b:List Int} {Q:Int→Prop} (hb:WfB b) (H:Q (itemsS b)):eH ⟨b⟩ Q:=by
 unfold eH
 have hl:=hb.len
 dsimp only
 rw [show ((b.length:Int)==0)=false by rw [beq_eq_false_iff_ne]; omega,ai]
 exact fK (b.length - 1) (by rw [wrap64 (by omega) (by omega)]; omega) (by omega) H
def parentS (b:List Int) (item:Int):Int × Int × Bool:=
 let l:=levelS b item
 if l<0∨item=itemsS b - 1 then (0,0,false)
 else (b.getD (l.toNat+1) 0+Int.tdiv (item - b.getD l.toNat 0) 6,Int.tmod (item - b.getD l.toNat 0) 6,true)
theorem BO: ∀ (r:List Int) (k item:Int),(∀ x ∈ r,x≤1000)→lvS r k item ≠ -1→item<1000
 | [],k,item,_,h=>absurd rfl h
 | x::r,k,item,hr,h=>by
  simp only [lvS] at h
  split at h
  ·have:=hr x (by simp); omega
  ·exact BO r (k+1) item (fun y hy=>hr y (by simp [hy])) h
theorem uu {b:List Int} {item:Int} (hb:WfB b) (h: ¬ levelS b item<0):0≤item∧item<1000:=by
 have h1:=oY b item (by have:=hb.len; omega)
 refine ⟨by omega, ?_⟩
 unfold levelS at h
 split at h
 ·omega
 ·exact BO b.tail 0 item (fun x hx=>(hb.MX x (List.mem_of_mem_tail hx)).2) (by omega)
end Go.Pt
namespace Go.Pt
open Go Go.Wc Go.Pu
variable {b:List Int}
def upS (b:List Int):Nat→Int→Bool→List Int × Bool
 | _,_,false=>([],true)
 | 0,_,true=>([],false)
 | k+1,p,true=>(p::(upS b k (parentS b p).1 (parentS b p).2.2).1,(upS b k (parentS b p).1 (parentS b p).2.2).2)
def pathS (b:List Int) (page:Int):List Int × Bool:=
 if levelS b page=0 then (page::(upS b 12 (parentS b page).1 (parentS b page).2.2).1,(upS b 12 (parentS b page).1 (parentS b page).2.2).2) else ([],true)
def fromI (a:Int):Nat→List Int
 | 0=>[]
 | k+1=>a::fromI (a+1) k
theorem pe (a:Int): ∀ k:Nat,fromI a k++[a+k]=fromI a (k+1)
 | 0=>by simp [fromI]
 | k+1=>by
  have:=pe (a+1) k
  simp only [fromI,List.cons_append] at this ⊢
  rw [← this]
  congr 3; omega
theorem lW (a:Int): ∀ k:Nat,(fromI a k).length=k
 | 0=>rfl
 | k+1=>by simp [fromI,lW (a+1) k]
def kidsS (b:List Int) (item:Int):List Int:=
 let l:=levelS b item
 if l<1 then []
 else
  let f:=b.getD (l.toNat - 1) 0+6*(item - b.getD l.toNat 0)
  fromI f (Int.toNat (min (f+6) (b.getD l.toNat 0) - f))
theorem An (hb:WfB b) {item:Int} {Q:bq.QT} (H:Q (kidsS b item)):bq ⟨b⟩ item Q:=by
 unfold bq
 refine oZ hb ?_
 unfold kidsS at H
 dsimp only at H
 have hl:=hb.len
 by_cases h:levelS b item<1
 ·rw [if_pos h] at H
  rw [decide_eq_true h,av]; exact H
 rw [if_neg h] at H
 rw [decide_eq_false h,ai]
 have hr:=oY b item (by omega)
 have hi:=uu hb (item:=item) (by omega)
 dsimp only
 refine fK ((levelS b item).toNat - 1) (by rw [wrap64 (by omega) (by omega)]; omega) (by omega) ?_
 refine fK (levelS b item).toNat (by omega) (by omega) ?_
 have g1:=ur hb ((levelS b item).toNat - 1)
 have g2:=ur hb (levelS b item).toNat
 generalize b.getD ((levelS b item).toNat - 1) 0=x at*
 generalize hy:b.getD (levelS b item).toNat 0=y at*
 rw [wrap64 (n:=item - y) (by omega) (by omega),wrap64 (n:=6*(item - y)) (by omega) (by omega),wrap64 (n:=x+6*(item - y)) (by omega) (by omega)]
 generalize hf:x+6*(item - y)=f at*
 have hfr: -6000≤f∧f≤7001:=by omega
 let n:=Int.toNat (min (f+6) y - f)
 have hn:n≤6:=by simp only [n]; omega
 refine sB n (fun i=> {bq.v0 with s2:=⟨b⟩,oV:=levelS b item,dY:=f,l7:=fromI f i,k8:=f+i}) ?_ ?_ |> fun h=>by simpa [bq.L1,fromI] using h
 ·intro i S qI hS
  unfold bq.B1
  dsimp only
  refine fK (levelS b item).toNat (by omega) (by omega) ?_
  rw [hy,wrap64 (n:=f+6) (by omega) (by omega)]
  rw [decide_eq_true (by simp only [n] at qI; split <;> omega),av]
  refine ⟨bO (by simp [lW]; omega), ?_⟩
  rw [pe,wrap64 (by omega) (by omega)]
  have:f+(i:Int)+1=f+((i+1:Nat):Int):=by omega
  rw [this]
  exact hS
 ·intro S
  unfold bq.B1
  dsimp only
  refine fK (levelS b item).toNat (by omega) (by omega) ?_
  rw [hy,wrap64 (n:=f+6) (by omega) (by omega)]
  rw [decide_eq_false (by simp only [n]; split <;> omega),ai]
  exact H
def blockS (b:List Int) (item place:Int):Int:=if levelS b item<0∨place<0∨place>1 then -1 else 2+2*item+place
theorem xm (hb:WfB b) {item place:Int} {Q:aW.QT} (H:Q (blockS b item place)):aW ⟨b⟩ item place Q:=by
 unfold aW
 refine oZ hb ?_
 unfold blockS at H
 unfold aW.K1
 dsimp only
 by_cases h:levelS b item<0
 ·rw [if_pos (.inl h)] at H
  rw [decide_eq_true h,av,av]; exact H
 rw [decide_eq_false h,ai]
 by_cases h2:place<0
 ·rw [if_pos (.inr (.inl h2))] at H
  rw [decide_eq_true h2,av,av]; exact H
 rw [decide_eq_false h2,ai]
 by_cases h3:place>1
 ·rw [if_pos (.inr (.inr h3))] at H
  rw [decide_eq_true h3,av]; exact H
 rw [if_neg (by omega)] at H
 rw [decide_eq_false h3,ai]
 have hi:=uu hb h
 rw [wrap64 (n:=2*item) (by omega) (by omega),wrap64 (n:=2+2*item) (by omega) (by omega),wrap64 (by omega) (by omega)]
 exact H
end Go.Pt
namespace Go.Pt
open Go Go.Wc Go.Pu
abbrev HS:=aV
structure WfH (h:HS):Prop where
 len:h.Level.length=h.di.length
 small:h.Level.length≤400
 Rs: ∀ x ∈ h.Level,0≤x∧x≤10
 fst: ∀ x ∈ h.di, -1≤x∧x≤400
def hasS (h:HS) (item:Int):Bool:=decide (0≤item) && decide (item<(h.Level.length:Int))
theorem uv {h:HS} {item:Int} {Q:Bool→Prop} (H:Q (hasS h item)):cD h item Q:=by
 unfold cD
 unfold hasS at H
 rw [wE]
 constructor
 ·intro h1; rw [decide_eq_true (show 0≤item by simpa using h1),Bool.true_and] at H; exact H
 ·intro h1; rw [decide_eq_false (show ¬ 0≤item by simpa using h1),Bool.false_and] at H; exact H
def kgo (h:HS) (item:Int):Nat→List Int→Int→List Int
 | 0,out,_=>out
 | f+1,out,k=>if out.length<6∧k<item∧h.Level.getD k.toNat 0=h.Level.getD item.toNat 0 - 1 then kgo h item f (out++[k]) (k+1) else out
def kidsR (h:HS) (item:Int):List Int:=if hasS h item=false∨h.di.getD item.toNat 0<0 then [] else kgo h item 7 [] (h.di.getD item.toNat 0)
theorem BP {h:HS} (hw:WfH h) {item:Int} (hi:0≤item∧item<h.Level.length) {Q:ax.QT}: ∀ (f:Nat) (c:ax.V),c.s2=h→c.bT=item→0≤c.k6→c.eY.length+f=7→c.eY.length≤6→Q (kgo h item f c.eY c.k6)→ax.L2 Q c:=by
 intro f
 induction f with
 | zero=>intro c e1 e2 hk hf hl H; omega
 | succ f ih=>
  intro c e1 e2 hk hf hl H
  refine ax.bW ?_
  unfold ax.B2 ax.K3
  dsimp only
  have hs:=hw.small
  by_cases h1:c.eY.length<6
  case neg=>
   rw [decide_eq_false (by omega),ai,ai]
   simp only [kgo] at H
   rw [if_neg (fun h=>h1 h.1)] at H; exact H
  rw [decide_eq_true (by omega),av,e2]
  by_cases h2:c.k6<item
  case neg=>
   rw [decide_eq_false h2,ai,ai]
   simp only [kgo] at H
   rw [if_neg (fun h=>h2 h.2.1)] at H; exact H
  rw [decide_eq_true h2,av,e1]
  refine fK c.k6.toNat (by omega) (by omega) (fK item.toNat (by omega) (by omega) ?_)
  have hlv:0≤h.Level.getD item.toNat 0∧h.Level.getD item.toNat 0≤10:=by
   rw [List.getD_eq_getElem?_getD,List.getElem?_eq_getElem (by omega)]
   exact hw.Rs _ (List.getElem_mem _)
  rw [wrap64 (by omega) (by omega)]
  simp only [kgo] at H
  by_cases h3:h.Level.getD c.k6.toNat 0=h.Level.getD item.toNat 0 - 1
  ·rw [if_pos ⟨h1,h2,h3⟩] at H
   rw [show (h.Level.getD c.k6.toNat 0==h.Level.getD item.toNat 0 - 1)=true by rw [beq_iff_eq]; exact h3,av]
   refine ⟨bO (by simp; omega), ?_⟩
   rw [wrap64 (by omega) (by omega)]
   exact ih _ rfl rfl (by dsimp only; omega) (by simp; omega) (by simp; omega) H
  ·rw [if_neg (fun h=>h3 h.2.2)] at H
   rw [show (h.Level.getD c.k6.toNat 0==h.Level.getD item.toNat 0 - 1)=false by rw [beq_eq_false_iff_ne]; exact h3,ai]
   exact H
theorem xo {h:HS} (hw:WfH h) {item:Int} {Q:ax.QT} (H:Q (kidsR h item)):ax h item Q:=by
 unfold ax ax.K1
 refine uv ?_
 unfold kidsR at H
 cases hh:hasS h item with
 | false=>
  rw [if_pos (.inl hh)] at H
  rw [Bool.not_false,av,av]; exact H
 | true=>
  have hi:0≤item∧item<h.Level.length:=by unfold hasS at hh; simpa using hh
  have hl:=hw.len
  rw [Bool.not_true,ai]
  refine fK item.toNat (by omega) (by omega) ?_
  dsimp only
  by_cases h2:h.di.getD item.toNat 0<0
  ·rw [if_pos (.inr h2)] at H
   rw [decide_eq_true h2,av]; exact H
  ·rw [if_neg (by rintro (h | h); rw [hh] at h; cases h; exact h2 h)] at H
   rw [decide_eq_false h2,ai]
   refine fK item.toNat (by omega) (by omega) ?_
   exact BP hw hi 7 _ rfl rfl (by dsimp only; omega) rfl (by simp) H
def pgo (h:HS) (item:Int):Nat→Int→Int × Int × Bool
 | 0,_=>(0,0,false)
 | f+1,p=>match (kidsR h p).findIdx? (· ==item) with
  | some i=>(p,i,true)
  | none=>pgo h item f (p+1)
def parentR (h:HS) (item:Int):Int × Int × Bool:=pgo h item h.Level.length 0
def ugo (h:HS):Nat→List Int→List Int
 | 0,out=>out
 | f+1,out=>if (parentR h (out.getLastD 0)).2.2 then ugo h f (out++[(parentR h (out.getLastD 0)).1]) else out
def pathR (h:HS) (page:Int):List Int:=if page<0∨page≥h.P then [] else ugo h 10 [page]
end Go.Pt
namespace Go.Pt
open Go Go.Wc Go.Pu
def firsts (from_:Int) (k:Nat):List Int:=(List.range k).map fun i:Nat=>from_+6*(i:Int)
def lvR (P:Int):Nat→Int→Int→Int→List Int→List Int→Option HS
 | 0,_,_,_,_,_=>none
 | f+1,level,from_,many,L,F=>
  if level=1∨many>1 then lvR P f (level+1) (from_+many) (iK many) (L++List.replicate (iK many).toNat level) (F++firsts from_ (iK many).toNat)
  else some ⟨P,L,F⟩
def newR (n:Int):Option HS:=lvR n 6 1 0 n (List.replicate n.toNat 0) (List.replicate n.toNat (-1))
theorem uw (a:Int) (k:Nat):firsts a k++[a+6*(k:Int)]=firsts a (k+1):=by
 simp [firsts,List.range_succ]
theorem BQ {Q:au.QT}: ∀ (f:Nat) (c:au.V) (h:HS),1≤c.dP∧c.dP≤216→0≤c.dY∧c.dY+216*(f:Int)≤100000→1≤c.cT∧c.cT+(f:Int)≤1000→c.s4.Level.length+216*f≤100000→c.s4.di.length+216*f≤100000→
  lvR c.s4.P f c.cT c.dY c.dP c.s4.Level c.s4.di=some h→Q h 0→au.L3 Q c:=by
 intro f
 induction f with
 | zero=>intro c h _ _ _ _ _ e _; simp [lvR] at e
 | succ f ih=>
  intro c h hm hf hl hL hF e H
  refine au.fF ?_
  simp only [lvR] at e
  have go:(c.cT=1∨c.dP>1)→au.K4 (au.L3 Q) Q {c with Iu:=true}:=by
   intro hgo
   rw [if_pos hgo] at e
   unfold au.K4
   rw [av]
   have hu:1≤iK c.dP∧iK c.dP≤36∧6*(iK c.dP - 1)<c.dP∧c.dP≤6*iK c.dP:=by unfold iK; omega
   have:=sB (B:=fun S=>au.B5 (au.L3 Q) S Q) (iK c.dP).toNat
    (fun i=> {c with Iu:=true,s4:=⟨c.s4.P,c.s4.Level++List.replicate i c.cT,c.s4.di++firsts c.dY i⟩,n9:=(i:Int),Bb:=6*(i:Int)}) ?_ ?_
   ·have e0:(⟨c.s4.P,c.s4.Level++List.replicate 0 c.cT,c.s4.di++firsts c.dY 0⟩:HS)=c.s4:=by simp [firsts]
    rw [e0] at this
    exact this
   ·intro i S hi hS
    unfold au.B5
    dsimp only
    rw [decide_eq_true (by omega),av]
    refine ⟨bO (by simp; omega),bO (by simp [firsts]; omega), ?_⟩
    rw [wrap64 (n:=c.dY+6*(i:Int)) (by omega) (by omega),wrap64 (n:=6*(i:Int)+6) (by omega) (by omega),cu (by omega),List.append_assoc,List.append_assoc,uw]
    have e1:List.replicate i c.cT++[c.cT]=List.replicate (i+1) c.cT:=by rw [List.replicate_succ']
    have e2:6*(i:Int)+6=6*((i+1:Nat):Int):=by omega
    rw [e1,e2]
    exact hS
   ·intro S
    unfold au.B5
    dsimp only
    rw [decide_eq_false (by omega),ai,wrap64 (n:=c.dY+c.dP) (by omega) (by omega),wrap64 (n:=c.cT+1) (by omega) (by omega)]
    refine ih _ h (by dsimp only; omega) (by dsimp only; omega) (by dsimp only; omega) (by simp; omega) (by simp [firsts]; omega) ?_ H
    dsimp only
    rw [show (((iK c.dP).toNat:Nat):Int)=iK c.dP by omega]
    exact e
  unfold au.B3
  by_cases h1:c.cT=1
  ·rw [show (c.cT==1)=true by rw [beq_iff_eq]; exact h1,av]
   exact go (.inl h1)
  ·rw [show (c.cT==1)=false by rw [beq_eq_false_iff_ne]; exact h1,ai]
   by_cases h2:c.dP>1
   ·rw [decide_eq_true h2]; exact go (.inr h2)
   ·rw [decide_eq_false h2]
    unfold au.K4
    rw [ai]
    rw [if_neg (by omega)] at e
    cases e
    exact H
theorem Ao {n:Int} {h:HS} {Q:au.QT} (hn:1≤n∧n≤216) (e:newR n=some h) (H:Q h 0):au n Q:=by
 unfold au au.K1
 dsimp only
 rw [decide_eq_false (by omega),ai,decide_eq_false (by omega),ai]
 have:=sB (B:=fun S=>au.B2 S Q) n.toNat (fun i=> {au.v0 with cI:=n,v2:=⟨0,[],[]⟩,n8:=false,s4:=⟨n,List.replicate i 0,List.replicate i (-1)⟩,i5:=(i:Int)}) ?_ ?_
 ·exact this
 ·intro i S hi hS
  unfold au.B2
  dsimp only
  rw [decide_eq_true (by omega),av]
  refine ⟨bO (by simp; omega),bO (by simp; omega), ?_⟩
  rw [cu (by omega),← List.replicate_succ',← List.replicate_succ']
  exact hS
 ·intro S
  unfold au.B2
  dsimp only
  rw [decide_eq_false (by omega),ai]
  refine BQ 6 _ h (by dsimp only; omega) (by dsimp only; omega) (by dsimp only; omega) (by simp; omega) (by simp; omega) ?_ H
  exact e
def hOf (n:Int):HS:=(newR n).getD ⟨0,[],[]⟩
def okN (n:Int):Bool:=
 let b:=newB n
 let h:=hOf n
 (newR n).isSome && decide (3≤b.length) && decide (b.length≤10) && b.all (fun x=>decide (0≤x) && decide (x≤1000) && decide (x≤itemsS b)) &&
 decide (h.Level.length=h.di.length) && decide (h.Level.length≤400) && h.Level.all (fun x=>decide (0≤x) && decide (x≤10)) && h.di.all (fun x=>decide (-1≤x) && decide (x≤400)) &&
 decide (h.P=n) && decide (pagesS b=n) && decide (itemsS b=h.Level.length) &&
 (List.range h.Level.length).all (fun i=>
  decide (kidsS b i=kidsR h i) && decide (parentS b i=parentR h i) && (pathS b i).2 && decide ((pathS b i).1=pathR h i) &&
  ((pathR h i).tail.all fun x=>decide (n≤x) && decide (x<(h.Level.length:Int))))
theorem E4:((List.range 14).all fun n=>okN ((n:Int)+1))=true:=by decide+kernel
structure NOk (n:Int):Prop where
 MX:1≤n∧n≤14
 new:newR n=some (hOf n)
 wb:WfB (newB n)
 top: ∀ x ∈ newB n,x≤itemsS (newB n)
 wh:WfH (hOf n)
 P:(hOf n).P=n
 pages:pagesS (newB n)=n
 items:itemsS (newB n)=(hOf n).Level.length
 GV: ∀ i:Nat,i<(hOf n).Level.length→kidsS (newB n) i=kidsR (hOf n) i
 Ru: ∀ i:Nat,i<(hOf n).Level.length→parentS (newB n) i=parentR (hOf n) i
 Rv: ∀ i:Nat,i<(hOf n).Level.length→(pathS (newB n) i).2=true
 MY: ∀ i:Nat,i<(hOf n).Level.length→(pathS (newB n) i).1=pathR (hOf n) i
 Y5: ∀ i:Nat,i<(hOf n).Level.length→ ∀ x ∈ (pathR (hOf n) i).tail,n≤x∧x<((hOf n).Level.length:Int)
theorem nok {n:Int} (hn:1≤n∧n≤14):NOk n:=by
  have h:=List.all_eq_true.1 E4 (n - 1).toNat (List.mem_range.2 (by omega))
  rw [show (((n - 1).toNat:Nat):Int)+1=n by omega] at h
  unfold okN at h
  dsimp only at h
  simp only [Bool.and_eq_true,decide_eq_true_eq,List.all_eq_true,List.mem_range] at h
  obtain ⟨⟨⟨⟨⟨⟨⟨⟨⟨⟨⟨h1,h2⟩,h3⟩,h4⟩,h5⟩,h6⟩,h7⟩,h8⟩,h9⟩,HU⟩,KV⟩,z8⟩:=h
  have hs:newR n=some (hOf n):=by
    unfold hOf
    cases e:newR n with
    | none=>rw [e] at h1; cases h1
    | some x=>rfl
  exact { MX := hn, new := hs, wb := ⟨⟨h2, h3⟩, fun x hx => (h4 x hx).1⟩, top := fun x hx => (h4 x hx).2, wh := ⟨h5, h6, h7, h8⟩, P := h9, pages := HU, items := KV,
          GV:=fun i hi=>(z8 i hi).1.1.1.1,Ru:=fun i hi=>(z8 i hi).1.1.1.2,Rv:=fun i hi=>(z8 i hi).1.1.2,MY:=fun i hi=>(z8 i hi).1.2,Y5:=fun i hi x hx=>(z8 i hi).2 x hx}
theorem BR: ∀ (r:List Int) (k item:Int),(∀ x ∈ r,x≤item)→lvS r k item= -1
 | [],_,_,_=>rfl
 | x::r,k,item,h=>by
  simp only [lvS]
  rw [if_neg (by have:=h x (by simp); omega)]
  exact BR r (k+1) item fun y hy=>h y (by simp [hy])
variable {n:Int}
theorem NOk.out (N:NOk n) {item:Int} (h: ¬ (0≤item∧item<((hOf n).Level.length:Int))):levelS (newB n) item= -1:=by
 unfold levelS
 split
 ·rfl
 ·exact BR _ _ _ fun x hx=>by
   have h1:=N.top x (List.mem_of_mem_tail hx)
   have h2:=N.items
   omega
theorem NOk.kids (N:NOk n) (item:Int):kidsS (newB n) item=kidsR (hOf n) item:=by
 by_cases h:0≤item∧item<((hOf n).Level.length:Int)
 ·have:=N.GV item.toNat (by omega)
  rwa [show ((item.toNat:Nat):Int)=item by omega] at this
 ·unfold kidsS kidsR
  dsimp only
  rw [N.out h,if_pos (by omega),if_pos (.inl (by unfold hasS; rw [Bool.and_eq_false_iff]; simp; omega))]
theorem NOk.pos (N:NOk n):n≤((hOf n).Level.length:Int):=by
 have h1:=N.items
 have h2:pagesS (newB n) ∈ newB n:=by
  have hl:=N.wb.len
  unfold pagesS
  rw [List.getD_eq_getElem?_getD,List.getElem?_eq_getElem (by omega)]
  exact List.getElem_mem _
 have h3:=N.top _ h2
 have h4:=N.pages
 omega
end Go.Pt
namespace Go.Pt
open Go Go.Wc Go.Pu
def sr (r:aj):bM:=⟨r.Place,r.dF,r.cH⟩
end Go.Pt
namespace Go.Pt
open Go Go.Wc Go.Pu
theorem eR {n:Int} (h: -1000≤n∧n≤1000000000):IntKind.wrap .i64 n=n:=wrap64 (by omega) (by omega)
theorem oc {l:List Int} {i j:Int} (h:0≤i∧i≤j∧j≤(l.length:Int)):((sub l i j).length:Int)=j - i:=by
 unfold sub; rw [List.length_drop,List.length_take]; omega
theorem Lg {x:Int} (h:0≤x):Int.tmod x 4=x % 4:=Int.tmod_eq_emod_of_nonneg h
theorem Rw {x:Int} (h:0≤x):Int.tdiv x 4=x / 4:=Int.tdiv_eq_ediv_of_nonneg h
end Go.Pt
namespace Go.Pt
open Go Go.Wc Go.Pu
end Go.Pt
namespace Go.Pt
open Go Go.Wc Go.Pu
def kL:List Int:=[1116352408,1899447441,3049323471,3921009573,961987163,1508970993,2453635748,2870763221,3624381080,310598401,607225278,1426881987,1925078388,2162078206,2614888103,3248222580,3835390401,4022224774,264347078,604807628,770255983,1249150122,1555081692,1996064986,2554220882,2821834349,2952996808,3210313671,3336571891,3584528711,113926993,338241895,666307205,773529912,1294757372,1396182291,1695183700,1986661051,2177026350,2456956037,2730485921,2820302411,3259730800,3345764771,3516065817,3600352804,4094571909,275423344,430227734,506948616,659060556,883997877,958139571,1322822218,1537002063,1747873779,1955562222,2024104815,2227730452,2361852424,2428436474,2756734187,3204031479,3329325298]
def firstL:List Int:=[1779033703,3144134277,1013904242,2773480762,1359893119,2600822924,528734635,1541459225]
def sG (a b:Int):Int:=IntKind.wrap .u32 (((BitVec.ofInt (IntKind.bits .u32) a ^^^ (BitVec.ofInt (IntKind.bits .u32) b)).toNat:Int))
def MZ (a b:Int):Int:=IntKind.wrap .u32 (((BitVec.ofInt (IntKind.bits .u32) a &&& (BitVec.ofInt (IntKind.bits .u32) b)).toNat:Int))
def Rx (a:Int):Int:=IntKind.wrap .u32 ((4294967295:Int) - a)
def add (a b:Int):Int:=IntKind.wrap .u32 (a+b)
theorem qW {x k:Int} {n:Nat} {Q:Int→Prop} (hx:iO x) (hn:0<n∧n<32)
  (hk:IntKind.wrap .u64 (((BitVec.ofInt (IntKind.bits .u64) (IntKind.wrap .u64 k) &&& (BitVec.ofInt (IntKind.bits .u64) (31:Int))).toNat:Int))=((32 - n:Nat):Int)) (H:Q (rotR n x)):cC x k Q:=by
 unfold cC
 rw [hk,show IntKind.wrap .u64 ((32:Int) - ((32 - n:Nat):Int))=(n:Int) by rw [wrap_u64 (by omega) (by omega)]; omega]
 refine fE (by omega) (fE (by omega) ?_)
 have e1:min (Int.toNat ((32 - n:Nat):Int)) (IntKind.bits .u32)=32 - n:=by
  rw [Int.toNat_natCast]; exact Nat.min_eq_left (show 32 - n≤32 by omega)
 have e2:min (Int.toNat (n:Int)) (IntKind.bits .u32)=n:=by
  rw [Int.toNat_natCast]; exact Nat.min_eq_left (show n≤32 by omega)
 rw [e1,e2]
 have hP:=jO n
 have hS:=jO (32 - n)
 have hPS:=oR (n:=n) (by omega)
 have e3:IntKind.wrap .u32 (x*2 ^ (32 - n))=x % 2 ^ n*2 ^ (32 - n):=by
  rw [wrap_u32,← hPS,Int.mul_comm x,Int.mul_comm (2 ^ n),Int.mul_emod_mul_of_pos _ _ hS,Int.mul_comm]
 have e4:Int.fdiv x (2 ^ n)=x / 2 ^ n:=Int.fdiv_eq_ediv_of_nonneg _ (by omega)
 have hw:=uc (n:=n) (by omega) hx
 rw [e3,e4]
 have e5:=oS (P:=2 ^ (32 - n)) (S:=0) (a:=x % 2 ^ n) (r:=x / 2 ^ n) (n:=32 - n) rfl ⟨Int.ediv_nonneg hx.1 (by omega), ?_⟩ (Int.emod_nonneg _ (by omega)) ?_
 ·have e6:x % 2 ^ n*2 ^ (32 - n)+x / 2 ^ n=rotR n x:=by unfold rotR; exact Int.add_comm _ _
  rw [e6] at e5
  rw [show ((BitVec.ofInt (IntKind.bits .u32) (x % 2 ^ n*2 ^ (32 - n)) ||| BitVec.ofInt (IntKind.bits .u32) (x / 2 ^ n)).toNat:Int)=rotR n x from e5,bG hw]
  exact H
 ·refine Int.ediv_lt_of_lt_mul hP ?_
  rw [Int.mul_comm,hPS]; exact hx.2
 ·have:=hw.2
  unfold rotR at this; omega
theorem eC {x k:Int} {n:Nat} {Q:Int→Prop} (hx:iO x) (hk:k=(n:Int)) (hn:0<n∧n<32) (H:Q (rotR n x)):dN x k Q:=by
 subst hk
 unfold dN
 rw [Int.tmod_eq_emod_of_nonneg (by omega),eR (n:=0 - (n:Int) % 32) (by omega)]
 refine qW hx hn ?_ H
 have: ∀ m:Fin 32,0<m.val→IntKind.wrap .u64 (((BitVec.ofInt (IntKind.bits .u64) (IntKind.wrap .u64 (0 - (m.val:Int) % 32)) &&& (BitVec.ofInt (IntKind.bits .u64) (31:Int))).toNat:Int))=((32 - m.val:Nat):Int):=by decide+kernel
 exact this ⟨n,hn.2⟩ hn.1
theorem ux (a b:Int):iO (sG a b):=oQ _
theorem uy (a b:Int):iO (add a b):=oQ _
theorem not_eq {x:Int} (hx:iO x):IntKind.wrap .u32 ((BitVec.ofInt (IntKind.bits .u32) (if IntKind.signed .u32 then -1 else IntKind.max .u32) ^^^ BitVec.ofInt (IntKind.bits .u32) x).toNat:Int)=Rx x:=by
 obtain ⟨h0,h1⟩:=hx
 obtain ⟨n,rfl⟩:=Int.eq_ofNat_of_zero_le h0
 unfold Rx
 show IntKind.wrap .u32 ((BitVec.ofInt 32 4294967295 ^^^ BitVec.ofInt 32 (n:Int)).toNat:Int)=_
 rw [show BitVec.ofInt 32 4294967295=BitVec.allOnes 32 from by decide,BitVec.ofInt_natCast,BitVec.allOnes_xor,BitVec.toNat_not,BitVec.toNat_ofNat,Nat.mod_eq_of_lt (by omega)]
 congr 1
 omega
def iE (l:List Int):Prop:= ∀ x ∈ l,iO x
theorem dI {l:List Int} (h:iE l) (i:Nat):iO (l.getD i 0):=by
 rw [List.getD_eq_getElem?_getD]
 cases e:l[i]? with
 | none=>exact ⟨by decide,by decide⟩
 | some x=>exact h x (List.mem_of_getElem? e)
def bigW (a b c d:Int):Int:=a*16777216+b*65536+c*256+d
def schedS (x y a c:Int):Int:=add (add (add (sG (sG (rotR 17 y) (rotR 19 y)) (y / 1024)) a) (sG (sG (rotR 7 x) (rotR 18 x)) (x / 8))) c
def wNext (b l:List Int) (t:Nat):Int:=
 if t<16 then bigW (b.getD (4*t) 0) (b.getD (4*t+1) 0) (b.getD (4*t+2) 0) (b.getD (4*t+3) 0)
 else schedS (l.getD (t - 15) 0) (l.getD (t - 2) 0) (l.getD (t - 7) 0) (l.getD (t - 16) 0)
def wl (b:List Int):Nat→List Int
 | 0=>[]
 | t+1=>wl b t++[wNext b (wl b t) t]
theorem sH (b:List Int): ∀ t,(wl b t).length=t
 | 0=>rfl
 | t+1=>by simp [wl,sH b t]
theorem bS {b:List Int} (h:bytesL b) (i:Nat):0≤b.getD i 0∧b.getD i 0<256:=by
 rw [List.getD_eq_getElem?_getD]
 cases e:b[i]? with
 | none=>exact ⟨by decide,by decide⟩
 | some x=>exact h x (List.mem_of_getElem? e)
theorem IA {a b c d:Int} (ha:0≤a∧a<256) (hb:0≤b∧b<256) (hc:0≤c∧c<256) (hd:0≤d∧d<256):iO (bigW a b c d):=by unfold bigW iO; omega
theorem E5 {b l:List Int} (hb:bytesL b) (t:Nat):iO (wNext b l t):=by
 unfold wNext
 split
 ·exact IA (bS hb _) (bS hb _) (bS hb _) (bS hb _)
 ·exact uy _ _
theorem IB {b:List Int} (hb:bytesL b): ∀ t,iE (wl b t)
 | 0=>fun _ h=>by cases h
 | t+1=>fun x h=>by
  rcases List.mem_append.1 h with h | h
  ·exact IB hb t x h
  ·rw [List.mem_singleton.1 h]; exact E5 hb t
def Y6 (e:Int):Int:=sG (sG (rotR 6 e) (rotR 11 e)) (rotR 25 e)
def Y7 (a:Int):Int:=sG (sG (rotR 2 a) (rotR 13 a)) (rotR 22 a)
def chS (e f g:Int):Int:=sG (MZ e f) (MZ (Rx e) g)
def mjS (a b c:Int):Int:=sG (sG (MZ a b) (MZ a c)) (MZ b c)
def stepS:List Int→Int→Int→List Int
 | [a,b,c,d,e,f,g,h],k,w=>
  let p:=add (add (add (add h (Y6 e)) (chS e f g)) k) w
  [add p (add (Y7 a) (mjS a b c)),a,b,c,add d p,e,f,g]
 | l,_,_=>l
def roundsS (w h:List Int):Nat→List Int
 | 0=>h
 | t+1=>stepS (roundsS w h t) (kL.getD t 0) (w.getD t 0)
def addS (h x:List Int):List Int:=List.zipWith add h x
def compS (h b:List Int):List Int:=addS h (roundsS (wl b 64) h 64)
theorem yU {l:List Int} (h:l.length=8): ∃ a b c d e f g k,l=[a,b,c,d,e,f,g,k]:=by
 match l,h with
 | [a,b,c,d,e,f,g,k],_=>exact ⟨a,b,c,d,e,f,g,k,rfl⟩
theorem Ry (v:Vector Int 8): ∃ a b c d e f g k,v= #v[a,b,c,d,e,f,g,k]:=by
 obtain ⟨a,b,c,d,e,f,g,k,h⟩:=yU (l:=v.toList) (by rw [Vector.length_toList])
 exact ⟨a,b,c,d,e,f,g,k,by rw [← Vector.toList_inj,h]; rfl⟩
theorem Ap (l:List Int) (k w:Int) (h:l.length=8):(stepS l k w).length=8:=by
 obtain ⟨a,b,c,d,e,f,g,x,rfl⟩:=yU h
 rfl
theorem fY {w h:List Int} (hh:h.length=8): ∀ t,(roundsS w h t).length=8
 | 0=>hh
 | t+1=>Ap _ _ _ (fY hh t)
theorem E6 {l:List Int} {k w:Int} (hl:l.length=8) (h:iE l):iE (stepS l k w):=by
 obtain ⟨a,b,c,d,e,f,g,x,rfl⟩:=yU hl
 intro y hy
 simp only [stepS,List.mem_cons,List.not_mem_nil,or_false] at hy
 rcases hy with rfl | rfl | rfl | rfl | rfl | rfl | rfl | rfl
 ·exact uy _ _
 ·exact h _ (by simp)
 ·exact h _ (by simp)
 ·exact h _ (by simp)
 ·exact uy _ _
 ·exact h _ (by simp)
 ·exact h _ (by simp)
 ·exact h _ (by simp)
theorem pg {w h:List Int} (hh:h.length=8) (hw:iE h): ∀ t,iE (roundsS w h t)
 | 0=>hw
 | t+1=>E6 (fY hh t) (pg hh hw t)
theorem lX {h b:List Int} (hh:h.length=8):(compS h b).length=8:=by
 unfold compS addS
 rw [List.length_zipWith,fY hh,hh]; rfl
theorem xp {h b:List Int}:iE (compS h b):=by
 intro x hx
 unfold compS addS at hx
 obtain ⟨i,hi,rfl⟩:=List.getElem_of_mem hx
 rw [List.getElem_zipWith]
 exact uy _ _
end Go.Pt
namespace Go.Pt
open Go Go.Wc Go.Pu
theorem ixr {X:Type} {l:List X} {i:Int} {x:X} {K:X→Prop} (h0:0≤i) (h:l[i.toNat]? =some x) (H:K x):ixP l i K:=by
 obtain ⟨n,rfl⟩:=Int.eq_ofNat_of_zero_le h0
 exact sA h H
theorem ixd {l:List Int} {i:Int} {n:Nat} {K:Int→Prop} (hi:i=(n:Int)) (h:n<l.length) (H:K (l.getD n 0)):ixP l i K:=by
 refine iD n hi h ?_
 rw [List.getD_eq_getElem?_getD,List.getElem?_eq_getElem h] at H
 exact H
theorem ixdv {m:Nat} {v:Vector Int m} {l:List Int} {i:Int} {n:Nat} {K:Int→Prop} (e:v.toList=l) (hi:i=(n:Int)) (h:n<m) (H:K (l.getD n 0)):ixP v.toList i K:=by
 subst e
 exact ixd hi (by rw [Vector.length_toList]; exact h) H
theorem jstep {w x:Int} (hw:0≤w) (hx:0≤x∧x<256) (h:w*256+x<4294967296):
  IntKind.wrap .u32 (((BitVec.ofInt (IntKind.bits .u32) (IntKind.wrap .u32 (w*2 ^ (min (Int.toNat (8:Int)) (IntKind.bits .u32)))) ||| (BitVec.ofInt (IntKind.bits .u32) (IntKind.wrap .u32 x))).toNat:Int))=w*256+x:=by
 have e1:w*2 ^ (min (Int.toNat (8:Int)) (IntKind.bits .u32))=w*256:=rfl
 rw [e1,bG (n:=w*256) ⟨by omega,by omega⟩,bG (n:=x) ⟨by omega,by omega⟩]
 have:=oS (P:=256) (S:=0) (a:=w) (r:=x) (n:=8) rfl hx hw h
 rw [show ((BitVec.ofInt (IntKind.bits .u32) (w*256) ||| BitVec.ofInt (IntKind.bits .u32) x).toNat:Int)=w*256+x from this]
 exact bG ⟨by omega,h⟩
theorem xq {a b c d:Int} {Q:bU.QT} (ha:0≤a∧a<256) (hb:0≤b∧b<256) (hc:0≤c∧c<256) (hd:0≤d∧d<256) (H:Q (bigW a b c d)):bU [a,b,c,d] Q:=by
 unfold bU
 refine bU.bD ?_
 unfold bU.B1; dsimp only
 rw [show decide ((0:Int)<(([a,b,c,d].length:Nat):Int))=true from rfl,av]
 refine ixr (by decide) rfl ?_
 rw [jstep (by decide) ha (by omega)]
 refine bU.bD ?_
 unfold bU.B1; dsimp only
 rw [show decide (IntKind.wrap .i64 ((0:Int)+1)<(([a,b,c,d].length:Nat):Int))=true from rfl,av]
 refine ixr (by decide) rfl ?_
 rw [jstep (by omega) hb (by omega)]
 refine bU.bD ?_
 unfold bU.B1; dsimp only
 rw [show decide (IntKind.wrap .i64 (IntKind.wrap .i64 ((0:Int)+1)+1)<(([a,b,c,d].length:Nat):Int))=true from rfl,av]
 refine ixr (by decide) rfl ?_
 rw [jstep (by omega) hc (by omega)]
 refine bU.bD ?_
 unfold bU.B1; dsimp only
 rw [show decide (IntKind.wrap .i64 (IntKind.wrap .i64 (IntKind.wrap .i64 ((0:Int)+1)+1)+1)<(([a,b,c,d].length:Nat):Int))=true from rfl,av]
 refine ixr (by decide) rfl ?_
 rw [jstep (by omega) hd (by omega)]
 refine bU.bD ?_
 unfold bU.B1; dsimp only
 rw [show decide (IntKind.wrap .i64 (IntKind.wrap .i64 (IntKind.wrap .i64 (IntKind.wrap .i64 ((0:Int)+1)+1)+1)+1)<(([a,b,c,d].length:Nat):Int))=false from rfl,ai]
 rw [show (((0*256+a)*256+b)*256+c)*256+d=bigW a b c d by unfold bigW; omega]
 exact H
theorem IC {l:List Int} {n:Nat} {i j:Int} (hi:i=(n:Int)) (hj:j=(n:Int)+4) (h:n+4≤l.length):sub l i j=[l.getD n 0,l.getD (n+1) 0,l.getD (n+2) 0,l.getD (n+3) 0]:=by
 subst hi hj
 unfold sub
 rw [show ((n:Int)+4).toNat=n+4 by omega,Int.toNat_natCast]
 apply List.ext_getElem
 ·rw [List.length_drop,List.length_take]; simp; omega
 ·intro k h1 h2
  rw [List.getElem_drop,List.getElem_take]
  have hk:k<4:=h2
  match k,hk with
  | 0,_=>simp [List.getD_eq_getElem?_getD,List.getElem?_eq_getElem (show n<l.length by omega)]
  | 1,_=>simp [List.getD_eq_getElem?_getD,List.getElem?_eq_getElem (show n+1<l.length by omega)]
  | 2,_=>simp [List.getD_eq_getElem?_getD,List.getElem?_eq_getElem (show n+2<l.length by omega)]
  | 3,_=>simp [List.getD_eq_getElem?_getD,List.getElem?_eq_getElem (show n+3<l.length by omega)]
theorem fe {n:Nat} {v:Vector Int n} {l r:List Int} {x y:Int} {i:Int} (e:v.toList=l++y::r) (hi:i=(l.length:Int)):(v.setIfInBounds (Int.toNat i) x).toList=(l++[x])++r:=by
 subst hi
 rw [Vector.toList_setIfInBounds,e,Int.toNat_natCast,List.set_append_right _ _ (Nat.le_refl _),Nat.sub_self]
 simp
theorem fd {x:Int} (n:Nat) (hx:0≤x):Int.fdiv x (2 ^ n)=x / 2 ^ n:=Int.fdiv_eq_ediv_of_nonneg _ (by have:=jO n; omega)
theorem jS {l r:List Int} {i:Nat} (h:i<l.length):(l++r).getD i 0=l.getD i 0:=by
 rw [List.getD_eq_getElem?_getD,List.getD_eq_getElem?_getD,List.getElem?_append_left h]
theorem uz {b:List Int} {Q:bE.QT} (hl:b.length=64) (hb:bytesL b) (H: ∀ v:Vector Int 64,v.toList=wl b 64→Q v):bE b Q:=by
 have key: ∀ (j t:Nat) (m:bE.V),t+j=64→m.b0=b→m.v9=(t:Int)→m.w3.toList=wl b t++List.replicate j 0→bE.L1 Q m:=by
  intro j
  induction j with
  | zero=>
   intro t m ht e1 e2 e3
   refine bE.bD ?_
   unfold bE.B1
   rw [decide_eq_false (by omega),ai]
   refine H _ ?_
   rw [e3,show t=64 by omega]; simp
  | succ j ih=>
   intro t m ht e1 e2 e3
   have hlen:=sH b t
   have hww:=IB hb t
   refine bE.bD ?_
   unfold bE.B1
   rw [decide_eq_true (by omega),av]
   have k2: ∀ m':bE.V,m'.b0=b→m'.v9=(t:Int)→m'.w3.toList=wl b (t+1)++List.replicate j 0→bE.K2 (bE.L1 Q) Q m':=by
    intro m' h1 h2 h3
    unfold bE.K2
    exact ih (t+1) _ (by omega) h1 (by dsimp only; rw [h2,cu (by omega)]) h3
   have hset: ∀ x,x=wNext b (wl b t) t→(m.w3.setIfInBounds (Int.toNat m.v9) x).toList=wl b (t+1)++List.replicate j 0:=by
    intro x hx
    rw [fe (i:=m.v9) (l:=wl b t) (y:=0) (r:=List.replicate j 0) (by rw [e3]; rfl) (by rw [e2,hlen]),hx]; rfl
   by_cases z9:t<16
   ·rw [decide_eq_true (by omega),av,e1,eR (n:=4*m.v9) (by omega),eR (n:=4*m.v9+4) (by omega)]
    refine ⟨⟨by omega,by omega,by omega⟩, ?_⟩
    rw [IC (n:=4*t) (by omega) (by omega) (by omega)]
    refine xq (bS hb _) (bS hb _) (bS hb _) (bS hb _) ?_
    refine ixdv e3 e2 (by omega) ?_
    refine k2 _ ?_ e2 (hset _ (by unfold wNext; rw [if_pos z9]))
    first | exact e1 | rfl
   ·rw [decide_eq_false (by omega),ai,eR (n:=m.v9 - 15) (by omega),eR (n:=m.v9 - 2) (by omega),eR (n:=m.v9 - 7) (by omega),eR (n:=m.v9 - 16) (by omega)]
    refine ixdv (n:=t - 15) e3 (by omega) (by omega) ?_
    refine ixdv (n:=t - 2) e3 (by omega) (by omega) ?_
    rw [jS (by omega),jS (by omega)]
    refine eC (n:=7) (dI hww _) rfl (by decide) ?_
    refine eC (n:=18) (dI hww _) rfl (by decide) ?_
    refine eC (n:=17) (dI hww _) rfl (by decide) ?_
    refine eC (n:=19) (dI hww _) rfl (by decide) ?_
    refine ixdv (n:=t - 7) e3 (by omega) (by omega) ?_
    refine ixdv (n:=t - 16) e3 (by omega) (by omega) ?_
    rw [jS (by omega),jS (by omega)]
    refine ixdv e3 e2 (by omega) ?_
    refine k2 _ e1 e2 (hset _ ?_)
    unfold wNext
    rw [if_neg z9]
    rw [show min (Int.toNat (10:Int)) (IntKind.bits .u32)=10 from rfl,show min (Int.toNat (3:Int)) (IntKind.bits .u32)=3 from rfl,fd 10 (dI hww _).1,fd 3 (dI hww _).1]
    rfl
 refine key 64 0 _ (by omega) rfl rfl ?_
 dsimp only; exact Vector.toList_replicate ..
end Go.Pt
namespace Go.Pt
open Go Go.Wc Go.Pu
theorem ID (a b c d e f g k:Int):cpV #v[a,b,c,d,e,f,g,k] (Int.toNat (1:Int)) (sub (#v[a,b,c,d,e,f,g,k]).toList (0:Int) (7:Int))= #v[a,a,b,c,d,e,f,g]:=rfl
theorem M3 {a b c d e f g k p q:Int} {S:Vector Int 8→Prop} (H:S #v[IntKind.wrap .u32 (p+q),a,b,c,IntKind.wrap .u32 (d+p),e,f,g]):
  (SlOk (#v[a,b,c,d,e,f,g,k]).toList (1:Int) ((8:Nat):Int))∧(SlOk (#v[a,b,c,d,e,f,g,k]).toList (0:Int) (7:Int))∧
  ixP (#v[a,a,b,c,d,e,f,g]).toList (0:Int) fun LU=>
  ixP ((#v[a,a,b,c,d,e,f,g]).setIfInBounds (Int.toNat (0:Int)) (IntKind.wrap .u32 (p+q))).toList (4:Int) fun qT=>
  ixP ((#v[a,a,b,c,d,e,f,g]).setIfInBounds (Int.toNat (0:Int)) (IntKind.wrap .u32 (p+q))).toList (4:Int) fun yM=>
  S (((#v[a,a,b,c,d,e,f,g]).setIfInBounds (Int.toNat (0:Int)) (IntKind.wrap .u32 (p+q))).setIfInBounds (Int.toNat (4:Int)) (IntKind.wrap .u32 (qT+p))):=by
 refine ⟨⟨by decide,by decide,by rw [Vector.length_toList]; decide⟩,⟨by decide,by decide,by rw [Vector.length_toList]; decide⟩, ?_⟩
 refine ixr (by decide) rfl (ixr (by decide) rfl (ixr (by decide) rfl ?_))
 exact H
theorem IE:kL.length=64:=rfl
theorem uA {h:Vector Int 8} {b:List Int} {Q:bF.QT} (hb:b.length=64) (hbb:bytesL b) (hw:iE h.toList) (H: ∀ r:Vector Int 8,r.toList=compS h.toList b→Q r):bF h b Q:=by
 have l2: ∀ (j t:Nat) (m:bF.V),t+j=8→m.w4=(t:Int)→m.x7.toList=roundsS (wl b 64) h.toList 64→m.h2.toList=(compS h.toList b).take t++h.toList.drop t→bF.L2 Q m:=by
  have QE:=fY (w:=wl b 64) (h:=h.toList) (Vector.length_toList ..) 64
  have Y8:=lX (h:=h.toList) (b:=b) (Vector.length_toList ..)
  have hh8:h.toList.length=8:=Vector.length_toList ..
  intro j
  induction j with
  | zero=>
   intro t m ht e1 e2 e3
   refine bF.bW ?_
   unfold bF.B2
   rw [decide_eq_false (by omega),ai]
   refine H _ ?_
   rw [e3,List.take_of_length_le (by omega),List.drop_of_length_le (by omega),List.append_nil]
  | succ j ih=>
   intro t m ht e1 e2 e3
   have hd:h.toList.drop t=h.toList.getD t 0::h.toList.drop (t+1):=by
    rw [List.drop_eq_getElem_cons (by omega),List.getD_eq_getElem?_getD,List.getElem?_eq_getElem (by omega)]; rfl
   have htk:((compS h.toList b).take t).length=t:=by rw [List.length_take]; omega
   have hg:((compS h.toList b).take t++h.toList.drop t).getD t 0=h.toList.getD t 0:=by
    rw [List.getD_eq_getElem?_getD,List.getElem?_append_right (by omega),htk,Nat.sub_self,hd]; rfl
   refine bF.bW ?_
   unfold bF.B2
   rw [decide_eq_true (by omega),av]
   refine ixdv e3 e1 (by omega) ?_
   refine ixdv e2 e1 (by omega) ?_
   refine ixdv e3 e1 (by omega) ?_
   rw [hg]
   refine ih (t+1) _ (by omega) (by dsimp only; rw [e1,cu (by omega)]) e2 ?_
   dsimp only
   rw [fe (i:=m.w4) (l:=(compS h.toList b).take t) (y:=h.toList.getD t 0) (r:=h.toList.drop (t+1)) (by rw [e3,hd]) (by rw [e1,htk])]
   congr 1
   rw [eB (by omega)]
   congr 1
   unfold compS addS
   rw [List.getElem_zipWith,List.getD_eq_getElem?_getD,List.getElem?_eq_getElem (by omega),List.getD_eq_getElem?_getD,List.getElem?_eq_getElem (by omega)]
   rfl
 have l1: ∀ (j t:Nat) (m:bF.V),t+j=64→m.iQ=(t:Int)→m.h2=h→m.w5.toList=wl b 64→m.k6.toList=kL→m.x7.toList=roundsS (wl b 64) h.toList t→bF.L1 Q m:=by
  intro j
  induction j with
  | zero=>
   intro t m ht e1 e2 e3 e4 e5
   obtain rfl:t=64:=by omega
   refine bF.bD ?_
   unfold bF.B1
   rw [decide_eq_false (by omega),ai]
   refine l2 8 0 {m with w4:=(0:Int)} (by omega) rfl e5 ?_
   rw [List.take_zero,List.drop_zero,List.nil_append]
   exact congrArg _ e2
  | succ j ih=>
   rintro t ⟨h2,v4,w5,k6,x7,iQ,w4⟩ ht e1 e2 e3 e4 e5
   dsimp only at e1 e2 e3 e4 e5
   obtain ⟨a,b',c,d,e,f,g,k,rfl⟩:=Ry x7
   have hW:iE [a,b',c,d,e,f,g,k]:=by
    have:=pg (w:=wl b 64) (h:=h.toList) (Vector.length_toList ..) hw t
    rw [← e5] at this
    exact this
   have we:iO e:=hW _ (by simp)
   have wa:iO a:=hW _ (by simp)
   refine bF.bD ?_
   unfold bF.B1; dsimp only
   rw [e1,decide_eq_true (show (t:Int)<64 by omega),av]
   refine ixr (by decide) rfl (ixr (by decide) rfl (ixr (by decide) rfl (ixr (by decide) rfl (ixr (by decide) rfl ?_))))
   refine ixdv e4 rfl (by omega) (ixdv e3 rfl (by omega) ?_)
   refine eC (n:=6) we rfl (by decide) (eC (n:=11) we rfl (by decide) (eC (n:=25) we rfl (by decide) ?_))
   refine ixr (by decide) rfl (ixr (by decide) rfl (ixr (by decide) rfl (ixr (by decide) rfl ?_)))
   refine eC (n:=2) wa rfl (by decide) (eC (n:=13) wa rfl (by decide) (eC (n:=22) wa rfl (by decide) ?_))
   rw [not_eq we,ID]
   rw [cu (by omega)]
   refine M3 (S:=fun v=>bF.L1 Q ⟨h2,v4,w5,k6,v,((t+1:Nat):Int),w4⟩) ?_
   refine ih (t+1) _ (by omega) rfl e2 e3 e4 ?_
   show _=stepS (roundsS (wl b 64) h.toList t) (kL.getD t 0) ((wl b 64).getD t 0)
   rw [← e5]
   rfl
 unfold bF
 refine uz hb hbb fun w Y9=> ?_
 exact l1 64 0 _ (by omega) rfl rfl Y9 rfl rfl
end Go.Pt
namespace Go.Pt
open Go Go.Wc Go.Pu
def goB:Nat→List Int→List Int→List Int × List Int
 | 0,h,l=>(h,l)
 | f+1,h,l=>if 64≤l.length then goB f (compS h (l.take 64)) (l.drop 64) else (h,l)
theorem k7 {f:Nat} {h l:List Int} (hl:l.length<64):goB f h l=(h,l):=by
 cases f with
 | zero=>rfl
 | succ f=>simp only [goB]; rw [if_neg (by omega)]
theorem xu: ∀ (f:Nat) (h l:List Int),l.length<64*(f+1)→goB (f+1) h l=goB f h l
 | 0,h,l,hl=>by rw [k7 (by omega)]; rfl
 | f+1,h,l,hl=>by
  by_cases h1:64≤l.length
  ·have e1:goB (f+1+1) h l=goB (f+1) (compS h (l.take 64)) (l.drop 64):=by simp only [goB]; rw [if_pos h1]
   have e2:goB (f+1) h l=goB f (compS h (l.take 64)) (l.drop 64):=by simp only [goB]; rw [if_pos h1]
   rw [e1,e2]
   exact xu f _ _ (by rw [List.length_drop]; omega)
  ·rw [k7 (by omega),k7 (by omega)]
theorem uB: ∀ (f:Nat) (h l:List Int),(goB f h l).2.length≤l.length
 | 0,h,l=>Nat.le_refl _
 | f+1,h,l=>by
  simp only [goB]
  split
  ·have:=uB f (compS h (l.take 64)) (l.drop 64)
   rw [List.length_drop] at this; omega
  ·exact Nat.le_refl _
theorem yV: ∀ (f:Nat) (h l m:List Int),(l++m).length<64*(f+1)→goB f h (l++m)=goB f (goB f h l).1 ((goB f h l).2++m)
 | 0,h,l,m,_=>rfl
 | f+1,h,l,m,hl=>by
  by_cases h1:64≤l.length
  ·have e1:goB (f+1) h (l++m)=goB f (compS h (l.take 64)) (l.drop 64++m):=by
    simp only [goB]
    rw [if_pos (by rw [List.length_append]; omega),List.take_append_of_le_length h1,List.drop_append_of_le_length h1]
   have e2:goB (f+1) h l=goB f (compS h (l.take 64)) (l.drop 64):=by simp only [goB]; rw [if_pos h1]
   rw [e1,e2]
   rw [List.length_append] at hl
   rw [yV f _ _ _ (by rw [List.length_append,List.length_drop]; omega)]
   have:=uB f (compS h (l.take 64)) (l.drop 64)
   rw [List.length_drop] at this
   rw [xu f _ _ (by rw [List.length_append]; omega)]
  ·rw [k7 (l:=l) (by omega)]
theorem yW: ∀ (f:Nat) (h l:List Int),l.length<64*(f+1)→(goB f h l).2.length=l.length % 64
 | 0,h,l,hl=>by show l.length=_; omega
 | f+1,h,l,hl=>by
  simp only [goB]
  split
  ·rw [yW f _ _ (by rw [List.length_drop]; omega),List.length_drop]; omega
  ·show l.length=_; omega
theorem yX: ∀ (f:Nat) (h l:List Int),∀ x ∈ (goB f h l).2,x ∈ l
 | 0,h,l=>fun x hx=>hx
 | f+1,h,l=>by
  intro x hx
  simp only [goB] at hx
  split at hx
  ·exact List.mem_of_mem_drop (yX f _ _ x hx)
  ·exact hx
theorem yY: ∀ (f:Nat) (h l:List Int),h.length=8→(goB f h l).1.length=8
 | 0,h,l,hh=>hh
 | f+1,h,l,hh=>by
  simp only [goB]
  split
  ·exact yY f _ _ (lX hh)
  ·exact hh
theorem BS: ∀ (f:Nat) (h l:List Int),iE h→iE (goB f h l).1
 | 0,h,l,hh=>hh
 | f+1,h,l,hh=>by
  simp only [goB]
  split
  ·exact BS f _ _ xp
  ·exact hh
theorem kn {a b:List Int} (ha:bytesL a) (hb:bytesL b):bytesL (a++b):=fun x hx=>by
 rcases List.mem_append.1 hx with h | h
 ·exact ha x h
 ·exact hb x h
def startH (s:bJ):List Int:=if s.n<64∧(s.rest.length:Int)=s.n then firstL else s.h.toList
theorem lY:iE firstL:=by
 intro x hx
 have:(firstL.all fun x=>decide (0≤x) && decide (x<4294967296))=true:=by decide+kernel
 have:=List.all_eq_true.1 this x hx
 simpa [iO] using this
theorem nJ {s:bJ} {b:List Int} {Q:aL.QT} (F:Nat) (hn:0≤s.n) (hr:bytesL s.rest) (hb:bytesL b) (hl:s.rest.length+b.length<64*(F+1)) (hF:F≤10000000) (hw:iE s.h.toList)
  (H: ∀ r:bJ,r.h.toList=(goB F (startH s) (s.rest++b)).1→r.rest=(goB F (startH s) (s.rest++b)).2→r.n=IntKind.wrap .u64 (s.n+IntKind.wrap .u64 (b.length:Int))→Q r):aL s b Q:=by
 have l2: ∀ (f:Nat) (m:aL.V),m.iq.length<64*(f+1)→bytesL m.iq→iE m.s2.h.toList→goB F (startH s) (s.rest++b)=goB f m.s2.h.toList m.iq→m.s2.n=IntKind.wrap .u64 (s.n+IntKind.wrap .u64 (b.length:Int))→aL.L2 Q m:=by
  intro f
  induction f with
  | zero=>
   intro m h1 h2 h3 h4 h5
   refine aL.bW ?_
   unfold aL.B2
   rw [decide_eq_false (by omega),ai]
   exact H _ (by rw [h4]; rfl) (by rw [h4]; rfl) h5
  | succ f ih=>
   intro m h1 h2 h3 h4 h5
   refine aL.bW ?_
   unfold aL.B2
   by_cases h:(m.iq.length:Int)≥64
   ·rw [decide_eq_true h,av]
    refine ⟨⟨by omega,by omega,by omega⟩, ?_⟩
    have e1:sub m.iq 0 64=m.iq.take 64:=Bv
    have e2:sub m.iq 64 (m.iq.length:Int)=m.iq.drop 64:=Bw
    rw [e1,e2]
    refine uA (by rw [List.length_take]; omega) (fun x hx=>h2 x (List.mem_of_mem_take hx)) h3 fun r Xo=> ?_
    refine ⟨⟨by omega,by omega,by omega⟩,ih _ ?_ ?_ ?_ ?_ h5⟩
    ·dsimp only; rw [List.length_drop]; omega
    ·exact fun x hx=>h2 x (List.mem_of_mem_drop hx)
    ·dsimp only; rw [Xo]; exact xp
    ·rw [h4]
     simp only [goB]
     rw [if_pos (by omega),Xo]
   ·rw [decide_eq_false h,ai]
    rw [k7 (l:=m.iq) (by omega)] at h4
    exact H _ (by rw [h4]) (by rw [h4]) h5
 have k3: ∀ m:aL.V,m.s2.h.toList=startH s→m.s2.rest=s.rest→m.s2.n=s.n→m.b1=b→iE m.s2.h.toList→aL.K3 Q m:=by
  intro m e0 e1 e3 e2 e4
  unfold aL.K3
  rw [e1,e2,e3]
  refine ⟨bO (by simp only [List.length_nil]; omega),bO (by simp only [List.length_append,List.length_nil]; omega),l2 F _ ?_ ?_ ?_ ?_ rfl⟩
  ·dsimp only; simp only [List.length_append,List.length_nil]; omega
  ·exact kn (kn (fun _ h=>by cases h) hr) hb
  ·exact e4
  ·dsimp only; rw [e0,List.nil_append]
 unfold aL
 by_cases h1:s.n<64
 ·rw [decide_eq_true h1,av]
  unfold aL.K1; dsimp only
  rw [eR (n:=s.n) (by omega)]
  by_cases h2:(s.rest.length:Int)=s.n
  ·rw [show ((s.rest.length:Int)==s.n)=true by rw [beq_iff_eq]; exact h2,av]
   refine k3 _ ?_ rfl rfl rfl ?_
   ·unfold startH; rw [if_pos ⟨h1,h2⟩]; rfl
   ·exact lY
  ·rw [show ((s.rest.length:Int)==s.n)=false by rw [beq_eq_false_iff_ne]; exact h2,ai]
   refine k3 _ ?_ rfl rfl rfl hw
   unfold startH; rw [if_neg (fun hh=>h2 hh.2)]
 ·rw [decide_eq_false h1,ai]
  unfold aL.K1; dsimp only
  rw [ai]
  refine k3 _ ?_ rfl rfl rfl hw
  unfold startH; rw [if_neg (fun hh=>h1 hh.1)]
def beS (m:Int) (k:Nat):List Int:=(List.range k).map fun j=>IntKind.wrap .u8 (m / 2 ^ (56 - 8*j))
def zS (n:Nat):Nat:=(64 - (n+9) % 64) % 64
def padS (n:Nat):List Int:=(128::List.replicate (zS n) 0)++beS (8*(n:Int)) 8
def digL (h:List Int) (k:Nat):List Int:=(List.range k).map fun i=>IntKind.wrap .u8 (h.getD (i / 4) 0 / 2 ^ (24 - 8*(i % 4)))
def sumL (b:List Int):List Int:=digL (goB (b.length+80) firstL (b++padS b.length)).1 32
theorem sI (x:Int):0≤IntKind.wrap .u8 x∧IntKind.wrap .u8 x<256:=by rw [wrap_u8]; omega
theorem BT (m:Int) (k:Nat):bytesL (beS m k):=by
 intro x hx
 obtain ⟨i,_,rfl⟩:=List.mem_map.1 hx
 exact sI _
theorem qX (n:Nat):bytesL (padS n):=by
 refine kn ?_ (BT _ _)
 intro x hx
 rcases List.mem_cons.1 hx with rfl | hx
 ·omega
 ·rw [List.eq_of_mem_replicate hx]; omega
theorem od (n:Nat):(padS n).length=zS n+9:=by unfold padS beS; simp only [List.length_append,List.length_cons,List.length_replicate,List.length_map,List.length_range]
theorem E7 (n:Nat):(n+(padS n).length) % 64=0:=by rw [od]; unfold zS; omega
theorem yZ (m:Int) (k:Nat):beS m k++[IntKind.wrap .u8 (m / 2 ^ (56 - 8*k))]=beS m (k+1):=by unfold beS; rw [List.range_succ,List.map_append]; rfl
theorem uC (h:List Int) (k:Nat):digL h k++[IntKind.wrap .u8 (h.getD (k / 4) 0 / 2 ^ (24 - 8*(k % 4)))]=digL h (k+1):=by unfold digL; rw [List.range_succ,List.map_append]; rfl
theorem sJ (h:List Int) (k:Nat):(digL h k).length=k:=by unfold digL; simp
theorem xw {s:bJ} {Q:aR.QT} {n:Nat} (hn:s.n=(n:Int)) (E8:n≤100000000) (hr:s.rest.length=n % 64) (hrb:bytesL s.rest) (hw:iE s.h.toList) (H: ∀ r:Vector Int 32,r.toList=digL (goB 2 (startH s) (s.rest++padS n)).1 32→Q r):aR s Q:=by
 have l3: ∀ (j t:Nat) (m:aR.V),t+j=32→m.qw=(t:Int)→m.nH.h.toList=(goB 2 (startH s) (s.rest++padS n)).1→iE m.nH.h.toList→m.d6.toList=digL m.nH.h.toList t++List.replicate j 0→aR.L3 Q m:=by
  intro j
  induction j with
  | zero=>
   intro t m ht e1 e2 e4 e3
   obtain rfl:t=32:=by omega
   refine aR.fF ?_
   unfold aR.B3
   rw [decide_eq_false (by omega),ai]
   refine H _ ?_
   rw [e3,e2,List.replicate_zero,List.append_nil]
  | succ j ih=>
   intro t m ht e1 e2 e4 e3
   refine aR.fF ?_
   unfold aR.B3
   rw [e1,decide_eq_true (by omega),av]
   rw [Rw (by omega),Lg (by omega),eR (n:=(t:Int) / 4) (by omega),eR (n:=8*((t:Int) % 4)) (by omega),eR (n:=24 - 8*((t:Int) % 4)) (by omega),cu (by omega)]
   refine ixdv (n:=t / 4) rfl (by omega) (by omega) ?_
   refine fE (by omega) (ixdv (n:=t) rfl rfl (by omega) ?_)
   refine ih (t+1) _ (by omega) rfl e2 e4 ?_
   dsimp only
   rw [fe (i:=(t:Int)) (l:=digL m.nH.h.toList t) (y:=0) (r:=List.replicate j 0) (by rw [e3]; rfl) (by rw [sJ])]
   congr 1
   rw [← uC]
   congr 1
   rw [show min (Int.toNat (24 - 8*((t:Int) % 4))) (IntKind.bits .u32)=24 - 8*(t % 4) by
    rw [show (24 - 8*((t:Int) % 4)).toNat=24 - 8*(t % 4) by omega]; exact Nat.min_eq_left (show _≤32 by omega),fd _ (dI e4 _).1]
 have l2: ∀ (j t:Nat) (m:aR.V),t+j=8→m.s1=s→m.qv=(t:Int)→m.kZ=(128::List.replicate (zS n) 0)++beS (8*(n:Int)) t→aR.L2 Q m:=by
  have hz:zS n<64:=by unfold zS; omega
  intro j
  induction j with
  | zero=>
   intro t m ht e1 e2 e3
   obtain rfl:t=8:=by omega
   refine aR.bW ?_
   unfold aR.B2
   rw [decide_eq_false (by omega),ai,e1,e3]
   refine nJ 2 (by omega) hrb (qX n) (by show _+(padS n).length<_; rw [od]; omega) (by decide) hw fun r h1 h2 h3=> ?_
   refine l3 32 0 _ (by omega) rfl h1 ?_ ?_
   ·dsimp only; rw [h1]
    refine BS _ _ _ ?_
    unfold startH
    split
    ·exact lY
    ·exact hw
   ·dsimp only; exact Vector.toList_replicate ..
  | succ j ih=>
   intro t m ht e1 e2 e3
   refine aR.bW ?_
   unfold aR.B2
   rw [e2,decide_eq_true (by omega),av]
   rw [eR (n:=7 - (t:Int)) (by omega),eR (n:=8*(7 - (t:Int))) (by omega),cu (by omega),e1,hn,wrap_u64 (n:=8*(n:Int)) (by omega) (by omega)]
   have hbl:(beS (8*(n:Int)) t).length=t:=by unfold beS; simp
   refine fE (by omega) ⟨bO (by rw [e3]; simp only [List.length_append,List.length_cons,List.length_replicate,List.length_nil,hbl]; omega),ih (t+1) _ (by omega) (by first | exact e1 | rfl) rfl ?_⟩
   dsimp only
   rw [e3,List.append_assoc,← yZ]
   congr 3
   rw [show min (Int.toNat (8*(7 - (t:Int)))) (IntKind.bits .u64)=56 - 8*t by
    rw [show (8*(7 - (t:Int))).toNat=56 - 8*t by omega]; exact Nat.min_eq_left (show _≤64 by omega),fd _ (by omega)]
 have l1: ∀ (j i:Nat) (m:aR.V),i+j=zS n→m.s1=s→m.kZ=128::List.replicate i 0→aR.L1 Q m:=by
  have hz:zS n<64:=by unfold zS; omega
  intro j
  induction j with
  | zero=>
   intro i m hi e e3
   obtain rfl:i=zS n:=by omega
   refine aR.bD ?_
   unfold aR.B1
   rw [e3,e,List.length_cons,List.length_replicate,hr,eR (n:=((n % 64:Nat):Int)+((zS n+1:Nat):Int)) (by omega),eR (n:=((n % 64:Nat):Int)+((zS n+1:Nat):Int)+8) (by omega),Int.tmod_eq_emod_of_nonneg (by omega)]
   rw [show ((((n % 64:Nat):Int)+((zS n+1:Nat):Int)+8) % 64 !=0)=false by unfold zS; simp; omega,ai]
   exact l2 8 0 _ (by omega) (by first | exact e | rfl) rfl (by dsimp only; rw [show beS (8*(n:Int)) 0=[] from rfl,List.append_nil])
  | succ j ih=>
   intro i m hi e e3
   refine aR.bD ?_
   unfold aR.B1
   rw [e3,e,List.length_cons,List.length_replicate,hr,eR (n:=((n % 64:Nat):Int)+((i+1:Nat):Int)) (by omega),eR (n:=((n % 64:Nat):Int)+((i+1:Nat):Int)+8) (by omega),Int.tmod_eq_emod_of_nonneg (by omega)]
   rw [show ((((n % 64:Nat):Int)+((i+1:Nat):Int)+8) % 64 !=0)=true by unfold zS at hi; simp; omega,av]
   refine ⟨bO (by simp only [List.length_cons,List.length_nil]; omega),ih (i+1) _ (by omega) (by first | exact e | rfl) ?_⟩
   dsimp only
   rw [List.replicate_succ',List.cons_append]
 unfold aR
 exact l1 (zS n) 0 _ (by omega) rfl rfl
theorem qY {b:List Int} {Q:bR.QT} (hl:b.length≤1000000) (hb:bytesL b) (H: ∀ r:Vector Int 32,r.toList=sumL b→Q r):bR [b] Q:=by
 unfold bR sE
 refine bR.bD ?_
 unfold bR.B1; dsimp only
 rw [show decide ((0:Int)<(([b].length:Nat):Int))=true from rfl,av]
 refine ixr (x:=b) (by decide) rfl ?_
 have hz:iE (Vector.replicate 8 (0:Int)).toList:=by
  intro x hx
  rw [Vector.toList_replicate] at hx
  rw [List.eq_of_mem_replicate hx]; exact ⟨by decide,by decide⟩
 have s0:startH ⟨Vector.replicate 8 0,[],0⟩=firstL:=by unfold startH; rw [if_pos ⟨by decide,rfl⟩]
 refine nJ (b.length+80) (by decide) (fun _ h=>by cases h) hb (by simp only [List.length_nil]; omega) (by omega) hz fun r h1 h2 h3=> ?_
 rw [s0,List.nil_append] at h1 h2
 rw [wrap_u64 (n:=(b.length:Int)) (by omega) (by omega),wrap_u64 (by dsimp only; omega) (by dsimp only; omega)] at h3
 have h3:r.n=(b.length:Int):=by rw [h3]; exact Int.zero_add _
 have hlt:b.length<64*(b.length+80+1):=by omega
 have hm:=yW (b.length+80) firstL b hlt
 refine bR.bD ?_
 unfold bR.B1; dsimp only
 rw [show decide (IntKind.wrap .i64 ((0:Int)+1)<(([b].length:Nat):Int))=false from rfl,ai]
 have hst:startH r=(goB (b.length+80) firstL b).1:=by
  unfold startH
  split
  ·rename_i hh
   rw [k7 (l:=b) (by omega)]
  ·exact h1
 refine xw (n:=b.length) h3 (by omega) (by rw [h2]; exact hm) (by rw [h2]; exact fun x hx=>hb x (yX _ _ _ x hx)) (by rw [h1]; exact BS _ _ _ lY) fun d hd=>H d ?_
 rw [hd,hst,h2]
 unfold sumL
 have hp:=od b.length
 have hz:zS b.length<64:=by unfold zS; omega
 rw [yV (b.length+80) firstL b (padS b.length) (by rw [List.length_append]; omega)]
 congr 2
 have hx:((goB (b.length+80) firstL b).2++padS b.length).length<64*3:=by rw [List.length_append,hm]; omega
 have: ∀ k,goB (2+k) (goB (b.length+80) firstL b).1 ((goB (b.length+80) firstL b).2++padS b.length)=goB 2 (goB (b.length+80) firstL b).1 ((goB (b.length+80) firstL b).2++padS b.length):=by
  intro k
  induction k with
  | zero=>rfl
  | succ k ih=>rw [show 2+(k+1)=(2+k)+1 by omega,xu _ _ _ (by omega),ih]
 rw [show b.length+80=2+(b.length+78) by omega] at this ⊢
 exact (this _).symm
end Go.Pt
namespace Go.Pt
open Go Go.Wc Go.Pu
def timesS (a b:Int):Int × Int:=
  let al:=Int.tmod a 4294967296
  let ah:=IntKind.wrap .u64 (Int.tdiv a 4294967296)
  let bl:=Int.tmod b 4294967296
  let bh:=IntKind.wrap .u64 (Int.tdiv b 4294967296)
  let low:=IntKind.wrap .u64 (al*bl)
  let mid:=IntKind.wrap .u64 (IntKind.wrap .u64 (ah*bl)+IntKind.wrap .u64 (Int.tdiv low 4294967296))
  let M4:=IntKind.wrap .u64 (IntKind.wrap .u64 (al*bh)+Int.tmod mid 4294967296)
  (IntKind.wrap .u64 (IntKind.wrap .u64 (IntKind.wrap .u64 (ah*bh)+IntKind.wrap .u64 (Int.tdiv mid 4294967296))+IntKind.wrap .u64 (Int.tdiv M4 4294967296)),
   IntKind.wrap .u64 (IntKind.wrap .u64 (M4*4294967296)+Int.tmod low 4294967296))
theorem jw {a b:Int} {Q:Int→Int→Prop} (H:Q (timesS a b).1 (timesS a b).2):cJ a b Q:=H
def sqGo (p:Int):Nat→Int→Int
 | 0,r=>r
 | k+1,r=>
  let x:=IntKind.wrap .u64 (r+IntKind.wrap .u64 (1*2 ^ (min k 64)))
  let t:=timesS x x
  sqGo p k (if t.1<p∨(t.1=p∧t.2=0) then x else r)
def sqS (p:Int):Int:=IntKind.wrap .u32 (Int.tmod (sqGo p 36 0) 4294967296)
theorem E9 {p:Int} {Q:az.QT} (H:Q (sqS p)):az p Q:=by
 have l1: ∀ (k:Nat) (m:az.V),m.p0=p→m.k4=(k:Int) - 1→k≤36→Q (IntKind.wrap .u32 (Int.tmod (sqGo p k m.r3) 4294967296))→az.L1 Q m:=by
  intro k
  induction k with
  | zero=>
   intro m e1 e2 hk H
   refine az.bD ?_
   unfold az.B1
   rw [decide_eq_false (by omega),ai]
   exact H
  | succ k ih=>
   intro m e1 e2 hk H
   refine az.bD ?_
   unfold az.B1
   rw [e2,decide_eq_true (by omega),av]
   refine fE (by omega) (jw ?_)
   rw [show Int.toNat (((k+1:Nat):Int) - 1)=k by omega,show (IntKind.bits .u64)=64 from rfl]
   simp only [sqGo] at H
   have fin: ∀ m':az.V,m'.p0=p→m'.k4=((k+1:Nat):Int) - 1→Q (IntKind.wrap .u32 (Int.tmod (sqGo p k m'.r3) 4294967296))→az.K3 (az.L1 Q) Q m':=by
    intro m' h1 h2 h3
    unfold az.K3
    exact ih _ h1 (by dsimp only; rw [h2,eR (by omega)]; omega) (by omega) h3
   rw [e1]
   by_cases c1:(timesS (IntKind.wrap .u64 (m.r3+IntKind.wrap .u64 (1*2 ^ (min k 64)))) (IntKind.wrap .u64 (m.r3+IntKind.wrap .u64 (1*2 ^ (min k 64))))).1<p
   ·rw [decide_eq_true c1,av]
    rw [if_pos (.inl c1)] at H
    unfold az.K2
    rw [av]
    exact fin _ rfl rfl H
   ·rw [decide_eq_false c1,ai]
    by_cases c2:(timesS (IntKind.wrap .u64 (m.r3+IntKind.wrap .u64 (1*2 ^ (min k 64)))) (IntKind.wrap .u64 (m.r3+IntKind.wrap .u64 (1*2 ^ (min k 64))))).1=p
    ·rw [beq_iff_eq.2 c2,av]
     unfold az.K2
     dsimp only
     by_cases c3:(timesS (IntKind.wrap .u64 (m.r3+IntKind.wrap .u64 (1*2 ^ (min k 64)))) (IntKind.wrap .u64 (m.r3+IntKind.wrap .u64 (1*2 ^ (min k 64))))).2=0
     ·rw [beq_iff_eq.2 c3,av]
      rw [if_pos (.inr ⟨c2,c3⟩)] at H
      exact fin _ rfl rfl H
     ·rw [beq_eq_false_iff_ne.2 c3,ai]
      rw [if_neg (fun h=>h.elim c1 fun h=>c3 h.2)] at H
      exact fin _ rfl rfl H
    ·rw [beq_eq_false_iff_ne.2 c2,ai]
     unfold az.K2
     rw [ai]
     rw [if_neg (fun h=>h.elim c1 fun h=>c2 h.1)] at H
     exact fin _ rfl rfl H
 exact l1 36 _ rfl rfl (by omega) H
def cuOk (p x:Int):Bool:=
 let t:=timesS x x
 let t1:=timesS t.2 x
 let t2:=timesS t.1 x
 let mid:=IntKind.wrap .u64 (t1.1+t2.2)
 let top:=if mid<t1.1 then IntKind.wrap .u64 (t2.1+1) else t2.1
 let want:=IntKind.wrap .u64 (p*4294967296)
 (top==0) && (decide (mid<want) || ((mid==want) && (t1.2==0)))
def cuGo (p:Int):Nat→Int→Int
 | 0,r=>r
 | k+1,r=>
  let x:=IntKind.wrap .u64 (r+IntKind.wrap .u64 (1*2 ^ (min k 64)))
  cuGo p k (if cuOk p x then x else r)
def cuS (p:Int):Int:=IntKind.wrap .u32 (Int.tmod (cuGo p 35 0) 4294967296)
theorem Fc {p:Int} {Q:aC.QT} (H:Q (cuS p)):aC p Q:=by
 have l1: ∀ (k:Nat) (m:aC.V),m.p0=p→m.k4=(k:Int) - 1→k≤36→Q (IntKind.wrap .u32 (Int.tmod (cuGo p k m.r3) 4294967296))→aC.L1 Q m:=by
  intro k
  induction k with
  | zero=>
   intro m e1 e2 hk H
   refine aC.bD ?_
   unfold aC.B1
   rw [decide_eq_false (by omega),ai]
   exact H
  | succ k ih=>
   intro m e1 e2 hk H
   refine aC.bD ?_
   unfold aC.B1
   rw [e2,decide_eq_true (by omega),av]
   refine fE (by omega) (jw (jw (jw ?_)))
   rw [show Int.toNat (((k+1:Nat):Int) - 1)=k by omega,show (IntKind.bits .u64)=64 from rfl]
   simp only [cuGo] at H
   obtain ⟨x,hx⟩: ∃ x,x=IntKind.wrap .u64 (m.r3+IntKind.wrap .u64 (1*2 ^ (min k 64))):=⟨_,rfl⟩
   rw [← hx] at H ⊢
   have fin: ∀ (b:Bool) (m':aC.V),m'.p0=p→m'.k4=((k+1:Nat):Int) - 1→m'.r3=m.r3→m'.x5=x→m'.xg=b→b=cuOk p x→aC.K2 (aC.L1 Q) Q m':=by
    intro b m' h1 h2 h3 h4 h5 h6
    unfold aC.K2 aC.K4
    rw [h5]
    rw [← h6] at H
    cases b with
    | true=>
     rw [av]
     exact ih _ h1 (by dsimp only; rw [h2,eR (by omega)]; omega) (by omega) (by dsimp only; rw [h4]; exact H)
    | false=>
     rw [ai]
     exact ih _ h1 (by dsimp only; rw [h2,eR (by omega)]; omega) (by omega) (by dsimp only; rw [h3]; exact H)
   obtain ⟨t1,Xp⟩: ∃ t,t=timesS (timesS x x).2 x:=⟨_,rfl⟩
   obtain ⟨t2,Xq⟩: ∃ t,t=timesS (timesS x x).1 x:=⟨_,rfl⟩
   have hok:cuOk p x=((if IntKind.wrap .u64 (t1.1+t2.2)<t1.1 then IntKind.wrap .u64 (t2.1+1) else t2.1)==0 && (decide (IntKind.wrap .u64 (t1.1+t2.2)<IntKind.wrap .u64 (p*4294967296)) || ((IntKind.wrap .u64 (t1.1+t2.2)==IntKind.wrap .u64 (p*4294967296)) && (t1.2==0)))):=by rw [Xp,Xq]; rfl
   rw [← Xp,← Xq]
   have k3: ∀ (top:Int) (m':aC.V),top=(if IntKind.wrap .u64 (t1.1+t2.2)<t1.1 then IntKind.wrap .u64 (t2.1+1) else t2.1)→m'.p0=p→m'.k4=((k+1:Nat):Int) - 1→m'.r3=m.r3→m'.x5=x→m'.K0=t1.2→m'.oW=IntKind.wrap .u64 (t1.1+t2.2)→m'.qV=top→aC.K3 (aC.L1 Q) Q m':=by
    intro top m' h0 h1 h2 h3 h4 h5 h6 h7
    rw [← h0] at hok
    unfold aC.K3
    rw [h7,h6,h1,h5]
    cases c1:(top==0) with
    | false=>
     rw [ai]
     rw [c1] at hok
     exact fin false _ (by first | exact h1 | rfl) h2 h3 h4 rfl hok.symm
    | true=>
     rw [av]
     rw [c1] at hok
     cases c2:decide (IntKind.wrap .u64 (t1.1+t2.2)<IntKind.wrap .u64 (p*4294967296)) with
     | true=>
      rw [av]
      rw [c2] at hok
      exact fin true _ (by first | exact h1 | rfl) h2 h3 h4 rfl hok.symm
     | false=>
      rw [ai]
      rw [c2] at hok
      cases c3:(IntKind.wrap .u64 (t1.1+t2.2)==IntKind.wrap .u64 (p*4294967296)) with
      | true=>
       rw [av]
       rw [c3] at hok
       exact fin (t1.2==0) _ (by first | exact h1 | rfl) h2 h3 h4 rfl hok.symm
      | false=>
       rw [ai]
       rw [c3] at hok
       exact fin false _ (by first | exact h1 | rfl) h2 h3 h4 rfl hok.symm
   by_cases c:IntKind.wrap .u64 (t1.1+t2.2)<t1.1
   ·rw [decide_eq_true c,av]
    exact k3 _ _ (by rw [if_pos c]) e1 rfl rfl rfl rfl rfl rfl
   ·rw [decide_eq_false c,ai]
    exact k3 _ _ (by rw [if_neg c]) e1 rfl rfl rfl rfl rfl rfl
 exact l1 35 _ rfl rfl (by omega) H
def prGo:Nat→List Int→Int→List Int
 | 0,out,_=>out
 | f+1,out,p=>if out.length<64 then (if out.all (fun x=>Int.tmod p x !=0) then prGo f (out++[p]) (p+1) else prGo f out (p+1)) else out
theorem Fe:prGo 320 [] 2=prGo 310 [] 2∧(prGo 320 [] 2).length=64:=by decide+kernel
theorem BU:(prGo 320 [] 2).map cuS=kL∧((prGo 320 [] 2).take 8).map sqS=firstL:=by decide+kernel
end Go.Pt
namespace Go.Pt
open Go Go.Wc Go.Pu
def primesL:List Int:=prGo 320 [] 2
theorem nK:primesL.length=64:=Fe.2
theorem uD {Q:an.QT} (H:Q primesL):an 64 Q:=by
 have l1: ∀ (f:Nat) (m:an.V),m.n0=64→2≤m.p4→m.p4+(f:Int)=322→(∀ x ∈ m.cr,x ≠ 0)→prGo f m.cr m.p4=primesL→m.cr.length≤64→an.L1 Q m:=by
  intro f
  induction f with
  | zero=>
   intro m e1 h1 h2 h3 h4 h5
   refine an.bD ?_
   unfold an.B1
   simp only [prGo] at h4
   have h6:=nK
   rw [h4,decide_eq_false (by omega),ai]
   exact H
  | succ f ih=>
   intro m e1 h1 h2 h3 h4 h5
   refine an.bD ?_
   unfold an.B1
   simp only [prGo] at h4
   by_cases hl:m.cr.length<64
   ·rw [e1,decide_eq_true (by omega),av]
    rw [if_pos hl] at h4
    have l2: ∀ (j i:Nat) (m':an.V),i+j=m.cr.length→m'.n0=64→m'.p4=m.p4→m'.cr=m.cr→m'.i6=(i:Int)→m'.Eo=((m.cr.take i).all fun x=>Int.tmod m.p4 x !=0)→an.L2 (an.L1 Q) Q m':=by
     intro j
     induction j with
     | zero=>
      intro i m' hi a1 a2 a3 a4 a5
      refine an.bW _ ?_
      unfold an.B2
      rw [a4,a3,dge (by omega),ai,a5,List.take_of_length_le (by omega)]
      have k4: ∀ (l:List Int) (m2:an.V),m2.n0=64→m2.p4=m.p4→m2.cr=l→(∀ x ∈ l,x ≠ 0)→prGo f l (m.p4+1)=primesL→l.length≤64→an.K4 (an.L1 Q) Q m2:=by
       intro l m2 b1 b2 b3 b4 b5 b6
       subst b3
       unfold an.K4
       have:IntKind.wrap .u64 (m2.p4+1)=m.p4+1:=by rw [b2]; exact wrap_u64 (by omega) (by omega)
       refine ih _ b1 (by dsimp only; rw [this]; omega) (by dsimp only; rw [this]; omega) b4 (by dsimp only; rw [this]; exact b5) b6
      cases hc:(m.cr.all fun x=>Int.tmod m.p4 x !=0) with
      | true=>
       rw [hc] at h4
       rw [av]
       refine ⟨bO (by simp only [List.length_cons,List.length_nil]; omega), ?_⟩
       refine k4 _ _ a1 a2 rfl ?_ (by dsimp only; rw [a2]; exact h4) (by simp only [List.length_append,List.length_cons,List.length_nil]; omega)
       intro x hx
       rcases List.mem_append.1 hx with hx | hx
       ·exact h3 x hx
       ·rw [List.mem_singleton.1 hx,a2]; omega
      | false=>
       rw [hc] at h4
       rw [ai]
       exact k4 _ _ a1 a2 rfl (by rw [a3]; exact h3) (by rw [a3]; exact h4) (by rw [a3]; omega)
     | succ j Bd=>
      intro i m' hi a1 a2 a3 a4 a5
      have hii:i<m.cr.length:=by omega
      refine an.bW _ ?_
      unfold an.B2
      rw [a4,a3,dlt hii,av,a5]
      have hsn:((m.cr.take (i+1)).all fun x=>Int.tmod m.p4 x !=0)=(((m.cr.take i).all fun x=>Int.tmod m.p4 x !=0) && (Int.tmod m.p4 m.cr[i] !=0)):=by
       rw [eB hii,List.all_append]; simp
      cases hc:((m.cr.take i).all fun x=>Int.tmod m.p4 x !=0) with
      | true=>
       rw [hc] at hsn
       rw [av]
       refine dm hii (LH (h3 _ (List.getElem_mem hii)) ?_)
       unfold an.K3
       dsimp only
       refine Bd (i+1) _ (by omega) a1 a2 (by first | exact a3 | rfl) (by dsimp only; rw [cu (by omega)]) ?_
       dsimp only
       rw [hsn,a2]; rfl
      | false=>
       rw [hc] at hsn
       rw [ai]
       unfold an.K3
       dsimp only
       refine Bd (i+1) _ (by omega) a1 a2 (by first | exact a3 | rfl) (by dsimp only; rw [cu (by omega)]) ?_
       dsimp only
       rw [hsn]; rfl
    exact l2 m.cr.length 0 _ (by omega) (by first | exact e1 | rfl) rfl rfl rfl rfl
   ·rw [e1,decide_eq_false (by omega),ai]
    rw [if_neg hl] at h4
    rw [h4]; exact H
 exact l1 320 _ rfl (by dsimp only; omega) (by dsimp only; omega) (fun _ h=>by cases h) rfl (Nat.zero_le _)
theorem BV {Q:aM.QT} (H:Q kL firstL):aM Q:=by
 obtain ⟨P,hP⟩: ∃ P,P=primesL:=⟨_,rfl⟩
 have hlen:P.length=64:=by rw [hP]; exact nK
 have c1:P.map cuS=kL:=by rw [hP]; exact BU.1
 have c2:(P.take 8).map sqS=firstL:=by rw [hP]; exact BU.2
 have l2: ∀ (j i:Nat) (m:aM.V),i+j=8→m.l2=P→m.k3=kL→m.t6=(i:Int)→m.gX=(P.take i).map sqS→aM.L2 Q m:=by
  intro j
  induction j with
  | zero=>
   intro i m hi e1 e2 e3 e4
   obtain rfl:i=8:=by omega
   refine aM.bW ?_
   unfold aM.B2
   rw [e3,decide_eq_false (by omega),ai,e2,e4,c2]
   exact H
  | succ j ih=>
   intro i m hi e1 e2 e3 e4
   refine aM.bW ?_
   unfold aM.B2
   rw [e3,e1,decide_eq_true (by omega),av]
   refine dm (by omega) (E9 ⟨bO (by rw [e4]; simp only [List.length_map,List.length_take,List.length_cons,List.length_nil]; omega), ?_⟩)
   rw [cu (by omega)]
   exact ih (i+1) _ (by omega) (by first | exact e1 | rfl) e2 rfl (by dsimp only; rw [e4,kG])
 have l1: ∀ (j i:Nat) (m:aM.V),i+j=64→m.l2=P→m.t5=(i:Int)→m.gX=[]→m.k3=(P.take i).map cuS→aM.L1 Q m:=by
  intro j
  induction j with
  | zero=>
   intro i m hi e1 e3 e2 e4
   obtain rfl:i=64:=by omega
   refine aM.bD ?_
   unfold aM.B1
   rw [e3,decide_eq_false (by omega),ai]
   refine l2 8 0 _ (by omega) e1 ?_ rfl e2
   dsimp only
   rw [e4,List.take_of_length_le (by omega)]
   exact c1
  | succ j ih=>
   intro i m hi e1 e3 e2 e4
   refine aM.bD ?_
   unfold aM.B1
   rw [e3,e1,decide_eq_true (by omega),av]
   refine dm (by omega) (Fc ⟨bO (by rw [e4]; simp only [List.length_map,List.length_take,List.length_cons,List.length_nil]; omega), ?_⟩)
   rw [cu (by omega)]
   exact ih (i+1) _ (by omega) (by first | exact e1 | rfl) rfl e2 (by dsimp only; rw [e4,kG])
 unfold aM
 refine uD ?_
 rw [← hP]
 exact l1 64 0 _ (by omega) rfl rfl rfl rfl
theorem dK {x k:Int} {n:Nat} {Q:aG.QT} (hx:iO x) (hk:k=(n:Int)) (hn:0<n∧n<32) (H:Q (rotR n x)):aG x k Q:=by
 subst hk
 have l1: ∀ (j i:Nat) (m:aG.V),i+j=n→m.n1=(n:Int)→m.i5=(i:Int)→m.x0=rotR i x→aG.L1 Q m:=by
  intro j
  induction j with
  | zero=>
   intro i m hi e1 e2 e3
   obtain rfl:i=n:=by omega
   refine aG.bD ?_
   unfold aG.B1
   rw [e1,e2,dge (by omega),ai,e3]
   exact H
  | succ j ih=>
   intro i m hi e1 e2 e3
   refine aG.bD ?_
   unfold aG.B1
   rw [e1,e2,dlt (by omega),av,cu (by omega),e3]
   refine ih (i+1) _ (by omega) (by first | exact e1 | rfl) rfl ?_
   exact wU (by omega) hx
 unfold aG
 refine l1 n 0 _ (by omega) ?_ rfl HY.symm
 dsimp only
 rw [show Int.tmod (n:Int) 32=(n:Int) % 32 from Int.tmod_eq_emod_of_nonneg (by omega),eR (n:=(n:Int) % 32+32) (by omega),Int.tmod_eq_emod_of_nonneg (by omega)]
 omega
theorem BW {b:List Int} {Q:aN.QT} (hb:b.length≤1000000) (H:Q (b++padS b.length)):aN b Q:=by
 have hz:zS b.length<64:=by unfold zS; omega
 have l2: ∀ (j t:Nat) (m:aN.V),t+j=8→m.n4=8*(b.length:Int)→m.i5=56 - 8*(t:Int)→m.cr=b++((128::List.replicate (zS b.length) 0)++beS (8*(b.length:Int)) t)→aN.L2 Q m:=by
  intro j
  induction j with
  | zero=>
   intro t m ht e1 e2 e3
   obtain rfl:t=8:=by omega
   refine aN.bW ?_
   unfold aN.B2
   rw [decide_eq_false (by omega),ai,e3]
   exact H
  | succ j ih=>
   intro t m ht e1 e2 e3
   have hbl:(beS (8*(b.length:Int)) t).length=t:=by unfold beS; simp
   refine aN.bW ?_
   unfold aN.B2
   rw [e2,e1,decide_eq_true (by omega),av,eR (n:=56 - 8*(t:Int) - 8) (by omega)]
   refine fE (by omega) ⟨bO (by rw [e3]; simp only [List.length_append,List.length_cons,List.length_replicate,List.length_nil,hbl]; omega),ih (t+1) _ (by omega) (by first | exact e1 | rfl) (by dsimp only; omega) ?_⟩
   dsimp only
   rw [e3,List.append_assoc,List.append_assoc,← yZ]
   congr 4
   rw [show min (Int.toNat (56 - 8*(t:Int))) (IntKind.bits .u64)=56 - 8*t by
    rw [show (56 - 8*(t:Int)).toNat=56 - 8*t by omega]; exact Nat.min_eq_left (show _≤64 by omega),fd _ (by omega)]
 have l1: ∀ (j i:Nat) (m:aN.V),i+j=zS b.length→m.b0=b→m.cr=b++(128::List.replicate i 0)→aN.L1 Q m:=by
  intro j
  induction j with
  | zero=>
   intro i m hi e e3
   obtain rfl:i=zS b.length:=by omega
   refine aN.bD ?_
   unfold aN.B1
   rw [e3,Int.tmod_eq_emod_of_nonneg (by omega)]
   have hq:((b++((128:Int)::List.replicate (zS b.length) (0:Int))).length:Int) % 64=56:=by
    simp only [List.length_append,List.length_cons,List.length_replicate]; unfold zS; omega
   rw [hq,show ((56:Int) !=56)=false from rfl,ai,e]
   rw [wrap_u64 (n:=(b.length:Int)) (by omega) (by omega),wrap_u64 (n:=(b.length:Int)*8) (by omega) (by omega)]
   exact l2 8 0 _ (by omega) (by dsimp only; omega) rfl (by dsimp only; rw [show beS (8*(b.length:Int)) 0=[] from rfl,List.append_nil])
  | succ j ih=>
   intro i m hi e e3
   refine aN.bD ?_
   unfold aN.B1
   rw [Int.tmod_eq_emod_of_nonneg (by omega)]
   rw [show (((m.cr.length:Nat):Int) % 64 !=56)=true by
    rw [e3]; simp only [List.length_append,List.length_cons,List.length_replicate]; unfold zS at hi; simp; omega,av]
   refine ⟨bO (by rw [e3]; simp only [List.length_append,List.length_cons,List.length_replicate,List.length_nil]; omega),ih (i+1) _ (by omega) (by first | exact e | rfl) ?_⟩
   dsimp only
   rw [e3,List.append_assoc,List.cons_append,← List.replicate_succ']
 unfold aN
 refine ⟨bO (by simp only [List.length_nil]; omega),bO (by simp only [List.length_append,List.length_cons,List.length_nil]; omega), ?_⟩
 exact l1 (zS b.length) 0 _ (by omega) rfl rfl
end Go.Pt
namespace Go.Pt
open Go Go.Wc Go.Pu
theorem xy {s b:List Int} {Q:aq.QT} (hs:s.length=8) (hw:iE s) (hb:b.length=64) (hbb:bytesL b) (H:Q (compS s b)):aq kL s b Q:=by
 have Y8:=lX (h:=s) (b:=b) hs
 have l4: ∀ (j t:Nat) (m:aq.V),t+j=8→m.nI=roundsS (wl b 64) s 64→m.s1=s→m.i20=(t:Int)→m.lV=(compS s b).take t→aq.L4 Q m:=by
  have QE:=fY (w:=wl b 64) (h:=s) hs 64
  intro j
  induction j with
  | zero=>
   intro t m ht e1 e2 e3 e4
   obtain rfl:t=8:=by omega
   refine aq.jP ?_
   unfold aq.B4
   rw [e3,decide_eq_false (by omega),ai,e4,List.take_of_length_le (by omega)]
   exact H
  | succ j ih=>
   intro t m ht e1 e2 e3 e4
   refine aq.jP ?_
   unfold aq.B4
   rw [e3,e1,e2,decide_eq_true (by omega),av]
   refine dm (by omega) (dm (by omega) ⟨bO (by rw [e4]; simp only [List.length_take,List.length_cons,List.length_nil]; omega), ?_⟩)
   rw [cu (by omega)]
   refine ih (t+1) _ (by omega) (by first | exact e1 | rfl) (by first | exact e2 | rfl) rfl ?_
   dsimp only
   rw [e4,eB (by omega)]
   congr 2
   unfold compS addS
   rw [List.getElem_zipWith]
   unfold add
   rw [Int.add_comm]
 have l3: ∀ (j t:Nat) (m:aq.V),t+j=64→m.k0=kL→m.s1=s→m.w7=wl b 64→m.t14=(t:Int)→m.nI=roundsS (wl b 64) s t→aq.L3 Q m:=by
  have hwl:=sH b 64
  have hkl:=IE
  intro j
  induction j with
  | zero=>
   intro t m ht e1 e2 e3 e4 e5
   obtain rfl:t=64:=by omega
   refine aq.fF ?_
   unfold aq.B3
   rw [e4,decide_eq_false (by omega),ai]
   exact l4 8 0 _ (by omega) e5 e2 rfl rfl
  | succ j ih=>
   rintro t ⟨k0,s1,b2,w7,t8,nI,t14,lV,i20⟩ ht e1 e2 e3 e4 e5
   dsimp only at e1 e2 e3 e4 e5
   have QE:=fY (w:=wl b 64) (h:=s) hs t
   have hxw:=pg (w:=wl b 64) (h:=s) hs hw t
   rw [← e5] at QE hxw
   obtain ⟨a,b',c,d,e,f,g,k,hx⟩:=yU QE
   subst hx
   have we:iO e:=hxw _ (by simp)
   have wa:iO a:=hxw _ (by simp)
   refine aq.fF ?_
   unfold aq.B3; dsimp only
   rw [e4,decide_eq_true (show (t:Int)<64 by omega),av,e1,e3]
   refine ixr (by decide) rfl (ixr (by decide) rfl (ixr (by decide) rfl (ixr (by decide) rfl (ixr (by decide) rfl ?_))))
   refine ixd rfl (by omega) (ixd rfl (by omega) ?_)
   refine dK (n:=6) we rfl (by decide) (dK (n:=11) we rfl (by decide) (dK (n:=25) we rfl (by decide) ?_))
   refine ixr (by decide) rfl (ixr (by decide) rfl (ixr (by decide) rfl (ixr (by decide) rfl ?_)))
   refine dK (n:=2) wa rfl (by decide) (dK (n:=13) wa rfl (by decide) (dK (n:=22) wa rfl (by decide) ?_))
   refine ixr (by decide) rfl (ixr (by decide) rfl (ixr (by decide) rfl (ixr (by decide) rfl (ixr (by decide) rfl (ixr (by decide) rfl (ixr (by decide) rfl ?_))))))
   rw [cu (by omega)]
   refine ih (t+1) _ (by omega) rfl e2 rfl rfl ?_
   show _=stepS (roundsS (wl b 64) s t) (kL.getD t 0) ((wl b 64).getD t 0)
   rw [← e5]
   rfl
 have l1: ∀ (j t:Nat) (m:aq.V),t+j=64→m.k0=kL→m.s1=s→m.b2=b→m.t8=(t:Int)→m.w7=wl b t→aq.L1 Q m:=by
  intro j
  induction j with
  | zero=>
   intro t m ht e1 e2 e3 e4 e5
   obtain rfl:t=64:=by omega
   refine aq.bD ?_
   unfold aq.B1
   rw [e4,decide_eq_false (by omega),ai]
   refine ⟨bO (by rw [e2]; simp only [List.length_nil]; omega), ?_⟩
   refine l3 64 0 _ (by omega) e1 e2 e5 rfl ?_
   dsimp only; rw [e2]; rfl
  | succ j ih=>
   intro t m ht e1 e2 e3 e4 e5
   have hlen:=sH b t
   have hww:=IB hbb t
   have k2: ∀ m':aq.V,m'.k0=kL→m'.s1=s→m'.b2=b→m'.t8=(t:Int)→m'.w7=wl b (t+1)→aq.K2 (aq.L1 Q) Q m':=by
    intro m' h1 h2 h3 h4 h5
    unfold aq.K2
    exact ih (t+1) _ (by omega) h1 h2 h3 (by dsimp only; rw [h4,cu (by omega)]) h5
   refine aq.bD ?_
   unfold aq.B1
   rw [e4,decide_eq_true (by omega),av]
   by_cases z9:t<16
   ·rw [decide_eq_true (show (t:Int)<16 by omega),av,e3,e5,eR (n:=4*(t:Int)) (by omega),eR (n:=4*(t:Int)+1) (by omega),eR (n:=4*(t:Int)+2) (by omega),eR (n:=4*(t:Int)+3) (by omega)]
    refine ixd (n:=4*t) (by omega) (by omega) (ixd (n:=4*t+1) (by omega) (by omega) (ixd (n:=4*t+2) (by omega) (by omega) (ixd (n:=4*t+3) (by omega) (by omega) ?_)))
    refine ⟨bO (by simp only [List.length_cons,List.length_nil]; omega),k2 _ e1 e2 (by first | exact e3 | rfl) (by first | exact e4 | rfl) ?_⟩
    show _=wl b t++[wNext b (wl b t) t]
    congr 2
    unfold wNext
    rw [if_pos z9]
    have q0:=bS hbb (4*t)
    have q1:=bS hbb (4*t+1)
    have q2:=bS hbb (4*t+2)
    have q3:=bS hbb (4*t+3)
    unfold bigW
    generalize b.getD (4*t) 0=x0 at*
    generalize b.getD (4*t+1) 0=x1 at*
    generalize b.getD (4*t+2) 0=x2 at*
    generalize b.getD (4*t+3) 0=x3 at*
    rw [bG (n:=x0) ⟨by omega,by omega⟩,bG (n:=x1) ⟨by omega,by omega⟩,bG (n:=x2) ⟨by omega,by omega⟩,bG (n:=x3) ⟨by omega,by omega⟩,
     bG (n:=x0*16777216) ⟨by omega,by omega⟩,bG (n:=x1*65536) ⟨by omega,by omega⟩,bG (n:=x2*256) ⟨by omega,by omega⟩,
     bG (n:=x0*16777216+x1*65536) ⟨by omega,by omega⟩,bG (n:=x0*16777216+x1*65536+x2*256) ⟨by omega,by omega⟩,bG (n:=x0*16777216+x1*65536+x2*256+x3) ⟨by omega,by omega⟩]
   ·rw [decide_eq_false (show ¬ (t:Int)<16 by omega),ai,e5,eR (n:=(t:Int) - 15) (by omega),eR (n:=(t:Int) - 2) (by omega),eR (n:=(t:Int) - 7) (by omega),eR (n:=(t:Int) - 16) (by omega)]
    refine ixd (n:=t - 15) (by omega) (by omega) (ixd (n:=t - 2) (by omega) (by omega) ?_)
    refine dK (n:=7) (dI hww _) rfl (by decide) (dK (n:=18) (dI hww _) rfl (by decide) (dK (n:=17) (dI hww _) rfl (by decide) (dK (n:=19) (dI hww _) rfl (by decide) ?_)))
    refine ixd (n:=t - 7) (by omega) (by omega) (ixd (n:=t - 16) (by omega) (by omega) ?_)
    refine ⟨bO (by simp only [List.length_cons,List.length_nil]; omega),k2 _ e1 e2 e3 (by first | exact e4 | rfl) ?_⟩
    show _=wl b t++[wNext b (wl b t) t]
    congr 2
    unfold wNext
    rw [if_neg z9]
    have q1:=dI hww (t - 15)
    have q2:=dI hww (t - 2)
    have r1:IntKind.wrap .u32 (Int.tdiv ((wl b t).getD (t - 2) 0) 1024)=(wl b t).getD (t - 2) 0 / 1024:=by
     rw [Int.tdiv_eq_ediv_of_nonneg q2.1]; exact bG (by unfold iO at q2 ⊢; omega)
    have r2:IntKind.wrap .u32 (Int.tdiv ((wl b t).getD (t - 15) 0) 8)=(wl b t).getD (t - 15) 0 / 8:=by
     rw [Int.tdiv_eq_ediv_of_nonneg q1.1]; exact bG (by unfold iO at q1 ⊢; omega)
    rw [r1,r2]
    rfl
 exact l1 64 0 _ (by omega) rfl rfl rfl rfl rfl
theorem Aq {b:List Int} {Q:aO.QT} (hl:b.length≤1000000) (hb:bytesL b) (H: ∀ r:Vector Int 32,r.toList=sumL b→Q r):aO b Q:=by
 have hpl:=od b.length
 have hpm:=E7 b.length
 have hz:zS b.length<64:=by unfold zS; omega
 obtain ⟨p,hp⟩: ∃ p,p=b++padS b.length:=⟨_,rfl⟩
 have hpb:bytesL p:=by rw [hp]; exact kn hb (qX _)
 have hplen:p.length=b.length+(padS b.length).length:=by rw [hp,List.length_append]
 have l2: ∀ (j t:Nat) (m:aO.V),t+j=32→m.i8=(t:Int)→m.s4=(goB (b.length+80) firstL p).1→iE m.s4→m.cR.toList=digL m.s4 t++List.replicate j 0→aO.L2 Q m:=by
  have h8:(goB (b.length+80) firstL p).1.length=8:=yY _ _ _ rfl
  intro j
  induction j with
  | zero=>
   intro t m ht e1 e2 e4 e3
   obtain rfl:t=32:=by omega
   refine aO.bW ?_
   unfold aO.B2
   rw [e1,decide_eq_false (by omega),ai]
   refine H _ ?_
   rw [e3,e2,List.replicate_zero,List.append_nil,hp]; rfl
  | succ j ih=>
   intro t m ht e1 e2 e4 e3
   refine aO.bW ?_
   unfold aO.B2
   rw [e1,decide_eq_true (by omega),av]
   rw [Rw (by omega),Lg (by omega),eR (n:=(t:Int) / 4) (by omega),eR (n:=8*((t:Int) % 4)) (by omega),eR (n:=24 - 8*((t:Int) % 4)) (by omega),cu (by omega)]
   refine ixd (n:=t / 4) (by omega) (by rw [e2]; omega) ?_
   refine fE (by omega) (ixdv (n:=t) rfl rfl (by omega) ?_)
   refine ih (t+1) _ (by omega) rfl e2 e4 ?_
   dsimp only
   rw [fe (i:=(t:Int)) (l:=digL m.s4 t) (y:=0) (r:=List.replicate j 0) (by rw [e3]; rfl) (by rw [sJ])]
   congr 1
   rw [← uC]
   congr 1
   rw [show min (Int.toNat (24 - 8*((t:Int) % 4))) (IntKind.bits .u32)=24 - 8*(t % 4) by
    rw [show (24 - 8*((t:Int) % 4)).toNat=24 - 8*(t % 4) by omega]; exact Nat.min_eq_left (show _≤32 by omega),fd _ (dI e4 _).1]
 have l1: ∀ (f i:Nat) (m:aO.V),i≤p.length→(p.length - i) % 64=0→p.length - i≤64*f→m.k3=kL→m.p5=p→m.i6=(i:Int)→m.s4.length=8→iE m.s4→(goB (b.length+80) firstL p).1=(goB f m.s4 (p.drop i)).1→aO.L1 Q m:=by
  intro f
  induction f with
  | zero=>
   intro i m h0 h1 h2 e1 e2 e3 e4 e5 e6
   refine aO.bD ?_
   unfold aO.B1
   rw [e2,e3,dge (by omega),ai]
   exact l2 32 0 _ (by omega) rfl e6.symm e5 (by dsimp only; exact Vector.toList_replicate ..)
  | succ f ih=>
   intro i m h0 h1 h2 e1 e2 e3 e4 e5 e6
   refine aO.bD ?_
   unfold aO.B1
   rw [e2,e3]
   by_cases hi:i<p.length
   ·rw [dlt hi,av,eR (n:=(i:Int)+64) (by omega),e1]
    refine ⟨⟨by omega,by omega,by omega⟩, ?_⟩
    have es:sub p (i:Int) ((i:Int)+64)=(p.drop i).take 64:=by
     unfold sub
     rw [show ((i:Int)+64).toNat=i+64 by omega,Int.toNat_natCast,List.drop_take,Nat.add_sub_cancel_left]
    rw [es]
    refine xy e4 e5 (by rw [List.length_take,List.length_drop]; omega) (fun x hx=>hpb x (List.mem_of_mem_drop (List.mem_of_mem_take hx))) ?_
    refine ih (i+64) _ (by omega) (by omega) (by omega) rfl (by first | exact e2 | rfl) (by dsimp only; omega) (lX e4) xp ?_
    rw [e6]
    simp only [goB]
    rw [if_pos (by rw [List.length_drop]; omega),List.drop_drop]
   ·rw [dge (by omega),ai]
    rw [k7 (l:=p.drop i) (by rw [List.length_drop]; omega)] at e6
    exact l2 32 0 _ (by omega) rfl e6.symm e5 (by dsimp only; exact Vector.toList_replicate ..)
 unfold aO
 refine BV (BW hl ?_)
 rw [← hp]
 exact l1 (b.length+80) 0 _ (by omega) (by rw [hplen]; omega) (by omega) rfl rfl rfl rfl lY rfl
end Go.Pt
namespace Go.Pt
open Go Go.Wc Go.Pu
def qS (a b c d:Int):Vector Int 4:=
 let a1:=add a b
 let d1:=rotR 16 (sG d a1)
 let c1:=add c d1
 let b1:=rotR 20 (sG b c1)
 let a2:=add a1 b1
 let d2:=rotR 24 (sG d1 a2)
 let c2:=add c1 d2
 let b2:=rotR 25 (sG b1 c2)
 #v[a2,b2,c2,d2]
theorem y4 {x y z bb:Int} {v:Vector Int 4} {Q:Vector Int 4→Prop} {n:Nat} {vx vy vz:Int} (hn:0<n∧n<32)
  (hk:IntKind.wrap .u64 (((BitVec.ofInt (IntKind.bits .u64) (IntKind.wrap .u64 bb) &&& (BitVec.ofInt (IntKind.bits .u64) (31:Int))).toNat:Int))=((32 - n:Nat):Int))
  (hx:0≤x) (hy:0≤y) (hz:0≤z) (ex:v.toList[x.toNat]? =some vx) (ey:v.toList[y.toNat]? =some vy) (ez:(v.setIfInBounds x.toNat (add vx vy)).toList[z.toNat]? =some vz) (ea:(v.setIfInBounds x.toNat (add vx vy)).toList[x.toNat]? =some (add vx vy))
  (H:Q ((v.setIfInBounds x.toNat (add vx vy)).setIfInBounds z.toNat (rotR n (sG vz (add vx vy))))):ct x y z bb v Q:=by
 unfold ct
 refine ixr hx ex (ixr hy ey (ixr hx ex (ixr hz ez (ixr hx ea ?_))))
 refine qW (n:=n) (ux _ _) hn hk ?_
 exact ixr hz ez H
theorem M5 {a b c d bb:Int} {Q:Vector Int 4→Prop} {n:Nat} (hn:0<n∧n<32)
  (hk:IntKind.wrap .u64 (((BitVec.ofInt (IntKind.bits .u64) (IntKind.wrap .u64 bb) &&& (BitVec.ofInt (IntKind.bits .u64) (31:Int))).toNat:Int))=((32 - n:Nat):Int))
  (H:Q #v[add a b,b,c,rotR n (sG d (add a b))]):ct 0 1 3 bb #v[a,b,c,d] Q:=
 y4 hn hk (by decide) (by decide) (by decide) rfl rfl rfl rfl H
theorem M6 {a b c d bb:Int} {Q:Vector Int 4→Prop} {n:Nat} (hn:0<n∧n<32)
  (hk:IntKind.wrap .u64 (((BitVec.ofInt (IntKind.bits .u64) (IntKind.wrap .u64 bb) &&& (BitVec.ofInt (IntKind.bits .u64) (31:Int))).toNat:Int))=((32 - n:Nat):Int))
  (H:Q #v[a,rotR n (sG b (add c d)),add c d,d]):ct 2 3 1 bb #v[a,b,c,d] Q:=
 y4 hn hk (by decide) (by decide) (by decide) rfl rfl rfl rfl H
theorem lZ {a b c d:Int} {Q:Vector Int 4→Prop} (H:Q (qS a b c d)):bX #v[a,b,c,d] Q:=by
 unfold bX
 refine M5 (n:=16) (by decide) (by decide+kernel) (M6 (n:=20) (by decide) (by decide+kernel) (M5 (n:=24) (by decide) (by decide+kernel) (M6 (n:=25) (by decide) (by decide+kernel) H)))
theorem ko {x k:Int} {n:Nat} {Q:aT.QT} (hx:iO x) (hk:k=((32 - n:Nat):Int)) (hn:n≤32) (H:Q (rotR n x)):aT x k Q:=by
 subst hk
 have l1: ∀ (j i:Nat) (m:aT.V),n+j=32 - i→i≤32→m.n1=((32 - n:Nat):Int)→m.i5=(i:Int)→m.x0=rotR (32 - i) x→aT.L1 Q m:=by
  intro j
  induction j with
  | zero=>
   intro i m hi qI e1 e2 e3
   refine aT.bD ?_
   unfold aT.B1
   rw [e1,e2,dge (by omega),ai,e3,← hi]
   exact H
  | succ j ih=>
   intro i m hi qI e1 e2 e3
   refine aT.bD ?_
   unfold aT.B1
   rw [e1,e2,dlt (by omega),av,cu (by omega),e3]
   refine ih (i+1) _ (by omega) (by omega) (by first | exact e1 | rfl) rfl ?_
   have:=Aa (n:=32 - (i+1)) (by omega) hx
   rw [show 32 - (i+1)+1=32 - i by omega] at this
   exact this
 unfold aT
 exact l1 (32 - n) 0 _ (by omega) (by omega) rfl rfl (EN hx).symm
theorem kN {a b c d:Int} {Q:Vector Int 4→Prop} (H:Q (qS a b c d)):cS #v[a,b,c,d] Q:=by
 unfold cS
 refine ixr (by decide) rfl (ixr (by decide) rfl (ixr (by decide) rfl (ixr (by decide) rfl ?_)))
 refine ko (n:=16) (ux _ _) rfl (by decide) ?_
 refine ko (n:=20) (ux _ _) rfl (by decide) ?_
 refine ko (n:=24) (ux _ _) rfl (by decide) ?_
 refine ko (n:=25) (ux _ _) rfl (by decide) ?_
 exact H
def qAt (w:List Int) (p:Nat × Nat × Nat × Nat):List Int:=
 let q:=qS (w.getD p.1 0) (w.getD p.2.1 0) (w.getD p.2.2.1 0) (w.getD p.2.2.2 0)
 (((w.set p.1 (q.toList.getD 0 0)).set p.2.1 (q.toList.getD 1 0)).set p.2.2.1 (q.toList.getD 2 0)).set p.2.2.2 (q.toList.getD 3 0)
theorem sK {w:List Int} {p:Nat × Nat × Nat × Nat}:(qAt w p).length=w.length:=by unfold qAt; simp only [List.length_set]
theorem vset {n:Nat} {v:Vector Int n} {i:Int} {k:Nat} {x:Int} {l:List Int} (e:v.toList=l) (hi:i=(k:Int)):(v.setIfInBounds (Int.toNat i) x).toList=l.set k x:=by
 subst hi e; rw [Vector.toList_setIfInBounds,Int.toNat_natCast]
theorem l5 {v:Vector Int 16} {w:List Int} {i j k l:Int} {a b c d:Nat} {Q:aQ.QT} (e:v.toList=w) (hi:i=(a:Int)) (hj:j=(b:Int)) (hk:k=(c:Int)) (hl:l=(d:Int))
  (ha:a<16) (hb:b<16) (hc:c<16) (hd:d<16) (H: ∀ r:Vector Int 16,r.toList=qAt w (a,b,c,d)→Q r):aQ i j k l v Q:=by
 have k3: ∀ m:aQ.V,m.v4=v→m.a0=i→m.b1=j→m.c2=k→m.d3=l→m.jI=qS (w.getD a 0) (w.getD b 0) (w.getD c 0) (w.getD d 0)→aQ.K3 Q m:=by
  rintro ⟨v4,a0,b1,c2,d3,q9,jI⟩ e1 e2 e3 e4 e5 e6
  dsimp only at e1 e2 e3 e4 e5 e6
  subst e1 e2 e3 e4 e5 e6
  unfold aQ.K3 aQ.K1; dsimp only
  refine ixdv (n:=0) rfl rfl (by decide) (ixdv (n:=1) rfl rfl (by decide) (ixdv (n:=2) rfl rfl (by decide) (ixdv (n:=3) rfl rfl (by decide) ?_)))
  refine ixdv (n:=a) rfl hi ha (ixdv (n:=b) rfl hj hb (ixdv (n:=c) rfl hk hc (ixdv (n:=d) rfl hl hd ?_)))
  refine H _ ?_
  exact vset (vset (vset (vset e hi) hj) hk) hl
 unfold aQ
 refine ixdv e hi ha (ixdv e hj hb (ixdv e hk hc (ixdv e hl hd ⟨?_, ?_⟩)))
 ·refine lZ ?_
  exact k3 _ rfl rfl rfl rfl rfl rfl
 ·refine lZ ?_
  exact k3 _ rfl rfl rfl rfl rfl rfl
def colP (i:Nat):Nat × Nat × Nat × Nat:=(i,4+i,8+i,12+i)
def diaP (i:Nat):Nat × Nat × Nat × Nat:=(i,4+(i+1) % 4,8+(i+2) % 4,12+(i+3) % 4)
def colS (w:List Int) (k:Nat):List Int:=(List.range k).foldl (fun w i=>qAt w (colP i)) w
def diaS (w:List Int) (k:Nat):List Int:=(List.range k).foldl (fun w i=>qAt w (diaP i)) w
def dblS (w:List Int):List Int:=diaS (colS w 4) 4
def rndS (w:List Int):Nat→List Int
 | 0=>w
 | r+1=>dblS (rndS w r)
theorem qZ (w:List Int) (k:Nat):colS w (k+1)=qAt (colS w k) (colP k):=by unfold colS; rw [List.range_succ,List.foldl_append]; rfl
theorem q6 (w:List Int) (k:Nat):diaS w (k+1)=qAt (diaS w k) (diaP k):=by unfold diaS; rw [List.range_succ,List.foldl_append]; rfl
theorem uE (w:List Int): ∀ k,(colS w k).length=w.length
 | 0=>rfl
 | k+1=>by rw [qZ,sK,uE w k]
theorem uF (w:List Int): ∀ k,(diaS w k).length=w.length
 | 0=>rfl
 | k+1=>by rw [q6,sK,uF w k]
theorem uG (w:List Int): ∀ k,(rndS w k).length=w.length
 | 0=>rfl
 | k+1=>by show (dblS _).length=_; unfold dblS; rw [uF,uE,uG w k]
def outL (first w:List Int) (k:Nat):List Int:=(List.range k).map fun i=>IntKind.wrap .u8 (add (w.getD (i / 4) 0) (first.getD (i / 4) 0) / 2 ^ (8*(i % 4)))
theorem pn (f w:List Int) (k:Nat):(outL f w k).length=k:=by unfold outL; simp
theorem q7 (f w:List Int) (k:Nat):outL f w k++[IntKind.wrap .u8 (add (w.getD (k / 4) 0) (f.getD (k / 4) 0) / 2 ^ (8*(k % 4)))]=outL f w (k+1):=by unfold outL; rw [List.range_succ,List.map_append]; rfl
def litW (a b c d:Int):Int:=a+b*256+c*65536+d*16777216
def wdS (l:List Int) (i:Nat):Int:=litW (l.getD (4*i) 0) (l.getD (4*i+1) 0) (l.getD (4*i+2) 0) (l.getD (4*i+3) 0)
def wds (l:List Int) (k:Nat):List Int:=(List.range k).map (wdS l)
theorem jx (l:List Int) (k:Nat):(wds l k).length=k:=by unfold wds; simp
theorem l6 (l:List Int) (k:Nat):wds l k++[wdS l k]=wds l (k+1):=by unfold wds; rw [List.range_succ,List.map_append]; rfl
def sigL:List Int:=[1634760805,857760878,2036477234,1797285236]
def firS (key nonce:List Int) (c:Int):List Int:=sigL++(wds key 8++(c::wds nonce 3))
def blkS (key nonce:List Int) (c:Int):List Int:=outL (firS key nonce c) (rndS (firS key nonce c) 10) 64
theorem Za {a b c d:Int} (ha:0≤a∧a<256) (hb:0≤b∧b<256) (hc:0≤c∧c<256) (hd:0≤d∧d<256):
  IntKind.wrap .u32 (((BitVec.ofInt (IntKind.bits .u32) (IntKind.wrap .u32 (((BitVec.ofInt (IntKind.bits .u32) (IntKind.wrap .u32 (((BitVec.ofInt (IntKind.bits .u32) (IntKind.wrap .u32 a) ||| (BitVec.ofInt (IntKind.bits .u32) (IntKind.wrap .u32 ((IntKind.wrap .u32 b)*2 ^ (min (Int.toNat (8:Int)) (IntKind.bits .u32)))))).toNat:Int))) ||| (BitVec.ofInt (IntKind.bits .u32) (IntKind.wrap .u32 ((IntKind.wrap .u32 c)*2 ^ (min (Int.toNat (16:Int)) (IntKind.bits .u32)))))).toNat:Int))) ||| (BitVec.ofInt (IntKind.bits .u32) (IntKind.wrap .u32 ((IntKind.wrap .u32 d)*2 ^ (min (Int.toNat (24:Int)) (IntKind.bits .u32)))))).toNat:Int))=litW a b c d:=by
 have comm: ∀ (x y z:Int) (n:Nat),(((BitVec.ofInt 32 y ||| BitVec.ofInt 32 x).toNat:Int))=z→((BitVec.ofInt (IntKind.bits .u32) x ||| BitVec.ofInt (IntKind.bits .u32) y).toNat:Int)=z:=by
  intro x y z n h
  rw [← h]
  show ((BitVec.ofInt 32 x ||| BitVec.ofInt 32 y).toNat:Int)=_
  rw [BitVec.or_comm]
 rw [show min (Int.toNat (8:Int)) (IntKind.bits .u32)=8 from rfl,show min (Int.toNat (16:Int)) (IntKind.bits .u32)=16 from rfl,show min (Int.toNat (24:Int)) (IntKind.bits .u32)=24 from rfl]
 rw [bG (n:=a) ⟨by omega,by omega⟩,bG (n:=b) ⟨by omega,by omega⟩,bG (n:=c) ⟨by omega,by omega⟩,bG (n:=d) ⟨by omega,by omega⟩]
 rw [show (2:Int) ^ 8=256 from rfl,show (2:Int) ^ 16=65536 from rfl,show (2:Int) ^ 24=16777216 from rfl]
 rw [bG (n:=b*256) ⟨by omega,by omega⟩,bG (n:=c*65536) ⟨by omega,by omega⟩,bG (n:=d*16777216) ⟨by omega,by omega⟩]
 have e1:=comm a (b*256) _ 0 (oS (P:=256) (S:=0) (a:=b) (r:=a) (n:=8) rfl ha (by omega) (by omega))
 rw [e1,bG (n:=b*256+a) ⟨by omega,by omega⟩]
 have e2:=comm (b*256+a) (c*65536) _ 0 (oS (P:=65536) (S:=0) (a:=c) (r:=b*256+a) (n:=16) rfl (by omega) (by omega) (by omega))
 rw [e2,bG (n:=c*65536+(b*256+a)) ⟨by omega,by omega⟩]
 have e3:=comm (c*65536+(b*256+a)) (d*16777216) _ 0 (oS (P:=16777216) (S:=0) (a:=d) (r:=c*65536+(b*256+a)) (n:=24) rfl (by omega) (by omega) (by omega))
 rw [e3,bG (n:=d*16777216+(c*65536+(b*256+a))) ⟨by omega,by omega⟩]
 unfold litW; omega
theorem pq {l:List Int} {Q:Int→Prop} (hl:4≤l.length) (hb:bytesL l) (H:Q (litW (l.getD 0 0) (l.getD 1 0) (l.getD 2 0) (l.getD 3 0))):gx l Q:=by
 unfold gx
 refine ixd (n:=0) rfl (by omega) (ixd (n:=1) rfl (by omega) (ixd (n:=2) rfl (by omega) (ixd (n:=3) rfl (by omega) ?_)))
 rw [Za (bS hb _) (bS hb _) (bS hb _) (bS hb _)]
 exact H
theorem pz {a b c d:Int} {Q:Int→Prop} (ha:0≤a∧a<256) (hb:0≤b∧b<256) (hc:0≤c∧c<256) (hd:0≤d∧d<256) (H:Q (litW a b c d)):dG [a,b,c,d] Q:=by
 unfold dG
 refine ixr (by decide) rfl (ixr (by decide) rfl (ixr (by decide) rfl (ixr (by decide) rfl ?_)))
 rw [bG (n:=a) ⟨by omega,by omega⟩,bG (n:=b) ⟨by omega,by omega⟩,bG (n:=c) ⟨by omega,by omega⟩,bG (n:=d) ⟨by omega,by omega⟩,
  bG (n:=256*b) ⟨by omega,by omega⟩,bG (n:=65536*c) ⟨by omega,by omega⟩,bG (n:=16777216*d) ⟨by omega,by omega⟩,
  bG (n:=a+256*b) ⟨by omega,by omega⟩,bG (n:=a+256*b+65536*c) ⟨by omega,by omega⟩,bG (n:=a+256*b+65536*c+16777216*d) ⟨by omega,by omega⟩]
 rw [show a+256*b+65536*c+16777216*d=litW a b c d by unfold litW; omega]
 exact H
end Go.Pt
namespace Go.Pt
open Go Go.Wc Go.Pu
theorem fL {l:List Int} {n m k:Nat} {i j:Int} (hi:i=(n:Int)) (hj:j=(m:Int)) (h:n+k<m):(sub l i j).getD k 0=l.getD (n+k) 0:=by
 subst hi hj
 unfold sub
 rw [Int.toNat_natCast,Int.toNat_natCast,List.getD_eq_getElem?_getD,List.getD_eq_getElem?_getD,List.getElem?_drop,List.getElem?_take]
 rw [if_pos h]
theorem rj {l:List Int} {i j:Int} (h:bytesL l):bytesL (sub l i j):=fun x hx=>by
 unfold sub at hx
 exact h x (List.mem_of_mem_take (List.mem_of_mem_drop hx))
theorem xz {k:Vector Int 32} {n:Vector Int 12} {c:Int} {Q:aP.QT} (hk:bytesL k.toList) (hn:bytesL n.toList) (H: ∀ r:Vector Int 16,r.toList=firS k.toList n.toList c→Q r):aP k n c Q:=by
 have hkl:k.toList.length=32:=Vector.length_toList ..
 have hnl:n.toList.length=12:=Vector.length_toList ..
 have l2: ∀ (j t:Nat) (m:aP.V),t+j=3→m.dR=n→m.kJ=(t:Int)→m.w7.toList=(sigL++(wds k.toList 8++(c::wds n.toList t)))++List.replicate j 0→aP.L2 Q m:=by
  intro j
  induction j with
  | zero=>
   intro t m ht e1 e2 e3
   obtain rfl:t=3:=by omega
   refine aP.bW ?_
   unfold aP.B2
   rw [e2,decide_eq_false (by omega),ai]
   refine H _ ?_
   rw [e3,List.replicate_zero,List.append_nil]; rfl
  | succ j ih=>
   intro t m ht e1 e2 e3
   have hlen:(sigL++(wds k.toList 8++(c::wds n.toList t))).length=13+t:=by
    simp only [List.length_append,List.length_cons,jx]; show 4+_=_; omega
   refine aP.bW ?_
   unfold aP.B2
   rw [e2,decide_eq_true (by omega),av,e1,gJ,eR (n:=4*(t:Int)) (by omega),eR (n:=13+(t:Int)) (by omega),cu (by omega)]
   refine ⟨⟨by omega,by omega,by rw [hnl]; omega⟩, ?_⟩
   have hsl:=oc (l:=n.toList) (i:=4*(t:Int)) (j:=((12:Nat):Int)) (by rw [hnl]; omega)
   refine pq (by omega) (rj hn) ?_
   rw [fL (n:=4*t) (by omega) rfl (by omega),fL (n:=4*t) (by omega) rfl (by omega),fL (n:=4*t) (by omega) rfl (by omega),fL (n:=4*t) (by omega) rfl (by omega)]
   refine ixdv (n:=13+t) rfl (by omega) (by omega) ?_
   refine ih (t+1) _ (by omega) (by first | exact e1 | rfl) rfl ?_
   dsimp only
   rw [fe (i:=13+(t:Int)) (l:=sigL++(wds k.toList 8++(c::wds n.toList t))) (y:=0) (r:=List.replicate j 0) (by rw [e3]; rfl) (by rw [hlen]; omega)]
   congr 1
   rw [List.append_assoc,List.append_assoc,List.cons_append,← l6 n.toList t]
   rfl
 have l1: ∀ (j t:Nat) (m:aP.V),t+j=8→m.dn=k→m.dR=n→m.aU=c→m.v11=(t:Int)→m.w7.toList=(sigL++wds k.toList t)++List.replicate (j+4) 0→aP.L1 Q m:=by
  intro j
  induction j with
  | zero=>
   intro t m ht e1 e4 e5 e2 e3
   obtain rfl:t=8:=by omega
   have hlen:(sigL++wds k.toList 8).length=12:=by
    simp only [List.length_append,jx]; rfl
   refine aP.bD ?_
   unfold aP.B1
   rw [e2,decide_eq_false (by omega),ai]
   refine ixdv (n:=12) rfl rfl (by decide) ?_
   refine l2 3 0 _ (by omega) e4 rfl ?_
   dsimp only
   rw [fe (i:=(12:Int)) (l:=sigL++wds k.toList 8) (y:=0) (r:=List.replicate 3 0) (by rw [e3]; rfl) (by rw [hlen]; rfl)]
   rw [e5,List.append_assoc sigL]
   rfl
  | succ j ih=>
   intro t m ht e1 e4 e5 e2 e3
   have hlen:(sigL++wds k.toList t).length=4+t:=by
    simp only [List.length_append,jx]; rfl
   refine aP.bD ?_
   unfold aP.B1
   rw [e2,decide_eq_true (by omega),av,e1,gJ,eR (n:=4*(t:Int)) (by omega),eR (n:=4+(t:Int)) (by omega),cu (by omega)]
   refine ⟨⟨by omega,by omega,by rw [hkl]; omega⟩, ?_⟩
   have hsl:=oc (l:=k.toList) (i:=4*(t:Int)) (j:=((32:Nat):Int)) (by rw [hkl]; omega)
   refine pq (by omega) (rj hk) ?_
   rw [fL (n:=4*t) (by omega) rfl (by omega),fL (n:=4*t) (by omega) rfl (by omega),fL (n:=4*t) (by omega) rfl (by omega),fL (n:=4*t) (by omega) rfl (by omega)]
   refine ixdv (n:=4+t) rfl (by omega) (by omega) ?_
   refine ih (t+1) _ (by omega) (by first | exact e1 | rfl) e4 e5 rfl ?_
   dsimp only
   rw [fe (i:=4+(t:Int)) (l:=sigL++wds k.toList t) (y:=0) (r:=List.replicate (j+4) 0) (by rw [e3,show j+1+4=(j+4)+1 by omega]; rfl) (by rw [hlen]; omega)]
   congr 1
   rw [List.append_assoc,← l6 k.toList t]
   rfl
 unfold aP
 exact l1 8 0 _ (by omega) rfl rfl rfl rfl rfl
theorem uH (k n:List Int) (c:Int):(firS k n c).length=16:=by
 unfold firS; simp only [List.length_append,List.length_cons,jx]; rfl
theorem BX {first w:List Int} {t:Nat}:IntKind.wrap .u8 (Int.fdiv (IntKind.wrap .u32 (w.getD (t / 4) 0+first.getD (t / 4) 0)) (2 ^ (min (Int.toNat (8*((t:Int) % 4))) (IntKind.bits .u32))))=IntKind.wrap .u8 (add (w.getD (t / 4) 0) (first.getD (t / 4) 0) / 2 ^ (8*(t % 4))):=by
 rw [show min (Int.toNat (8*((t:Int) % 4))) (IntKind.bits .u32)=8*(t % 4) by
  rw [show (8*((t:Int) % 4)).toNat=8*(t % 4) by omega]; exact Nat.min_eq_left (show _≤32 by omega)]
 rw [fd _ (oQ _).1]; rfl
theorem nL {k:Vector Int 32} {n:Vector Int 12} {c:Int} {Q:aE.QT} (hk:bytesL k.toList) (hn:bytesL n.toList) (H: ∀ r:Vector Int 64,r.toList=blkS k.toList n.toList c→Q r):aE k n c Q:=by
 obtain ⟨F,hF⟩: ∃ F,F=firS k.toList n.toList c:=⟨_,rfl⟩
 have M7:F.length=16:=by rw [hF,uH]
 have l4: ∀ (j t:Nat) (m:aE.V),t+j=64→m.jo=(t:Int)→m.aH.toList=F→m.w8.toList=rndS F 10→m.iA.toList=outL F (rndS F 10) t++List.replicate j 0→aE.L4 Q m:=by
  intro j
  induction j with
  | zero=>
   intro t m ht e1 e2 e3 e4
   obtain rfl:t=64:=by omega
   refine aE.jP ?_
   unfold aE.B4
   rw [e1,decide_eq_false (by omega),ai]
   refine H _ ?_
   rw [e4,List.replicate_zero,List.append_nil,hF]; rfl
  | succ j ih=>
   intro t m ht e1 e2 e3 e4
   refine aE.jP ?_
   unfold aE.B4
   rw [e1,decide_eq_true (by omega),av]
   rw [Rw (by omega),Lg (by omega),eR (n:=(t:Int) / 4) (by omega),eR (n:=8*((t:Int) % 4)) (by omega),cu (by omega)]
   refine ixdv (n:=t / 4) e3 (by omega) (by omega) (ixdv (n:=t / 4) e2 (by omega) (by omega) ?_)
   refine ⟨by omega,ixdv (n:=t) rfl rfl (by omega) ?_⟩
   refine ih (t+1) _ (by omega) rfl e2 e3 ?_
   dsimp only
   rw [fe (i:=(t:Int)) (l:=outL F (rndS F 10) t) (y:=0) (r:=List.replicate j 0) (by rw [e4]; rfl) (by rw [pn]),BX,q7]
 have l1: ∀ (j r:Nat) (m:aE.V),r+j=10→m.v20=(r:Int)→m.aH.toList=F→m.w8.toList=rndS F r→aE.L1 Q m:=by
  intro j
  induction j with
  | zero=>
   intro r m hr e1 e2 e3
   obtain rfl:r=10:=by omega
   refine aE.bD ?_
   unfold aE.B1
   rw [e1,decide_eq_false (by omega),ai]
   exact l4 64 0 _ (by omega) rfl e2 e3 (by dsimp only; exact Vector.toList_replicate ..)
  | succ j ih=>
   intro r m hr e1 e2 e3
   have l3: ∀ (j' t:Nat) (m':aE.V),t+j'=4→m'.v20=(r:Int)→m'.fC=(t:Int)→m'.aH.toList=F→m'.w8.toList=diaS (colS (rndS F r) 4) t→aE.L3 (aE.L1 Q) Q m':=by
    intro j'
    induction j' with
    | zero=>
     intro t m' ht a1 a2 a3 a4
     obtain rfl:t=4:=by omega
     refine aE.fF _ ?_
     unfold aE.B3
     rw [a2,decide_eq_false (by omega),ai]
     exact ih (r+1) _ (by omega) (by dsimp only; rw [a1,cu (by omega)]) a3 a4
    | succ j' Bd=>
     intro t m' ht a1 a2 a3 a4
     refine aE.fF _ ?_
     unfold aE.B3
     rw [a2,decide_eq_true (by omega),av]
     rw [eR (n:=(t:Int)+1) (by omega),eR (n:=(t:Int)+2) (by omega),eR (n:=(t:Int)+3) (by omega),Lg (by omega),Lg (by omega),Lg (by omega),
      eR (n:=4+((t:Int)+1) % 4) (by omega),eR (n:=8+((t:Int)+2) % 4) (by omega),eR (n:=12+((t:Int)+3) % 4) (by omega)]
     refine l5 (a:=t) (b:=4+(t+1) % 4) (c:=8+(t+2) % 4) (d:=12+(t+3) % 4) a4 rfl (by omega) (by omega) (by omega) (by omega) (by omega) (by omega) (by omega) fun v hv=> ?_
     exact Bd (t+1) _ (by omega) a1 (by dsimp only; omega) a3 (by dsimp only; rw [hv,q6]; rfl)
   have l2: ∀ (j' t:Nat) (m':aE.V),t+j'=4→m'.v20=(r:Int)→m'.fU=(t:Int)→m'.aH.toList=F→m'.w8.toList=colS (rndS F r) t→aE.L2 (aE.L1 Q) Q m':=by
    intro j'
    induction j' with
    | zero=>
     intro t m' ht a1 a2 a3 a4
     obtain rfl:t=4:=by omega
     refine aE.bW _ ?_
     unfold aE.B2
     rw [a2,decide_eq_false (by omega),ai]
     exact l3 4 0 _ (by omega) a1 rfl a3 a4
    | succ j' Bd=>
     intro t m' ht a1 a2 a3 a4
     refine aE.bW _ ?_
     unfold aE.B2
     rw [a2,decide_eq_true (by omega),av]
     rw [eR (n:=(t:Int)+1) (by omega),eR (n:=4+(t:Int)) (by omega),eR (n:=8+(t:Int)) (by omega),eR (n:=12+(t:Int)) (by omega)]
     refine l5 (a:=t) (b:=4+t) (c:=8+t) (d:=12+t) a4 rfl (by omega) (by omega) (by omega) (by omega) (by omega) (by omega) (by omega) fun v hv=> ?_
     exact Bd (t+1) _ (by omega) a1 (by dsimp only; omega) a3 (by dsimp only; rw [hv,qZ]; rfl)
   refine aE.bD ?_
   unfold aE.B1
   rw [e1,decide_eq_true (by omega),av]
   exact l2 4 0 _ (by omega) (by first | exact e1 | rfl) rfl e2 e3
 unfold aE
 refine xz hk hn fun r hr=> ?_
 exact l1 10 0 _ (by omega) rfl (by dsimp only; rw [hr,hF]) (by dsimp only; rw [hr,hF]; rfl)
end Go.Pt
namespace Go.Pt
open Go Go.Wc Go.Pu
def plN:List (Nat × Nat × Nat × Nat):=[(0,4,8,12),(1,5,9,13),(2,6,10,14),(3,7,11,15),(0,5,10,15),(1,6,11,12),(2,7,8,13),(3,4,9,14)]
def plI (p:Nat × Nat × Nat × Nat):List Int:=[(p.1:Int),(p.2.1:Int),(p.2.2.1:Int),(p.2.2.2:Int)]
theorem IF (w:List Int):dblS w=plN.foldl qAt w:=by
 unfold dblS diaS colS plN
 simp only [List.range,List.range.loop,List.foldl_cons,List.foldl_nil,colP,diaP]
theorem M8: ∀ p ∈ plN,p.1<16∧p.2.1<16∧p.2.2.1<16∧p.2.2.2<16:=by decide
theorem ixs {l:List Int} {i:Int} {n:Nat} {K:Int→Prop} (hi:i=(n:Int)) (h:n<l.length) (H: ∀ x,K x):ixP l i K:=iD n hi h (H _)
theorem uI {k:Vector Int 32} {n:Vector Int 12} {c:Int} {Q:aa.QT} (hk:bytesL k.toList) (hn:bytesL n.toList) (H: ∀ r:Vector Int 64,r.toList=blkS k.toList n.toList c→Q r):aa k n c Q:=by
 have hkl:k.toList.length=32:=Vector.length_toList ..
 have hnl:n.toList.length=12:=Vector.length_toList ..
 obtain ⟨F,hF⟩: ∃ F,F=firS k.toList n.toList c:=⟨_,rfl⟩
 have M7:F.length=16:=by rw [hF,uH]
 have M9: ∀ r,(rndS F r).length=16:=fun r=>by rw [uG,M7]
 obtain ⟨R,hR⟩: ∃ R,R=rndS F 10:=⟨_,rfl⟩
 have hRl:R.length=16:=by rw [hR]; exact M9 10
 have l7: ∀ (j t:Nat) (m:aa.V),t+j=16→m.i17=(t:Int)→m.aH=F→m.mI=R→m.jQ.toList=outL F (R) (4*t)++List.replicate (4*j) 0→aa.L7 Q m:=by
  intro j
  induction j with
  | zero=>
   intro t m ht e1 e2 e3 e4
   obtain rfl:t=16:=by omega
   refine aa.GM ?_
   unfold aa.B7
   rw [e1,decide_eq_false (by omega),ai]
   refine H _ ?_
   rw [e4]; simp only [Nat.mul_zero,List.replicate_zero,List.append_nil]; rw [hR,hF]; rfl
  | succ j ih=>
   intro t m ht e1 e2 e3 e4
   have l8: ∀ (j' u:Nat) (m':aa.V),u+j'=4→m'.BK=(u:Int)→m'.i17=(t:Int)→m'.aH=F→m'.mI=R→m'.Mf=add ((R).getD t 0) (F.getD t 0)→m'.jQ.toList=outL F (R) (4*t+u)++List.replicate (4*j+j') 0→aa.L8 (aa.L7 Q) Q m':=by
    intro j'
    induction j' with
    | zero=>
     intro u m' hu a1 a2 a3 a4 a5 a6
     obtain rfl:u=4:=by omega
     refine aa.GL _ ?_
     unfold aa.B8
     rw [a1,decide_eq_false (by omega),ai,a2,cu (by omega)]
     exact ih (t+1) _ (by omega) rfl a3 a4 (by dsimp only; rw [a6]; rfl)
    | succ j' Bd=>
     intro u m' hu a1 a2 a3 a4 a5 a6
     refine aa.GL _ ?_
     unfold aa.B8
     rw [a1,a2,decide_eq_true (by omega),av,eR (n:=8*(u:Int)) (by omega),eR (n:=4*(t:Int)) (by omega),eR (n:=4*(t:Int)+(u:Int)) (by omega),cu (by omega)]
     refine fE (by omega) (ixdv (n:=4*t+u) rfl (by omega) (by omega) ?_)
     refine Bd (u+1) _ (by omega) rfl (by first | exact a2 | rfl) a3 a4 a5 ?_
     dsimp only
     rw [fe (i:=4*(t:Int)+(u:Int)) (l:=outL F (R) (4*t+u)) (y:=0) (r:=List.replicate (4*j+j') 0) (by rw [a6]; rfl) (by rw [pn]; omega)]
     congr 1
     rw [show 4*t+(u+1)=(4*t+u)+1 by omega,← q7]
     congr 1
     have e1:(4*t+u) / 4=t:=by omega
     have e2:(4*t+u) % 4=u:=by omega
     rw [e1,e2,a5]
     rw [show min (Int.toNat (8*(u:Int))) (IntKind.bits .u32)=8*u by
      rw [show (8*(u:Int)).toNat=8*u by omega]; exact Nat.min_eq_left (show _≤32 by omega)]
     rw [fd _ (uy _ _).1]
   refine aa.GM ?_
   unfold aa.B7
   rw [e1,e2,e3,decide_eq_true (by omega),av]
   refine ixd rfl (by rw [hRl]; omega) (ixd rfl (by omega) ?_)
   exact l8 4 0 _ (by omega) rfl (by first | exact e1 | rfl) (by first | exact e2 | rfl) (by first | exact e3 | rfl) rfl (by dsimp only; rw [e4,show 4*(j+1)=4*j+4 by omega]; rfl)
 have l3: ∀ (j r:Nat) (m:aa.V),r+j=10→m.dH=(r:Int)→m.aH=F→m.mI=rndS F r→aa.L3 Q m:=by
  intro j
  induction j with
  | zero=>
   intro r m hr e1 e2 e3
   obtain rfl:r=10:=by omega
   refine aa.fF ?_
   unfold aa.B3
   rw [e1,decide_eq_false (by omega),ai]
   exact l7 16 0 _ (by omega) rfl e2 (e3.trans hR.symm) (by dsimp only; exact Vector.toList_replicate ..)
  | succ j ih=>
   intro r m hr e1 e2 e3
   have l4: ∀ (j' t:Nat) (m':aa.V),t+j'=8→m'.dH=(r:Int)→m'.aH=F→m'.Bc=plN.map plI→m'.qU=8→m'.lT=(t:Int)→m'.mI=(plN.take t).foldl qAt (rndS F r)→aa.L4 (aa.L3 Q) Q m':=by
    intro j'
    induction j' with
    | zero=>
     intro t m' ht a1 a2 a3 a4 a5 a6
     obtain rfl:t=8:=by omega
     refine aa.jP _ ?_
     unfold aa.B4
     rw [a5,a4,decide_eq_false (by omega),ai,a1,cu (by omega)]
     exact ih (r+1) _ (by omega) rfl a2 (by dsimp only; rw [a6]; exact (IF _).symm)
    | succ j' Bd=>
     intro t m' ht a1 a2 a3 a4 a5 a6
     have htl:t<plN.length:=by show t<8; omega
     obtain ⟨p,hp⟩: ∃ p,p=plN[t]:=⟨_,rfl⟩
     obtain ⟨h1,h2,h3,h4⟩:=M8 p (by rw [hp]; exact List.getElem_mem htl)
     obtain ⟨w,hw⟩: ∃ w,w=(plN.take t).foldl qAt (rndS F r):=⟨_,rfl⟩
     have hwl:w.length=16:=by
      rw [hw]
      have: ∀ (ps:List (Nat × Nat × Nat × Nat)) (w:List Int),(ps.foldl qAt w).length=w.length:=by
       intro ps
       induction ps with
       | nil=>intro w; rfl
       | cons p ps ih=>intro w; rw [List.foldl_cons,ih,sK]
      rw [this,M9]
     have hnext:(plN.take (t+1)).foldl qAt (rndS F r)=qAt w p:=by rw [eB htl,List.foldl_append,← hw,← hp]; rfl
     obtain ⟨a,b,c',d⟩:=p
     dsimp only at h1 h2 h3 h4
     have Bb: ∀ m2:aa.V,m2.dH=(r:Int)→m2.aH=F→m2.Bc=plN.map plI→m2.qU=8→m2.lT=(t:Int)→m2.mI=w→m2.En=plI (a,b,c',d)→m2.Qz=qS (w.getD a 0) (w.getD b 0) (w.getD c' 0) (w.getD d 0)→ ∀ bb,aa.QA (aa.L3 Q) (aa.L4 (aa.L3 Q) Q) Q bb m2:=by
      intro m2 b1 b2 b3 b4 b5 b6 b7 b8 bb
      unfold aa.QA aa.K6
      refine aa.um _ _ ?_
      unfold aa.B5; dsimp only
      rw [show decide ((0:Int)<4)=true from rfl,av,b7,b8,b6]
      refine ixr (by decide) rfl (ixdv (n:=0) rfl rfl (by decide) (ixs (n:=a) rfl (by omega) fun _=> ?_))
      refine aa.um _ _ ?_
      unfold aa.B5; dsimp only
      rw [show decide (IntKind.wrap .i64 ((0:Int)+1)<4)=true from rfl,av]
      refine ixr (by decide) rfl (ixdv (n:=1) rfl rfl (by decide) (ixs (n:=b) rfl (by rw [List.length_set]; omega) fun _=> ?_))
      refine aa.um _ _ ?_
      unfold aa.B5; dsimp only
      rw [show decide (IntKind.wrap .i64 (IntKind.wrap .i64 ((0:Int)+1)+1)<4)=true from rfl,av]
      refine ixr (by decide) rfl (ixdv (n:=2) rfl rfl (by decide) (ixs (n:=c') rfl (by rw [List.length_set,List.length_set]; omega) fun _=> ?_))
      refine aa.um _ _ ?_
      unfold aa.B5; dsimp only
      rw [show decide (IntKind.wrap .i64 (IntKind.wrap .i64 (IntKind.wrap .i64 ((0:Int)+1)+1)+1)<4)=true from rfl,av]
      refine ixr (by decide) rfl (ixdv (n:=3) rfl rfl (by decide) (ixs (n:=d) rfl (by rw [List.length_set,List.length_set,List.length_set]; omega) fun _=> ?_))
      refine aa.um _ _ ?_
      unfold aa.B5; dsimp only
      rw [show decide (IntKind.wrap .i64 (IntKind.wrap .i64 (IntKind.wrap .i64 (IntKind.wrap .i64 ((0:Int)+1)+1)+1)+1)<4)=false from rfl,ai,b5,cu (by omega)]
      refine Bd (t+1) _ (by omega) b1 b2 b3 b4 rfl ?_
      dsimp only
      rw [hnext]
      unfold qAt; dsimp only
      simp only [Int.toNat_natCast]
     refine aa.jP _ ?_
     unfold aa.B4
     rw [a5,a4,decide_eq_true (by omega),av,a3,a6,← hw]
     refine iD t rfl (by rw [List.length_map]; exact htl) ?_
     rw [List.getElem_map,← hp]
     refine ixr (by decide) rfl (ixd (n:=a) rfl (by omega) (ixr (by decide) rfl (ixd (n:=b) rfl (by omega) (ixr (by decide) rfl (ixd (n:=c') rfl (by omega) (ixr (by decide) rfl (ixd (n:=d) rfl (by omega) ⟨?_, ?_⟩)))))))
     ·refine kN ?_
      refine Bb _ ?_ ?_ ?_ ?_ ?_ ?_ ?_ ?_ _ <;> first | rfl | exact a1 | exact a2 | exact a3 | exact a4 | exact a5
     ·refine kN ?_
      refine Bb _ ?_ ?_ ?_ ?_ ?_ ?_ ?_ ?_ _ <;> first | rfl | exact a1 | exact a2 | exact a3 | exact a4 | exact a5
   refine aa.fF ?_
   unfold aa.B3
   rw [e1,decide_eq_true (by omega),av]
   show aa.L4 _ Q _
   exact l4 8 0 _ (by omega) (by first | exact e1 | rfl) e2 rfl rfl rfl e3
 have l2: ∀ (j t:Nat) (m:aa.V),t+j=3→m.dR=n→m.i9=(t:Int)→m.aH=sigL++(wds k.toList 8++(c::wds n.toList t))→aa.L2 Q m:=by
  intro j
  induction j with
  | zero=>
   intro t m ht e1 e2 e3
   obtain rfl:t=3:=by omega
   refine aa.bW ?_
   unfold aa.B2
   have e4:m.aH=F:=by rw [e3,hF]; rfl
   rw [e2,decide_eq_false (by omega),ai]
   refine ⟨bO (by rw [e4]; simp only [List.length_nil]; omega), ?_⟩
   exact l3 10 0 _ (by omega) rfl e4 (by dsimp only; rw [e4]; rfl)
  | succ j ih=>
   intro t m ht e1 e2 e3
   have hlen:(sigL++(wds k.toList 8++(c::wds n.toList t))).length=13+t:=by
    simp only [List.length_append,List.length_cons,jx]; show 4+_=_; omega
   refine aa.bW ?_
   unfold aa.B2
   rw [e2,decide_eq_true (by omega),av,e1,gJ,eR (n:=4*(t:Int)) (by omega),eR (n:=4*(t:Int)+4) (by omega),cu (by omega)]
   refine ⟨⟨by omega,by omega,by rw [hnl]; omega⟩, ?_⟩
   rw [IC (n:=4*t) (by omega) (by omega) (by rw [hnl]; omega)]
   refine pz (bS hn _) (bS hn _) (bS hn _) (bS hn _) ⟨bO (by rw [e3,hlen]; simp only [List.length_cons,List.length_nil]; omega), ?_⟩
   refine ih (t+1) _ (by omega) (by first | exact e1 | rfl) rfl ?_
   dsimp only
   rw [e3,List.append_assoc,List.append_assoc,List.cons_append,← l6 n.toList t]
   rfl
 have l1: ∀ (j t:Nat) (m:aa.V),t+j=8→m.dn=k→m.dR=n→m.aU=c→m.i8=(t:Int)→m.aH=sigL++wds k.toList t→aa.L1 Q m:=by
  intro j
  induction j with
  | zero=>
   intro t m ht e1 e4 e5 e2 e3
   obtain rfl:t=8:=by omega
   have hlen:(sigL++wds k.toList 8).length=12:=by simp only [List.length_append,jx]; rfl
   refine aa.bD ?_
   unfold aa.B1
   rw [e2,decide_eq_false (by omega),ai,e3,e5]
   refine ⟨bO (by rw [hlen]; simp only [List.length_cons,List.length_nil]; omega), ?_⟩
   refine l2 3 0 _ (by omega) e4 rfl ?_
   dsimp only
   rw [List.append_assoc]; rfl
  | succ j ih=>
   intro t m ht e1 e4 e5 e2 e3
   have hlen:(sigL++wds k.toList t).length=4+t:=by simp only [List.length_append,jx]; rfl
   refine aa.bD ?_
   unfold aa.B1
   rw [e2,decide_eq_true (by omega),av,e1,gJ,eR (n:=4*(t:Int)) (by omega),eR (n:=4*(t:Int)+4) (by omega),cu (by omega)]
   refine ⟨⟨by omega,by omega,by rw [hkl]; omega⟩, ?_⟩
   rw [IC (n:=4*t) (by omega) (by omega) (by rw [hkl]; omega)]
   refine pz (bS hk _) (bS hk _) (bS hk _) (bS hk _) ⟨bO (by rw [e3,hlen]; simp only [List.length_cons,List.length_nil]; omega), ?_⟩
   refine ih (t+1) _ (by omega) (by first | exact e1 | rfl) e4 e5 rfl ?_
   dsimp only
   rw [e3,List.append_assoc,← l6 k.toList t]
   rfl
 unfold aa
 exact l1 8 0 _ (by omega) rfl rfl rfl rfl rfl
end Go.Pt
namespace Go.Pt
open Go Go.Wc Go.Pu
def X8 (a b:Int):Int:=IntKind.wrap .u8 (((BitVec.ofInt (IntKind.bits .u8) a ^^^ (BitVec.ofInt (IntKind.bits .u8) b)).toNat:Int))
def ctr (c:Int) (q:Nat):Int:=IntKind.wrap .u32 (c+(q:Int))
theorem GW {c:Int} (h:iO c):ctr c 0=c:=by unfold ctr; rw [show c+((0:Nat):Int)=c by omega]; exact bG h
theorem GX (c:Int) (q:Nat):IntKind.wrap .u32 (ctr c q+1)=ctr c (q+1):=by unfold ctr; simp only [wrap_u32]; omega
def strS (k n:List Int) (c:Int) (i:Nat):Int:=(blkS k n (ctr c (i / 64))).getD (i % 64) 0
def turnL (k n:List Int) (c:Int) (b:List Int) (t:Nat):List Int:=(List.range t).map fun i=>X8 (b.getD i 0) (strS k n c i)
theorem gR (k n:List Int) (c:Int) (b:List Int) (t:Nat):(turnL k n c b t).length=t:=by unfold turnL; simp
theorem xA (k n:List Int) (c:Int) (b:List Int) (t:Nat):turnL k n c b t++[X8 (b.getD t 0) (strS k n c t)]=turnL k n c b (t+1):=by unfold turnL; rw [List.range_succ,List.map_append]; rfl
theorem Ff (a b:Int):0≤X8 a b∧X8 a b<256:=sI _
theorem uJ (k n:List Int) (c:Int) (b:List Int) (t:Nat):bytesL (turnL k n c b t):=by
 intro x hx
 obtain ⟨i,_,rfl⟩:=List.mem_map.1 hx
 exact Ff _ _
def cipS (k n:List Int) (c:Int) (b:List Int):List Int:=turnL k n c b b.length
theorem uK (k n:List Int) (c:Int):(blkS k n c).length=64:=pn _ _ _
theorem pE {l r:List Int} {i:Nat} (h:l.length≤i):(l++r).getD i 0=r.getD (i - l.length) 0:=by
 rw [List.getD_eq_getElem?_getD,List.getD_eq_getElem?_getD,List.getElem?_append_right h]
theorem Ar {l:List Int} {t i:Nat}:(l.drop t).getD i 0=l.getD (t+i) 0:=by
 rw [List.getD_eq_getElem?_getD,List.getD_eq_getElem?_getD,List.getElem?_drop]
theorem Au {l:List Int} {t:Nat} (h:t<l.length):l.drop t=l.getD t 0::l.drop (t+1):=by
 rw [List.drop_eq_getElem_cons h,List.getD_eq_getElem?_getD,List.getElem?_eq_getElem h]; rfl
theorem BY {k n:List Int} {c:Int} {b:List Int} {t:Nat}:(turnL k n c b t++b.drop t).getD t 0=b.getD t 0:=by
 rw [pE (by rw [gR]; omega),gR,Nat.sub_self,Ar]; rfl
theorem uL {k n:List Int} {c:Int} {b:List Int} {t:Nat} (h:t<b.length):(turnL k n c b t++b.drop t).set t (X8 (b.getD t 0) (strS k n c t))=turnL k n c b (t+1)++b.drop (t+1):=by
 rw [List.set_append_right _ _ (by rw [gR]; omega),gR,Nat.sub_self,Au h,List.set_cons_zero,← xA,List.append_assoc]; rfl
theorem l9 {k n:List Int} {c:Int} {b:List Int} {t:Nat} (h:t≤b.length):(turnL k n c b t++b.drop t).length=b.length:=by
 rw [List.length_append,gR,List.length_drop]; omega
theorem xB {k:Vector Int 32} {n:Vector Int 12} {c:Int} {b:List Int} {Q:bz.QT} (hk:bytesL k.toList) (hn:bytesL n.toList) (hc:iO c) (hb:b.length≤1000000) (H:Q (cipS k.toList n.toList c b)):bz k n c b Q:=by
 obtain ⟨kl,hkl⟩: ∃ l,l=k.toList:=⟨_,rfl⟩
 obtain ⟨nl,hnl⟩: ∃ l,l=n.toList:=⟨_,rfl⟩
 rw [← hkl,← hnl] at H
 have l1: ∀ (f q:Nat) (m:bz.V),(b.length+63) / 64≤q+f→q≤(b.length+63) / 64→m.fG=k→m.eL=n→m.aU=ctr c q→m.jq=((64*q:Nat):Int)→m.dX=turnL kl nl c b (min (64*q) b.length)++b.drop (min (64*q) b.length)→bz.L1 Q m:=by
  intro f
  induction f with
  | zero=>
   intro q m h1 h2 e1 e2 e3 e4 e5
   refine bz.bD ?_
   unfold bz.B1
   have hlen:m.dX.length=b.length:=by rw [e5,l9 (by omega)]
   rw [hlen,if_neg (by omega),e4,decide_eq_false (by omega),ai,e5,Nat.min_eq_right (by omega),List.drop_of_length_le (Nat.le_refl _),List.append_nil]
   exact H
  | succ f ih=>
   intro q m h1 h2 e1 e2 e3 e4 e5
   refine bz.bD ?_
   unfold bz.B1
   have hlen:m.dX.length=b.length:=by rw [e5,l9 (by omega)]
   rw [hlen,if_neg (by omega),e4]
   by_cases hlt:64*q<b.length
   ·rw [decide_eq_true (by omega),av,e1,e2]
    refine nL hk hn fun s hs=> ?_
    rw [← hkl,← hnl,e3] at hs
    rw [eR (n:=((64*q:Nat):Int)+64) (by omega)]
    obtain ⟨hi,ehi,hh⟩: ∃ hi:Nat,(if (b.length:Int)<((64*q:Nat):Int)+64 then (b.length:Int) else ((64*q:Nat):Int)+64)=(hi:Int)∧hi=min (64*(q+1)) b.length:=by
     by_cases Qy:(b.length:Int)<((64*q:Nat):Int)+64
     ·exact ⟨b.length,by rw [if_pos Qy],by omega⟩
     ·exact ⟨64*(q+1),by rw [if_neg Qy]; omega,by omega⟩
    rw [ehi]
    refine ⟨⟨by omega,by omega,by omega⟩, ?_⟩
    have hsl:=oc (l:=m.dX) (i:=((64*q:Nat):Int)) (j:=(hi:Int)) (by omega)
    have l2: ∀ (j t:Nat) (m':bz.V),t+j=hi - 64*q→m'.fG=k→m'.eL=n→m'.aU=ctr c q→m'.jq=((64*q:Nat):Int)→m'.n7=s→m'.LQ=((hi - 64*q:Nat):Int)→m'.fC=(t:Int)→m'.dX=turnL kl nl c b (64*q+t)++b.drop (64*q+t)→bz.L2 (bz.L1 Q) Q m':=by
     intro j
     induction j with
     | zero=>
      intro t m' ht a1 a2 a3 a4 a5 a6 a7 a8
      refine bz.bW _ ?_
      unfold bz.B2
      rw [a6,a7,dge (by omega),ai,a3,GX,a4,eR (n:=((64*q:Nat):Int)+64) (by omega)]
      exact ih (q+1) _ (by omega) (by omega) a1 a2 rfl (by dsimp only; omega) (by dsimp only; rw [a8,show 64*q+t=min (64*(q+1)) b.length by omega])
     | succ j Bd=>
      intro t m' ht a1 a2 a3 a4 a5 a6 a7 a8
      have rm:m'.dX.length=b.length:=by rw [a8,l9 (by omega)]
      refine bz.bW _ ?_
      unfold bz.B2
      rw [a6,a7,a4,dlt (by omega),av,eR (n:=((64*q:Nat):Int)+(t:Int)) (by omega),cu (by omega)]
      refine ixd (n:=64*q+t) (by omega) (by omega) ?_
      refine ixdv (n:=t) (l:=blkS kl nl (ctr c q)) (by rw [a5]; exact hs) rfl (by omega) ?_
      refine ixs (n:=64*q+t) (by omega) (by omega) fun _=> ?_
      refine Bd (t+1) _ (by omega) a1 a2 a3 (by first | exact a4 | rfl) a5 (by first | exact a6 | rfl) rfl ?_
      dsimp only
      rw [a8,BY]
      rw [show (((64*q:Nat):Int)+(t:Int)).toNat=64*q+t by omega]
      have hst:(blkS kl nl (ctr c q)).getD t 0=strS kl nl c (64*q+t):=by
       unfold strS
       rw [show (64*q+t) / 64=q by omega,show (64*q+t) % 64=t by omega]
      rw [hst]
      exact uL (by omega)
    refine l2 (hi - 64*q) 0 _ (by omega) (by first | exact e1 | rfl) (by first | exact e2 | rfl) e3 (by first | exact e4 | rfl) rfl (by dsimp only; omega) rfl ?_
    dsimp only
    rw [e5,Nat.min_eq_left (by omega)]; rfl
   ·rw [decide_eq_false (by omega),ai,e5,Nat.min_eq_right (by omega),List.drop_of_length_le (Nat.le_refl _),List.append_nil]
    exact H
 unfold bz
 refine ⟨bO (by simp only [List.length_nil]; omega), ?_⟩
 exact l1 ((b.length+63) / 64) 0 _ (by omega) (Nat.zero_le _) rfl rfl (GW hc).symm rfl (by dsimp only; rw [Nat.mul_zero,Nat.zero_min]; rfl)
def strm (k n:List Int) (c:Int):Nat→List Int
 | 0=>[]
 | q+1=>strm k n c q++blkS k n (ctr c q)
theorem jT (k n:List Int) (c:Int): ∀ q,(strm k n c q).length=64*q
 | 0=>rfl
 | q+1=>by show (strm k n c q++blkS k n (ctr c q)).length=_; rw [List.length_append,jT k n c q,uK]; omega
theorem uM (k n:List Int) (c:Int): ∀ q i,i<64*q→(strm k n c q).getD i 0=strS k n c i
 | 0,i,h=>by omega
 | q+1,i,h=>by
  show (strm k n c q++blkS k n (ctr c q)).getD i 0=_
  have hl:=jT k n c q
  by_cases h1:i<64*q
  ·rw [jS (by omega),uM k n c q i h1]
  ·rw [pE (by omega),hl]
   unfold strS
   rw [show i / 64=q by omega,show i % 64=i - 64*q by omega]
theorem sL {k:Vector Int 32} {n:Vector Int 12} {c:Int} {sz:Nat} {Q:aF.QT} (hk:bytesL k.toList) (hn:bytesL n.toList) (hc:iO c) (hb:sz≤1000000)
  (H: ∀ l:List Int,l.length=sz→(∀ i,i<sz→l.getD i 0=strS k.toList n.toList c i)→Q l):aF k n c (sz:Int) Q:=by
 have l2: ∀ (f q:Nat) (m:aF.V),(sz+63) / 64≤q+f→q≤(sz+63) / 64→m.fG=k→m.eL=n→m.aU=ctr c q→m.fV=(sz:Int)→m.dX=strm k.toList n.toList c q→aF.L2 Q m:=by
  have fin: ∀ (q:Nat) (m:aF.V),sz≤64*q→m.fV=(sz:Int)→m.dX=strm k.toList n.toList c q→(SlOk m.dX (0:Int) m.fV)∧Q (sub m.dX (0:Int) m.fV):=by
   intro q m hq e4 e5
   have hl:=jT k.toList n.toList c q
   rw [e4,e5]
   refine ⟨⟨by omega,by omega,by omega⟩, ?_⟩
   refine H _ ?_ ?_
   ·have:=oc (l:=strm k.toList n.toList c q) (i:=0) (j:=(sz:Int)) (by omega); omega
   ·intro i hi
    have Rz:=fL (l:=strm k.toList n.toList c q) (n:=0) (m:=sz) (k:=i) (i:=(0:Int)) (j:=(sz:Int)) rfl rfl (by omega)
    rw [Rz,Nat.zero_add]
    exact uM _ _ _ _ _ (by omega)
  intro f
  induction f with
  | zero=>
   intro q m h1 h2 e1 e2 e3 e4 e5
   have hl:=jT k.toList n.toList c q
   refine aF.bW ?_
   unfold aF.B2
   rw [decide_eq_false (by rw [e4,e5]; omega),ai]
   exact fin q m (by omega) e4 e5
  | succ f ih=>
   intro q m h1 h2 e1 e2 e3 e4 e5
   have hl:=jT k.toList n.toList c q
   refine aF.bW ?_
   unfold aF.B2
   by_cases hlt:64*q<sz
   ·rw [decide_eq_true (by rw [e4,e5]; omega),av,e1,e2]
    refine uI hk hn fun r hr=> ?_
    rw [e3] at hr
    refine ⟨bO (by rw [e5,hr,hl,uK]; omega), ?_⟩
    rw [e3,GX]
    exact ih (q+1) _ (by omega) (by omega) (by first | exact e1 | rfl) (by first | exact e2 | rfl) rfl e4 (by dsimp only; rw [e5,hr]; rfl)
   ·rw [decide_eq_false (by rw [e4,e5]; omega),ai]
    exact fin q m (by omega) e4 e5
 unfold aF
 rw [decide_eq_false (by omega),ai,decide_eq_false (by omega)]
 unfold aF.K1; dsimp only
 rw [ai]
 exact l2 ((sz+63) / 64) 0 _ (by omega) (Nat.zero_le _) rfl rfl (GW hc).symm rfl rfl
theorem uN {k:Vector Int 32} {n:Vector Int 12} {c:Int} {b:List Int} {Q:aY.QT} (hk:bytesL k.toList) (hn:bytesL n.toList) (hc:iO c) (hb:b.length≤1000000) (H:Q (cipS k.toList n.toList c b)):aY k n c b Q:=by
 unfold aY
 rw [if_neg (by omega)]
 refine sL hk hn hc hb fun s hs hg=>⟨bO (by simp only [List.length_nil]; omega), ?_⟩
 have l1: ∀ (j t:Nat) (m:aY.V),t+j=b.length→m.b3=b→m.s9=s→m.i11=(t:Int)→m.lU=turnL k.toList n.toList c b t++b.drop t→aY.L1 Q m:=by
  intro j
  induction j with
  | zero=>
   intro t m ht e1 e2 e3 e4
   obtain rfl:t=b.length:=by omega
   refine aY.bD ?_
   unfold aY.B1
   rw [e3,e2,dge (by omega),ai,e4,List.drop_of_length_le (Nat.le_refl _),List.append_nil]
   exact H
  | succ j ih=>
   intro t m ht e1 e2 e3 e4
   have hl:m.lU.length=b.length:=by rw [e4,l9 (by omega)]
   refine aY.bD ?_
   unfold aY.B1
   rw [e3,e2,e1,dlt (by omega),av,cu (by omega)]
   refine ixd (n:=t) rfl (by omega) (ixd (n:=t) rfl (by omega) (ixs (n:=t) rfl (by omega) fun _=> ?_))
   rw [hg t (by omega)]
   refine ih (t+1) _ (by omega) (by first | exact e1 | rfl) (by first | exact e2 | rfl) rfl ?_
   dsimp only
   rw [e4,Int.toNat_natCast]
   exact uL (by omega)
 exact l1 b.length 0 _ (by omega) rfl rfl rfl rfl
def nonB (e b:Int) (i:Nat):Int:=if i<4 then IntKind.wrap .u8 (e / 2 ^ (8*i)) else IntKind.wrap .u8 (b / 2 ^ (8*(i - 4)))
def nonL (e b:Int) (k:Nat):List Int:=(List.range k).map (nonB e b)
theorem pF (e b:Int) (k:Nat):(nonL e b k).length=k:=by unfold nonL; simp
theorem mV (e b:Int) (k:Nat):nonL e b k++[nonB e b k]=nonL e b (k+1):=by unfold nonL; rw [List.range_succ,List.map_append]; rfl
theorem pG (e b:Int) (k:Nat):bytesL (nonL e b k):=by
 intro x hx
 obtain ⟨i,_,rfl⟩:=List.mem_map.1 hx
 unfold nonB
 split <;> exact sI _
theorem IG {x:Int} (hx:0≤x) {i:Nat} (hi:i<4):IntKind.wrap .u8 (Int.fdiv x (2 ^ (min (Int.toNat (8*(i:Int))) (IntKind.bits .u32))))=IntKind.wrap .u8 (x / 2 ^ (8*i)):=by
 rw [show min (Int.toNat (8*(i:Int))) (IntKind.bits .u32)=8*i by
  rw [show (8*(i:Int)).toNat=8*i by omega]; exact Nat.min_eq_left (show _≤32 by omega),fd _ hx]
theorem Na {x:Int} (hx:0≤x) {i:Nat} (hi:i<8):IntKind.wrap .u8 (Int.fdiv x (2 ^ (min (Int.toNat (8*(i:Int))) (IntKind.bits .u64))))=IntKind.wrap .u8 (x / 2 ^ (8*i)):=by
 rw [show min (Int.toNat (8*(i:Int))) (IntKind.bits .u64)=8*i by
  rw [show (8*(i:Int)).toNat=8*i by omega]; exact Nat.min_eq_left (show _≤64 by omega),fd _ hx]
theorem xC {e b:Int} {Q:bA.QT} (he:0≤e) (hb:0≤b) (H: ∀ r:Vector Int 12,r.toList=nonL e b 12→Q r):bA e b Q:=by
 have l1: ∀ (j t:Nat) (m:bA.V),t+j=12→m.eE=e→m.dJ=b→m.v7=(t:Int)→m.n5.toList=nonL e b t++List.replicate j 0→bA.L1 Q m:=by
  intro j
  induction j with
  | zero=>
   intro t m ht e1 e2 e3 e4
   obtain rfl:t=12:=by omega
   refine bA.bD ?_
   unfold bA.B1
   rw [e3,decide_eq_false (by omega),ai]
   refine H _ ?_
   rw [e4,List.replicate_zero,List.append_nil]
  | succ j ih=>
   intro t m ht e1 e2 e3 e4
   have fin: ∀ (x:Int) (m':bA.V),x=nonB e b t→m'.eE=e→m'.dJ=b→m'.v7=(t:Int)→m'.n5=m.n5.setIfInBounds (Int.toNat (t:Int)) x→bA.K2 (bA.L1 Q) Q m':=by
    intro x m' hx a1 a2 a3 a4
    unfold bA.K2
    refine ih (t+1) _ (by omega) a1 a2 (by dsimp only; rw [a3,cu (by omega)]) ?_
    dsimp only
    rw [a4,fe (i:=(t:Int)) (l:=nonL e b t) (y:=0) (r:=List.replicate j 0) (by rw [e4]; rfl) (by rw [pF]),hx,mV]
   refine bA.bD ?_
   unfold bA.B1
   rw [e3,decide_eq_true (by omega),av]
   by_cases h:t<4
   ·rw [decide_eq_true (show (t:Int)<4 by omega),av,eR (n:=8*(t:Int)) (by omega),e1,IG he h]
    refine fE (by omega) (ixdv (n:=t) rfl rfl (by omega) ?_)
    exact fin _ _ (by unfold nonB; rw [if_pos h]) (by first | exact e1 | rfl) e2 (by first | exact e3 | rfl) rfl
   ·rw [decide_eq_false (show ¬ (t:Int)<4 by omega),ai,eR (n:=(t:Int) - 4) (by omega),show (t:Int) - 4=((t - 4:Nat):Int) by omega,eR (n:=8*((t - 4:Nat):Int)) (by omega),e2,Na hb (by omega)]
    refine fE (by omega) (ixdv (n:=t) rfl rfl (by omega) ?_)
    exact fin _ _ (by unfold nonB; rw [if_neg h]) e1 (by first | exact e2 | rfl) (by first | exact e3 | rfl) rfl
 exact l1 12 0 _ (by omega) rfl rfl rfl (by dsimp only; exact Vector.toList_replicate ..)
theorem uO {e b:Int} {Q:aI.QT} (he:0≤e) (hb:0≤b) (H: ∀ r:Vector Int 12,r.toList=nonL e b 12→Q r):aI e b Q:=by
 have l2: ∀ (j t:Nat) (m:aI.V),t+j=8→m.dJ=b→m.i7=(t:Int)→m.eY.toList=nonL e b (4+t)++List.replicate j 0→aI.L2 Q m:=by
  intro j
  induction j with
  | zero=>
   intro t m ht e2 e3 e4
   obtain rfl:t=8:=by omega
   refine aI.bW ?_
   unfold aI.B2
   rw [e3,decide_eq_false (by omega),ai]
   refine H _ ?_
   rw [e4,List.replicate_zero,List.append_nil]
  | succ j ih=>
   intro t m ht e2 e3 e4
   refine aI.bW ?_
   unfold aI.B2
   rw [e3,decide_eq_true (by omega),av,eR (n:=8*(t:Int)) (by omega),eR (n:=4+(t:Int)) (by omega),cu (by omega),e2,Na hb (by omega)]
   refine fE (by omega) (ixdv (n:=4+t) rfl (by omega) (by omega) ?_)
   refine ih (t+1) _ (by omega) (by first | exact e2 | rfl) rfl ?_
   dsimp only
   rw [fe (i:=4+(t:Int)) (l:=nonL e b (4+t)) (y:=0) (r:=List.replicate j 0) (by rw [e4]; rfl) (by rw [pF]; omega)]
   rw [show 4+(t+1)=(4+t)+1 by omega,← mV]
   congr 2
   unfold nonB
   rw [if_neg (by omega),Nat.add_sub_cancel_left]
 have l1: ∀ (j t:Nat) (m:aI.V),t+j=4→m.eE=e→m.dJ=b→m.i6=(t:Int)→m.eY.toList=nonL e b t++List.replicate (j+8) 0→aI.L1 Q m:=by
  intro j
  induction j with
  | zero=>
   intro t m ht e1 e2 e3 e4
   obtain rfl:t=4:=by omega
   refine aI.bD ?_
   unfold aI.B1
   rw [e3,decide_eq_false (by omega),ai]
   exact l2 8 0 _ (by omega) e2 rfl e4
  | succ j ih=>
   intro t m ht e1 e2 e3 e4
   refine aI.bD ?_
   unfold aI.B1
   rw [e3,decide_eq_true (by omega),av,eR (n:=8*(t:Int)) (by omega),cu (by omega),e1,IG he (by omega)]
   refine fE (by omega) (ixdv (n:=t) rfl rfl (by omega) ?_)
   refine ih (t+1) _ (by omega) (by first | exact e1 | rfl) e2 rfl ?_
   dsimp only
   rw [fe (i:=(t:Int)) (l:=nonL e b t) (y:=0) (r:=List.replicate (j+8) 0) (by rw [e4,show j+1+8=(j+8)+1 by omega]; rfl) (by rw [pF]),← mV]
   congr 2
   unfold nonB
   rw [if_pos (by omega)]
 exact l1 4 0 _ (by omega) rfl rfl rfl (by dsimp only; exact Vector.toList_replicate ..)
end Go.Pt
namespace Go.Pt
open Go Go.Wc Go.Pu
theorem II {b:List Int} (hb:WfB b) {item place v:Int} {Q:aW.QT} (h:blockS b item place=v) (H:Q v):aW ⟨b⟩ item place Q:=xm hb (h ▸ H)
end Go.Pt
namespace Go.Pt
open Go Go.Wc Go.Pu
def digV (b:List Int):Vector Int 32:=Vector.ofFn fun i:Fin 32=>(sumL b).getD i.val 0
theorem BZ (b:List Int):(sumL b).length=32:=sJ _ _
theorem y5 {b:List Int} {r:Vector Int 32} (h:r.toList=sumL b):r=digV b:=by
 apply Vector.ext
 intro i hi
 unfold digV
 rw [Vector.getElem_ofFn]
 have h1:r[i]=r.toList[i]'(by rw [Vector.length_toList]; exact hi):=(Vector.getElem_toList ..).symm
 rw [h1,List.getD_eq_getElem?_getD,List.getElem?_eq_getElem (by rw [BZ]; exact hi)]
 simp only [h]; rfl
def hidB (key:Vector Int 32) (e n:Int) (p:List Int):List Int:=cipS key.toList (nonL e n 12) 0 p
theorem pH (key:Vector Int 32) (e n:Int) (p:List Int):(hidB key e n p).length=p.length:=gR _ _ _ _ _
theorem pI (key:Vector Int 32) (e n:Int) (p:List Int):bytesL (hidB key e n p):=uJ _ _ _ _ _
theorem Av {key:Vector Int 32} {e n:Int} {p:List Int} {Q:cm.QT} (hk:bytesL key.toList) (hp:p.length=256) (he:0≤e) (hn:0≤n∧n<1000000) (H:Q (hidB key e n p) 0):cm key e n p Q:=by
 unfold cm cm.K1
 rw [hp,show (((256:Nat):Int) !=256)=false by decide,ai,decide_eq_false (by omega)]
 dsimp only
 rw [ai,wrap_u64 (n:=n) (by omega) (by omega)]
 refine xC he hn.1 fun r hr=> ?_
 refine xB hk (by rw [hr]; exact pG _ _ _) ⟨by decide,by decide⟩ (by omega) ?_
 rw [hr]; exact H
theorem xD {key:Vector Int 32} {e n:Int} {p:List Int} {Q:aZ.QT} (hk:bytesL key.toList) (hp:p.length=256) (he:0≤e) (hn:0≤n∧n<1000000) (H:Q (hidB key e n p) 0):aZ key e n p Q:=by
 unfold aZ aZ.K1
 rw [hp,show (((256:Nat):Int) !=256)=false by decide,ai,decide_eq_false (by omega)]
 dsimp only
 rw [ai,wrap_u64 (n:=n) (by omega) (by omega)]
 refine uO he hn.1 fun r hr=> ?_
 refine uN hk (by rw [hr]; exact pG _ _ _) ⟨by decide,by decide⟩ (by omega) ?_
 rw [hr]; exact H
theorem Aw {k:Vector Int 32} {e pl n:Int} {p:List Int} {σ:St Obj} {Q:bY.QT} (hk:bytesL k.toList) (he:0≤e) (hp:p.length=256) (hn:0≤n∧n<1000000) (hpl:pl=0∨pl=1)
  (H:Q (hidB k e n p) ⟨pl,e,digV (hidB k e n p)⟩ 0 σ):bY none k e pl n p σ Q:=by
 unfold bY
 refine Av hk hp he hn ?_
 rw [show ((0:Int) !=0)=false from rfl,ai]
 unfold jr
 have fin: ∀ m:bY.V,m.b0=none→m.fI=e→m.gW=pl→m.Iq=false→m.GG=hidB k e n p→bY.K1 Q m σ:=by
  rintro ⟨b0,fI,gW,BJ,GG,Iq⟩ e1 e2 e3 e4 e5
  dsimp only at e1 e2 e3 e4 e5
  subst e1 e2 e3 e4 e5
  unfold bY.K1; dsimp only
  rw [ai]
  unfold aS
  rw [show (!(Option.isNone (none:Option Addr)))=false from rfl,ai]
  unfold aS.K1; dsimp only
  rw [ai]
  refine qY (by rw [pH]; omega) (pI _ _ _ _) fun r hr=> ?_
  rw [y5 hr]
  exact H
 rcases hpl with rfl | rfl
 ·rw [show ((0:Int)==0)=true from rfl,av]
  refine fin _ ?_ ?_ ?_ ?_ ?_ <;> rfl
 ·rw [show ((1:Int)==0)=false from rfl,ai]
  refine fin _ ?_ ?_ ?_ ?_ ?_ <;> rfl
theorem xE {k:Vector Int 32} {e pl n:Int} {p:List Int} {Q:aK.QT} (hk:bytesL k.toList) (he:0≤e) (hp:p.length=256) (hn:0≤n∧n<1000000) (hpl:pl=0∨pl=1)
  (H:Q (hidB k e n p) ⟨pl,e,digV (hidB k e n p)⟩ 0):aK k e pl n p Q:=by
 unfold aK
 refine xD hk hp he hn ?_
 rw [show ((0:Int) !=0)=false from rfl,ai,decide_eq_false (by omega),ai,decide_eq_false (by omega)]
 unfold aK.K1; dsimp only
 rw [ai]
 refine Aq (by rw [pH]; omega) (pI _ _ _ _) fun r hr=> ?_
 rw [y5 hr]
 exact H
def Fg (e:Int) (k:Nat):List Int:=(List.range k).map fun i=>IntKind.wrap .u8 (e / 2 ^ (8*i))
def layR (r:aj):List Int:=(IntKind.wrap .u8 r.Place::Fg r.dF 4)++r.cH.toList
theorem pJ (r:aj):(layR r).length=37:=by
 unfold layR Fg; simp only [List.length_append,List.length_cons,List.length_map,List.length_range,Vector.length_toList]
def catR:List aj→List Int
 | []=>[]
 | r::l=>layR r++catR l
theorem iS: ∀ l,(catR l).length=37*l.length
 | []=>rfl
 | r::l=>by show (layR r++catR l).length=_; rw [List.length_append,pJ,iS l,List.length_cons]; omega
theorem mW: ∀ (l:List aj) r,catR (l++[r])=catR l++layR r
 | [],r=>by show layR r++[]=_; rw [List.append_nil]; rfl
 | a::l,r=>by show layR a++catR (l++[r])=(layR a++catR l)++layR r; rw [mW l r,List.append_assoc]
def layS (l:List aj):List Int:=(IntKind.wrap .u8 (l.length:Int)::catR l)++List.replicate (255 - 37*l.length) 0
theorem uP {l:List aj} (h:l.length≤6):(layS l).length=256:=by
 unfold layS; simp only [List.length_append,List.length_cons,List.length_replicate,iS]; omega
theorem rq {m:bw.V} {Q:bw.QT} (hb:m.cR.length≤1000) (H:Q (m.cR++[IntKind.wrap .u8 m.n1])):bw.K7 Q m:=by
 unfold bw.K7
 exact ⟨bO (by simp only [List.length_cons,List.length_nil]; omega),H⟩
theorem Ax {b:List Int} {n:Int} {Q:bw.QT} (hb:b.length≤900) (H:Q (b++[IntKind.wrap .u8 n])):bw b n 1 Q:=by
 unfold bw
 refine ⟨bO (by omega), ?_⟩
 unfold jt
 exact rq (by dsimp only; omega) H
theorem Ay {b:List Int} {n:Int} {Q:bw.QT} (hb:b.length≤900) (hn:0≤n) (H:Q (b++Fg n 4)):bw b n 4 Q:=by
 unfold bw
 refine ⟨bO (by omega), ?_⟩
 unfold jt
 show bw.K4 Q _
 unfold bw.K4 bw.K5 bw.K6
 have f1: ∀ x:Int,0≤x→Int.fdiv x (2 ^ (min (Int.toNat (8:Int)) (IntKind.bits .u64)))=x / 256:=fun x hx=>fd 8 hx
 refine ⟨bO ?_,bO ?_,bO ?_,rq ?_ ?_⟩
 ·dsimp only; simp only [List.length_append,List.length_cons,List.length_nil]; omega
 ·dsimp only; simp only [List.length_append,List.length_cons,List.length_nil]; omega
 ·dsimp only; simp only [List.length_append,List.length_cons,List.length_nil]; omega
 ·dsimp only; simp only [List.length_append,List.length_cons,List.length_nil]; omega
 ·dsimp only
  rw [f1 _ hn,f1 _ (by omega),f1 _ (by omega)]
  simp only [List.append_assoc,List.cons_append,List.nil_append]
  have e:Fg n 4=[IntKind.wrap .u8 n,IntKind.wrap .u8 (n / 256),IntKind.wrap .u8 (n / 256 / 256),IntKind.wrap .u8 (n / 256 / 256 / 256)]:=by
   show [_,_,_,_]=[_,_,_,_]
   have p0:n / 2 ^ (8*0)=n:=by simp
   have p1:n / 2 ^ (8*1)=n / 256:=rfl
   have p2:n / 2 ^ (8*2)=n / 256 / 256:=by show n / 65536=_; omega
   have p3:n / 2 ^ (8*3)=n / 256 / 256 / 256:=by show n / 16777216=_; omega
   dsimp only
   rw [p0,p1,p2,p3]
  rw [e] at H
  exact H
theorem Az {r:aj} {Q:List Int→Prop} (hp:r.Place=0∨r.Place=1) (he:iO r.dF) (H:Q (layR r)):lS (sr r) Q:=by
 unfold lS
 have hd:(sr r).cH.toList.length=32:=Vector.length_toList ..
 have e1:IntKind.wrap .u8 (IntKind.wrap .u64 (sr r).Place)=IntKind.wrap .u8 r.Place:=by
  show IntKind.wrap .u8 (IntKind.wrap .u64 r.Place)=_
  rw [wrap_u64 (n:=r.Place) (by omega) (by omega)]
 have e2:IntKind.wrap .u64 (sr r).dF=r.dF:=wrap_u64 he.1 (by have:=he.2; show r.dF<_; omega)
 refine Ax (by decide) ?_
 rw [e1,e2]
 refine Ay (by simp) he.1 ?_
 refine ⟨bO (by rw [hd]; unfold Fg; simp only [List.length_append,List.length_cons,List.length_map,List.length_range,List.length_nil]; decide), ?_⟩
 exact H
theorem AA {r:aj} {Q:List Int→Prop} (he:iO r.dF) (H:Q (layR r)):bt r Q:=by
 have hd:r.cH.toList.length=32:=Vector.length_toList ..
 have l1: ∀ (j t:Nat) (m:bt.V),t+j=4→m.r1=r→m.i4=(t:Int)→m.cr=IntKind.wrap .u8 r.Place::Fg r.dF t→bt.L1 Q m:=by
  intro j
  induction j with
  | zero=>
   intro t m ht e1 e2 e3
   obtain rfl:t=4:=by omega
   refine bt.bD ?_
   unfold bt.B1
   rw [e2,decide_eq_false (by omega),ai,e1,e3]
   exact ⟨bO (by rw [hd]; unfold Fg; simp only [List.length_cons,List.length_map,List.length_range]; omega),H⟩
  | succ j ih=>
   intro t m ht e1 e2 e3
   refine bt.bD ?_
   unfold bt.B1
   rw [e2,decide_eq_true (by omega),av,e1,eR (n:=8*(t:Int)) (by omega),cu (by omega),IG he.1 (by omega),e3]
   refine fE (by omega) ⟨bO (by unfold Fg; simp only [List.length_cons,List.length_map,List.length_range,List.length_nil]; omega), ?_⟩
   refine ih (t+1) _ (by omega) (by first | exact e1 | rfl) rfl ?_
   dsimp only
   unfold Fg
   rw [List.range_succ,List.map_append]; rfl
 exact l1 4 0 _ (by omega) rfl rfl rfl
def okR (l:List aj):Prop:= ∀ r ∈ l,(r.Place=0∨r.Place=1)∧iO r.dF
theorem AB {l:List aj} {Q:bL.QT} (hl:1≤l.length∧l.length≤6) (hr:okR l) (H:Q (layS l) 0):bL (l.map sr) Q:=by
 unfold bL
 rw [List.length_map,decide_eq_false (by omega),ai,decide_eq_false (by omega)]
 unfold bL.K1; dsimp only
 rw [ai]
 have l2: ∀ (j t:Nat) (m:bL.V),t+j=l.length→m.ue=l.map sr→m.v20=(l.length:Int)→m.qv=(t:Int)→m.b4=IntKind.wrap .u8 (l.length:Int)::catR (l.take t)→bL.L2 Q m:=by
  intro j
  induction j with
  | zero=>
   intro t m ht e1 e2 e3 e4
   obtain rfl:t=l.length:=by omega
   refine bL.bW ?_
   unfold bL.B2
   rw [e3,e2,dge (by omega),ai,e4,List.take_of_length_le (Nat.le_refl _)]
   unfold mU
   have hb:(IntKind.wrap .u8 (l.length:Int)::catR l).length=1+37*l.length:=by rw [List.length_cons,iS]; omega
   rw [hb,decide_eq_false (by omega),ai]
   refine ⟨bO (by rw [hb]; omega), ?_⟩
   dsimp only
   rw [eR (n:=256 - ((1+37*l.length:Nat):Int)) (by omega)]
   refine ⟨by omega,bO (by rw [hb]; omega), ?_⟩
   rw [show (256 - ((1+37*l.length:Nat):Int)).toNat=255 - 37*l.length by omega]
   exact H
  | succ j ih=>
   intro t m ht e1 e2 e3 e4
   have hi:t<l.length:=by omega
   have hc:=iS (l.take t)
   rw [List.length_take] at hc
   refine bL.bW ?_
   unfold bL.B2
   rw [e3,e2,e1,dlt hi,av]
   refine dm (by rw [List.length_map]; exact hi) ?_
   rw [List.getElem_map]
   obtain ⟨h1,h2⟩:=hr _ (List.getElem_mem hi)
   have k3: ∀ m':bL.V,m'.ue=l.map sr→m'.v20=(l.length:Int)→m'.qv=(t:Int)→m'.b4=IntKind.wrap .u8 (l.length:Int)::catR (l.take t)→m'.r6=sr l[t]→m'.Al=false→bL.K3 (bL.L2 Q) Q m':=by
    intro m' a1 a2 a3 a4 a5 a6
    unfold bL.K3
    rw [a6,ai,a5]
    refine Az h1 h2 ⟨bO (by rw [a4,pJ,List.length_cons]; omega), ?_⟩
    refine ih (t+1) _ (by omega) a1 a2 (by dsimp only; rw [a3,cu (by omega)]) ?_
    dsimp only
    rw [a4,eB hi,mW]; rfl
   rcases h1 with hh | hh
   ·rw [show ((sr l[t]).Place !=0)=false by show (l[t].Place !=0)=false; rw [hh]; rfl,ai]
    exact k3 _ (by first | exact e1 | rfl) (by first | exact e2 | rfl) (by first | exact e3 | rfl) e4 rfl rfl
   ·rw [show ((sr l[t]).Place !=0)=true by show (l[t].Place !=0)=true; rw [hh]; rfl,av]
    exact k3 _ (by first | exact e1 | rfl) (by first | exact e2 | rfl) (by first | exact e3 | rfl) e4 rfl (by show (l[t].Place !=1)=false; rw [hh]; rfl)
 exact l2 l.length 0 _ (by omega) rfl (by dsimp only; rw [List.length_map]) rfl (by dsimp only; rw [List.length_map]; rfl)
theorem xF {l:List aj} {Q:aD.QT} (hl:1≤l.length∧l.length≤6) (hr:okR l) (H:Q (layS l) 0):aD l Q:=by
 unfold aD
 rw [decide_eq_false (by omega),ai,decide_eq_false (by omega)]
 unfold aD.K1; dsimp only
 rw [ai]
 have l4: ∀ (j i:Nat) (m:aD.V),i+j=255 - 37*l.length→m.jv=(IntKind.wrap .u8 (l.length:Int)::catR l)++List.replicate i 0→aD.L4 Q m:=by
  intro j
  induction j with
  | zero=>
   intro i m hi e
   obtain rfl:i=255 - 37*l.length:=by omega
   refine aD.jP ?_
   unfold aD.B4
   have hb:m.jv.length=256:=by rw [e]; exact uP hl.2
   rw [hb,show decide (((256:Nat):Int)<256)=false from rfl,ai,e]
   exact H
  | succ j ih=>
   intro i m hi e
   refine aD.jP ?_
   unfold aD.B4
   have hb:m.jv.length=1+37*l.length+i:=by rw [e]; simp only [List.length_append,List.length_cons,List.length_replicate,iS]; omega
   rw [hb,decide_eq_true (by omega),av]
   refine ⟨bO (by simp only [List.length_cons,List.length_nil]; omega),ih (i+1) _ (by omega) ?_⟩
   dsimp only
   rw [e,List.append_assoc,← List.replicate_succ']
 have l2: ∀ (j t:Nat) (m:aD.V),t+j=l.length→m.l0=l→m.i5=(t:Int)→m.jv=IntKind.wrap .u8 (l.length:Int)::catR (l.take t)→aD.L2 Q m:=by
  intro j
  induction j with
  | zero=>
   intro t m ht e1 e3 e4
   obtain rfl:t=l.length:=by omega
   refine aD.bW ?_
   unfold aD.B2
   rw [e3,e1,dge (by omega),ai]
   exact l4 (255 - 37*l.length) 0 _ (by omega) (by rw [e4,List.take_of_length_le (Nat.le_refl _),List.replicate_zero,List.append_nil])
  | succ j ih=>
   intro t m ht e1 e3 e4
   have hi:t<l.length:=by omega
   have hc:=iS (l.take t)
   rw [List.length_take] at hc
   refine aD.bW ?_
   unfold aD.B2
   rw [e3,e1,dlt hi,av]
   obtain ⟨h1,h2⟩:=hr _ (List.getElem_mem hi)
   refine dm hi ?_
   rw [decide_eq_false (by omega),ai]
   refine dm hi ?_
   unfold aD.K3
   rw [decide_eq_false (by omega)]
   dsimp only
   rw [ai]
   refine dm hi (AA h2 ⟨bO (by rw [e4,pJ,List.length_cons]; omega), ?_⟩)
   rw [cu (by omega)]
   refine ih (t+1) _ (by omega) (by first | exact e1 | rfl) rfl ?_
   dsimp only
   rw [e4,eB hi,mW]; rfl
 exact l2 l.length 0 _ (by omega) rfl rfl rfl
end Go.Pt
namespace Go.Pt
open Go Go.Wc Go.Pu
def okT (n:Int):Bool:=
 let b:=newB n
 let h:=hOf n
 (List.range h.Level.length).all (fun i=>
  decide (0≤levelS b i) &&
  (decide ((i:Int)<n) || (decide (1≤(kidsR h i).length) && decide ((kidsR h i).length≤6) && decide (0≤(kidsR h i).getD 0 0) && decide ((kidsR h i).getD 0 0+(kidsR h i).length≤(i:Int)))))
theorem Fh:((List.range 14).all fun n=>okT ((n:Int)+1))=true:=by decide+kernel
structure TOk (n:Int):Prop where
 N:NOk n
 Rs: ∀ i:Nat,i<(hOf n).Level.length→0≤levelS (newB n) i
 QF: ∀ i:Nat,n≤(i:Int)→i<(hOf n).Level.length→1≤(kidsR (hOf n) i).length∧(kidsR (hOf n) i).length≤6∧0≤(kidsR (hOf n) i).getD 0 0∧(kidsR (hOf n) i).getD 0 0+(kidsR (hOf n) i).length≤(i:Int)
theorem tok {n:Int} (hn:1≤n∧n≤14):TOk n:=by
 have h:=List.all_eq_true.1 Fh (n - 1).toNat (List.mem_range.2 (by omega))
 rw [show (((n - 1).toNat:Nat):Int)+1=n by omega] at h
 unfold okT at h
 dsimp only at h
 have h2: ∀ i:Nat,i<(hOf n).Level.length→_:=fun i hi=>List.all_eq_true.1 h i (List.mem_range.2 hi)
 refine ⟨nok hn, ?_, ?_⟩
 ·intro i hi
  have h3:=h2 i hi
  rw [Bool.and_eq_true] at h3
  exact of_decide_eq_true h3.1
 ·intro i hi qI
  have h3:=h2 i qI
  rw [Bool.and_eq_true] at h3
  have h4:=h3.2
  rw [decide_eq_false (show ¬ ((i:Int)<n) by omega),Bool.false_or] at h4
  simp only [Bool.and_eq_true,decide_eq_true_eq] at h4
  exact ⟨h4.1.1.1,h4.1.1.2,h4.1.2,h4.2⟩
theorem mX {h:HS} {it pl:Int} {Q:ay.QT} (hi:0≤it∧it<(h.Level.length:Int)) (hs:h.Level.length≤400) (hp:pl=0∨pl=1) (H:Q (2+2*it+pl)):ay h it pl Q:=by
 unfold ay
 refine uv ?_
 have e:hasS h it=true:=by unfold hasS; simp; exact hi
 rw [e,show (!true)=false from rfl,ai,decide_eq_false (by omega),ai,decide_eq_false (by omega)]
 unfold ay.K1; dsimp only
 rw [ai,wrap64 (n:=2*it) (by omega) (by omega),wrap64 (n:=2+2*it) (by omega) (by omega),wrap64 (n:=2+2*it+pl) (by omega) (by omega)]
 exact H
end Go.Pt
namespace Go.Pt
open Go Go.Wc Go.Pu
def pc (x:bC):cP:=⟨x.Block,x.Bytes⟩
variable {key:Vector Int 32} {e:Int} {pages:List (List Int)}
def pgI (pages:List (List Int)) (refs:List aj) (i:Nat):List Int:=
 if i<pages.length then pages.getD i [] else layS (sub refs ((kidsR (hOf (pages.length:Int)) (i:Int)).getD 0 0) ((kidsR (hOf (pages.length:Int)) (i:Int)).getD 0 0+((kidsR (hOf (pages.length:Int)) (i:Int)).length:Int)))
def bN (i:Nat):Int:=2+2*(i:Int)
def hidI (key:Vector Int 32) (e:Int) (i:Nat) (p:List Int):List Int:=hidB key e (bN i) p
def refI (key:Vector Int 32) (e:Int) (i:Nat) (p:List Int):aj:=⟨0,e,digV (hidI key e i p)⟩
def runM (key:Vector Int 32) (e:Int) (pages:List (List Int)):Nat→List bC × List aj
 | 0=>([],[])
 | i+1=>((runM key e pages i).1++[⟨bN i,hidI key e i (pgI pages (runM key e pages i).2 i)⟩],(runM key e pages i).2++[refI key e i (pgI pages (runM key e pages i).2 i)])
theorem oe (i:Nat):(runM key e pages i).1.length=i:=by
 induction i with
 | zero=>rfl
 | succ i ih=>simp [runM,ih]
theorem kq (i:Nat):(runM key e pages i).2.length=i:=by
 induction i with
 | zero=>rfl
 | succ i ih=>simp [runM,ih]
theorem y6 (he:iO e) (i:Nat):okR (runM key e pages i).2:=by
 induction i with
 | zero=>intro r hr; cases hr
 | succ i ih=>
  intro r hr
  rcases List.mem_append.1 hr with h | h
  ·exact ih r h
  ·rw [List.mem_singleton.1 h]; exact ⟨.inl rfl,he⟩
theorem y7 {l:List aj} {a b:Int} (h:okR l):okR (sub l a b):=fun r hr=>h r (List.mem_of_mem_take (List.mem_of_mem_drop hr))
theorem B0 {l:List aj} {a b:Int}:sub (l.map sr) a b=(sub l a b).map sr:=by
 unfold sub; rw [List.map_drop,List.map_take]
structure MC (key:Vector Int 32) (e:Int) (pages:List (List Int)):Prop where
 T:TOk (pages.length:Int)
 key:bytesL key.toList
 ep:iO e
theorem MC.small (C:MC key e pages):(hOf (pages.length:Int)).Level.length≤400:=C.T.N.wh.small
theorem MC.pos (C:MC key e pages):pages.length≤(hOf (pages.length:Int)).Level.length:=by have:=C.T.N.pos; exact_mod_cast this
theorem MC.Nb (C:MC key e pages):1≤pages.length∧pages.length≤14:=by have:=C.T.N.MX; omega
theorem MC.slok (C:MC key e pages) {i:Nat} (hi:pages.length≤i) (hl:i<(hOf (pages.length:Int)).Level.length):
  SlOk (runM key e pages i).2 ((kidsR (hOf (pages.length:Int)) (i:Int)).getD 0 0) ((kidsR (hOf (pages.length:Int)) (i:Int)).getD 0 0+((kidsR (hOf (pages.length:Int)) (i:Int)).length:Int)):=by
 have k:=C.T.QF i (by omega) hl
 unfold SlOk
 rw [kq]
 omega
theorem MC.sublen (C:MC key e pages) {i:Nat} (hi:pages.length≤i) (hl:i<(hOf (pages.length:Int)).Level.length):
  1≤(sub (runM key e pages i).2 ((kidsR (hOf (pages.length:Int)) (i:Int)).getD 0 0) ((kidsR (hOf (pages.length:Int)) (i:Int)).getD 0 0+((kidsR (hOf (pages.length:Int)) (i:Int)).length:Int))).length∧(sub (runM key e pages i).2 ((kidsR (hOf (pages.length:Int)) (i:Int)).getD 0 0) ((kidsR (hOf (pages.length:Int)) (i:Int)).getD 0 0+((kidsR (hOf (pages.length:Int)) (i:Int)).length:Int))).length≤6:=by
 rw [bQ (C.slok hi hl)]
 have k:=C.T.QF i (by omega) hl
 omega
theorem MC.pglen (C:MC key e pages) (hp: ∀ x ∈ pages,x.length=256) {i:Nat} (hl:i<(hOf (pages.length:Int)).Level.length):(pgI pages (runM key e pages i).2 i).length=256:=by
 unfold pgI
 by_cases h:i<pages.length
 ·rw [if_pos h,List.getD_eq_getElem?_getD,List.getElem?_eq_getElem h]
  exact hp _ (List.getElem_mem h)
 ·rw [if_neg h]
  exact uP (C.sublen (by omega) hl).2
theorem uQ (C:MC key e pages) {σ:St Obj} {i:Nat} (hi:i<(hOf (pages.length:Int)).Level.length) {p:List Int} (hp:p.length=256) {refs:List bM} {puts:List cP} (hr:refs.length=i) (hu:puts.length=i)
  {Q:List bM→List cP→St Obj→Prop} (H:Q (refs++[sr (refI key e i p)]) (puts++[pc ⟨bN i,hidI key e i p⟩]) σ):gy p ⟨newB (pages.length:Int)⟩ refs none key e puts σ Q:=by
 have hs:=C.small
 unfold gy
 refine II C.T.N.wb (v:=bN i) ?_ ?_
 ·unfold blockS
  rw [hr,if_neg]
  ·unfold bN; omega
  ·have:=C.T.Rs i hi; omega
 refine Aw C.key C.ep.1 hp (by unfold bN; omega) (.inl rfl) ?_
 refine ⟨bO (by simp; omega),bO (by simp; omega),H⟩
theorem B6 {l:List aj} {m:Nat} (h:l.length=m) (hm:1≤m) (hs:m≤400) {K:bM→Prop} (H:K (sr (l.getLastD ⟨0,0,Vector.replicate 32 0⟩))):ixP (l.map sr) (IntKind.wrap .i64 (((l.map sr).length:Int) - (1:Int))) K:=by
 rw [List.length_map,h,wrap64 (by omega) (by omega)]
 refine iD (m - 1) (by omega) (by rw [List.length_map]; omega) ?_
 rw [List.getElem_map]
 have:l.getLastD ⟨0,0,Vector.replicate 32 0⟩=l[m - 1]'(by omega):=by
  subst h; rw [List.getLastD_eq_getLast?,List.getLast?_eq_getElem?,List.getElem?_eq_getElem (by omega)]; rfl
 rw [← this]; exact H
theorem AD {l:List aj} {m:Nat} (h:l.length=m) (hm:1≤m) (hs:m≤400) {K:aj→Prop} (H:K (l.getLastD ⟨0,0,Vector.replicate 32 0⟩)):ixP l (IntKind.wrap .i64 ((l.length:Int) - (1:Int))) K:=by
 rw [h,wrap64 (by omega) (by omega)]
 refine iD (m - 1) (by omega) (by omega) ?_
 have:l.getLastD ⟨0,0,Vector.replicate 32 0⟩=l[m - 1]'(by omega):=by
  subst h; rw [List.getLastD_eq_getLast?,List.getLast?_eq_getElem?,List.getElem?_eq_getElem (by omega)]; rfl
 rw [← this]; exact H
def rootM (key:Vector Int 32) (e:Int) (pages:List (List Int)):aj:=(runM key e pages (hOf (pages.length:Int)).Level.length).2.getLastD ⟨0,0,Vector.replicate 32 0⟩
def putsM (key:Vector Int 32) (e:Int) (pages:List (List Int)):List bC:=(runM key e pages (hOf (pages.length:Int)).Level.length).1
theorem y8 {l:List (List Int)} {Q:Bool→Unit→Prop} (hl:l.length≤100000) (H1:(∀ x ∈ l,x.length=256)→Q false ()) (H2: ∀ x ∈ l,x.length ≠ 256→Q true ()):
  cw (fun x0 _ K=>fA x0 (fun r=>K r ())) l () Q:=by
 unfold cw aA
 have k: ∀ (j i:Nat) (m:aA.V) (R:Int→Unit→Prop),i+j=l.length→m.s0=l→m.v7=(l.length:Int)→m.v8=(i:Int)→(∀ x ∈ l.take i,x.length=256)→
   ((∀ x ∈ l,x.length=256)→R (-1) ())→(∀ i:Nat,∀ x ∈ l,x.length ≠ 256→R i ())→aA.L1 (fun x0 _ K=>fA x0 (fun r=>K r ())) R m ():=by
  intro j
  induction j with
  | zero=>
   rintro i ⟨s0,v7,v8⟩ R e e1 e2 e3 h G1 G2
   dsimp only at e1 e2 e3
   subst e1 e2 e3
   refine aA.bD _ ?_
   unfold aA.B1; dsimp only
   rw [dge (by omega),ai]
   rw [List.take_of_length_le (by omega)] at h
   exact G1 h
  | succ j ih=>
   rintro i ⟨s0,v7,v8⟩ R e e1 e2 e3 h G1 G2
   dsimp only at e1 e2 e3
   subst e1 e2 e3
   have hi:i<s0.length:=by omega
   refine aA.bD _ ?_
   unfold aA.B1; dsimp only
   rw [dlt hi,av]
   refine dm hi ?_
   by_cases hh:s0[i].length=256
   ·show br ((s0[i].length:Int) !=256) _ _
    rw [hh,show (((256:Nat):Int) !=256)=false by decide,ai,cu (by omega)]
    refine ih (i+1) _ R (by omega) rfl rfl rfl ?_ G1 G2
    intro x hx
    rw [eB hi] at hx
    rcases List.mem_append.1 hx with hx | hx
    ·exact h x hx
    ·rw [List.mem_singleton.1 hx]; exact hh
   ·show br ((s0[i].length:Int) !=256) _ _
    rw [show ((s0[i].length:Int) !=256)=true by simp; omega,av]
    exact G2 i _ (List.getElem_mem hi) hh
 refine k l.length 0 _ _ (by omega) rfl rfl rfl (by simp) ?_ ?_
 ·intro h; rw [decide_eq_false (by omega)]; exact H1 h
 ·intro i x hx hh; rw [decide_eq_true (by omega)]; exact H2 x hx hh
theorem AE (C:MC key e pages) {σ:St Obj} {Q:bn.QT} (hp: ∀ x ∈ pages,x.length=256) (H:Q ((putsM key e pages).map pc) (sr (rootM key e pages)) 0 σ):bn none key e pages σ Q:=by
 have hs:=C.small
 have hn:=C.Nb
 have hpos:=C.pos
 have l3: ∀ (j i:Nat) (m:bn.V),i+j=(hOf (pages.length:Int)).Level.length→pages.length≤i→m.n7=⟨newB (pages.length:Int)⟩→m.gK=none→m.gL=key→m.gM=e→m.eU=(runM key e pages i).1.map pc→m.dV=(runM key e pages i).2.map sr→m.gF=(i:Int)→bn.L3 Q m σ:=by
  intro j
  induction j with
  | zero=>
   rintro i ⟨dU,b4,sF,ju,v9,n7,fC,eU,dV,a2,a3,a4,uj,qw,Ba,gF⟩ ei hi e1 e2 e3 e4 e5 e6 e7
   dsimp only at e1 e2 e3 e4 e5 e6 e7
   subst e1 e2 e3 e4 e5 e6 e7
   obtain rfl:i=(hOf (pages.length:Int)).Level.length:=by omega
   refine bn.fF ?_
   unfold bn.B3; dsimp only
   refine o5 C.T.N.wb ?_
   rw [C.T.N.items,dge (by omega),ai]
   exact B6 (kq _) (by omega) (by omega) H
  | succ j ih=>
   rintro i ⟨dU,b4,sF,ju,v9,n7,fC,eU,dV,a2,a3,a4,uj,qw,Ba,gF⟩ ei hi e1 e2 e3 e4 e5 e6 e7
   dsimp only at e1 e2 e3 e4 e5 e6 e7
   subst e1 e2 e3 e4 e5 e6 e7
   have hl:i<(hOf (pages.length:Int)).Level.length:=by omega
   refine bn.fF ?_
   unfold bn.B3; dsimp only
   refine o5 C.T.N.wb ?_
   rw [C.T.N.items,dlt (by exact hl),av]
   refine An C.T.N.wb ?_
   rw [C.T.N.kids]
   have k:=C.T.QF i (by omega) hl
   have hget: ∀ h0:0<(kidsR (hOf (pages.length:Int)) i).length,(kidsR (hOf (pages.length:Int)) i)[0]=(kidsR (hOf (pages.length:Int)) (i:Int)).getD 0 0:=by
    intro h0
    rw [List.getD_eq_getElem?_getD,List.getElem?_eq_getElem h0]; rfl
   refine iD 0 rfl (by omega) ?_
   refine iD 0 rfl (by omega) ?_
   rw [hget (by omega),wrap64 (n:=(kidsR (hOf (pages.length:Int)) (i:Int)).getD 0 0+_) (by omega) (by omega)]
   refine ⟨?_, ?_⟩
   ·have:=C.slok hi hl
    unfold SlOk at this ⊢
    rw [List.length_map]
    exact this
   rw [B0]
   refine AB (C.sublen hi hl) (y7 (y6 C.ep i)) ?_
   have hpg:pgI pages (runM a3 a4 pages i).2 i=layS (sub (runM a3 a4 pages i).2 ((kidsR (hOf (pages.length:Int)) (i:Int)).getD 0 0) ((kidsR (hOf (pages.length:Int)) (i:Int)).getD 0 0+((kidsR (hOf (pages.length:Int)) (i:Int)).length:Int))):=by
    unfold pgI; rw [if_neg (by omega)]
   have hle:=C.pglen hp hl
   rw [hpg] at hle
   refine uQ C hl hle (by rw [List.length_map,kq]) (by rw [List.length_map,oe]) ?_
   rw [cu (by omega)]
   refine ih (i+1) _ (by omega) (by omega) rfl rfl rfl rfl ?_ ?_ rfl
   ·dsimp only; rw [runM,List.map_append,hpg]; rfl
   ·dsimp only; rw [runM,List.map_append,hpg]; rfl
 have l2: ∀ (j i:Nat) (m:bn.V),i+j=pages.length→m.dU=pages→m.uj=pages→m.qw=(pages.length:Int)→m.Ba=(i:Int)→m.n7=⟨newB (pages.length:Int)⟩→m.gK=none→m.gL=key→m.gM=e→m.eU=(runM key e pages i).1.map pc→m.dV=(runM key e pages i).2.map sr→bn.L2 Q m σ:=by
  intro j
  induction j with
  | zero=>
   rintro i ⟨dU,b4,sF,ju,v9,n7,fC,eU,dV,a2,a3,a4,uj,qw,Ba,gF⟩ ei e8 e9 Nc Nd e1 e2 e3 e4 e5 e6
   dsimp only at e1 e2 e3 e4 e5 e6 e8 e9 Nc Nd
   subst e1 e2 e3 e4 e5 e6 e8 e9 Nc Nd
   obtain rfl:i=uj.length:=by omega
   refine bn.bW ?_
   unfold bn.B2; dsimp only
   rw [dge (by omega),ai]
   exact l3 ((hOf (uj.length:Int)).Level.length - uj.length) uj.length _ (by omega) (by omega) rfl rfl rfl rfl rfl rfl rfl
  | succ j ih=>
   rintro i ⟨dU,b4,sF,ju,v9,n7,fC,eU,dV,a2,a3,a4,uj,qw,Ba,gF⟩ ei e8 e9 Nc Nd e1 e2 e3 e4 e5 e6
   dsimp only at e1 e2 e3 e4 e5 e6 e8 e9 Nc Nd
   subst e1 e2 e3 e4 e5 e6 e8 e9 Nc Nd
   have hi:i<uj.length:=by omega
   refine bn.bW ?_
   unfold bn.B2; dsimp only
   rw [dlt hi,av]
   refine dm hi ?_
   have hpg:pgI uj (runM a3 a4 uj i).2 i=uj[i]:=by
    unfold pgI; rw [if_pos hi,List.getD_eq_getElem?_getD,List.getElem?_eq_getElem hi]; rfl
   refine uQ C (i:=i) (by omega) (hp _ (List.getElem_mem hi)) (by rw [List.length_map,kq]) (by rw [List.length_map,oe]) ?_
   rw [cu (by omega)]
   refine ih (i+1) _ (by omega) rfl rfl rfl rfl rfl rfl rfl rfl ?_ ?_
   ·dsimp only; rw [runM,List.map_append,hpg]; rfl
   ·dsimp only; rw [runM,List.map_append,hpg]; rfl
 unfold bn
 refine jR (by omega) ?_
 rw [show ((0:Int) !=0)=false from rfl,ai]
 refine y8 (by omega) (fun _=> ?_) (fun x hx hh=>(hh (hp x hx)).elim)
 unfold bn.K1; dsimp only
 rw [ai]
 exact l2 pages.length 0 _ (by omega) rfl rfl rfl rfl rfl rfl rfl rfl rfl rfl
theorem B9 {σ:St Obj} {Q:bn.QT} (hn:1≤pages.length∧pages.length≤216) {x:List Int} (hx:x ∈ pages) (hb:x.length ≠ 256) (H:Q [] ⟨0,0,Vector.replicate 32 0⟩ 1 σ):bn none key e pages σ Q:=by
 unfold bn
 refine jR (by omega) ?_
 rw [show ((0:Int) !=0)=false from rfl,ai]
 refine y8 (by omega) (fun h=>(hb (h x hx)).elim) (fun _ _ _=> ?_)
 unfold bn.K1; dsimp only
 rw [av]
 exact H
theorem AF {σ:St Obj} {Q:bn.QT} (hn:pages.length<1∨216<pages.length) (hl:pages.length≤100000) (H:Q [] ⟨0,0,Vector.replicate 32 0⟩ 1 σ):bn none key e pages σ Q:=by
 unfold bn
 have k: ∀ m:bn.V,m.fC=true→bn.K1 Q m σ:=by
  intro m hm
  unfold bn.K1
  rw [hm,av]; exact H
 unfold bx
 by_cases h:(pages.length:Int)<1
 ·rw [decide_eq_true h,av]
  unfold bx.K1; dsimp only
  rw [av,show ((1:Int) !=0)=true from rfl,av]
  exact k _ rfl
 ·rw [decide_eq_false h,ai,decide_eq_true (by omega)]
  unfold bx.K1; dsimp only
  rw [av,show ((1:Int) !=0)=true from rfl,av]
  exact k _ rfl
end Go.Pt
namespace Go.Pt
open Go Go.Wc Go.Pu
variable {key:Vector Int 32} {e:Int} {pages:List (List Int)}
theorem y9 {S1:ak.V→Prop} {Q:ak.QT} {c:ak.V} {blk:Int} {b:List Int} {r:aj} {f:Int}
  (hB: ∀ K:Int→Prop,K blk→ay c.s9 c.i13 0 K) (hH: ∀ K:aK.QT,K b r f→aK c.dn c.bu 0 blk c.fX K)
  (H: ∀ m:ak.V,m.bu=c.bu→m.dO=c.dO→m.dn=c.dn→m.s9=c.s9→m.fJ=c.fJ→m.dz=c.dz→m.i13=c.i13→m.BN=b→m.yS=r→m.f18=f→ak.K2 S1 Q m):ak.K3 S1 Q c:=by
 unfold ak.K3 ak.K4 ak.K8 ak.K7 ak.K5 ak.K6
 dsimp only
 refine ⟨hB _ ⟨hH _ ?_,hH _ ?_⟩,hB _ (hH _ ?_)⟩
 all_goals exact H _ rfl rfl rfl rfl rfl rfl rfl rfl rfl rfl
theorem AG {k:Vector Int 32} {n:Int} {p:List Int} {Q:aK.QT} (hp:p.length ≠ 256) (H:Q [] ⟨0,0,Vector.replicate 32 0⟩ 1):aK k e 0 n p Q:=by
 unfold aK aZ
 rw [show ((p.length:Int) !=256)=true by simp; omega,av]
 unfold aZ.K1; dsimp only
 rw [av,show ((1:Int) !=0)=true from rfl,av]
 unfold aK.K1; dsimp only
 rw [av]
 exact H
theorem uR (C:MC key e pages) {Q:ak.QT} (H:(∀ x ∈ pages,x.length=256)→Q (putsM key e pages) (rootM key e pages) 0)
  (H2: ∀ x ∈ pages,x.length ≠ 256→Q [] ⟨0,0,Vector.replicate 32 0⟩ 1):ak key e pages Q:=by
 have hs:=C.small
 have hn:=C.Nb
 have hpos:=C.pos
 have l1: ∀ (j i:Nat) (m:ak.V),i+j=(hOf (pages.length:Int)).Level.length→m.bu=e→m.dO=pages→m.dn=key→m.s9=hOf (pages.length:Int)→m.fJ=(runM key e pages i).1→m.dz=(runM key e pages i).2→m.i13=(i:Int)→
   (∀ x ∈ pages.take i,x.length=256)→ak.L1 Q m:=by
  intro j
  induction j with
  | zero=>
   rintro i ⟨bu,dO,dn,v7,s9,fJ,dz,i13,BN,yS,f18,fX,Lb,Lc,xg,QB,QC,MM,QD⟩ ei e1 e2 e3 e4 e5 e6 e7 hh
   dsimp only at e1 e2 e3 e4 e5 e6 e7
   obtain rfl:i=(hOf (pages.length:Int)).Level.length:=by omega
   refine ak.bD ?_
   unfold ak.B1; dsimp only
   rw [e4,e5,e6,e7,dge (by omega),ai]
   rw [List.take_of_length_le (by omega)] at hh
   exact AD (kq _) (by omega) (by omega) (H hh)
  | succ j ih=>
   rintro i ⟨bu,dO,dn,v7,s9,fJ,dz,i13,BN,yS,f18,fX,Lb,Lc,xg,QB,QC,MM,QD⟩ ei e1 e2 e3 e4 e5 e6 e7 hh
   dsimp only at e1 e2 e3 e4 e5 e6 e7
   have hl:i<(hOf (pages.length:Int)).Level.length:=by omega
   have good: ∀ (c:ak.V),c.bu=e→c.dO=pages→c.dn=key→c.s9=hOf (pages.length:Int)→c.fJ=(runM key e pages i).1→c.dz=(runM key e pages i).2→c.i13=(i:Int)→
     c.fX=pgI pages (runM key e pages i).2 i→c.fX.length=256→(∀ x ∈ pages.take (i+1),x.length=256)→ak.K3 (ak.L1 Q) Q c:=by
    intro c c1 c2 c3 c4 c5 c6 c7 c8 c9 hq
    refine y9 (blk:=bN i) (b:=hidI key e i c.fX) (r:=refI key e i c.fX) (f:=0) ?_ ?_ ?_
    ·intro K hK
     rw [c4,c7]
     refine mX (by omega) (by omega) (.inl rfl) ?_
     rw [show 2+2*(i:Int)+0=bN i by unfold bN; omega]
     exact hK
    ·intro K hK
     rw [c3,c1]
     exact xE C.key C.ep.1 c9 (by unfold bN; omega) (.inl rfl) hK
    ·intro m m1 m2 m3 m4 m5 m6 m7 m8 m9 RA
     unfold ak.K2
     rw [RA,show ((0:Int) !=0)=false from rfl,ai,m4,c4,m7,c7]
     refine mX (by omega) (by omega) (.inl rfl) ?_
     rw [show 2+2*(i:Int)+0=bN i by unfold bN; omega,m5,c5,m6,c6,m8,m9]
     refine ⟨bO (by simp [oe]; omega),bO (by simp [kq]; omega), ?_⟩
     rw [cu (by omega)]
     refine ih (i+1) _ (by omega) (m1.trans c1) (m2.trans c2) (m3.trans c3) rfl ?_ ?_ rfl hq
     ·dsimp only; rw [runM,c8]
     ·dsimp only; rw [runM,c8]
   refine ak.bD ?_
   unfold ak.B1; dsimp only
   rw [e4,e7,dlt (by omega),av,e2]
   by_cases hi:i<pages.length
   ·rw [dlt hi,av]
    refine dm hi ?_
    have hpg:pgI pages (runM key e pages i).2 i=pages[i]:=by
     unfold pgI; rw [if_pos hi,List.getD_eq_getElem?_getD,List.getElem?_eq_getElem hi]; rfl
    by_cases h6:pages[i].length=256
    ·refine good _ e1 rfl e3 rfl e5 e6 rfl hpg.symm h6 ?_
     intro x hx
     rw [eB hi] at hx
     rcases List.mem_append.1 hx with hx | hx
     ·exact hh x hx
     ·rw [List.mem_singleton.1 hx]; exact h6
    ·refine y9 (blk:=bN i) (b:=[]) (r:=⟨0,0,Vector.replicate 32 0⟩) (f:=1) ?_ ?_ ?_
     ·intro K hK
      dsimp only
      refine mX (by omega) (by omega) (.inl rfl) ?_
      rw [show 2+2*(i:Int)+0=bN i by unfold bN; omega]
      exact hK
     ·intro K hK
      exact AG h6 hK
     ·intro m m1 m2 m3 m4 m5 m6 m7 m8 m9 RA
      unfold ak.K2
      rw [RA,show ((1:Int) !=0)=true from rfl,av]
      exact H2 _ (List.getElem_mem hi) h6
   ·rw [dge (by omega),ai]
    refine xo C.T.N.wh ?_
    have k:=C.T.QF i (by omega) hl
    have hget: ∀ h0:0<(kidsR (hOf (pages.length:Int)) i).length,(kidsR (hOf (pages.length:Int)) i)[0]=(kidsR (hOf (pages.length:Int)) (i:Int)).getD 0 0:=by
     intro h0
     rw [List.getD_eq_getElem?_getD,List.getElem?_eq_getElem h0]; rfl
    refine iD 0 rfl (by omega) ?_
    refine iD 0 rfl (by omega) ?_
    rw [hget (by omega),wrap64 (n:=(kidsR (hOf (pages.length:Int)) (i:Int)).getD 0 0+_) (by omega) (by omega),e6]
    refine ⟨C.slok (by omega) hl, ?_⟩
    refine xF (C.sublen (by omega) hl) (y7 (y6 C.ep i)) ?_
    have hpg:pgI pages (runM key e pages i).2 i=layS (sub (runM key e pages i).2 ((kidsR (hOf (pages.length:Int)) (i:Int)).getD 0 0) ((kidsR (hOf (pages.length:Int)) (i:Int)).getD 0 0+((kidsR (hOf (pages.length:Int)) (i:Int)).length:Int))):=by
     unfold pgI; rw [if_neg (by omega)]
    have hall: ∀ x ∈ pages,x.length=256:=by
     rw [List.take_of_length_le (by omega)] at hh; exact hh
    refine good _ e1 rfl e3 rfl e5 rfl rfl hpg.symm ?_ ?_
    ·have hle:=C.pglen hall hl
     rw [hpg] at hle
     exact hle
    ·intro x hx; exact hall x (List.mem_of_mem_take hx)
 unfold ak
 refine Ao (by omega) C.T.N.new ?_
 rw [show ((0:Int) !=0)=false from rfl,ai]
 exact l1 (hOf (pages.length:Int)).Level.length 0 _ (by omega) rfl rfl rfl rfl rfl rfl rfl (by simp)
theorem xG {Q:ak.QT} (hn:pages.length<1∨216<pages.length) (hl:pages.length≤100000) (H:Q [] ⟨0,0,Vector.replicate 32 0⟩ 1):ak key e pages Q:=by
 unfold ak au
 by_cases h:(pages.length:Int)<1
 ·rw [decide_eq_true h,av]
  unfold au.K1; dsimp only
  rw [av,show ((1:Int) !=0)=true from rfl,av]
  exact H
 ·rw [decide_eq_false h,ai,decide_eq_true (by omega)]
  unfold au.K1; dsimp only
  rw [av,show ((1:Int) !=0)=true from rfl,av]
  exact H
theorem both (hk:bytesL key.toList) (he:iO e) (hn:pages.length≤14∨216<pages.length) (hl:pages.length≤100000) (σ:St Obj):
  ∃ (p:List bC) (r:aj) (f:Int),(∀ x ∈ p,x.Bytes.length≤100000)∧p.length≤100000∧
   (∀ Q:bn.QT,Q (p.map pc) (sr r) f σ→bn none key e pages σ Q)∧(∀ Q:ak.QT,Q p r f→ak key e pages Q):=by
 by_cases h0:pages.length<1∨216<pages.length
 ·exact ⟨[],⟨0,0,Vector.replicate 32 0⟩,1,by simp,by simp,fun Q h=>AF h0 hl h,fun Q h=>xG h0 hl h⟩
 have C:MC key e pages:=⟨tok (by omega),hk,he⟩
 by_cases h6: ∀ x ∈ pages,x.length=256
 ·refine ⟨putsM key e pages,rootM key e pages,0, ?_, ?_,fun Q h=>AE C h6 h,fun Q h=>uR C (fun _=>h) (fun x hx hb=>(hb (h6 x hx)).elim)⟩
  ·have: ∀ i,i≤(hOf (pages.length:Int)).Level.length→ ∀ x ∈ (runM key e pages i).1,x.Bytes.length≤100000:=by
    intro i
    induction i with
    | zero=>intro _ x hx; cases hx
    | succ i ih=>
     intro hi x hx
     rcases List.mem_append.1 hx with hx | hx
     ·exact ih (by omega) x hx
     ·rw [List.mem_singleton.1 hx]
      show (hidI key e i _).length≤_
      unfold hidI
      rw [pH,C.pglen h6 (by omega)]
      omega
   exact this _ (Nat.le_refl _)
  ·unfold putsM; rw [oe]; have:=C.small; omega
 ·have ⟨x,hx,hb⟩: ∃ x ∈ pages,x.length ≠ 256:=by
   apply Classical.byContradiction
   intro hc
   exact h6 fun x hx=>Classical.byContradiction fun hb=>hc ⟨x,hx,hb⟩
  exact ⟨[],⟨0,0,Vector.replicate 32 0⟩,1,by simp,by simp,fun Q h=>B9 (by omega) hx hb h,fun Q h=>uR C (fun ha=>(hb (ha x hx)).elim) (fun _ _ _=>h)⟩
end Go.Pt
namespace Go.Pt
open Go Go.Wc Go.Pu Go.Laws
theorem yb {l:List (List Int)} {Q:Bool→Prop} (Ht:Q true) (Hf:l.length≤14∨(216<l.length∧l.length≤300)→Q false):aJ l Q:=by
 have fin:(l.length≤14∨(216<l.length∧l.length≤300))→ ∀ (m:aJ.V),m.l0=l→m.ud=false→aJ.K1 Q m:=by
  rintro hl ⟨l0,ud,iQ,ue,v20⟩ e1 e2
  dsimp only at e1 e2
  subst e1 e2
  unfold aJ.K1; dsimp only
  rw [ai]
  have k: ∀ (j i:Nat) (m:aJ.V),i+j=l0.length→m.iQ=l0→m.ue=(l0.length:Int)→m.v20=(i:Int)→aJ.L2 Q m:=by
   intro j
   induction j with
   | zero=>
    rintro i ⟨l1,ud,iQ,ue,v20⟩ e e1 e2 e3
    dsimp only at e1 e2 e3
    subst e1 e2 e3
    refine aJ.bW ?_
    unfold aJ.B2; dsimp only
    rw [dge (by omega),ai]
    exact Hf hl
   | succ j ih=>
    rintro i ⟨l1,ud,iQ,ue,v20⟩ e e1 e2 e3
    dsimp only at e1 e2 e3
    subst e1 e2 e3
    have hi:i<iQ.length:=by omega
    refine aJ.bW ?_
    unfold aJ.B2; dsimp only
    rw [dlt hi,av]
    refine dm hi ?_
    cases hq:decide ((iQ[i].length:Int)>600) with
    | true=>exact Ht
    | false=>rw [ai,cu (by omega)]; exact ih (i+1) _ (by omega) rfl rfl rfl
  exact k l0.length 0 _ (by omega) rfl rfl rfl
 have tru: ∀ (m:aJ.V),m.ud=true→aJ.K1 Q m:=by
  intro m e
  unfold aJ.K1
  rw [e,av]; exact Ht
 unfold aJ
 by_cases h1:(l.length:Int)>14
 ·rw [decide_eq_true h1,av]
  by_cases h2:(l.length:Int)≤216
  ·rw [decide_eq_true h2,av]; exact tru _ rfl
  ·rw [decide_eq_false h2,ai]
   by_cases h3:(l.length:Int)>300
   ·rw [decide_eq_true h3]; exact tru _ rfl
   ·rw [decide_eq_false h3]; exact fin (by omega) _ rfl rfl
 ·rw [decide_eq_false h1,ai,decide_eq_false (by omega)]
  exact fin (by omega) _ rfl rfl
def zH (x:List Int):List Int:=cpL (List.replicate (Int.toNat (256:Int)) (0:Int)) x
theorem s6 {l:List (List Int)} {Q:List (List Int)→Prop} (hl:l.length≤100000) (H:Q (l.map zH)):aX l Q:=by
 have k: ∀ (j i:Nat) (m:aX.V),i+j=l.length→m.v7=l→m.v8=(l.length:Int)→m.v9=(i:Int)→m.cr=(l.take i).map zH→aX.L1 Q m:=by
  intro j
  induction j with
  | zero=>
   rintro i ⟨cr,v7,v8,v9⟩ e e1 e2 e3 e4
   dsimp only at e1 e2 e3 e4
   subst e1 e2 e3 e4
   refine aX.bD ?_
   unfold aX.B1; dsimp only
   rw [dge (by omega),ai,List.take_of_length_le (by omega)]
   exact H
  | succ j ih=>
   rintro i ⟨cr,v7,v8,v9⟩ e e1 e2 e3 e4
   dsimp only at e1 e2 e3 e4
   subst e1 e2 e3 e4
   have hi:i<v7.length:=by omega
   refine aX.bD ?_
   unfold aX.B1; dsimp only
   rw [dlt hi,av]
   refine dm hi ⟨?_, ?_⟩
   ·refine bO ?_
    rw [List.length_map,List.length_take,List.length_singleton]
    omega
   rw [cu (by omega)]
   refine ih (i+1) _ (by omega) rfl rfl rfl ?_
   dsimp only
   rw [eB hi,List.map_append]; rfl
 unfold aX
 exact k l.length 0 _ (by omega) rfl rfl rfl rfl
theorem Ko {a:List Int} {Q:bf.QT} (ha:a.length≤100000) (H:Q true):bf a a Q:=by
 unfold bf
 rw [show ((a.length:Int) !=(a.length:Int))=false by simp,ai]
 have:=sB (B:=fun S=>bf.B1 S Q) a.length (fun i=>({bf.v0 with a0:=a,b1:=a,i5:=(i:Int)}:bf.V)) ?_ ?_
 ·exact this
 ·intro i S hi hS
  unfold bf.B1; dsimp only
  rw [dlt hi,av]
  refine dm hi (dm hi ?_)
  rw [show (a[i] !=a[i])=false by simp,ai,cu (by omega)]
  exact hS
 ·intro S
  unfold bf.B1; dsimp only
  rw [dge (by omega),ai]
  exact H
theorem FW {S1:af.V→St Obj→Prop} {Q:af.QT} {σ:St Obj} {p:List bC} {key:Vector Int 32} {e:Int} {fU:List (List (List Int))} {jI kJ:Int} (hb: ∀ x ∈ p,x.Bytes.length≤100000) (hp:p.length≤100000)
  (H: ∀ m:af.V,m.dn=key→m.bu=e→m.fU=fU→m.jI=jI→m.kJ=IntKind.wrap .i64 (kJ+1)→S1 m σ):
  ∀ (j i:Nat) (m:af.V),i+j=p.length→m.a9=p.map pc→m.iA=p→m.qU=(p.length:Int)→m.lT=(i:Int)→m.dn=key→m.bu=e→m.fU=fU→m.jI=jI→m.kJ=kJ→af.L3 S1 Q m σ:=by
 intro j
 induction j with
 | zero=>
  intro i m ei e1 e2 e3 e4 e5 e6 e7 e8 e9
  refine af.fF _ ?_
  unfold af.B3
  rw [e3,e4,dge (by omega),ai]
  refine H _ e5 e6 e7 e8 ?_
  dsimp only; rw [e9]
 | succ j ih=>
  intro i m ei e1 e2 e3 e4 e5 e6 e7 e8 e9
  have hi:i<p.length:=by omega
  have qI:i<(p.map pc).length:=by rw [List.length_map]; exact hi
  refine af.fF _ ?_
  unfold af.B3
  rw [e1,e2,e3,e4,dlt hi,av]
  refine dm qI (dm hi ?_)
  rw [List.getElem_map,show ((pc p[i]).Block !=p[i].Block)=false by show (p[i].Block !=p[i].Block)=false; simp,ai]
  refine dm qI (dm hi ?_)
  rw [List.getElem_map]
  refine Ko (hb _ (List.getElem_mem hi)) ?_
  unfold af.K4; dsimp only
  rw [show (!true)=false from rfl,ai,cu (by omega)]
  exact ih (i+1) _ (by omega) rfl rfl rfl rfl e5 e6 e7 e8 e9
theorem iu (x0:Vector Int 32) (n0:(fun v:Vector Int 32=> ∀ x ∈ v.toList,(Lit.int .u8 x).wf=true) x0) (x1:Int) (n1:(Lit.int .u32 x1).wf=true) (x2:List (List Int)) (n2:(fun l:List (List Int)=>l.length≤maxLen∧ ∀ x ∈ l,(fun l:List Int=>l.length≤maxLen∧ ∀ x ∈ l,(fun n:Int=>(Lit.int .u8 n).wf=true) x) x) x2):
  af x0 x1 x2 Kj (fun b _=>b=true):=by
 have hk:bytesL x0.toList:=fun x hx=>by
  have:=n0 x hx
  simp only [Lit.wf,Bool.and_eq_true,decide_eq_true_eq] at this
  have h2:x≤255:=this.2
  have h1:0≤x:=this.1
  exact ⟨h1,by omega⟩
 have he:iO x1:=by
  simp only [Lit.wf,Bool.and_eq_true,decide_eq_true_eq] at n1
  have h2:x1≤4294967295:=n1.2
  have h1:0≤x1:=n1.1
  exact ⟨h1,by omega⟩
 unfold af
 refine yb ?_ fun hl=> ?_
 ·rw [av]; unfold dr; rfl
 rw [ai]
 have yK:x2.length≤300:=by omega
 refine s6 (by omega) ?_
 have go: ∀ (j i:Nat) (m:af.V),i+j=2→m.dn=x0→m.bu=x1→m.fU=[x2,x2.map zH]→m.jI=2→m.kJ=(i:Int)→af.L1 (fun b _=>b=true) m Kj:=by
  intro j
  induction j with
  | zero=>
   intro i m ei e1 e2 e3 e4 e5
   refine af.bD ?_
   unfold af.B1
   rw [e4,e5,decide_eq_false (by omega),ai]
   unfold dr; rfl
  | succ j ih=>
   intro i m ei e1 e2 e3 e4 e5
   refine af.bD ?_
   unfold af.B1
   rw [e3,e4,e5,decide_eq_true (by omega),av]
   refine dm (by simp; omega) ?_
   generalize hx:([x2,x2.map zH]:List (List (List Int)))[i]'(by simp; omega)=y
   have hy:y.length=x2.length:=by
    rw [← hx]
    match i,ei with
    | 0,_=>rfl
    | 1,_=>simp
    | i+2,h=>omega
   rw [e1,e2]
   obtain ⟨p,r,f,hb,hp,T,R⟩:=both (key:=x0) (e:=x1) (pages:=y) hk he (by omega) (by omega) Kj
   refine T _ (R _ ?_)
   have hd:((sr r).cH.toList==r.cH.toList)=true:=by show (r.cH.toList==r.cH.toList)=true; simp
   rw [show (!((sr r).Place==r.Place && ((sr r).dF==r.dF && ((sr r).cH.toList==r.cH.toList && true))))=false by
    rw [hd,show ((sr r).Place==r.Place)=true by show (r.Place==r.Place)=true; simp,show ((sr r).dF==r.dF)=true by show (r.dF==r.dF)=true; simp]; rfl,ai]
   rw [show (f !=f)=false by simp,ai]
   unfold af.K2; dsimp only
   rw [List.length_map,show ((p.length:Int) !=(p.length:Int))=false by simp,ai]
   refine FW (p:=p) (key:=x0) (e:=x1) (fU:=m.fU) (jI:=2) (kJ:=(i:Int)) hb hp ?_ p.length 0 _ (by omega) rfl rfl rfl rfl rfl rfl e3.symm rfl rfl
   intro m' f1 f2 f3 f4 f5
   rw [cu (by omega)] at f5
   exact ih (i+1) m' (by omega) f1 f2 (f3.trans e3) f4 f5
 exact go 2 0 _ (by omega) rfl rfl rfl rfl rfl
end Go.Pt
