import Derived.Test.YtkgbogibfogjgaaGreatDoorTiB
import Derived.Test.YtkgbogibfogjgaaGreatDoorTiI
set_option linter.unusedVariables false
set_option linter.unusedSimpArgs false
set_option maxHeartbeats 4000000
set_option maxRecDepth 100000
namespace Go.Pu
open Go Go.Wc
theorem Ea {V:Type} {B:(V->Prop)->V->Prop} (n:Nat) (st:Nat->V) (P:Nat->Prop)
    (hstep: ∀ i S,i<n->P i->(P (i+1)->S (st (i+1)))->B S (st i)) (hend: ∀ S,P n->B S (st n)): ∀ i,i<=n->P i->Lf B (st i):=by
  have key: ∀ j i,i+j=n->P i->Lf B (st i):=by
    intro j
    induction j with
    | zero => intro i e hP; obtain rfl : i = n := by omega
              exact Lf.fold (hend _ hP)
    | succ j ih=>intro i e hP; exact Lf.fold (hstep i _ (by omega) hP fun h=>ih (i+1) (by omega) h)
  intro i hi hP;exact key (n - i) i (by omega) hP
theorem zO {V:Type} {B:(V->Prop)->V->Prop} (n:Nat) (st:Nat->V)
  (hstep: ∀ i S,i<n->S (st (i+1))->B S (st i)) (hend: ∀ S,B S (st n)):Lf B (st 0):=
 Ea n st (fun _=>True) (fun i S hi _ h=>hstep i S hi (h trivial)) (fun S _=>hend S) 0 (Nat.zero_le _) trivial
theorem cK {i:Nat} (h:i<9000000000000000000):IntKind.wrap .i64 ((i:Int)+(1:Int))=((i+1:Nat):Int):=by rw [wrap64 (by omega) (by omega)]; omega
theorem dlt {i n:Nat} (h:i<n):decide ((i:Int)<(n:Int))=true:=by simp; omega
theorem dge {i n:Nat} (h:n<=i):decide ((i:Int)<(n:Int))=false:=by simp; omega
theorem dX {X:Type} {l:List X} {i:Nat} {K:X->Prop} (h:i<l.length) (H:K l[i]):ixP l (i:Int) K:=lP (List.getElem?_eq_getElem h) H
theorem fC {X:Type} {l:List X} {i:Int} {K:X->Prop} (j:Nat) (hj:i=(j:Int)) (h:j<l.length) (H:K l[j]):ixP l i K:=by subst hj; exact dX h H
theorem dg {X:Type} {l:List X} {i:Nat} (h:i<l.length):l.take (i+1)=l.take i++[l[i]]:=by rw [List.take_add_one,List.getElem?_eq_getElem h]; rfl
theorem mc {X Y:Type} {l:List X} {f:X->Y} {i:Nat} (h:i<l.length):(l.take i).map f++[f l[i]]=(l.take (i+1)).map f:=by rw [dg h,List.map_append]; rfl
theorem cn {n:Nat} (h:n<=4000000000):Bnd n:=by unfold Bnd; omega
def rotR (n:Nat) (x:Int):Int:=x / 2 ^ n+x % 2 ^ n*2 ^ (32 - n)
def gE (x:Int):Prop:=0<=x/\x<4294967296
def Eb (x:Int):Int:=IntKind.wrap .u32 (IntKind.wrap .u32 (Int.tdiv x 2)+IntKind.wrap .u32 (Int.tmod x 2*2147483648))
def KW (x:Int):Int:=IntKind.wrap .u32 (IntKind.wrap .u32 (x*2)+IntKind.wrap .u32 (Int.tdiv x 2147483648))
theorem wrap_u32 (n:Int):IntKind.wrap .u32 n=n % 4294967296:=by rw [show IntKind.wrap .u32 n=n % 4294967296 from rfl]
theorem qN (n:Int):gE (IntKind.wrap .u32 n):=by rw [wrap_u32]; unfold gE; omega
theorem bS {n:Int} (h:gE n):IntKind.wrap .u32 n=n:=by rw [wrap_u32]; unfold gE at h; omega
theorem kO (n:Nat):(0:Int)<2 ^ n:=Int.pow_pos (by decide)
theorem qO {n:Nat} (h:n<=32):(2:Int) ^ n*2 ^ (32 - n)=4294967296:=by rw [<- Int.pow_add,Nat.add_sub_of_le h]; rfl
theorem mH {n:Nat} (h:n<32) {x:Int} (hx:gE x): ∃ P S q r b:Int,(2:Int) ^ n=P/\2 ^ (n+1)=2*P/\2 ^ (32 - n)=2*S/\2 ^ (32 - (n+1))=S/\0<P/\0<S/\P*S=2147483648/\
  0<=q/\q<S/\0<=r/\r<P/\(b=0\/b=1)/\x / 2 ^ (n+1)=q/\x / 2 ^ n=2*q+b/\x % 2 ^ n=r/\x % 2 ^ (n+1)=b*P+r/\0<=r*S/\r*S+q<2147483648:=by
 have e1:(2:Int) ^ (n+1)=2*2 ^ n:=by rw [Int.pow_succ,Int.mul_comm]
 have e2:(2:Int) ^ (32 - n)=2*2 ^ (32 - (n+1)):=by rw [show 32 - n=(32 - (n+1))+1 by omega,Int.pow_succ,Int.mul_comm]
 have e3:(2:Int) ^ n*2 ^ (32 - (n+1))=2147483648:=by have:=qO (n:=n) (by omega);rw [e2,Int.mul_left_comm] at this; omega
 have hP:=kO n;have hS:=kO (32 - (n+1));refine ⟨2 ^ n,2 ^ (32 - (n+1)),x / (2*2 ^ n),x % 2 ^ n,x / 2 ^ n % 2,rfl,e1,e2,rfl,hP,hS,e3, ?_⟩;have d1:=Int.mul_ediv_add_emod x (2 ^ n);have d2:=Int.emod_nonneg x (b:=2 ^ n) (by omega);have d3:=Int.emod_lt_of_pos x hP;have d4:x / (2*2 ^ n)=x / 2 ^ n / 2:=by rw [Int.mul_comm,Int.ediv_ediv_of_nonneg (by omega)]
 have d5:0<=x / 2 ^ n:=Int.ediv_nonneg hx.1 (by omega)
 have d6:x / 2 ^ n<2*2 ^ (32 - (n+1)):=by
  refine Int.ediv_lt_of_lt_mul hP ?_;have h2:=hx.2;have:(2*2 ^ (32 - (n+1)):Int)*2 ^ n=2*(2 ^ n*2 ^ (32 - (n+1))):=by rw [Int.mul_comm (2 ^ n),Int.mul_assoc]
  rw [this,e3]; omega
 have d7:=Int.mul_ediv_add_emod x (2*2 ^ n);have d8:(2:Int)*2 ^ n*(x / (2*2 ^ n))=2 ^ n*(2*(x / 2 ^ n / 2)):=by rw [d4]; simp only [Int.mul_assoc,Int.mul_left_comm]
 have d9:(2:Int) ^ n*(x / 2 ^ n)=2 ^ n*(2*(x / 2 ^ n / 2))+2 ^ n*(x / 2 ^ n % 2):=by rw [<- Int.mul_add]; congr 1; omega
 have d10:x % 2 ^ n*2 ^ (32 - (n+1))<=(2 ^ n - 1)*2 ^ (32 - (n+1)):=Int.mul_le_mul_of_nonneg_right (by omega) (by omega);rw [Int.sub_mul,e3] at d10;refine ⟨?_, ?_,d2,d3, ?_, ?_, ?_,rfl, ?_, ?_, ?_⟩
 ·omega
 ·omega
 ·omega
 ·rw [e1]
 ·omega
 ·rw [e1,Int.mul_comm (x / 2 ^ n % 2)]; omega
 ·exact Int.mul_nonneg d2 (by omega)
 ·omega
theorem wW {n:Nat} (h:n<32) {x:Int} (hx:gE x):gE (rotR n x):=by obtain ⟨P,S,q,r,b,h1,h2,h3,h4,h5,h6,h7,h8,h9,VM,qf,zw,Ml,IT,IU,CI,P4,P5⟩:=mH h hx;unfold rotR gE;rw [IT,IU,h3,Int.mul_left_comm];omega
theorem zP {n:Nat} (h:n<32) {x:Int} (hx:gE x):Eb (rotR n x)=rotR (n+1) x:=by
 obtain ⟨P,S,q,r,b,h1,h2,h3,h4,h5,h6,h7,h8,h9,VM,qf,zw,Ml,IT,IU,CI,P4,P5⟩:=mH h hx;have hw:=wW h hx;unfold Eb;rw [Int.tdiv_eq_ediv_of_nonneg hw.1,Int.tmod_eq_emod_of_nonneg hw.1,wrap_u32,wrap_u32,wrap_u32];unfold rotR at hw |-
 rw [IT,IU,h3,Int.mul_left_comm] at hw;rw [IT,IU,h3,Ml,CI,h4,Int.mul_left_comm,Int.add_mul,Int.mul_assoc,h7];rcases zw with rfl | rfl <;> omega
theorem CJ {n:Nat} (h:n<32) {x:Int} (hx:gE x):KW (rotR (n+1) x)=rotR n x:=by
 obtain ⟨P,S,q,r,b,h1,h2,h3,h4,h5,h6,h7,h8,h9,VM,qf,zw,Ml,IT,IU,CI,P4,P5⟩:=mH h hx;unfold KW
 have e:rotR (n+1) x=q+(b*2147483648+r*S):=by unfold rotR;rw [Ml,CI,h4,Int.add_mul,Int.mul_assoc,h7]
 have e2:rotR n x=2*q+b+2*(r*S):=by unfold rotR;rw [IT,IU,h3,Int.mul_left_comm]
 rw [e,e2,Int.tdiv_eq_ediv_of_nonneg (by rcases zw with rfl | rfl <;> omega),wrap_u32,wrap_u32,wrap_u32];have j1:(q+(b*2147483648+r*S)) / 2147483648=b:=by rcases zw with rfl | rfl <;> omega
 have j2:(q+(b*2147483648+r*S))*2 % 4294967296=2*q+2*(r*S):=by rcases zw with rfl | rfl <;> omega
 rw [j1,j2];rcases zw with rfl | rfl <;> omega
theorem Mm {x:Int}:rotR 0 x=x:=by unfold rotR; simp
theorem IV {x:Int} (hx:gE x):rotR 32 x=x:=by unfold rotR;have h1:=hx.1; have h2:=hx.2;rw [show (2:Int) ^ 32=4294967296 from rfl,show (2:Int) ^ (32 - 32)=1 from rfl]; omega
theorem qP {P S a r:Int} {n:Nat} (hP:P=2 ^ n) (hr:0<=r/\r<P) (ha:0<=a) (h:a*P+r<4294967296):
  ((BitVec.ofInt 32 (a*P) ||| BitVec.ofInt 32 r).toNat:Int)=a*P+r:=by
 obtain ⟨a',rfl⟩:=Int.eq_ofNat_of_zero_le ha;obtain ⟨r',rfl⟩:=Int.eq_ofNat_of_zero_le hr.1;subst hP;have e:((a':Int)*2 ^ n)=((2 ^ n*a':Nat):Int):=by rw [Int.natCast_mul,Int.natCast_pow]; exact Int.mul_comm _ _
 rw [e] at h |-
 have hlt:r'<2 ^ n:=by have:=hr.2; exact_mod_cast this
 have hsum:2 ^ n*a'+r'<4294967296:=by clear e; generalize 2 ^ n*a'=m at*; omega
 rw [BitVec.toNat_or,BitVec.ofInt_natCast,BitVec.ofInt_natCast,BitVec.toNat_ofNat,BitVec.toNat_ofNat,Nat.mod_eq_of_lt (by omega),Nat.mod_eq_of_lt (by omega),<- Nat.two_pow_add_eq_or_of_lt hlt];rw [Int.natCast_add]
end Go.Pu

namespace Go.Pt
open Go Go.Wc Go.Pu
def jB (m:Int):Int:=(m+5) / 6
def newB (n:Int):List Int:=
 let m1:=jB n
 let l1:=[0,n,n+m1]
 if m1>1 then
  let m2:=jB m1
  let l2:=l1++[n+m1+m2]
  if m2>1 then l2++[n+m1+m2+jB m2] else l2
 else l1
theorem Ab {c:bM.V} {Q:bM.QT} {l:List Int} {m x:Int} (e1:c.l4=l) (e2:c.eE=m) (hl:2<=l.length/\l.length<=10) (hm:1<=m/\m<=216) (hx:l[l.length - 1]? =some x) (Ac:0<=x/\x<=1000) (hgo:m>1\/l.length=2)
  (H: ∀ c':bM.V,c'.l4=l++[x+jB m]->c'.eE=jB m->bM.L2 Q c'):bM.L2 Q c:=by
 refine bM.cw ?_;subst e1 e2
 have hK:bM.K3 (bM.L2 Q) Q {c with vo:=true}:=by
  unfold bM.K3;rw [ak];refine ⟨⟨by omega,by omega,by omega⟩, ?_⟩;have e:IntKind.wrap .i64 (((c.l4.length:Nat):Int) - 1)=((c.l4.length - 1:Nat):Int):=by rw [wrap64 (by omega) (by omega)]; omega
  dsimp only;rw [e];refine ⟨rfl,lP hx ?_⟩;have e1:IntKind.wrap .i64 ((IntKind.wrap .i64 (c.eE+6)) - 1)=c.eE+5:=by rw [wrap64 (n:=c.eE+6) (by omega) (by omega),wrap64 (by omega) (by omega)]; omega
  have e2:IntKind.wrap .i64 (Int.tdiv (c.eE+5) 6)=jB c.eE:=by rw [Int.tdiv_eq_ediv_of_nonneg (by omega),wrap64 (by omega) (by omega)]; rfl
  have hu:0<=jB c.eE/\jB c.eE<=40:=by unfold jB; omega
  have e3:sub c.l4 0 (c.l4.length:Int)=c.l4:=by simp [sub]
  rw [e1,e2,wrap64 (n:=x+jB c.eE) (by omega) (by omega),e3];exact ⟨cn (by simp; omega),H _ rfl rfl⟩
 unfold bM.B2
 by_cases h:c.eE>1
 ·rw [decide_eq_true h,ak]; exact hK
 ·rw [decide_eq_false h,aa]
  have:c.l4.length=2:=by omega
  rw [show ((c.l4.length:Int)==2)=true by rw [this]; rfl];exact hK
theorem qZ {c:bM.V} {Q:bM.QT} {l:List Int} {m:Int} (e1:c.l4=l) (e2:c.eE=m) (hm:m<=1) (hl:l.length ≠ 2) (H:Q ⟨l⟩ 0):bM.L2 Q c:=by refine bM.cw ?_;subst e1 e2;unfold bM.B2;rw [decide_eq_false (by omega),aa];unfold bM.K3;dsimp only;rw [show ((c.l4.length:Int)==2)=false by rw [beq_eq_false_iff_ne]; omega,aa];exact H
theorem kX {n:Int} {Q:bM.QT} (hn:1<=n/\n<=216) (H:Q ⟨newB n⟩ 0):bM n Q:=by
 unfold bM;rw [decide_eq_false (by omega),aa];unfold bM.K1;dsimp only;rw [decide_eq_false (by omega),aa];have b1:1<=jB n/\jB n<=36:=by unfold jB; omega
 refine Ab (l:=[0,n]) (m:=n) rfl rfl (by simp) hn (x:=n) rfl (by omega) (.inr rfl) fun c1 e1 e2=> ?_;unfold newB at H;dsimp only at H
 by_cases h1:jB n>1
 ·rw [if_pos h1] at H
  have b2:1<=jB (jB n)/\jB (jB n)<=6:=by unfold jB at b1 |-; omega
  refine Ab e1 e2 (by simp) (by omega) (x:=n+jB n) rfl (by omega) (.inl h1) fun c2 e3 e4=> ?_
  by_cases h2:jB (jB n)>1
  ·rw [if_pos h2] at H
   have b3:jB (jB (jB n))<=1:=by unfold jB at b2 |-; omega
   refine Ab e3 e4 (by simp) (by omega) (x:=n+jB n+jB (jB n)) rfl (by omega) (.inl h2) fun c3 e5 e6=> ?_;exact qZ e5 e6 b3 (by simp) H
  ·rw [if_neg h2] at H
   exact qZ e3 e4 (by omega) (by simp) H
 ·rw [if_neg h1] at H
  exact qZ e1 e2 (by omega) (by simp) H
structure WfB (b:List Int):Prop where
 len:3<=b.length/\b.length<=10
 Q9: ∀ x ∈ b,0<=x/\x<=1000
def lvS:List Int->Int->Int->Int
 | [],_,_=> -1
 | x::r,k,item=>if item<x then k else lvS r (k+1) item
def levelS (b:List Int) (item:Int):Int:=if item<0 then -1 else lvS b.tail 0 item
theorem BE: ∀ (r:List Int) (k item:Int),0<=k->lvS r k item= -1\/(k<=lvS r k item/\lvS r k item<k+r.length)
 | [],k,item,_=> .inl rfl
 | x::r,k,item,hk=>by
  simp only [lvS,List.length_cons];split
  ·exact .inr ⟨Int.le_refl _,by omega⟩
  ·rcases BE r (k+1) item (by omega) with h | h
   ·exact .inl h
   ·exact .inr ⟨by omega,by omega⟩
theorem q7 (b:List Int) (item:Int) (hb:1<=b.length):levelS b item= -1\/(0<=levelS b item/\levelS b item+1<b.length/\0<=item):=by
 unfold levelS;split
 ·exact .inl rfl
 ·have:=BE b.tail 0 item (by omega)
  simp only [List.length_tail] at this;rcases this with h | h
  ·exact .inl h
  ·exact .inr ⟨by omega,by omega,by omega⟩
theorem xj {b:List Int} {Q:Int->Prop} (hb:WfB b) (H:Q ((b.length - 1:Nat):Int)):eN ⟨b⟩ Q:=by
 unfold eN;have:=hb.len;have e:IntKind.wrap .i64 ((b.length:Int) - 1)=((b.length - 1:Nat):Int):=by rw [wrap64 (by omega) (by omega)]; omega
 dsimp only;rw [e,if_neg (by omega)];exact H
theorem rj {b:List Int} {item:Int} {Q:Int->Prop} (hb:WfB b) (H:Q (levelS b item)):bC ⟨b⟩ item Q:=by
 unfold bC;have hl:=hb.len;unfold levelS at H;rw [zx];constructor
 ·intro h; rw [if_pos (by simpa using h)] at H; exact H
 intro h;rw [if_neg (by simpa using h)] at H;refine xj hb ?_;refine Ea (b.length - 1) (fun i=> {bC.v0 with bI:=item,s2:=⟨b⟩,v9:=((b.length - 1:Nat):Int),v10:=(i:Int)}) (fun i=>Q (lvS (b.tail.drop i) i item)) ?_ ?_ 0 (Nat.zero_le _) (by simpa using H)
 ·intro i S hi hP hS
  unfold bC.B1;dsimp only;rw [dlt hi,ak,cK (by omega)];refine dX (by omega) ?_
  have e:b.tail.drop i=b[i+1]'(by omega)::b.tail.drop (i+1):=by rw [List.drop_eq_getElem_cons (by simp; omega)];simp
  rw [e] at hP;simp only [lvS] at hP;rw [zx];constructor
  ·intro h1; rw [if_pos (by simpa using h1)] at hP; exact hP
  ·intro h1
   rw [if_neg (by simpa using h1)] at hP;refine hS ?_;have:(((i+1:Nat)):Int)=(i:Int)+1:=by omega
   rw [this]; exact hP
 ·intro S hP
  unfold bC.B1;dsimp only;rw [dge (Nat.le_refl _),aa];have:b.tail.drop (b.length - 1)=[]:=List.drop_eq_nil_of_le (by simp);rw [this] at hP;exact hP
def itemsS (b:List Int):Int:=b.getD (b.length - 1) 0
def pagesS (b:List Int):Int:=b.getD 1 0
theorem rm {b:List Int} (hb:WfB b) (i:Nat):0<=b.getD i 0/\b.getD i 0<=1000:=by
 rw [List.getD_eq_getElem?_getD]
 cases h:b[i]? with
 | none=>simp
 | some x=>exact hb.Q9 x (List.mem_of_getElem? h)
theorem gb {l:List Int} {i:Int} {K:Int->Prop} (j:Nat) (hj:i=(j:Int)) (h:j<l.length) (H:K (l.getD j 0)):ixP l i K:=
 fC j hj h (by rw [List.getD_eq_getElem?_getD,List.getElem?_eq_getElem h] at H; exact H)
theorem fL {b:List Int} {Q:Int->Prop} (hb:WfB b) (H:Q (itemsS b)):cC ⟨b⟩ Q:=by unfold cC;have hl:=hb.len;dsimp only;rw [show ((b.length:Int)==0)=false by rw [beq_eq_false_iff_ne]; omega,aa];exact gb (b.length - 1) (by rw [wrap64 (by omega) (by omega)]; omega) (by omega) H
def parentS (b:List Int) (item:Int):Int × Int × Bool:=
 let l:=levelS b item
 if l<0\/item=itemsS b - 1 then (0,0,false)
 else (b.getD (l.toNat+1) 0+Int.tdiv (item - b.getD l.toNat 0) 6,Int.tmod (item - b.getD l.toNat 0) 6,true)
theorem Eu: ∀ (r:List Int) (k item:Int),(∀ x ∈ r,x<=1000)->lvS r k item ≠ -1->item<1000
 | [],k,item,_,h=>absurd rfl h
 | x::r,k,item,hr,h=>by
  simp only [lvS] at h;split at h
  ·have:=hr x (by simp); omega
  ·exact Eu r (k+1) item (fun y hy=>hr y (by simp [hy])) h
theorem xk {b:List Int} {item:Int} (hb:WfB b) (h: ¬ levelS b item<0):0<=item/\item<1000:=by
 have h1:=q7 b item (by have:=hb.len; omega);refine ⟨by omega, ?_⟩;unfold levelS at h;split at h
 ·omega
 ·exact Eu b.tail 0 item (fun x hx=>(hb.Q9 x (List.mem_of_mem_tail hx)).2) (by omega)
end Go.Pt
namespace Go.Pt
open Go Go.Wc Go.Pu
variable {b:List Int}
def upS (b:List Int):Nat->Int->Bool->List Int × Bool
 | _,_,false=>([],true)
 | 0,_,true=>([],false)
 | k+1,p,true=>(p::(upS b k (parentS b p).1 (parentS b p).2.2).1,(upS b k (parentS b p).1 (parentS b p).2.2).2)
def pathS (b:List Int) (page:Int):List Int × Bool:=
 if levelS b page=0 then (page::(upS b 12 (parentS b page).1 (parentS b page).2.2).1,(upS b 12 (parentS b page).1 (parentS b page).2.2).2) else ([],true)
def fromI (a:Int):Nat->List Int
 | 0=>[]
 | k+1=>a::fromI (a+1) k
theorem rq (a:Int): ∀ k:Nat,fromI a k++[a+k]=fromI a (k+1)
 | 0=>by simp [fromI]
 | k+1=>by
  have:=rq (a+1) k;simp only [fromI,List.cons_append] at this |-
  rw [<- this];congr 3; omega
theorem nC (a:Int): ∀ k:Nat,(fromI a k).length=k
 | 0=>rfl
 | k+1=>by simp [fromI,nC (a+1) k]
def kidsS (b:List Int) (item:Int):List Int:=
 let l:=levelS b item
 if l<1 then []
 else
  let f:=b.getD (l.toNat - 1) 0+6*(item - b.getD l.toNat 0)
  fromI f (Int.toNat (min (f+6) (b.getD l.toNat 0) - f))
theorem oE (hb:WfB b) {item:Int} {Q:bA.QT} (H:Q (kidsS b item)):bA ⟨b⟩ item Q:=by
 unfold bA;refine rj hb ?_;unfold kidsS at H;dsimp only at H;have hl:=hb.len
 by_cases h:levelS b item<1
 ·rw [if_pos h] at H
  rw [decide_eq_true h,ak]; exact H
 rw [if_neg h] at H;rw [decide_eq_false h,aa];have hr:=q7 b item (by omega);have hi:=xk hb (item:=item) (by omega);dsimp only;refine gb ((levelS b item).toNat - 1) (by rw [wrap64 (by omega) (by omega)]; omega) (by omega) ?_;refine gb (levelS b item).toNat (by omega) (by omega) ?_;have g1:=rm hb ((levelS b item).toNat - 1);have g2:=rm hb (levelS b item).toNat;generalize b.getD ((levelS b item).toNat - 1) 0=x at*
 generalize hy:b.getD (levelS b item).toNat 0=y at*
 rw [wrap64 (n:=item - y) (by omega) (by omega),wrap64 (n:=6*(item - y)) (by omega) (by omega),wrap64 (n:=x+6*(item - y)) (by omega) (by omega)];generalize hf:x+6*(item - y)=f at*
 have hfr: -6000<=f/\f<=7001:=by omega
 let n:=Int.toNat (min (f+6) y - f)
 have hn:n<=6:=by simp only [n]; omega
 refine zO n (fun i=> {bA.v0 with s2:=⟨b⟩,qW:=levelS b item,eX:=f,l7:=fromI f i,k8:=f+i}) ?_ ?_ |> fun h=>by simpa [bA.L1,fromI] using h
 ·intro i S qC hS
  unfold bA.B1;dsimp only;refine gb (levelS b item).toNat (by omega) (by omega) ?_;rw [hy,wrap64 (n:=f+6) (by omega) (by omega)];rw [decide_eq_true (by simp only [n] at qC; split <;> omega),ak];refine ⟨cn (by simp [nC]; omega), ?_⟩;rw [rq,wrap64 (by omega) (by omega)];have:f+(i:Int)+1=f+((i+1:Nat):Int):=by omega
  rw [this];exact hS
 ·intro S
  unfold bA.B1;dsimp only;refine gb (levelS b item).toNat (by omega) (by omega) ?_;rw [hy,wrap64 (n:=f+6) (by omega) (by omega)];rw [decide_eq_false (by simp only [n]; split <;> omega),aa];exact H
def blockS (b:List Int) (item place:Int):Int:=if levelS b item<0\/place<0\/place>1 then -1 else 2+2*item+place
theorem ru (hb:WfB b) {item place:Int} {Q:bn.QT} (H:Q (blockS b item place)):bn ⟨b⟩ item place Q:=by
 unfold bn;refine rj hb ?_;unfold blockS at H;unfold bn.K1;dsimp only
 by_cases h:levelS b item<0
 ·rw [if_pos (.inl h)] at H
  rw [decide_eq_true h,ak,ak]; exact H
 rw [decide_eq_false h,aa]
 by_cases h2:place<0
 ·rw [if_pos (.inr (.inl h2))] at H
  rw [decide_eq_true h2,ak,ak]; exact H
 rw [decide_eq_false h2,aa]
 by_cases h3:place>1
 ·rw [if_pos (.inr (.inr h3))] at H
  rw [decide_eq_true h3,ak]; exact H
 rw [if_neg (by omega)] at H;rw [decide_eq_false h3,aa];have hi:=xk hb h;rw [wrap64 (n:=2*item) (by omega) (by omega),wrap64 (n:=2+2*item) (by omega) (by omega),wrap64 (by omega) (by omega)];exact H
end Go.Pt
namespace Go.Pt
open Go Go.Wc Go.Pu
abbrev HS:=aW
structure WfH (h:HS):Prop where
 len:h.Level.length=h.dO.length
 small:h.Level.length<=400
 Ra: ∀ x ∈ h.Level,0<=x/\x<=10
 fst: ∀ x ∈ h.dO, -1<=x/\x<=400
def hasS (h:HS) (item:Int):Bool:=decide (0<=item) && decide (item<(h.Level.length:Int))
theorem xm {h:HS} {item:Int} {Q:Bool->Prop} (H:Q (hasS h item)):cY h item Q:=by
 unfold cY;unfold hasS at H;rw [zx];constructor
 ·intro h1; rw [decide_eq_true (show 0<=item by simpa using h1),Bool.true_and] at H; exact H
 ·intro h1; rw [decide_eq_false (show ¬ 0<=item by simpa using h1),Bool.false_and] at H; exact H
def kgo (h:HS) (item:Int):Nat->List Int->Int->List Int
 | 0,out,_=>out
 | f+1,out,k=>if out.length<6/\k<item/\h.Level.getD k.toNat 0=h.Level.getD item.toNat 0 - 1 then kgo h item f (out++[k]) (k+1) else out
def kidsR (h:HS) (item:Int):List Int:=if hasS h item=false\/h.dO.getD item.toNat 0<0 then [] else kgo h item 7 [] (h.dO.getD item.toNat 0)
theorem Ev {h:HS} (hw:WfH h) {item:Int} (hi:0<=item/\item<h.Level.length) {Q:au.QT}: ∀ (f:Nat) (c:au.V),c.s2=h->c.bI=item->0<=c.k6->c.ga.length+f=7->c.ga.length<=6->Q (kgo h item f c.ga c.k6)->au.L2 Q c:=by
 intro f
 induction f with
 | zero=>intro c e1 e2 hk hf hl H; omega
 | succ f ih=>
  intro c e1 e2 hk hf hl H;refine au.cw ?_;unfold au.B2 au.K3;dsimp only;have hs:=hw.small
  by_cases h1:c.ga.length<6
  case neg=>
   rw [decide_eq_false (by omega),aa,aa];simp only [kgo] at H;rw [if_neg (fun h=>h1 h.1)] at H; exact H
  rw [decide_eq_true (by omega),ak,e2]
  by_cases h2:c.k6<item
  case neg=>
   rw [decide_eq_false h2,aa,aa];simp only [kgo] at H;rw [if_neg (fun h=>h2 h.2.1)] at H; exact H
  rw [decide_eq_true h2,ak,e1];refine gb c.k6.toNat (by omega) (by omega) (gb item.toNat (by omega) (by omega) ?_)
  have hlv:0<=h.Level.getD item.toNat 0/\h.Level.getD item.toNat 0<=10:=by rw [List.getD_eq_getElem?_getD,List.getElem?_eq_getElem (by omega)];exact hw.Ra _ (List.getElem_mem _)
  rw [wrap64 (by omega) (by omega)];simp only [kgo] at H
  by_cases h3:h.Level.getD c.k6.toNat 0=h.Level.getD item.toNat 0 - 1
  ·rw [if_pos ⟨h1,h2,h3⟩] at H
   rw [show (h.Level.getD c.k6.toNat 0==h.Level.getD item.toNat 0 - 1)=true by rw [beq_iff_eq]; exact h3,ak];refine ⟨cn (by simp; omega), ?_⟩;rw [wrap64 (by omega) (by omega)];exact ih _ rfl rfl (by dsimp only; omega) (by simp; omega) (by simp; omega) H
  ·rw [if_neg (fun h=>h3 h.2.2)] at H
   rw [show (h.Level.getD c.k6.toNat 0==h.Level.getD item.toNat 0 - 1)=false by rw [beq_eq_false_iff_ne]; exact h3,aa];exact H
theorem Ad {h:HS} (hw:WfH h) {item:Int} {Q:au.QT} (H:Q (kidsR h item)):au h item Q:=by
 unfold au au.K1;refine xm ?_;unfold kidsR at H
 cases hh:hasS h item with
 | false=>
  rw [if_pos (.inl hh)] at H
  rw [Bool.not_false,ak,ak]; exact H
 | true=>
  have hi:0<=item/\item<h.Level.length:=by unfold hasS at hh; simpa using hh
  have hl:=hw.len;rw [Bool.not_true,aa];refine gb item.toNat (by omega) (by omega) ?_;dsimp only
  by_cases h2:h.dO.getD item.toNat 0<0
  ·rw [if_pos (.inr h2)] at H
   rw [decide_eq_true h2,ak]; exact H
  ·rw [if_neg (by rintro (h | h); rw [hh] at h; cases h; exact h2 h)] at H
   rw [decide_eq_false h2,aa];refine gb item.toNat (by omega) (by omega) ?_;exact Ev hw hi 7 _ rfl rfl (by dsimp only; omega) rfl (by simp) H
def pgo (h:HS) (item:Int):Nat->Int->Int × Int × Bool
 | 0,_=>(0,0,false)
 | f+1,p=>match (kidsR h p).findIdx? (· ==item) with
  | some i=>(p,i,true)
  | none=>pgo h item f (p+1)
def parentR (h:HS) (item:Int):Int × Int × Bool:=pgo h item h.Level.length 0
def ugo (h:HS):Nat->List Int->List Int
 | 0,out=>out
 | f+1,out=>if (parentR h (out.getLastD 0)).2.2 then ugo h f (out++[(parentR h (out.getLastD 0)).1]) else out
def pathR (h:HS) (page:Int):List Int:=if page<0\/page>=h.P then [] else ugo h 10 [page]
def firsts (from_:Int) (k:Nat):List Int:=(List.range k).map fun i:Nat=>from_+6*(i:Int)
def lvR (P:Int):Nat->Int->Int->Int->List Int->List Int->Option HS
 | 0,_,_,_,_,_=>none
 | f+1,level,from_,many,L,F=>
  if level=1\/many>1 then lvR P f (level+1) (from_+many) (jB many) (L++List.replicate (jB many).toNat level) (F++firsts from_ (jB many).toNat)
  else some ⟨P,L,F⟩
def newR (n:Int):Option HS:=lvR n 6 1 0 n (List.replicate n.toNat 0) (List.replicate n.toNat (-1))
theorem xo (a:Int) (k:Nat):firsts a k++[a+6*(k:Int)]=firsts a (k+1):=by simp [firsts,List.range_succ]
theorem Ew {Q:av.QT}: ∀ (f:Nat) (c:av.V) (h:HS),1<=c.eK/\c.eK<=216->0<=c.eX/\c.eX+216*(f:Int)<=100000->1<=c.dD/\c.dD+(f:Int)<=1000->c.s4.Level.length+216*f<=100000->c.s4.dO.length+216*f<=100000->
  lvR c.s4.P f c.dD c.eX c.eK c.s4.Level c.s4.dO=some h->Q h 0->av.L3 Q c:=by
 intro f
 induction f with
 | zero=>intro c h _ _ _ _ _ e _; simp [lvR] at e
 | succ f ih=>
  intro c h hm hf hl hL hF e H;refine av.gH ?_;simp only [lvR] at e
  have go:(c.dD=1\/c.eK>1)->av.K4 (av.L3 Q) Q {c with MB:=true}:=by
   intro hgo;rw [if_pos hgo] at e;unfold av.K4;rw [ak];have hu:1<=jB c.eK/\jB c.eK<=36/\6*(jB c.eK - 1)<c.eK/\c.eK<=6*jB c.eK:=by unfold jB; omega
   have:=zO (B:=fun S=>av.B5 (av.L3 Q) S Q) (jB c.eK).toNat
    (fun i=> {c with MB:=true,s4:=⟨c.s4.P,c.s4.Level++List.replicate i c.dD,c.s4.dO++firsts c.eX i⟩,n9:=(i:Int),DM:=6*(i:Int)}) ?_ ?_
   ·have e0:(⟨c.s4.P,c.s4.Level++List.replicate 0 c.dD,c.s4.dO++firsts c.eX 0⟩:HS)=c.s4:=by simp [firsts]
    rw [e0] at this;exact this
   ·intro i S hi hS
    unfold av.B5;dsimp only;rw [decide_eq_true (by omega),ak];refine ⟨cn (by simp; omega),cn (by simp [firsts]; omega), ?_⟩;rw [wrap64 (n:=c.eX+6*(i:Int)) (by omega) (by omega),wrap64 (n:=6*(i:Int)+6) (by omega) (by omega),cK (by omega),List.append_assoc,List.append_assoc,xo];have e1:List.replicate i c.dD++[c.dD]=List.replicate (i+1) c.dD:=by rw [List.replicate_succ']
    have e2:6*(i:Int)+6=6*((i+1:Nat):Int):=by omega
    rw [e1,e2];exact hS
   ·intro S
    unfold av.B5;dsimp only;rw [decide_eq_false (by omega),aa,wrap64 (n:=c.eX+c.eK) (by omega) (by omega),wrap64 (n:=c.dD+1) (by omega) (by omega)];refine ih _ h (by dsimp only; omega) (by dsimp only; omega) (by dsimp only; omega) (by simp; omega) (by simp [firsts]; omega) ?_ H;dsimp only;rw [show (((jB c.eK).toNat:Nat):Int)=jB c.eK by omega];exact e
  unfold av.B3
  by_cases h1:c.dD=1
  ·rw [show (c.dD==1)=true by rw [beq_iff_eq]; exact h1,ak]
   exact go (.inl h1)
  ·rw [show (c.dD==1)=false by rw [beq_eq_false_iff_ne]; exact h1,aa]
   by_cases h2:c.eK>1
   ·rw [decide_eq_true h2]; exact go (.inr h2)
   ·rw [decide_eq_false h2]
    unfold av.K4;rw [aa];rw [if_neg (by omega)] at e;cases e;exact H
theorem CV {n:Int} {h:HS} {Q:av.QT} (hn:1<=n/\n<=216) (e:newR n=some h) (H:Q h 0):av n Q:=by
 unfold av av.K1;dsimp only;rw [decide_eq_false (by omega),aa,decide_eq_false (by omega),aa];have:=zO (B:=fun S=>av.B2 S Q) n.toNat (fun i=> {av.v0 with dh:=n,v2:=⟨0,[],[]⟩,qh:=false,s4:=⟨n,List.replicate i 0,List.replicate i (-1)⟩,i5:=(i:Int)}) ?_ ?_
 ·exact this
 ·intro i S hi hS
  unfold av.B2;dsimp only;rw [decide_eq_true (by omega),ak];refine ⟨cn (by simp; omega),cn (by simp; omega), ?_⟩;rw [cK (by omega),<- List.replicate_succ',<- List.replicate_succ'];exact hS
 ·intro S
  unfold av.B2;dsimp only;rw [decide_eq_false (by omega),aa];refine Ew 6 _ h (by dsimp only; omega) (by dsimp only; omega) (by dsimp only; omega) (by simp; omega) (by simp; omega) ?_ H;exact e
def hOf (n:Int):HS:=(newR n).getD ⟨0,[],[]⟩
def okN (n:Int):Bool:=
 let b:=newB n
 let h:=hOf n
 (newR n).isSome && decide (3<=b.length) && decide (b.length<=10) && b.all (fun x=>decide (0<=x) && decide (x<=1000) && decide (x<=itemsS b)) &&
 decide (h.Level.length=h.dO.length) && decide (h.Level.length<=400) && h.Level.all (fun x=>decide (0<=x) && decide (x<=10)) && h.dO.all (fun x=>decide (-1<=x) && decide (x<=400)) &&
 decide (h.P=n) && decide (pagesS b=n) && decide (itemsS b=h.Level.length) &&
 (List.range h.Level.length).all (fun i=>
  decide (kidsS b i=kidsR h i) && decide (parentS b i=parentR h i) && (pathS b i).2 && decide ((pathS b i).1=pathR h i) &&
  ((pathR h i).tail.all fun x=>decide (n<=x) && decide (x<(h.Level.length:Int))))
theorem Jg:((List.range 14).all fun n=>okN ((n:Int)+1))=true:=by decide+kernel
structure NOk (n:Int):Prop where
 Q9:1<=n/\n<=14
 new:newR n=some (hOf n)
 wb:WfB (newB n)
 top: ∀ x ∈ newB n,x<=itemsS (newB n)
 wh:WfH (hOf n)
 P:(hOf n).P=n
 pages:pagesS (newB n)=n
 items:itemsS (newB n)=(hOf n).Level.length
 Ly: ∀ i:Nat,i<(hOf n).Level.length->kidsS (newB n) i=kidsR (hOf n) i
 WH: ∀ i:Nat,i<(hOf n).Level.length->parentS (newB n) i=parentR (hOf n) i
 WJ: ∀ i:Nat,i<(hOf n).Level.length->(pathS (newB n) i).2=true
 Rb: ∀ i:Nat,i<(hOf n).Level.length->(pathS (newB n) i).1=pathR (hOf n) i
 up0: ∀ i:Nat,i<(hOf n).Level.length-> ∀ x ∈ (pathR (hOf n) i).tail,n<=x/\x<((hOf n).Level.length:Int)
theorem nok {n:Int} (hn:1<=n/\n<=14):NOk n:=by
  have h:=List.all_eq_true.1 Jg (n - 1).toNat (List.mem_range.2 (by omega));rw [show (((n - 1).toNat:Nat):Int)+1=n by omega] at h;unfold okN at h;dsimp only at h;simp only [Bool.and_eq_true,decide_eq_true_eq,List.all_eq_true,List.mem_range] at h;obtain ⟨⟨⟨⟨⟨⟨⟨⟨⟨⟨⟨h1,h2⟩,h3⟩,h4⟩,h5⟩,h6⟩,h7⟩,h8⟩,h9⟩,VM⟩,qf⟩,zw⟩:=h
  have hs:newR n=some (hOf n):=by
    unfold hOf
    cases e:newR n with
    | none=>rw [e] at h1; cases h1
    | some x=>rfl
  exact { Q9 := hn, new := hs, wb := ⟨⟨h2, h3⟩, fun x hx => (h4 x hx).1⟩, top := fun x hx => (h4 x hx).2, wh := ⟨h5, h6, h7, h8⟩, P := h9, pages := VM, items := qf,
          Ly:=fun i hi=>(zw i hi).1.1.1.1,WH:=fun i hi=>(zw i hi).1.1.1.2,WJ:=fun i hi=>(zw i hi).1.1.2,Rb:=fun i hi=>(zw i hi).1.2,up0:=fun i hi x hx=>(zw i hi).2 x hx}
theorem Ez: ∀ (r:List Int) (k item:Int),(∀ x ∈ r,x<=item)->lvS r k item= -1
 | [],_,_,_=>rfl
 | x::r,k,item,h=>by simp only [lvS];rw [if_neg (by have:=h x (by simp); omega)];exact Ez r (k+1) item fun y hy=>h y (by simp [hy])
variable {n:Int}
theorem NOk.out (N:NOk n) {item:Int} (h: ¬ (0<=item/\item<((hOf n).Level.length:Int))):levelS (newB n) item= -1:=by
 unfold levelS;split
 ·rfl
 ·exact Ez _ _ _ fun x hx=>by have h1:=N.top x (List.mem_of_mem_tail hx);have h2:=N.items;omega
theorem NOk.kids (N:NOk n) (item:Int):kidsS (newB n) item=kidsR (hOf n) item:=by
 by_cases h:0<=item/\item<((hOf n).Level.length:Int)
 ·have:=N.Ly item.toNat (by omega)
  rwa [show ((item.toNat:Nat):Int)=item by omega] at this
 ·unfold kidsS kidsR
  dsimp only;rw [N.out h,if_pos (by omega),if_pos (.inl (by unfold hasS; rw [Bool.and_eq_false_iff]; simp; omega))]
theorem NOk.pos (N:NOk n):n<=((hOf n).Level.length:Int):=by
 have h1:=N.items
 have h2:pagesS (newB n) ∈ newB n:=by have hl:=N.wb.len;unfold pagesS;rw [List.getD_eq_getElem?_getD,List.getElem?_eq_getElem (by omega)];exact List.getElem_mem _
 have h3:=N.top _ h2;have h4:=N.pages;omega
end Go.Pt
namespace Go.Pt
open Go Go.Wc Go.Pu
def sr (r:af):aF:=⟨r.Place,r.cu,r.bY⟩
theorem fT {n:Int} (h: -1000<=n/\n<=1000000000):IntKind.wrap .i64 n=n:=wrap64 (by omega) (by omega)
theorem qi {l:List Int} {i j:Int} (h:0<=i/\i<=j/\j<=(l.length:Int)):((sub l i j).length:Int)=j - i:=by unfold sub; rw [List.length_drop,List.length_take]; omega
theorem PB {x:Int} (h:0<=x):Int.tmod x 4=x % 4:=Int.tmod_eq_emod_of_nonneg h
theorem WK {x:Int} (h:0<=x):Int.tdiv x 4=x / 4:=Int.tdiv_eq_ediv_of_nonneg h
def kL:List Int:=[1116352408,1899447441,3049323471,3921009573,961987163,1508970993,2453635748,2870763221,3624381080,310598401,607225278,1426881987,1925078388,2162078206,2614888103,3248222580,3835390401,4022224774,264347078,604807628,770255983,1249150122,1555081692,1996064986,2554220882,2821834349,2952996808,3210313671,3336571891,3584528711,113926993,338241895,666307205,773529912,1294757372,1396182291,1695183700,1986661051,2177026350,2456956037,2730485921,2820302411,3259730800,3345764771,3516065817,3600352804,4094571909,275423344,430227734,506948616,659060556,883997877,958139571,1322822218,1537002063,1747873779,1955562222,2024104815,2227730452,2361852424,2428436474,2756734187,3204031479,3329325298]
def firstL:List Int:=[1779033703,3144134277,1013904242,2773480762,1359893119,2600822924,528734635,1541459225]
def vA (a b:Int):Int:=IntKind.wrap .u32 (((BitVec.ofInt (IntKind.bits .u32) a ^^^ (BitVec.ofInt (IntKind.bits .u32) b)).toNat:Int))
def Rc (a b:Int):Int:=IntKind.wrap .u32 (((BitVec.ofInt (IntKind.bits .u32) a &&& (BitVec.ofInt (IntKind.bits .u32) b)).toNat:Int))
def WL (a:Int):Int:=IntKind.wrap .u32 ((4294967295:Int) - a)
def add (a b:Int):Int:=IntKind.wrap .u32 (a+b)
theorem uo {x k:Int} {n:Nat} {Q:Int->Prop} (hx:gE x) (hn:0<n/\n<32)
  (hk:IntKind.wrap .u64 (((BitVec.ofInt (IntKind.bits .u64) (IntKind.wrap .u64 k) &&& (BitVec.ofInt (IntKind.bits .u64) (31:Int))).toNat:Int))=((32 - n:Nat):Int)) (H:Q (rotR n x)):cX x k Q:=by
 unfold cX;rw [hk,show IntKind.wrap .u64 ((32:Int) - ((32 - n:Nat):Int))=(n:Int) by rw [wrap_u64 (by omega) (by omega)]; omega];refine fV (by omega) (fV (by omega) ?_)
 have e1:min (Int.toNat ((32 - n:Nat):Int)) (IntKind.bits .u32)=32 - n:=by rw [Int.toNat_natCast]; exact Nat.min_eq_left (show 32 - n<=32 by omega)
 have e2:min (Int.toNat (n:Int)) (IntKind.bits .u32)=n:=by rw [Int.toNat_natCast]; exact Nat.min_eq_left (show n<=32 by omega)
 rw [e1,e2];have hP:=kO n;have hS:=kO (32 - n);have hPS:=qO (n:=n) (by omega)
 have e3:IntKind.wrap .u32 (x*2 ^ (32 - n))=x % 2 ^ n*2 ^ (32 - n):=by rw [wrap_u32,<- hPS,Int.mul_comm x,Int.mul_comm (2 ^ n),Int.mul_emod_mul_of_pos _ _ hS,Int.mul_comm]
 have e4:Int.fdiv x (2 ^ n)=x / 2 ^ n:=Int.fdiv_eq_ediv_of_nonneg _ (by omega);have hw:=wW (n:=n) (by omega) hx;rw [e3,e4];have e5:=qP (P:=2 ^ (32 - n)) (S:=0) (a:=x % 2 ^ n) (r:=x / 2 ^ n) (n:=32 - n) rfl ⟨Int.ediv_nonneg hx.1 (by omega), ?_⟩ (Int.emod_nonneg _ (by omega)) ?_
 ·have e6:x % 2 ^ n*2 ^ (32 - n)+x / 2 ^ n=rotR n x:=by unfold rotR; exact Int.add_comm _ _
  rw [e6] at e5;rw [show ((BitVec.ofInt (IntKind.bits .u32) (x % 2 ^ n*2 ^ (32 - n)) ||| BitVec.ofInt (IntKind.bits .u32) (x / 2 ^ n)).toNat:Int)=rotR n x from e5,bS hw];exact H
 ·refine Int.ediv_lt_of_lt_mul hP ?_
  rw [Int.mul_comm,hPS]; exact hx.2
 ·have:=hw.2
  unfold rotR at this; omega
theorem fy {x k:Int} {n:Nat} {Q:Int->Prop} (hx:gE x) (hk:k=(n:Int)) (hn:0<n/\n<32) (H:Q (rotR n x)):eH x k Q:=by
 subst hk;unfold eH;rw [Int.tmod_eq_emod_of_nonneg (by omega),fT (n:=0 - (n:Int) % 32) (by omega)];refine uo hx hn ?_ H;have: ∀ m:Fin 32,0<m.val->IntKind.wrap .u64 (((BitVec.ofInt (IntKind.bits .u64) (IntKind.wrap .u64 (0 - (m.val:Int) % 32)) &&& (BitVec.ofInt (IntKind.bits .u64) (31:Int))).toNat:Int))=((32 - m.val:Nat):Int):=by decide+kernel
 exact this ⟨n,hn.2⟩ hn.1
theorem xp (a b:Int):gE (vA a b):=qN _
theorem xq (a b:Int):gE (add a b):=qN _
theorem not_eq {x:Int} (hx:gE x):IntKind.wrap .u32 ((BitVec.ofInt (IntKind.bits .u32) (if IntKind.signed .u32 then -1 else IntKind.max .u32) ^^^ BitVec.ofInt (IntKind.bits .u32) x).toNat:Int)=WL x:=by obtain ⟨h0,h1⟩:=hx;obtain ⟨n,rfl⟩:=Int.eq_ofNat_of_zero_le h0;unfold WL;show IntKind.wrap .u32 ((BitVec.ofInt 32 4294967295 ^^^ BitVec.ofInt 32 (n:Int)).toNat:Int)=_;rw [show BitVec.ofInt 32 4294967295=BitVec.allOnes 32 from by decide,BitVec.ofInt_natCast,BitVec.allOnes_xor,BitVec.toNat_not,BitVec.toNat_ofNat,Nat.mod_eq_of_lt (by omega)];congr 1;omega
def jy (l:List Int):Prop:= ∀ x ∈ l,gE x
theorem eA {l:List Int} (h:jy l) (i:Nat):gE (l.getD i 0):=by
 rw [List.getD_eq_getElem?_getD]
 cases e:l[i]? with
 | none=>exact ⟨by decide,by decide⟩
 | some x=>exact h x (List.mem_of_getElem? e)
def bigW (a b c d:Int):Int:=a*16777216+b*65536+c*256+d
def schedS (x y a c:Int):Int:=add (add (add (vA (vA (rotR 17 y) (rotR 19 y)) (y / 1024)) a) (vA (vA (rotR 7 x) (rotR 18 x)) (x / 8))) c
def wNext (b l:List Int) (t:Nat):Int:=
 if t<16 then bigW (b.getD (4*t) 0) (b.getD (4*t+1) 0) (b.getD (4*t+2) 0) (b.getD (4*t+3) 0)
 else schedS (l.getD (t - 15) 0) (l.getD (t - 2) 0) (l.getD (t - 7) 0) (l.getD (t - 16) 0)
def wl (b:List Int):Nat->List Int
 | 0=>[]
 | t+1=>wl b t++[wNext b (wl b t) t]
theorem vB (b:List Int): ∀ t,(wl b t).length=t
 | 0=>rfl
 | t+1=>by simp [wl,vB b t]
theorem bX {b:List Int} (h:bytesL b) (i:Nat):0<=b.getD i 0/\b.getD i 0<256:=by
 rw [List.getD_eq_getElem?_getD]
 cases e:b[i]? with
 | none=>exact ⟨by decide,by decide⟩
 | some x=>exact h x (List.mem_of_getElem? e)
theorem ML {a b c d:Int} (ha:0<=a/\a<256) (hb:0<=b/\b<256) (hc:0<=c/\c<256) (hd:0<=d/\d<256):gE (bigW a b c d):=by unfold bigW gE; omega
theorem Jh {b l:List Int} (hb:bytesL b) (t:Nat):gE (wNext b l t):=by
 unfold wNext;split
 ·exact ML (bX hb _) (bX hb _) (bX hb _) (bX hb _)
 ·exact xq _ _
theorem MM {b:List Int} (hb:bytesL b): ∀ t,jy (wl b t)
 | 0=>fun _ h=>by cases h
 | t+1=>fun x h=>by
  rcases List.mem_append.1 h with h | h
  ·exact MM hb t x h
  ·rw [List.mem_singleton.1 h]; exact Jh hb t
def s1S (e:Int):Int:=vA (vA (rotR 6 e) (rotR 11 e)) (rotR 25 e)
def s0S (a:Int):Int:=vA (vA (rotR 2 a) (rotR 13 a)) (rotR 22 a)
def chS (e f g:Int):Int:=vA (Rc e f) (Rc (WL e) g)
def mjS (a b c:Int):Int:=vA (vA (Rc a b) (Rc a c)) (Rc b c)
def stepS:List Int->Int->Int->List Int
 | [a,b,c,d,e,f,g,h],k,w=>
  let p:=add (add (add (add h (s1S e)) (chS e f g)) k) w
  [add p (add (s0S a) (mjS a b c)),a,b,c,add d p,e,f,g]
 | l,_,_=>l
def roundsS (w h:List Int):Nat->List Int
 | 0=>h
 | t+1=>stepS (roundsS w h t) (kL.getD t 0) (w.getD t 0)
def addS (h x:List Int):List Int:=List.zipWith add h x
def compS (h b:List Int):List Int:=addS h (roundsS (wl b 64) h 64)
theorem BF {l:List Int} (h:l.length=8): ∃ a b c d e f g k,l=[a,b,c,d,e,f,g,k]:=by
 match l,h with
 | [a,b,c,d,e,f,g,k],_=>exact ⟨a,b,c,d,e,f,g,k,rfl⟩
theorem WM (v:Vector Int 8): ∃ a b c d e f g k,v= #v[a,b,c,d,e,f,g,k]:=by obtain ⟨a,b,c,d,e,f,g,k,h⟩:=BF (l:=v.toList) (by rw [Vector.length_toList]);exact ⟨a,b,c,d,e,f,g,k,by rw [<- Vector.toList_inj,h]; rfl⟩
theorem CW (l:List Int) (k w:Int) (h:l.length=8):(stepS l k w).length=8:=by obtain ⟨a,b,c,d,e,f,g,x,rfl⟩:=BF h;rfl
theorem hJ {w h:List Int} (hh:h.length=8): ∀ t,(roundsS w h t).length=8
 | 0=>hh
 | t+1=>CW _ _ _ (hJ hh t)
theorem Ji {l:List Int} {k w:Int} (hl:l.length=8) (h:jy l):jy (stepS l k w):=by
 obtain ⟨a,b,c,d,e,f,g,x,rfl⟩:=BF hl;intro y hy;simp only [stepS,List.mem_cons,List.not_mem_nil,or_false] at hy;rcases hy with rfl | rfl | rfl | rfl | rfl | rfl | rfl | rfl
 ·exact xq _ _
 ·exact h _ (by simp)
 ·exact h _ (by simp)
 ·exact h _ (by simp)
 ·exact xq _ _
 ·exact h _ (by simp)
 ·exact h _ (by simp)
 ·exact h _ (by simp)
theorem ry {w h:List Int} (hh:h.length=8) (hw:jy h): ∀ t,jy (roundsS w h t)
 | 0=>hw
 | t+1=>Ji (hJ hh t) (ry hh hw t)
theorem nD {h b:List Int} (hh:h.length=8):(compS h b).length=8:=by unfold compS addS;rw [List.length_zipWith,hJ hh,hh]; rfl
theorem Ae {h b:List Int}:jy (compS h b):=by intro x hx;unfold compS addS at hx;obtain ⟨i,hi,rfl⟩:=List.getElem_of_mem hx;rw [List.getElem_zipWith];exact xq _ _
theorem ixr {X:Type} {l:List X} {i:Int} {x:X} {K:X->Prop} (h0:0<=i) (h:l[i.toNat]? =some x) (H:K x):ixP l i K:=by obtain ⟨n,rfl⟩:=Int.eq_ofNat_of_zero_le h0;exact lP h H
theorem ixd {l:List Int} {i:Int} {n:Nat} {K:Int->Prop} (hi:i=(n:Int)) (h:n<l.length) (H:K (l.getD n 0)):ixP l i K:=by refine fC n hi h ?_;rw [List.getD_eq_getElem?_getD,List.getElem?_eq_getElem h] at H;exact H
theorem ixdv {m:Nat} {v:Vector Int m} {l:List Int} {i:Int} {n:Nat} {K:Int->Prop} (e:v.toList=l) (hi:i=(n:Int)) (h:n<m) (H:K (l.getD n 0)):ixP v.toList i K:=by subst e;exact ixd hi (by rw [Vector.length_toList]; exact h) H
theorem jstep {w x:Int} (hw:0<=w) (hx:0<=x/\x<256) (h:w*256+x<4294967296):
  IntKind.wrap .u32 (((BitVec.ofInt (IntKind.bits .u32) (IntKind.wrap .u32 (w*2 ^ (min (Int.toNat (8:Int)) (IntKind.bits .u32)))) ||| (BitVec.ofInt (IntKind.bits .u32) (IntKind.wrap .u32 x))).toNat:Int))=w*256+x:=by
 have e1:w*2 ^ (min (Int.toNat (8:Int)) (IntKind.bits .u32))=w*256:=rfl;rw [e1,bS (n:=w*256) ⟨by omega,by omega⟩,bS (n:=x) ⟨by omega,by omega⟩];have:=qP (P:=256) (S:=0) (a:=w) (r:=x) (n:=8) rfl hx hw h;rw [show ((BitVec.ofInt (IntKind.bits .u32) (w*256) ||| BitVec.ofInt (IntKind.bits .u32) x).toNat:Int)=w*256+x from this];exact bS ⟨by omega,h⟩
theorem Af {a b c d:Int} {Q:cy.QT} (ha:0<=a/\a<256) (hb:0<=b/\b<256) (hc:0<=c/\c<256) (hd:0<=d/\d<256) (H:Q (bigW a b c d)):cy [a,b,c,d] Q:=by unfold cy;refine cy.bG ?_;unfold cy.B1; dsimp only;rw [show decide ((0:Int)<(([a,b,c,d].length:Nat):Int))=true from rfl,ak];refine ixr (by decide) rfl ?_;rw [jstep (by decide) ha (by omega)];refine cy.bG ?_;unfold cy.B1; dsimp only;rw [show decide (IntKind.wrap .i64 ((0:Int)+1)<(([a,b,c,d].length:Nat):Int))=true from rfl,ak];refine ixr (by decide) rfl ?_;rw [jstep (by omega) hb (by omega)];refine cy.bG ?_;unfold cy.B1; dsimp only;rw [show decide (IntKind.wrap .i64 (IntKind.wrap .i64 ((0:Int)+1)+1)<(([a,b,c,d].length:Nat):Int))=true from rfl,ak];refine ixr (by decide) rfl ?_;rw [jstep (by omega) hc (by omega)];refine cy.bG ?_;unfold cy.B1; dsimp only;rw [show decide (IntKind.wrap .i64 (IntKind.wrap .i64 (IntKind.wrap .i64 ((0:Int)+1)+1)+1)<(([a,b,c,d].length:Nat):Int))=true from rfl,ak];refine ixr (by decide) rfl ?_;rw [jstep (by omega) hd (by omega)];refine cy.bG ?_;unfold cy.B1; dsimp only;rw [show decide (IntKind.wrap .i64 (IntKind.wrap .i64 (IntKind.wrap .i64 (IntKind.wrap .i64 ((0:Int)+1)+1)+1)+1)<(([a,b,c,d].length:Nat):Int))=false from rfl,aa];rw [show (((0*256+a)*256+b)*256+c)*256+d=bigW a b c d by unfold bigW; omega];exact H
theorem MN {l:List Int} {n:Nat} {i j:Int} (hi:i=(n:Int)) (hj:j=(n:Int)+4) (h:n+4<=l.length):sub l i j=[l.getD n 0,l.getD (n+1) 0,l.getD (n+2) 0,l.getD (n+3) 0]:=by
 subst hi hj;unfold sub;rw [show ((n:Int)+4).toNat=n+4 by omega,Int.toNat_natCast];apply List.ext_getElem
 ·rw [List.length_drop,List.length_take]; simp; omega
 ·intro k h1 h2
  rw [List.getElem_drop,List.getElem_take];have hk:k<4:=h2
  match k,hk with
  | 0,_=>simp [List.getD_eq_getElem?_getD,List.getElem?_eq_getElem (show n<l.length by omega)]
  | 1,_=>simp [List.getD_eq_getElem?_getD,List.getElem?_eq_getElem (show n+1<l.length by omega)]
  | 2,_=>simp [List.getD_eq_getElem?_getD,List.getElem?_eq_getElem (show n+2<l.length by omega)]
  | 3,_=>simp [List.getD_eq_getElem?_getD,List.getElem?_eq_getElem (show n+3<l.length by omega)]
theorem gj {n:Nat} {v:Vector Int n} {l r:List Int} {x y:Int} {i:Int} (e:v.toList=l++y::r) (hi:i=(l.length:Int)):(v.setIfInBounds (Int.toNat i) x).toList=(l++[x])++r:=by subst hi;rw [Vector.toList_setIfInBounds,e,Int.toNat_natCast,List.set_append_right _ _ (Nat.le_refl _),Nat.sub_self];simp
theorem fd {x:Int} (n:Nat) (hx:0<=x):Int.fdiv x (2 ^ n)=x / 2 ^ n:=Int.fdiv_eq_ediv_of_nonneg _ (by have:=kO n; omega)
theorem kY {l r:List Int} {i:Nat} (h:i<l.length):(l++r).getD i 0=l.getD i 0:=by rw [List.getD_eq_getElem?_getD,List.getD_eq_getElem?_getD,List.getElem?_append_left h]
theorem xu {b:List Int} {Q:bT.QT} (hl:b.length=64) (hb:bytesL b) (H: ∀ v:Vector Int 64,v.toList=wl b 64->Q v):bT b Q:=by
 have key: ∀ (j t:Nat) (m:bT.V),t+j=64->m.b0=b->m.v9=(t:Int)->m.w3.toList=wl b t++List.replicate j 0->bT.L1 Q m:=by
  intro j
  induction j with
  | zero=>
   intro t m ht e1 e2 e3;refine bT.bG ?_;unfold bT.B1;rw [decide_eq_false (by omega),aa];refine H _ ?_
   rw [e3,show t=64 by omega]; simp
  | succ j ih=>
   intro t m ht e1 e2 e3;have hlen:=vB b t;have hww:=MM hb t;refine bT.bG ?_;unfold bT.B1;rw [decide_eq_true (by omega),ak]
   have k2: ∀ m':bT.V,m'.b0=b->m'.v9=(t:Int)->m'.w3.toList=wl b (t+1)++List.replicate j 0->bT.K2 (bT.L1 Q) Q m':=by intro m' h1 h2 h3;unfold bT.K2;exact ih (t+1) _ (by omega) h1 (by dsimp only; rw [h2,cK (by omega)]) h3
   have hset: ∀ x,x=wNext b (wl b t) t->(m.w3.setIfInBounds (Int.toNat m.v9) x).toList=wl b (t+1)++List.replicate j 0:=by intro x hx;rw [gj (i:=m.v9) (l:=wl b t) (y:=0) (r:=List.replicate j 0) (by rw [e3]; rfl) (by rw [e2,hlen]),hx]; rfl
   by_cases CI:t<16
   ·rw [decide_eq_true (by omega),ak,e1,fT (n:=4*m.v9) (by omega),fT (n:=4*m.v9+4) (by omega)]
    refine ⟨⟨by omega,by omega,by omega⟩, ?_⟩;rw [MN (n:=4*t) (by omega) (by omega) (by omega)];refine Af (bX hb _) (bX hb _) (bX hb _) (bX hb _) ?_;refine ixdv e3 e2 (by omega) ?_;refine k2 _ ?_ e2 (hset _ (by unfold wNext; rw [if_pos CI]))
    first | exact e1 | rfl
   ·rw [decide_eq_false (by omega),aa,fT (n:=m.v9 - 15) (by omega),fT (n:=m.v9 - 2) (by omega),fT (n:=m.v9 - 7) (by omega),fT (n:=m.v9 - 16) (by omega)]
    refine ixdv (n:=t - 15) e3 (by omega) (by omega) ?_;refine ixdv (n:=t - 2) e3 (by omega) (by omega) ?_;rw [kY (by omega),kY (by omega)];refine fy (n:=7) (eA hww _) rfl (by decide) ?_;refine fy (n:=18) (eA hww _) rfl (by decide) ?_;refine fy (n:=17) (eA hww _) rfl (by decide) ?_;refine fy (n:=19) (eA hww _) rfl (by decide) ?_;refine ixdv (n:=t - 7) e3 (by omega) (by omega) ?_;refine ixdv (n:=t - 16) e3 (by omega) (by omega) ?_;rw [kY (by omega),kY (by omega)];refine ixdv e3 e2 (by omega) ?_;refine k2 _ e1 e2 (hset _ ?_);unfold wNext;rw [if_neg CI];rw [show min (Int.toNat (10:Int)) (IntKind.bits .u32)=10 from rfl,show min (Int.toNat (3:Int)) (IntKind.bits .u32)=3 from rfl,fd 10 (eA hww _).1,fd 3 (eA hww _).1];rfl
 refine key 64 0 _ (by omega) rfl rfl ?_;dsimp only; exact Vector.toList_replicate ..
theorem MO (a b c d e f g k:Int):cpV #v[a,b,c,d,e,f,g,k] (Int.toNat (1:Int)) (sub (#v[a,b,c,d,e,f,g,k]).toList (0:Int) (7:Int))= #v[a,a,b,c,d,e,f,g]:=rfl
theorem Re {a b c d e f g k p q:Int} {S:Vector Int 8->Prop} (H:S #v[IntKind.wrap .u32 (p+q),a,b,c,IntKind.wrap .u32 (d+p),e,f,g]):
  (SlOk (#v[a,b,c,d,e,f,g,k]).toList (1:Int) ((8:Nat):Int))/\(SlOk (#v[a,b,c,d,e,f,g,k]).toList (0:Int) (7:Int))/\
  ixP (#v[a,a,b,c,d,e,f,g]).toList (0:Int) fun Qf=>
  ixP ((#v[a,a,b,c,d,e,f,g]).setIfInBounds (Int.toNat (0:Int)) (IntKind.wrap .u32 (p+q))).toList (4:Int) fun ue=>
  ixP ((#v[a,a,b,c,d,e,f,g]).setIfInBounds (Int.toNat (0:Int)) (IntKind.wrap .u32 (p+q))).toList (4:Int) fun By=>
  S (((#v[a,a,b,c,d,e,f,g]).setIfInBounds (Int.toNat (0:Int)) (IntKind.wrap .u32 (p+q))).setIfInBounds (Int.toNat (4:Int)) (IntKind.wrap .u32 (ue+p))):=by
 refine ⟨⟨by decide,by decide,by rw [Vector.length_toList]; decide⟩,⟨by decide,by decide,by rw [Vector.length_toList]; decide⟩, ?_⟩;refine ixr (by decide) rfl (ixr (by decide) rfl (ixr (by decide) rfl ?_));exact H
theorem MP:kL.length=64:=rfl
theorem xw {h:Vector Int 8} {b:List Int} {Q:bU.QT} (hb:b.length=64) (hbb:bytesL b) (hw:jy h.toList) (H: ∀ r:Vector Int 8,r.toList=compS h.toList b->Q r):bU h b Q:=by
 have l2: ∀ (j t:Nat) (m:bU.V),t+j=8->m.zV=(t:Int)->m.x7.toList=roundsS (wl b 64) h.toList 64->m.h2.toList=(compS h.toList b).take t++h.toList.drop t->bU.L2 Q m:=by
  have VP:=hJ (w:=wl b 64) (h:=h.toList) (Vector.length_toList ..) 64;have hc8:=nD (h:=h.toList) (b:=b) (Vector.length_toList ..);have hh8:h.toList.length=8:=Vector.length_toList ..
  intro j
  induction j with
  | zero=>
   intro t m ht e1 e2 e3;refine bU.cw ?_;unfold bU.B2;rw [decide_eq_false (by omega),aa];refine H _ ?_
   rw [e3,List.take_of_length_le (by omega),List.drop_of_length_le (by omega),List.append_nil]
  | succ j ih=>
   intro t m ht e1 e2 e3
   have hd:h.toList.drop t=h.toList.getD t 0::h.toList.drop (t+1):=by rw [List.drop_eq_getElem_cons (by omega),List.getD_eq_getElem?_getD,List.getElem?_eq_getElem (by omega)]; rfl
   have htk:((compS h.toList b).take t).length=t:=by rw [List.length_take]; omega
   have hg:((compS h.toList b).take t++h.toList.drop t).getD t 0=h.toList.getD t 0:=by rw [List.getD_eq_getElem?_getD,List.getElem?_append_right (by omega),htk,Nat.sub_self,hd]; rfl
   refine bU.cw ?_;unfold bU.B2;rw [decide_eq_true (by omega),ak];refine ixdv e3 e1 (by omega) ?_;refine ixdv e2 e1 (by omega) ?_;refine ixdv e3 e1 (by omega) ?_;rw [hg];refine ih (t+1) _ (by omega) (by dsimp only; rw [e1,cK (by omega)]) e2 ?_;dsimp only;rw [gj (i:=m.zV) (l:=(compS h.toList b).take t) (y:=h.toList.getD t 0) (r:=h.toList.drop (t+1)) (by rw [e3,hd]) (by rw [e1,htk])];congr 1;rw [dg (by omega)];congr 1;unfold compS addS;rw [List.getElem_zipWith,List.getD_eq_getElem?_getD,List.getElem?_eq_getElem (by omega),List.getD_eq_getElem?_getD,List.getElem?_eq_getElem (by omega)];rfl
 have l1: ∀ (j t:Nat) (m:bU.V),t+j=64->m.iE=(t:Int)->m.h2=h->m.w5.toList=wl b 64->m.k6.toList=kL->m.x7.toList=roundsS (wl b 64) h.toList t->bU.L1 Q m:=by
  intro j
  induction j with
  | zero=>
   intro t m ht e1 e2 e3 e4 e5;obtain rfl:t=64:=by omega
   refine bU.bG ?_;unfold bU.B1;rw [decide_eq_false (by omega),aa];refine l2 8 0 {m with zV:=(0:Int)} (by omega) rfl e5 ?_;rw [List.take_zero,List.drop_zero,List.nil_append]
   exact congrArg _ e2
  | succ j ih=>
   rintro t ⟨h2,v4,w5,k6,x7,iE,zV⟩ ht e1 e2 e3 e4 e5;dsimp only at e1 e2 e3 e4 e5;obtain ⟨a,b',c,d,e,f,g,k,rfl⟩:=WM x7
   have hW:jy [a,b',c,d,e,f,g,k]:=by have:=ry (w:=wl b 64) (h:=h.toList) (Vector.length_toList ..) hw t;rw [<- e5] at this;exact this
   have we:gE e:=hW _ (by simp);have wa:gE a:=hW _ (by simp);refine bU.bG ?_;unfold bU.B1; dsimp only;rw [e1,decide_eq_true (show (t:Int)<64 by omega),ak];refine ixr (by decide) rfl (ixr (by decide) rfl (ixr (by decide) rfl (ixr (by decide) rfl (ixr (by decide) rfl ?_))));refine ixdv e4 rfl (by omega) (ixdv e3 rfl (by omega) ?_);refine fy (n:=6) we rfl (by decide) (fy (n:=11) we rfl (by decide) (fy (n:=25) we rfl (by decide) ?_));refine ixr (by decide) rfl (ixr (by decide) rfl (ixr (by decide) rfl (ixr (by decide) rfl ?_)));refine fy (n:=2) wa rfl (by decide) (fy (n:=13) wa rfl (by decide) (fy (n:=22) wa rfl (by decide) ?_));rw [not_eq we,MO];rw [cK (by omega)];refine Re (S:=fun v=>bU.L1 Q ⟨h2,v4,w5,k6,v,((t+1:Nat):Int),zV⟩) ?_;refine ih (t+1) _ (by omega) rfl e2 e3 e4 ?_;show _=stepS (roundsS (wl b 64) h.toList t) (kL.getD t 0) ((wl b 64).getD t 0);rw [<- e5];rfl
 unfold bU;refine xu hb hbb fun w hw5=> ?_;exact l1 64 0 _ (by omega) rfl rfl hw5 rfl rfl
def goB:Nat->List Int->List Int->List Int × List Int
 | 0,h,l=>(h,l)
 | f+1,h,l=>if 64<=l.length then goB f (compS h (l.take 64)) (l.drop 64) else (h,l)
theorem mN {f:Nat} {h l:List Int} (hl:l.length<64):goB f h l=(h,l):=by
 cases f with
 | zero=>rfl
 | succ f=>simp only [goB]; rw [if_neg (by omega)]
theorem Ag: ∀ (f:Nat) (h l:List Int),l.length<64*(f+1)->goB (f+1) h l=goB f h l
 | 0,h,l,hl=>by rw [mN (by omega)]; rfl
 | f+1,h,l,hl=>by
  by_cases h1:64<=l.length
  ·have e1:goB (f+1+1) h l=goB (f+1) (compS h (l.take 64)) (l.drop 64):=by simp only [goB]; rw [if_pos h1]
   have e2:goB (f+1) h l=goB f (compS h (l.take 64)) (l.drop 64):=by simp only [goB]; rw [if_pos h1]
   rw [e1,e2];exact Ag f _ _ (by rw [List.length_drop]; omega)
  ·rw [mN (by omega),mN (by omega)]
theorem xy: ∀ (f:Nat) (h l:List Int),(goB f h l).2.length<=l.length
 | 0,h,l=>Nat.le_refl _
 | f+1,h,l=>by
  simp only [goB];split
  ·have:=xy f (compS h (l.take 64)) (l.drop 64)
   rw [List.length_drop] at this; omega
  ·exact Nat.le_refl _
theorem BG: ∀ (f:Nat) (h l m:List Int),(l++m).length<64*(f+1)->goB f h (l++m)=goB f (goB f h l).1 ((goB f h l).2++m)
 | 0,h,l,m,_=>rfl
 | f+1,h,l,m,hl=>by
  by_cases h1:64<=l.length
  ·have e1:goB (f+1) h (l++m)=goB f (compS h (l.take 64)) (l.drop 64++m):=by
    simp only [goB];rw [if_pos (by rw [List.length_append]; omega),List.take_append_of_le_length h1,List.drop_append_of_le_length h1]
   have e2:goB (f+1) h l=goB f (compS h (l.take 64)) (l.drop 64):=by simp only [goB]; rw [if_pos h1]
   rw [e1,e2];rw [List.length_append] at hl;rw [BG f _ _ _ (by rw [List.length_append,List.length_drop]; omega)];have:=xy f (compS h (l.take 64)) (l.drop 64);rw [List.length_drop] at this;rw [Ag f _ _ (by rw [List.length_append]; omega)]
  ·rw [mN (l:=l) (by omega)]
theorem BH: ∀ (f:Nat) (h l:List Int),l.length<64*(f+1)->(goB f h l).2.length=l.length % 64
 | 0,h,l,hl=>by show l.length=_; omega
 | f+1,h,l,hl=>by
  simp only [goB];split
  ·rw [BH f _ _ (by rw [List.length_drop]; omega),List.length_drop]; omega
  ·show l.length=_; omega
theorem BI: ∀ (f:Nat) (h l:List Int),∀ x ∈ (goB f h l).2,x ∈ l
 | 0,h,l=>fun x hx=>hx
 | f+1,h,l=>by
  intro x hx;simp only [goB] at hx;split at hx
  ·exact List.mem_of_mem_drop (BI f _ _ x hx)
  ·exact hx
theorem BJ: ∀ (f:Nat) (h l:List Int),h.length=8->(goB f h l).1.length=8
 | 0,h,l,hh=>hh
 | f+1,h,l,hh=>by
  simp only [goB];split
  ·exact BJ f _ _ (nD hh)
  ·exact hh
theorem EA: ∀ (f:Nat) (h l:List Int),jy h->jy (goB f h l).1
 | 0,h,l,hh=>hh
 | f+1,h,l,hh=>by
  simp only [goB];split
  ·exact EA f _ _ Ae
  ·exact hh
theorem lS {a b:List Int} (ha:bytesL a) (hb:bytesL b):bytesL (a++b):=fun x hx=>by
 rcases List.mem_append.1 hx with h | h
 ·exact ha x h
 ·exact hb x h
def startH (s:bZ):List Int:=if s.n<64/\(s.rest.length:Int)=s.n then firstL else s.h.toList
theorem nE:jy firstL:=by
 intro x hx;have:(firstL.all fun x=>decide (0<=x) && decide (x<4294967296))=true:=by decide+kernel
 have:=List.all_eq_true.1 this x hx;simpa [gE] using this
theorem pL {s:bZ} {b:List Int} {Q:aQ.QT} (F:Nat) (hn:0<=s.n) (hr:bytesL s.rest) (hb:bytesL b) (hl:s.rest.length+b.length<64*(F+1)) (hF:F<=10000000) (hw:jy s.h.toList)
  (H: ∀ r:bZ,r.h.toList=(goB F (startH s) (s.rest++b)).1->r.rest=(goB F (startH s) (s.rest++b)).2->r.n=IntKind.wrap .u64 (s.n+IntKind.wrap .u64 (b.length:Int))->Q r):aQ s b Q:=by
 have l2: ∀ (f:Nat) (m:aQ.V),m.jq.length<64*(f+1)->bytesL m.jq->jy m.s2.h.toList->goB F (startH s) (s.rest++b)=goB f m.s2.h.toList m.jq->m.s2.n=IntKind.wrap .u64 (s.n+IntKind.wrap .u64 (b.length:Int))->aQ.L2 Q m:=by
  intro f
  induction f with
  | zero=>
   intro m h1 h2 h3 h4 h5;refine aQ.cw ?_;unfold aQ.B2;rw [decide_eq_false (by omega),aa]
   exact H _ (by rw [h4]; rfl) (by rw [h4]; rfl) h5
  | succ f ih=>
   intro m h1 h2 h3 h4 h5;refine aQ.cw ?_;unfold aQ.B2
   by_cases h:(m.jq.length:Int)>=64
   ·rw [decide_eq_true h,ak]
    refine ⟨⟨by omega,by omega,by omega⟩, ?_⟩;have e1:sub m.jq 0 64=m.jq.take 64:=qL;have e2:sub m.jq 64 (m.jq.length:Int)=m.jq.drop 64:=qM;rw [e1,e2];refine xw (by rw [List.length_take]; omega) (fun x hx=>h2 x (List.mem_of_mem_take hx)) h3 fun r VQ=> ?_;refine ⟨⟨by omega,by omega,by omega⟩,ih _ ?_ ?_ ?_ ?_ h5⟩
    ·dsimp only; rw [List.length_drop]; omega
    ·exact fun x hx=>h2 x (List.mem_of_mem_drop hx)
    ·dsimp only; rw [VQ]; exact Ae
    ·rw [h4]
     simp only [goB];rw [if_pos (by omega),VQ]
   ·rw [decide_eq_false h,aa]
    rw [mN (l:=m.jq) (by omega)] at h4;exact H _ (by rw [h4]) (by rw [h4]) h5
 have k3: ∀ m:aQ.V,m.s2.h.toList=startH s->m.s2.rest=s.rest->m.s2.n=s.n->m.b1=b->jy m.s2.h.toList->aQ.K3 Q m:=by
  intro m e0 e1 e3 e2 e4;unfold aQ.K3;rw [e1,e2,e3];refine ⟨cn (by simp only [List.length_nil]; omega),cn (by simp only [List.length_append,List.length_nil]; omega),l2 F _ ?_ ?_ ?_ ?_ rfl⟩
  ·dsimp only; simp only [List.length_append,List.length_nil]; omega
  ·exact lS (lS (fun _ h=>by cases h) hr) hb
  ·exact e4
  ·dsimp only; rw [e0,List.nil_append]
 unfold aQ
 by_cases h1:s.n<64
 ·rw [decide_eq_true h1,ak]
  unfold aQ.K1; dsimp only;rw [fT (n:=s.n) (by omega)]
  by_cases h2:(s.rest.length:Int)=s.n
  ·rw [show ((s.rest.length:Int)==s.n)=true by rw [beq_iff_eq]; exact h2,ak]
   refine k3 _ ?_ rfl rfl rfl ?_
   ·unfold startH; rw [if_pos ⟨h1,h2⟩]; rfl
   ·exact nE
  ·rw [show ((s.rest.length:Int)==s.n)=false by rw [beq_eq_false_iff_ne]; exact h2,aa]
   refine k3 _ ?_ rfl rfl rfl hw;unfold startH; rw [if_neg (fun hh=>h2 hh.2)]
 ·rw [decide_eq_false h1,aa]
  unfold aQ.K1; dsimp only;rw [aa];refine k3 _ ?_ rfl rfl rfl hw;unfold startH; rw [if_neg (fun hh=>h1 hh.1)]
def beS (m:Int) (k:Nat):List Int:=(List.range k).map fun j=>IntKind.wrap .u8 (m / 2 ^ (56 - 8*j))
def zS (n:Nat):Nat:=(64 - (n+9) % 64) % 64
def padS (n:Nat):List Int:=(128::List.replicate (zS n) 0)++beS (8*(n:Int)) 8
def digL (h:List Int) (k:Nat):List Int:=(List.range k).map fun i=>IntKind.wrap .u8 (h.getD (i / 4) 0 / 2 ^ (24 - 8*(i % 4)))
def sumL (b:List Int):List Int:=digL (goB (b.length+80) firstL (b++padS b.length)).1 32
theorem qj (x:Int):0<=IntKind.wrap .u8 x/\IntKind.wrap .u8 x<256:=by rw [wrap_u8]; omega
theorem EB (m:Int) (k:Nat):bytesL (beS m k):=by intro x hx;obtain ⟨i,_,rfl⟩:=List.mem_map.1 hx;exact qj _
theorem uq (n:Nat):bytesL (padS n):=by
 refine lS ?_ (EB _ _);intro x hx;rcases List.mem_cons.1 hx with rfl | hx
 ·omega
 ·rw [List.eq_of_mem_replicate hx]; omega
theorem qk (n:Nat):(padS n).length=zS n+9:=by unfold padS beS; simp only [List.length_append,List.length_cons,List.length_replicate,List.length_map,List.length_range]
theorem Jj (n:Nat):(n+(padS n).length) % 64=0:=by rw [qk]; unfold zS; omega
theorem BK (m:Int) (k:Nat):beS m k++[IntKind.wrap .u8 (m / 2 ^ (56 - 8*k))]=beS m (k+1):=by unfold beS; rw [List.range_succ,List.map_append]; rfl
theorem xz (h:List Int) (k:Nat):digL h k++[IntKind.wrap .u8 (h.getD (k / 4) 0 / 2 ^ (24 - 8*(k % 4)))]=digL h (k+1):=by unfold digL; rw [List.range_succ,List.map_append]; rfl
theorem vC (h:List Int) (k:Nat):(digL h k).length=k:=by unfold digL; simp
theorem Ah {s:bZ} {Q:aY.QT} {n:Nat} (hn:s.n=(n:Int)) (EC:n<=100000000) (hr:s.rest.length=n % 64) (hrb:bytesL s.rest) (hw:jy s.h.toList) (H: ∀ r:Vector Int 32,r.toList=digL (goB 2 (startH s) (s.rest++padS n)).1 32->Q r):aY s Q:=by
 have l3: ∀ (j t:Nat) (m:aY.V),t+j=32->m.mZ=(t:Int)->m.pJ.h.toList=(goB 2 (startH s) (s.rest++padS n)).1->jy m.pJ.h.toList->m.d6.toList=digL m.pJ.h.toList t++List.replicate j 0->aY.L3 Q m:=by
  intro j
  induction j with
  | zero=>
   intro t m ht e1 e2 e4 e3;obtain rfl:t=32:=by omega
   refine aY.gH ?_;unfold aY.B3;rw [decide_eq_false (by omega),aa];refine H _ ?_
   rw [e3,e2,List.replicate_zero,List.append_nil]
  | succ j ih=>
   intro t m ht e1 e2 e4 e3;refine aY.gH ?_;unfold aY.B3;rw [e1,decide_eq_true (by omega),ak];rw [WK (by omega),PB (by omega),fT (n:=(t:Int) / 4) (by omega),fT (n:=8*((t:Int) % 4)) (by omega),fT (n:=24 - 8*((t:Int) % 4)) (by omega),cK (by omega)];refine ixdv (n:=t / 4) rfl (by omega) (by omega) ?_;refine fV (by omega) (ixdv (n:=t) rfl rfl (by omega) ?_);refine ih (t+1) _ (by omega) rfl e2 e4 ?_;dsimp only;rw [gj (i:=(t:Int)) (l:=digL m.pJ.h.toList t) (y:=0) (r:=List.replicate j 0) (by rw [e3]; rfl) (by rw [vC])];congr 1;rw [<- xz];congr 1
   rw [show min (Int.toNat (24 - 8*((t:Int) % 4))) (IntKind.bits .u32)=24 - 8*(t % 4) by
    rw [show (24 - 8*((t:Int) % 4)).toNat=24 - 8*(t % 4) by omega]; exact Nat.min_eq_left (show _<=32 by omega),fd _ (eA e4 _).1]
 have l2: ∀ (j t:Nat) (m:aY.V),t+j=8->m.s1=s->m.oc=(t:Int)->m.mL=(128::List.replicate (zS n) 0)++beS (8*(n:Int)) t->aY.L2 Q m:=by
  have hz:zS n<64:=by unfold zS; omega
  intro j
  induction j with
  | zero=>
   intro t m ht e1 e2 e3;obtain rfl:t=8:=by omega
   refine aY.cw ?_;unfold aY.B2;rw [decide_eq_false (by omega),aa,e1,e3];refine pL 2 (by omega) hrb (uq n) (by show _+(padS n).length<_; rw [qk]; omega) (by decide) hw fun r h1 h2 h3=> ?_;refine l3 32 0 _ (by omega) rfl h1 ?_ ?_
   ·dsimp only; rw [h1]
    refine EA _ _ _ ?_;unfold startH;split
    ·exact nE
    ·exact hw
   ·dsimp only; exact Vector.toList_replicate ..
  | succ j ih=>
   intro t m ht e1 e2 e3;refine aY.cw ?_;unfold aY.B2;rw [e2,decide_eq_true (by omega),ak];rw [fT (n:=7 - (t:Int)) (by omega),fT (n:=8*(7 - (t:Int))) (by omega),cK (by omega),e1,hn,wrap_u64 (n:=8*(n:Int)) (by omega) (by omega)];have hbl:(beS (8*(n:Int)) t).length=t:=by unfold beS; simp
   refine fV (by omega) ⟨cn (by rw [e3]; simp only [List.length_append,List.length_cons,List.length_replicate,List.length_nil,hbl]; omega),ih (t+1) _ (by omega) (by first | exact e1 | rfl) rfl ?_⟩;dsimp only;rw [e3,List.append_assoc,<- BK];congr 3
   rw [show min (Int.toNat (8*(7 - (t:Int)))) (IntKind.bits .u64)=56 - 8*t by
    rw [show (8*(7 - (t:Int))).toNat=56 - 8*t by omega]; exact Nat.min_eq_left (show _<=64 by omega),fd _ (by omega)]
 have l1: ∀ (j i:Nat) (m:aY.V),i+j=zS n->m.s1=s->m.mL=128::List.replicate i 0->aY.L1 Q m:=by
  have hz:zS n<64:=by unfold zS; omega
  intro j
  induction j with
  | zero=>
   intro i m hi e e3;obtain rfl:i=zS n:=by omega
   refine aY.bG ?_;unfold aY.B1;rw [e3,e,List.length_cons,List.length_replicate,hr,fT (n:=((n % 64:Nat):Int)+((zS n+1:Nat):Int)) (by omega),fT (n:=((n % 64:Nat):Int)+((zS n+1:Nat):Int)+8) (by omega),Int.tmod_eq_emod_of_nonneg (by omega)];rw [show ((((n % 64:Nat):Int)+((zS n+1:Nat):Int)+8) % 64 !=0)=false by unfold zS; simp; omega,aa]
   exact l2 8 0 _ (by omega) (by first | exact e | rfl) rfl (by dsimp only; rw [show beS (8*(n:Int)) 0=[] from rfl,List.append_nil])
  | succ j ih=> intro i m hi e e3;refine aY.bG ?_;unfold aY.B1;rw [e3,e,List.length_cons,List.length_replicate,hr,fT (n:=((n % 64:Nat):Int)+((i+1:Nat):Int)) (by omega),fT (n:=((n % 64:Nat):Int)+((i+1:Nat):Int)+8) (by omega),Int.tmod_eq_emod_of_nonneg (by omega)];rw [show ((((n % 64:Nat):Int)+((i+1:Nat):Int)+8) % 64 !=0)=true by unfold zS at hi; simp; omega,ak];refine ⟨cn (by simp only [List.length_cons,List.length_nil]; omega),ih (i+1) _ (by omega) (by first | exact e | rfl) ?_⟩;dsimp only;rw [List.replicate_succ',List.cons_append]
 unfold aY;exact l1 (zS n) 0 _ (by omega) rfl rfl
theorem oF {b:List Int} {Q:cx.QT} (hl:b.length<=1000000) (hb:bytesL b) (H: ∀ r:Vector Int 32,r.toList=sumL b->Q r):cx [b] Q:=by
 unfold cx vr;refine cx.bG ?_;unfold cx.B1; dsimp only;rw [show decide ((0:Int)<(([b].length:Nat):Int))=true from rfl,ak];refine ixr (x:=b) (by decide) rfl ?_
 have hz:jy (Vector.replicate 8 (0:Int)).toList:=by intro x hx;rw [Vector.toList_replicate] at hx;rw [List.eq_of_mem_replicate hx]; exact ⟨by decide,by decide⟩
 have s0:startH ⟨Vector.replicate 8 0,[],0⟩=firstL:=by unfold startH; rw [if_pos ⟨by decide,rfl⟩]
 refine pL (b.length+80) (by decide) (fun _ h=>by cases h) hb (by simp only [List.length_nil]; omega) (by omega) hz fun r h1 h2 h3=> ?_;rw [s0,List.nil_append] at h1 h2;rw [wrap_u64 (n:=(b.length:Int)) (by omega) (by omega),wrap_u64 (by dsimp only; omega) (by dsimp only; omega)] at h3;have h3:r.n=(b.length:Int):=by rw [h3]; exact Int.zero_add _
 have hlt:b.length<64*(b.length+80+1):=by omega
 have hm:=BH (b.length+80) firstL b hlt;refine cx.bG ?_;unfold cx.B1; dsimp only;rw [show decide (IntKind.wrap .i64 ((0:Int)+1)<(([b].length:Nat):Int))=false from rfl,aa]
 have hst:startH r=(goB (b.length+80) firstL b).1:=by
  unfold startH;split
  ·rename_i hh
   rw [mN (l:=b) (by omega)]
  ·exact h1
 refine Ah (n:=b.length) h3 (by omega) (by rw [h2]; exact hm) (by rw [h2]; exact fun x hx=>hb x (BI _ _ _ x hx)) (by rw [h1]; exact EA _ _ _ nE) fun d hd=>H d ?_;rw [hd,hst,h2];unfold sumL;have hp:=qk b.length;have hz:zS b.length<64:=by unfold zS; omega
 rw [BG (b.length+80) firstL b (padS b.length) (by rw [List.length_append]; omega)];congr 2;have hx:((goB (b.length+80) firstL b).2++padS b.length).length<64*3:=by rw [List.length_append,hm]; omega
 have: ∀ k,goB (2+k) (goB (b.length+80) firstL b).1 ((goB (b.length+80) firstL b).2++padS b.length)=goB 2 (goB (b.length+80) firstL b).1 ((goB (b.length+80) firstL b).2++padS b.length):=by
  intro k
  induction k with
  | zero=>rfl
  | succ k ih=>rw [show 2+(k+1)=(2+k)+1 by omega,Ag _ _ _ (by omega),ih]
 rw [show b.length+80=2+(b.length+78) by omega] at this |-
 exact (this _).symm
def timesS (a b:Int):Int × Int:=
  let al:=Int.tmod a 4294967296
  let ah:=IntKind.wrap .u64 (Int.tdiv a 4294967296)
  let bl:=Int.tmod b 4294967296
  let bh:=IntKind.wrap .u64 (Int.tdiv b 4294967296)
  let low:=IntKind.wrap .u64 (al*bl)
  let mid:=IntKind.wrap .u64 (IntKind.wrap .u64 (ah*bl)+IntKind.wrap .u64 (Int.tdiv low 4294967296))
  let Rf:=IntKind.wrap .u64 (IntKind.wrap .u64 (al*bh)+Int.tmod mid 4294967296)
  (IntKind.wrap .u64 (IntKind.wrap .u64 (IntKind.wrap .u64 (ah*bh)+IntKind.wrap .u64 (Int.tdiv mid 4294967296))+IntKind.wrap .u64 (Int.tdiv Rf 4294967296)),
   IntKind.wrap .u64 (IntKind.wrap .u64 (Rf*4294967296)+Int.tmod low 4294967296))
theorem j8 {a b:Int} {Q:Int->Int->Prop} (H:Q (timesS a b).1 (timesS a b).2):di a b Q:=H
def sqGo (p:Int):Nat->Int->Int
 | 0,r=>r
 | k+1,r=>
  let x:=IntKind.wrap .u64 (r+IntKind.wrap .u64 (1*2 ^ (min k 64)))
  let t:=timesS x x
  sqGo p k (if t.1<p\/(t.1=p/\t.2=0) then x else r)
def sqS (p:Int):Int:=IntKind.wrap .u32 (Int.tmod (sqGo p 36 0) 4294967296)
theorem Jk {p:Int} {Q:aA.QT} (H:Q (sqS p)):aA p Q:=by
 have l1: ∀ (k:Nat) (m:aA.V),m.p0=p->m.k4=(k:Int) - 1->k<=36->Q (IntKind.wrap .u32 (Int.tmod (sqGo p k m.r3) 4294967296))->aA.L1 Q m:=by
  intro k
  induction k with
  | zero=>
   intro m e1 e2 hk H;refine aA.bG ?_;unfold aA.B1;rw [decide_eq_false (by omega),aa]
   exact H
  | succ k ih=>
   intro m e1 e2 hk H;refine aA.bG ?_;unfold aA.B1;rw [e2,decide_eq_true (by omega),ak];refine fV (by omega) (j8 ?_);rw [show Int.toNat (((k+1:Nat):Int) - 1)=k by omega,show (IntKind.bits .u64)=64 from rfl];simp only [sqGo] at H
   have fin: ∀ m':aA.V,m'.p0=p->m'.k4=((k+1:Nat):Int) - 1->Q (IntKind.wrap .u32 (Int.tmod (sqGo p k m'.r3) 4294967296))->aA.K3 (aA.L1 Q) Q m':=by intro m' h1 h2 h3;unfold aA.K3;exact ih _ h1 (by dsimp only; rw [h2,fT (by omega)]; omega) (by omega) h3
   rw [e1]
   by_cases c1:(timesS (IntKind.wrap .u64 (m.r3+IntKind.wrap .u64 (1*2 ^ (min k 64)))) (IntKind.wrap .u64 (m.r3+IntKind.wrap .u64 (1*2 ^ (min k 64))))).1<p
   ·rw [decide_eq_true c1,ak]
    rw [if_pos (.inl c1)] at H;unfold aA.K2;rw [ak];exact fin _ rfl rfl H
   ·rw [decide_eq_false c1,aa]
    by_cases c2:(timesS (IntKind.wrap .u64 (m.r3+IntKind.wrap .u64 (1*2 ^ (min k 64)))) (IntKind.wrap .u64 (m.r3+IntKind.wrap .u64 (1*2 ^ (min k 64))))).1=p
    ·rw [beq_iff_eq.2 c2,ak]
     unfold aA.K2;dsimp only
     by_cases c3:(timesS (IntKind.wrap .u64 (m.r3+IntKind.wrap .u64 (1*2 ^ (min k 64)))) (IntKind.wrap .u64 (m.r3+IntKind.wrap .u64 (1*2 ^ (min k 64))))).2=0
     ·rw [beq_iff_eq.2 c3,ak]
      rw [if_pos (.inr ⟨c2,c3⟩)] at H;exact fin _ rfl rfl H
     ·rw [beq_eq_false_iff_ne.2 c3,aa]
      rw [if_neg (fun h=>h.elim c1 fun h=>c3 h.2)] at H;exact fin _ rfl rfl H
    ·rw [beq_eq_false_iff_ne.2 c2,aa]
     unfold aA.K2;rw [aa];rw [if_neg (fun h=>h.elim c1 fun h=>c2 h.1)] at H;exact fin _ rfl rfl H
 exact l1 36 _ rfl rfl (by omega) H
def cuOk (p x:Int):Bool:=
 let t:=timesS x x
 let t1:=timesS t.2 x
 let t2:=timesS t.1 x
 let mid:=IntKind.wrap .u64 (t1.1+t2.2)
 let top:=if mid<t1.1 then IntKind.wrap .u64 (t2.1+1) else t2.1
 let want:=IntKind.wrap .u64 (p*4294967296)
 (top==0) && (decide (mid<want) || ((mid==want) && (t1.2==0)))
def cuGo (p:Int):Nat->Int->Int
 | 0,r=>r
 | k+1,r=>
  let x:=IntKind.wrap .u64 (r+IntKind.wrap .u64 (1*2 ^ (min k 64)))
  cuGo p k (if cuOk p x then x else r)
def cuS (p:Int):Int:=IntKind.wrap .u32 (Int.tmod (cuGo p 35 0) 4294967296)
theorem Jl {p:Int} {Q:aE.QT} (H:Q (cuS p)):aE p Q:=by
 have l1: ∀ (k:Nat) (m:aE.V),m.p0=p->m.k4=(k:Int) - 1->k<=36->Q (IntKind.wrap .u32 (Int.tmod (cuGo p k m.r3) 4294967296))->aE.L1 Q m:=by
  intro k
  induction k with
  | zero=>
   intro m e1 e2 hk H;refine aE.bG ?_;unfold aE.B1;rw [decide_eq_false (by omega),aa]
   exact H
  | succ k ih=>
   intro m e1 e2 hk H;refine aE.bG ?_;unfold aE.B1;rw [e2,decide_eq_true (by omega),ak];refine fV (by omega) (j8 (j8 (j8 ?_)));rw [show Int.toNat (((k+1:Nat):Int) - 1)=k by omega,show (IntKind.bits .u64)=64 from rfl];simp only [cuGo] at H
   obtain ⟨x,hx⟩: ∃ x,x=IntKind.wrap .u64 (m.r3+IntKind.wrap .u64 (1*2 ^ (min k 64))):=⟨_,rfl⟩
   rw [<- hx] at H |-
   have fin: ∀ (b:Bool) (m':aE.V),m'.p0=p->m'.k4=((k+1:Nat):Int) - 1->m'.r3=m.r3->m'.x5=x->m'.Lc=b->b=cuOk p x->aE.K2 (aE.L1 Q) Q m':=by
    intro b m' h1 h2 h3 h4 h5 h6;unfold aE.K2 aE.K4;rw [h5];rw [<- h6] at H
    cases b with
    | true=>
     rw [ak]
     exact ih _ h1 (by dsimp only; rw [h2,fT (by omega)]; omega) (by omega) (by dsimp only; rw [h4]; exact H)
    | false=> rw [aa];exact ih _ h1 (by dsimp only; rw [h2,fT (by omega)]; omega) (by omega) (by dsimp only; rw [h3]; exact H)
   obtain ⟨t1,ht1⟩: ∃ t,t=timesS (timesS x x).2 x:=⟨_,rfl⟩
   obtain ⟨t2,ht2⟩: ∃ t,t=timesS (timesS x x).1 x:=⟨_,rfl⟩
   have hok:cuOk p x=((if IntKind.wrap .u64 (t1.1+t2.2)<t1.1 then IntKind.wrap .u64 (t2.1+1) else t2.1)==0 && (decide (IntKind.wrap .u64 (t1.1+t2.2)<IntKind.wrap .u64 (p*4294967296)) || ((IntKind.wrap .u64 (t1.1+t2.2)==IntKind.wrap .u64 (p*4294967296)) && (t1.2==0)))):=by rw [ht1,ht2]; rfl
   rw [<- ht1,<- ht2]
   have k3: ∀ (top:Int) (m':aE.V),top=(if IntKind.wrap .u64 (t1.1+t2.2)<t1.1 then IntKind.wrap .u64 (t2.1+1) else t2.1)->m'.p0=p->m'.k4=((k+1:Nat):Int) - 1->m'.r3=m.r3->m'.x5=x->m'.Py=t1.2->m'.qY=IntKind.wrap .u64 (t1.1+t2.2)->m'.uj=top->aE.K3 (aE.L1 Q) Q m':=by
    intro top m' h0 h1 h2 h3 h4 h5 h6 h7;rw [<- h0] at hok;unfold aE.K3;rw [h7,h6,h1,h5]
    cases c1:(top==0) with
    | false=>
     rw [aa];rw [c1] at hok
     exact fin false _ (by first | exact h1 | rfl) h2 h3 h4 rfl hok.symm
    | true=>
     rw [ak];rw [c1] at hok
     cases c2:decide (IntKind.wrap .u64 (t1.1+t2.2)<IntKind.wrap .u64 (p*4294967296)) with
     | true=>
      rw [ak];rw [c2] at hok
      exact fin true _ (by first | exact h1 | rfl) h2 h3 h4 rfl hok.symm
     | false=>
      rw [aa];rw [c2] at hok
      cases c3:(IntKind.wrap .u64 (t1.1+t2.2)==IntKind.wrap .u64 (p*4294967296)) with
      | true=>
       rw [ak];rw [c3] at hok
       exact fin (t1.2==0) _ (by first | exact h1 | rfl) h2 h3 h4 rfl hok.symm
      | false=> rw [aa];rw [c3] at hok;exact fin false _ (by first | exact h1 | rfl) h2 h3 h4 rfl hok.symm
   by_cases c:IntKind.wrap .u64 (t1.1+t2.2)<t1.1
   ·rw [decide_eq_true c,ak]
    exact k3 _ _ (by rw [if_pos c]) e1 rfl rfl rfl rfl rfl rfl
   ·rw [decide_eq_false c,aa]
    exact k3 _ _ (by rw [if_neg c]) e1 rfl rfl rfl rfl rfl rfl
 exact l1 35 _ rfl rfl (by omega) H
def prGo:Nat->List Int->Int->List Int
 | 0,out,_=>out
 | f+1,out,p=>if out.length<64 then (if out.all (fun x=>Int.tmod p x !=0) then prGo f (out++[p]) (p+1) else prGo f out (p+1)) else out
theorem Jm:prGo 320 [] 2=prGo 310 [] 2/\(prGo 320 [] 2).length=64:=by decide+kernel
theorem ED:(prGo 320 [] 2).map cuS=kL/\((prGo 320 [] 2).take 8).map sqS=firstL:=by decide+kernel
def primesL:List Int:=prGo 320 [] 2
theorem pM:primesL.length=64:=Jm.2
theorem xA {Q:an.QT} (H:Q primesL):an 64 Q:=by
 have l1: ∀ (f:Nat) (m:an.V),m.n0=64->2<=m.p4->m.p4+(f:Int)=322->(∀ x ∈ m.cP,x ≠ 0)->prGo f m.cP m.p4=primesL->m.cP.length<=64->an.L1 Q m:=by
  intro f
  induction f with
  | zero=>
   intro m e1 h1 h2 h3 h4 h5;refine an.bG ?_;unfold an.B1;simp only [prGo] at h4;have h6:=pM;rw [h4,decide_eq_false (by omega),aa]
   exact H
  | succ f ih=>
   intro m e1 h1 h2 h3 h4 h5;refine an.bG ?_;unfold an.B1;simp only [prGo] at h4
   by_cases hl:m.cP.length<64
   ·rw [e1,decide_eq_true (by omega),ak]
    rw [if_pos hl] at h4
    have l2: ∀ (j i:Nat) (m':an.V),i+j=m.cP.length->m'.n0=64->m'.p4=m.p4->m'.cP=m.cP->m'.i6=(i:Int)->m'.Im=((m.cP.take i).all fun x=>Int.tmod m.p4 x !=0)->an.L2 (an.L1 Q) Q m':=by
     intro j
     induction j with
     | zero=>
      intro i m' hi a1 a2 a3 a4 a5;refine an.cw _ ?_;unfold an.B2;rw [a4,a3,dge (by omega),aa,a5,List.take_of_length_le (by omega)]
      have k4: ∀ (l:List Int) (m2:an.V),m2.n0=64->m2.p4=m.p4->m2.cP=l->(∀ x ∈ l,x ≠ 0)->prGo f l (m.p4+1)=primesL->l.length<=64->an.K4 (an.L1 Q) Q m2:=by
       intro l m2 b1 b2 b3 b4 b5 b6;subst b3;unfold an.K4;have:IntKind.wrap .u64 (m2.p4+1)=m.p4+1:=by rw [b2]; exact wrap_u64 (by omega) (by omega)
       refine ih _ b1 (by dsimp only; rw [this]; omega) (by dsimp only; rw [this]; omega) b4 (by dsimp only; rw [this]; exact b5) b6
      cases hc:(m.cP.all fun x=>Int.tmod m.p4 x !=0) with
      | true=>
       rw [hc] at h4;rw [ak];refine ⟨cn (by simp only [List.length_cons,List.length_nil]; omega), ?_⟩;refine k4 _ _ a1 a2 rfl ?_ (by dsimp only; rw [a2]; exact h4) (by simp only [List.length_append,List.length_cons,List.length_nil]; omega);intro x hx;rcases List.mem_append.1 hx with hx | hx
       ·exact h3 x hx
       ·rw [List.mem_singleton.1 hx,a2]; omega
      | false=>
       rw [hc] at h4;rw [aa]
       exact k4 _ _ a1 a2 rfl (by rw [a3]; exact h3) (by rw [a3]; exact h4) (by rw [a3]; omega)
     | succ j DO=>
      intro i m' hi a1 a2 a3 a4 a5;have hii:i<m.cP.length:=by omega
      refine an.cw _ ?_;unfold an.B2;rw [a4,a3,dlt hii,ak,a5]
      have hsn:((m.cP.take (i+1)).all fun x=>Int.tmod m.p4 x !=0)=(((m.cP.take i).all fun x=>Int.tmod m.p4 x !=0) && (Int.tmod m.p4 m.cP[i] !=0)):=by rw [dg hii,List.all_append]; simp
      cases hc:((m.cP.take i).all fun x=>Int.tmod m.p4 x !=0) with
      | true=>
       rw [hc] at hsn;rw [ak];refine dX hii (P6 (h3 _ (List.getElem_mem hii)) ?_);unfold an.K3;dsimp only;refine DO (i+1) _ (by omega) a1 a2 (by first | exact a3 | rfl) (by dsimp only; rw [cK (by omega)]) ?_;dsimp only
       rw [hsn,a2]; rfl
      | false=> rw [hc] at hsn;rw [aa];unfold an.K3;dsimp only;refine DO (i+1) _ (by omega) a1 a2 (by first | exact a3 | rfl) (by dsimp only; rw [cK (by omega)]) ?_;dsimp only;rw [hsn]; rfl
    exact l2 m.cP.length 0 _ (by omega) (by first | exact e1 | rfl) rfl rfl rfl rfl
   ·rw [e1,decide_eq_false (by omega),aa]
    rw [if_neg hl] at h4;rw [h4]; exact H
 exact l1 320 _ rfl (by dsimp only; omega) (by dsimp only; omega) (fun _ h=>by cases h) rfl (Nat.zero_le _)
theorem EE {Q:aR.QT} (H:Q kL firstL):aR Q:=by
 obtain ⟨P,hP⟩: ∃ P,P=primesL:=⟨_,rfl⟩
 have hlen:P.length=64:=by rw [hP]; exact pM
 have c1:P.map cuS=kL:=by rw [hP]; exact ED.1
 have c2:(P.take 8).map sqS=firstL:=by rw [hP]; exact ED.2
 have l2: ∀ (j i:Nat) (m:aR.V),i+j=8->m.l2=P->m.k3=kL->m.t6=(i:Int)->m.jg=(P.take i).map sqS->aR.L2 Q m:=by
  intro j
  induction j with
  | zero=>
   intro i m hi e1 e2 e3 e4;obtain rfl:i=8:=by omega
   refine aR.cw ?_;unfold aR.B2;rw [e3,decide_eq_false (by omega),aa,e2,e4,c2]
   exact H
  | succ j ih=> intro i m hi e1 e2 e3 e4;refine aR.cw ?_;unfold aR.B2;rw [e3,e1,decide_eq_true (by omega),ak];refine dX (by omega) (Jk ⟨cn (by rw [e4]; simp only [List.length_map,List.length_take,List.length_cons,List.length_nil]; omega), ?_⟩);rw [cK (by omega)];exact ih (i+1) _ (by omega) (by first | exact e1 | rfl) e2 rfl (by dsimp only; rw [e4,mc])
 have l1: ∀ (j i:Nat) (m:aR.V),i+j=64->m.l2=P->m.t5=(i:Int)->m.jg=[]->m.k3=(P.take i).map cuS->aR.L1 Q m:=by
  intro j
  induction j with
  | zero=>
   intro i m hi e1 e3 e2 e4;obtain rfl:i=64:=by omega
   refine aR.bG ?_;unfold aR.B1;rw [e3,decide_eq_false (by omega),aa];refine l2 8 0 _ (by omega) e1 ?_ rfl e2;dsimp only;rw [e4,List.take_of_length_le (by omega)]
   exact c1
  | succ j ih=> intro i m hi e1 e3 e2 e4;refine aR.bG ?_;unfold aR.B1;rw [e3,e1,decide_eq_true (by omega),ak];refine dX (by omega) (Jl ⟨cn (by rw [e4]; simp only [List.length_map,List.length_take,List.length_cons,List.length_nil]; omega), ?_⟩);rw [cK (by omega)];exact ih (i+1) _ (by omega) (by first | exact e1 | rfl) rfl e2 (by dsimp only; rw [e4,mc])
 unfold aR;refine xA ?_;rw [<- hP];exact l1 64 0 _ (by omega) rfl rfl rfl rfl
theorem eC {x k:Int} {n:Nat} {Q:aI.QT} (hx:gE x) (hk:k=(n:Int)) (hn:0<n/\n<32) (H:Q (rotR n x)):aI x k Q:=by
 subst hk
 have l1: ∀ (j i:Nat) (m:aI.V),i+j=n->m.n1=(n:Int)->m.i5=(i:Int)->m.x0=rotR i x->aI.L1 Q m:=by
  intro j
  induction j with
  | zero=>
   intro i m hi e1 e2 e3;obtain rfl:i=n:=by omega
   refine aI.bG ?_;unfold aI.B1;rw [e1,e2,dge (by omega),aa,e3]
   exact H
  | succ j ih=> intro i m hi e1 e2 e3;refine aI.bG ?_;unfold aI.B1;rw [e1,e2,dlt (by omega),ak,cK (by omega),e3];refine ih (i+1) _ (by omega) (by first | exact e1 | rfl) rfl ?_;exact zP (by omega) hx
 unfold aI;refine l1 n 0 _ (by omega) ?_ rfl Mm.symm;dsimp only;rw [show Int.tmod (n:Int) 32=(n:Int) % 32 from Int.tmod_eq_emod_of_nonneg (by omega),fT (n:=(n:Int) % 32+32) (by omega),Int.tmod_eq_emod_of_nonneg (by omega)];omega
theorem EF {b:List Int} {Q:aS.QT} (hb:b.length<=1000000) (H:Q (b++padS b.length)):aS b Q:=by
 have hz:zS b.length<64:=by unfold zS; omega
 have l2: ∀ (j t:Nat) (m:aS.V),t+j=8->m.n4=8*(b.length:Int)->m.i5=56 - 8*(t:Int)->m.cP=b++((128::List.replicate (zS b.length) 0)++beS (8*(b.length:Int)) t)->aS.L2 Q m:=by
  intro j
  induction j with
  | zero=>
   intro t m ht e1 e2 e3;obtain rfl:t=8:=by omega
   refine aS.cw ?_;unfold aS.B2;rw [decide_eq_false (by omega),aa,e3]
   exact H
  | succ j ih=>
   intro t m ht e1 e2 e3;have hbl:(beS (8*(b.length:Int)) t).length=t:=by unfold beS; simp
   refine aS.cw ?_;unfold aS.B2;rw [e2,e1,decide_eq_true (by omega),ak,fT (n:=56 - 8*(t:Int) - 8) (by omega)];refine fV (by omega) ⟨cn (by rw [e3]; simp only [List.length_append,List.length_cons,List.length_replicate,List.length_nil,hbl]; omega),ih (t+1) _ (by omega) (by first | exact e1 | rfl) (by dsimp only; omega) ?_⟩;dsimp only;rw [e3,List.append_assoc,List.append_assoc,<- BK];congr 4
   rw [show min (Int.toNat (56 - 8*(t:Int))) (IntKind.bits .u64)=56 - 8*t by
    rw [show (56 - 8*(t:Int)).toNat=56 - 8*t by omega]; exact Nat.min_eq_left (show _<=64 by omega),fd _ (by omega)]
 have l1: ∀ (j i:Nat) (m:aS.V),i+j=zS b.length->m.b0=b->m.cP=b++(128::List.replicate i 0)->aS.L1 Q m:=by
  intro j
  induction j with
  | zero=>
   intro i m hi e e3;obtain rfl:i=zS b.length:=by omega
   refine aS.bG ?_;unfold aS.B1;rw [e3,Int.tmod_eq_emod_of_nonneg (by omega)]
   have hq:((b++((128:Int)::List.replicate (zS b.length) (0:Int))).length:Int) % 64=56:=by simp only [List.length_append,List.length_cons,List.length_replicate]; unfold zS; omega
   rw [hq,show ((56:Int) !=56)=false from rfl,aa,e];rw [wrap_u64 (n:=(b.length:Int)) (by omega) (by omega),wrap_u64 (n:=(b.length:Int)*8) (by omega) (by omega)]
   exact l2 8 0 _ (by omega) (by dsimp only; omega) rfl (by dsimp only; rw [show beS (8*(b.length:Int)) 0=[] from rfl,List.append_nil])
  | succ j ih=>
   intro i m hi e e3;refine aS.bG ?_;unfold aS.B1;rw [Int.tmod_eq_emod_of_nonneg (by omega)]
   rw [show (((m.cP.length:Nat):Int) % 64 !=56)=true by
    rw [e3]; simp only [List.length_append,List.length_cons,List.length_replicate]; unfold zS at hi; simp; omega,ak]
   refine ⟨cn (by rw [e3]; simp only [List.length_append,List.length_cons,List.length_replicate,List.length_nil]; omega),ih (i+1) _ (by omega) (by first | exact e | rfl) ?_⟩;dsimp only;rw [e3,List.append_assoc,List.cons_append,<- List.replicate_succ']
 unfold aS;refine ⟨cn (by simp only [List.length_nil]; omega),cn (by simp only [List.length_append,List.length_cons,List.length_nil]; omega), ?_⟩;exact l1 (zS b.length) 0 _ (by omega) rfl rfl
theorem Ai {s b:List Int} {Q:aq.QT} (hs:s.length=8) (hw:jy s) (hb:b.length=64) (hbb:bytesL b) (H:Q (compS s b)):aq kL s b Q:=by
 have hc8:=nD (h:=s) (b:=b) hs
 have l4: ∀ (j t:Nat) (m:aq.V),t+j=8->m.pK=roundsS (wl b 64) s 64->m.s1=s->m.i20=(t:Int)->m.nA=(compS s b).take t->aq.L4 Q m:=by
  have VP:=hJ (w:=wl b 64) (h:=s) hs 64;intro j
  induction j with
  | zero=>
   intro t m ht e1 e2 e3 e4;obtain rfl:t=8:=by omega
   refine aq.ju ?_;unfold aq.B4;rw [e3,decide_eq_false (by omega),aa,e4,List.take_of_length_le (by omega)]
   exact H
  | succ j ih=> intro t m ht e1 e2 e3 e4;refine aq.ju ?_;unfold aq.B4;rw [e3,e1,e2,decide_eq_true (by omega),ak];refine dX (by omega) (dX (by omega) ⟨cn (by rw [e4]; simp only [List.length_take,List.length_cons,List.length_nil]; omega), ?_⟩);rw [cK (by omega)];refine ih (t+1) _ (by omega) (by first | exact e1 | rfl) (by first | exact e2 | rfl) rfl ?_;dsimp only;rw [e4,dg (by omega)];congr 2;unfold compS addS;rw [List.getElem_zipWith];unfold add;rw [Int.add_comm]
 have l3: ∀ (j t:Nat) (m:aq.V),t+j=64->m.k0=kL->m.s1=s->m.w7=wl b 64->m.t14=(t:Int)->m.pK=roundsS (wl b 64) s t->aq.L3 Q m:=by
  have hwl:=vB b 64;have hkl:=MP;intro j
  induction j with
  | zero=>
   intro t m ht e1 e2 e3 e4 e5;obtain rfl:t=64:=by omega
   refine aq.gH ?_;unfold aq.B3;rw [e4,decide_eq_false (by omega),aa]
   exact l4 8 0 _ (by omega) e5 e2 rfl rfl
  | succ j ih=> rintro t ⟨k0,s1,b2,w7,t8,pK,t14,nA,i20⟩ ht e1 e2 e3 e4 e5;dsimp only at e1 e2 e3 e4 e5;have VP:=hJ (w:=wl b 64) (h:=s) hs t;have hxw:=ry (w:=wl b 64) (h:=s) hs hw t;rw [<- e5] at VP hxw;obtain ⟨a,b',c,d,e,f,g,k,hx⟩:=BF VP;subst hx;have we:gE e:=hxw _ (by simp);have wa:gE a:=hxw _ (by simp);refine aq.gH ?_;unfold aq.B3; dsimp only;rw [e4,decide_eq_true (show (t:Int)<64 by omega),ak,e1,e3];refine ixr (by decide) rfl (ixr (by decide) rfl (ixr (by decide) rfl (ixr (by decide) rfl (ixr (by decide) rfl ?_))));refine ixd rfl (by omega) (ixd rfl (by omega) ?_);refine eC (n:=6) we rfl (by decide) (eC (n:=11) we rfl (by decide) (eC (n:=25) we rfl (by decide) ?_));refine ixr (by decide) rfl (ixr (by decide) rfl (ixr (by decide) rfl (ixr (by decide) rfl ?_)));refine eC (n:=2) wa rfl (by decide) (eC (n:=13) wa rfl (by decide) (eC (n:=22) wa rfl (by decide) ?_));refine ixr (by decide) rfl (ixr (by decide) rfl (ixr (by decide) rfl (ixr (by decide) rfl (ixr (by decide) rfl (ixr (by decide) rfl (ixr (by decide) rfl ?_))))));rw [cK (by omega)];refine ih (t+1) _ (by omega) rfl e2 rfl rfl ?_;show _=stepS (roundsS (wl b 64) s t) (kL.getD t 0) ((wl b 64).getD t 0);rw [<- e5];rfl
 have l1: ∀ (j t:Nat) (m:aq.V),t+j=64->m.k0=kL->m.s1=s->m.b2=b->m.t8=(t:Int)->m.w7=wl b t->aq.L1 Q m:=by
  intro j
  induction j with
  | zero=>
   intro t m ht e1 e2 e3 e4 e5;obtain rfl:t=64:=by omega
   refine aq.bG ?_;unfold aq.B1;rw [e4,decide_eq_false (by omega),aa];refine ⟨cn (by rw [e2]; simp only [List.length_nil]; omega), ?_⟩;refine l3 64 0 _ (by omega) e1 e2 e5 rfl ?_
   dsimp only; rw [e2]; rfl
  | succ j ih=>
   intro t m ht e1 e2 e3 e4 e5;have hlen:=vB b t;have hww:=MM hbb t
   have k2: ∀ m':aq.V,m'.k0=kL->m'.s1=s->m'.b2=b->m'.t8=(t:Int)->m'.w7=wl b (t+1)->aq.K2 (aq.L1 Q) Q m':=by intro m' h1 h2 h3 h4 h5;unfold aq.K2;exact ih (t+1) _ (by omega) h1 h2 h3 (by dsimp only; rw [h4,cK (by omega)]) h5
   refine aq.bG ?_;unfold aq.B1;rw [e4,decide_eq_true (by omega),ak]
   by_cases CI:t<16
   ·rw [decide_eq_true (show (t:Int)<16 by omega),ak,e3,e5,fT (n:=4*(t:Int)) (by omega),fT (n:=4*(t:Int)+1) (by omega),fT (n:=4*(t:Int)+2) (by omega),fT (n:=4*(t:Int)+3) (by omega)]
    refine ixd (n:=4*t) (by omega) (by omega) (ixd (n:=4*t+1) (by omega) (by omega) (ixd (n:=4*t+2) (by omega) (by omega) (ixd (n:=4*t+3) (by omega) (by omega) ?_)));refine ⟨cn (by simp only [List.length_cons,List.length_nil]; omega),k2 _ e1 e2 (by first | exact e3 | rfl) (by first | exact e4 | rfl) ?_⟩;show _=wl b t++[wNext b (wl b t) t]
    congr 2;unfold wNext;rw [if_pos CI];have q0:=bX hbb (4*t);have q1:=bX hbb (4*t+1);have q2:=bX hbb (4*t+2);have q3:=bX hbb (4*t+3);unfold bigW;generalize b.getD (4*t) 0=x0 at*
    generalize b.getD (4*t+1) 0=x1 at*
    generalize b.getD (4*t+2) 0=x2 at*
    generalize b.getD (4*t+3) 0=x3 at*
    rw [bS (n:=x0) ⟨by omega,by omega⟩,bS (n:=x1) ⟨by omega,by omega⟩,bS (n:=x2) ⟨by omega,by omega⟩,bS (n:=x3) ⟨by omega,by omega⟩,
     bS (n:=x0*16777216) ⟨by omega,by omega⟩,bS (n:=x1*65536) ⟨by omega,by omega⟩,bS (n:=x2*256) ⟨by omega,by omega⟩,
     bS (n:=x0*16777216+x1*65536) ⟨by omega,by omega⟩,bS (n:=x0*16777216+x1*65536+x2*256) ⟨by omega,by omega⟩,bS (n:=x0*16777216+x1*65536+x2*256+x3) ⟨by omega,by omega⟩]
   ·rw [decide_eq_false (show ¬ (t:Int)<16 by omega),aa,e5,fT (n:=(t:Int) - 15) (by omega),fT (n:=(t:Int) - 2) (by omega),fT (n:=(t:Int) - 7) (by omega),fT (n:=(t:Int) - 16) (by omega)]
    refine ixd (n:=t - 15) (by omega) (by omega) (ixd (n:=t - 2) (by omega) (by omega) ?_);refine eC (n:=7) (eA hww _) rfl (by decide) (eC (n:=18) (eA hww _) rfl (by decide) (eC (n:=17) (eA hww _) rfl (by decide) (eC (n:=19) (eA hww _) rfl (by decide) ?_)));refine ixd (n:=t - 7) (by omega) (by omega) (ixd (n:=t - 16) (by omega) (by omega) ?_);refine ⟨cn (by simp only [List.length_cons,List.length_nil]; omega),k2 _ e1 e2 e3 (by first | exact e4 | rfl) ?_⟩;show _=wl b t++[wNext b (wl b t) t]
    congr 2;unfold wNext;rw [if_neg CI];have q1:=eA hww (t - 15);have q2:=eA hww (t - 2)
    have r1:IntKind.wrap .u32 (Int.tdiv ((wl b t).getD (t - 2) 0) 1024)=(wl b t).getD (t - 2) 0 / 1024:=by rw [Int.tdiv_eq_ediv_of_nonneg q2.1]; exact bS (by unfold gE at q2 |-; omega)
    have r2:IntKind.wrap .u32 (Int.tdiv ((wl b t).getD (t - 15) 0) 8)=(wl b t).getD (t - 15) 0 / 8:=by rw [Int.tdiv_eq_ediv_of_nonneg q1.1]; exact bS (by unfold gE at q1 |-; omega)
    rw [r1,r2];rfl
 exact l1 64 0 _ (by omega) rfl rfl rfl rfl rfl
theorem CX {b:List Int} {Q:aT.QT} (hl:b.length<=1000000) (hb:bytesL b) (H: ∀ r:Vector Int 32,r.toList=sumL b->Q r):aT b Q:=by
 have hpl:=qk b.length;have hpm:=Jj b.length;have hz:zS b.length<64:=by unfold zS; omega
 obtain ⟨p,hp⟩: ∃ p,p=b++padS b.length:=⟨_,rfl⟩
 have hpb:bytesL p:=by rw [hp]; exact lS hb (uq _)
 have hplen:p.length=b.length+(padS b.length).length:=by rw [hp,List.length_append]
 have l2: ∀ (j t:Nat) (m:aT.V),t+j=32->m.i8=(t:Int)->m.s4=(goB (b.length+80) firstL p).1->jy m.s4->m.dx.toList=digL m.s4 t++List.replicate j 0->aT.L2 Q m:=by
  have h8:(goB (b.length+80) firstL p).1.length=8:=BJ _ _ _ rfl;intro j
  induction j with
  | zero=>
   intro t m ht e1 e2 e4 e3;obtain rfl:t=32:=by omega
   refine aT.cw ?_;unfold aT.B2;rw [e1,decide_eq_false (by omega),aa];refine H _ ?_
   rw [e3,e2,List.replicate_zero,List.append_nil,hp]; rfl
  | succ j ih=>
   intro t m ht e1 e2 e4 e3;refine aT.cw ?_;unfold aT.B2;rw [e1,decide_eq_true (by omega),ak];rw [WK (by omega),PB (by omega),fT (n:=(t:Int) / 4) (by omega),fT (n:=8*((t:Int) % 4)) (by omega),fT (n:=24 - 8*((t:Int) % 4)) (by omega),cK (by omega)];refine ixd (n:=t / 4) (by omega) (by rw [e2]; omega) ?_;refine fV (by omega) (ixdv (n:=t) rfl rfl (by omega) ?_);refine ih (t+1) _ (by omega) rfl e2 e4 ?_;dsimp only;rw [gj (i:=(t:Int)) (l:=digL m.s4 t) (y:=0) (r:=List.replicate j 0) (by rw [e3]; rfl) (by rw [vC])];congr 1;rw [<- xz];congr 1
   rw [show min (Int.toNat (24 - 8*((t:Int) % 4))) (IntKind.bits .u32)=24 - 8*(t % 4) by
    rw [show (24 - 8*((t:Int) % 4)).toNat=24 - 8*(t % 4) by omega]; exact Nat.min_eq_left (show _<=32 by omega),fd _ (eA e4 _).1]
 have l1: ∀ (f i:Nat) (m:aT.V),i<=p.length->(p.length - i) % 64=0->p.length - i<=64*f->m.k3=kL->m.p5=p->m.i6=(i:Int)->m.s4.length=8->jy m.s4->(goB (b.length+80) firstL p).1=(goB f m.s4 (p.drop i)).1->aT.L1 Q m:=by
  intro f
  induction f with
  | zero=>
   intro i m h0 h1 h2 e1 e2 e3 e4 e5 e6;refine aT.bG ?_;unfold aT.B1;rw [e2,e3,dge (by omega),aa]
   exact l2 32 0 _ (by omega) rfl e6.symm e5 (by dsimp only; exact Vector.toList_replicate ..)
  | succ f ih=>
   intro i m h0 h1 h2 e1 e2 e3 e4 e5 e6;refine aT.bG ?_;unfold aT.B1;rw [e2,e3]
   by_cases hi:i<p.length
   ·rw [dlt hi,ak,fT (n:=(i:Int)+64) (by omega),e1]
    refine ⟨⟨by omega,by omega,by omega⟩, ?_⟩
    have es:sub p (i:Int) ((i:Int)+64)=(p.drop i).take 64:=by unfold sub;rw [show ((i:Int)+64).toNat=i+64 by omega,Int.toNat_natCast,List.drop_take,Nat.add_sub_cancel_left]
    rw [es];refine Ai e4 e5 (by rw [List.length_take,List.length_drop]; omega) (fun x hx=>hpb x (List.mem_of_mem_drop (List.mem_of_mem_take hx))) ?_;refine ih (i+64) _ (by omega) (by omega) (by omega) rfl (by first | exact e2 | rfl) (by dsimp only; omega) (nD e4) Ae ?_;rw [e6];simp only [goB];rw [if_pos (by rw [List.length_drop]; omega),List.drop_drop]
   ·rw [dge (by omega),aa]
    rw [mN (l:=p.drop i) (by rw [List.length_drop]; omega)] at e6;exact l2 32 0 _ (by omega) rfl e6.symm e5 (by dsimp only; exact Vector.toList_replicate ..)
 unfold aT;refine EE (EF hl ?_);rw [<- hp];exact l1 (b.length+80) 0 _ (by omega) (by rw [hplen]; omega) (by omega) rfl rfl rfl rfl nE rfl
def qS (a b c d:Int):Vector Int 4:=
 let a1:=add a b
 let d1:=rotR 16 (vA d a1)
 let c1:=add c d1
 let b1:=rotR 20 (vA b c1)
 let a2:=add a1 b1
 let d2:=rotR 24 (vA d1 a2)
 let c2:=add c1 d2
 let b2:=rotR 25 (vA b1 c2)
 #v[a2,b2,c2,d2]
theorem BL {x y z bb:Int} {v:Vector Int 4} {Q:Vector Int 4->Prop} {n:Nat} {vx vy vz:Int} (hn:0<n/\n<32)
  (hk:IntKind.wrap .u64 (((BitVec.ofInt (IntKind.bits .u64) (IntKind.wrap .u64 bb) &&& (BitVec.ofInt (IntKind.bits .u64) (31:Int))).toNat:Int))=((32 - n:Nat):Int))
  (hx:0<=x) (hy:0<=y) (hz:0<=z) (ex:v.toList[x.toNat]? =some vx) (ey:v.toList[y.toNat]? =some vy) (ez:(v.setIfInBounds x.toNat (add vx vy)).toList[z.toNat]? =some vz) (ea:(v.setIfInBounds x.toNat (add vx vy)).toList[x.toNat]? =some (add vx vy))
  (H:Q ((v.setIfInBounds x.toNat (add vx vy)).setIfInBounds z.toNat (rotR n (vA vz (add vx vy))))):cQ x y z bb v Q:=by
 unfold cQ;refine ixr hx ex (ixr hy ey (ixr hx ex (ixr hz ez (ixr hx ea ?_))));refine uo (n:=n) (xp _ _) hn hk ?_;exact ixr hz ez H
theorem Rg {a b c d bb:Int} {Q:Vector Int 4->Prop} {n:Nat} (hn:0<n/\n<32)
  (hk:IntKind.wrap .u64 (((BitVec.ofInt (IntKind.bits .u64) (IntKind.wrap .u64 bb) &&& (BitVec.ofInt (IntKind.bits .u64) (31:Int))).toNat:Int))=((32 - n:Nat):Int))
  (H:Q #v[add a b,b,c,rotR n (vA d (add a b))]):cQ 0 1 3 bb #v[a,b,c,d] Q:=
 BL hn hk (by decide) (by decide) (by decide) rfl rfl rfl rfl H
theorem Rh {a b c d bb:Int} {Q:Vector Int 4->Prop} {n:Nat} (hn:0<n/\n<32)
  (hk:IntKind.wrap .u64 (((BitVec.ofInt (IntKind.bits .u64) (IntKind.wrap .u64 bb) &&& (BitVec.ofInt (IntKind.bits .u64) (31:Int))).toNat:Int))=((32 - n:Nat):Int))
  (H:Q #v[a,rotR n (vA b (add c d)),add c d,d]):cQ 2 3 1 bb #v[a,b,c,d] Q:=
 BL hn hk (by decide) (by decide) (by decide) rfl rfl rfl rfl H
theorem nF {a b c d:Int} {Q:Vector Int 4->Prop} (H:Q (qS a b c d)):cA #v[a,b,c,d] Q:=by unfold cA;refine Rg (n:=16) (by decide) (by decide+kernel) (Rh (n:=20) (by decide) (by decide+kernel) (Rg (n:=24) (by decide) (by decide+kernel) (Rh (n:=25) (by decide) (by decide+kernel) H)))
theorem lT {x k:Int} {n:Nat} {Q:aZ.QT} (hx:gE x) (hk:k=((32 - n:Nat):Int)) (hn:n<=32) (H:Q (rotR n x)):aZ x k Q:=by
 subst hk
 have l1: ∀ (j i:Nat) (m:aZ.V),n+j=32 - i->i<=32->m.n1=((32 - n:Nat):Int)->m.i5=(i:Int)->m.x0=rotR (32 - i) x->aZ.L1 Q m:=by
  intro j
  induction j with
  | zero=>
   intro i m hi qC e1 e2 e3;refine aZ.bG ?_;unfold aZ.B1;rw [e1,e2,dge (by omega),aa,e3,<- hi]
   exact H
  | succ j ih=> intro i m hi qC e1 e2 e3;refine aZ.bG ?_;unfold aZ.B1;rw [e1,e2,dlt (by omega),ak,cK (by omega),e3];refine ih (i+1) _ (by omega) (by omega) (by first | exact e1 | rfl) rfl ?_;have:=CJ (n:=32 - (i+1)) (by omega) hx;rw [show 32 - (i+1)+1=32 - i by omega] at this;exact this
 unfold aZ;exact l1 (32 - n) 0 _ (by omega) (by omega) rfl rfl (IV hx).symm
theorem mj {a b c d:Int} {Q:Vector Int 4->Prop} (H:Q (qS a b c d)):dy #v[a,b,c,d] Q:=by unfold dy;refine ixr (by decide) rfl (ixr (by decide) rfl (ixr (by decide) rfl (ixr (by decide) rfl ?_)));refine lT (n:=16) (xp _ _) rfl (by decide) ?_;refine lT (n:=20) (xp _ _) rfl (by decide) ?_;refine lT (n:=24) (xp _ _) rfl (by decide) ?_;refine lT (n:=25) (xp _ _) rfl (by decide) ?_;exact H
def qAt (w:List Int) (p:Nat × Nat × Nat × Nat):List Int:=
 let q:=qS (w.getD p.1 0) (w.getD p.2.1 0) (w.getD p.2.2.1 0) (w.getD p.2.2.2 0)
 (((w.set p.1 (q.toList.getD 0 0)).set p.2.1 (q.toList.getD 1 0)).set p.2.2.1 (q.toList.getD 2 0)).set p.2.2.2 (q.toList.getD 3 0)
theorem vD {w:List Int} {p:Nat × Nat × Nat × Nat}:(qAt w p).length=w.length:=by unfold qAt; simp only [List.length_set]
theorem vset {n:Nat} {v:Vector Int n} {i:Int} {k:Nat} {x:Int} {l:List Int} (e:v.toList=l) (hi:i=(k:Int)):(v.setIfInBounds (Int.toNat i) x).toList=l.set k x:=by subst hi e; rw [Vector.toList_setIfInBounds,Int.toNat_natCast]
theorem nG {v:Vector Int 16} {w:List Int} {i j k l:Int} {a b c d:Nat} {Q:aX.QT} (e:v.toList=w) (hi:i=(a:Int)) (hj:j=(b:Int)) (hk:k=(c:Int)) (hl:l=(d:Int))
  (ha:a<16) (hb:b<16) (hc:c<16) (hd:d<16) (H: ∀ r:Vector Int 16,r.toList=qAt w (a,b,c,d)->Q r):aX i j k l v Q:=by
 have k3: ∀ m:aX.V,m.v4=v->m.a0=i->m.b1=j->m.c2=k->m.d3=l->m.vo=qS (w.getD a 0) (w.getD b 0) (w.getD c 0) (w.getD d 0)->aX.K3 Q m:=by rintro ⟨v4,a0,b1,c2,d3,q9,vo⟩ e1 e2 e3 e4 e5 e6;dsimp only at e1 e2 e3 e4 e5 e6;subst e1 e2 e3 e4 e5 e6;unfold aX.K3 aX.K1; dsimp only;refine ixdv (n:=0) rfl rfl (by decide) (ixdv (n:=1) rfl rfl (by decide) (ixdv (n:=2) rfl rfl (by decide) (ixdv (n:=3) rfl rfl (by decide) ?_)));refine ixdv (n:=a) rfl hi ha (ixdv (n:=b) rfl hj hb (ixdv (n:=c) rfl hk hc (ixdv (n:=d) rfl hl hd ?_)));refine H _ ?_;exact vset (vset (vset (vset e hi) hj) hk) hl
 unfold aX;refine ixdv e hi ha (ixdv e hj hb (ixdv e hk hc (ixdv e hl hd ⟨?_, ?_⟩)))
 ·refine nF ?_
  exact k3 _ rfl rfl rfl rfl rfl rfl
 ·refine nF ?_
  exact k3 _ rfl rfl rfl rfl rfl rfl
def colP (i:Nat):Nat × Nat × Nat × Nat:=(i,4+i,8+i,12+i)
def diaP (i:Nat):Nat × Nat × Nat × Nat:=(i,4+(i+1) % 4,8+(i+2) % 4,12+(i+3) % 4)
def colS (w:List Int) (k:Nat):List Int:=(List.range k).foldl (fun w i=>qAt w (colP i)) w
def diaS (w:List Int) (k:Nat):List Int:=(List.range k).foldl (fun w i=>qAt w (diaP i)) w
def dblS (w:List Int):List Int:=diaS (colS w 4) 4
def rndS (w:List Int):Nat->List Int
 | 0=>w
 | r+1=>dblS (rndS w r)
theorem ur (w:List Int) (k:Nat):colS w (k+1)=qAt (colS w k) (colP k):=by unfold colS; rw [List.range_succ,List.foldl_append]; rfl
theorem uu (w:List Int) (k:Nat):diaS w (k+1)=qAt (diaS w k) (diaP k):=by unfold diaS; rw [List.range_succ,List.foldl_append]; rfl
theorem xB (w:List Int): ∀ k,(colS w k).length=w.length
 | 0=>rfl
 | k+1=>by rw [ur,vD,xB w k]
theorem xC (w:List Int): ∀ k,(diaS w k).length=w.length
 | 0=>rfl
 | k+1=>by rw [uu,vD,xC w k]
theorem xD (w:List Int): ∀ k,(rndS w k).length=w.length
 | 0=>rfl
 | k+1=>by show (dblS _).length=_; unfold dblS; rw [xC,xB,xD w k]
def outL (first w:List Int) (k:Nat):List Int:=(List.range k).map fun i=>IntKind.wrap .u8 (add (w.getD (i / 4) 0) (first.getD (i / 4) 0) / 2 ^ (8*(i % 4)))
theorem rz (f w:List Int) (k:Nat):(outL f w k).length=k:=by unfold outL; simp
theorem uv (f w:List Int) (k:Nat):outL f w k++[IntKind.wrap .u8 (add (w.getD (k / 4) 0) (f.getD (k / 4) 0) / 2 ^ (8*(k % 4)))]=outL f w (k+1):=by unfold outL; rw [List.range_succ,List.map_append]; rfl
def litW (a b c d:Int):Int:=a+b*256+c*65536+d*16777216
def wdS (l:List Int) (i:Nat):Int:=litW (l.getD (4*i) 0) (l.getD (4*i+1) 0) (l.getD (4*i+2) 0) (l.getD (4*i+3) 0)
def wds (l:List Int) (k:Nat):List Int:=(List.range k).map (wdS l)
theorem j9 (l:List Int) (k:Nat):(wds l k).length=k:=by unfold wds; simp
theorem nH (l:List Int) (k:Nat):wds l k++[wdS l k]=wds l (k+1):=by unfold wds; rw [List.range_succ,List.map_append]; rfl
def sigL:List Int:=[1634760805,857760878,2036477234,1797285236]
def firS (key nonce:List Int) (c:Int):List Int:=sigL++(wds key 8++(c::wds nonce 3))
def blkS (key nonce:List Int) (c:Int):List Int:=outL (firS key nonce c) (rndS (firS key nonce c) 10) 64
theorem or4 {a b c d:Int} (ha:0<=a/\a<256) (hb:0<=b/\b<256) (hc:0<=c/\c<256) (hd:0<=d/\d<256):
  IntKind.wrap .u32 (((BitVec.ofInt (IntKind.bits .u32) (IntKind.wrap .u32 (((BitVec.ofInt (IntKind.bits .u32) (IntKind.wrap .u32 (((BitVec.ofInt (IntKind.bits .u32) (IntKind.wrap .u32 a) ||| (BitVec.ofInt (IntKind.bits .u32) (IntKind.wrap .u32 ((IntKind.wrap .u32 b)*2 ^ (min (Int.toNat (8:Int)) (IntKind.bits .u32)))))).toNat:Int))) ||| (BitVec.ofInt (IntKind.bits .u32) (IntKind.wrap .u32 ((IntKind.wrap .u32 c)*2 ^ (min (Int.toNat (16:Int)) (IntKind.bits .u32)))))).toNat:Int))) ||| (BitVec.ofInt (IntKind.bits .u32) (IntKind.wrap .u32 ((IntKind.wrap .u32 d)*2 ^ (min (Int.toNat (24:Int)) (IntKind.bits .u32)))))).toNat:Int))=litW a b c d:=by
 have comm: ∀ (x y z:Int) (n:Nat),(((BitVec.ofInt 32 y ||| BitVec.ofInt 32 x).toNat:Int))=z->((BitVec.ofInt (IntKind.bits .u32) x ||| BitVec.ofInt (IntKind.bits .u32) y).toNat:Int)=z:=by intro x y z n h;rw [<- h];show ((BitVec.ofInt 32 x ||| BitVec.ofInt 32 y).toNat:Int)=_;rw [BitVec.or_comm]
 rw [show min (Int.toNat (8:Int)) (IntKind.bits .u32)=8 from rfl,show min (Int.toNat (16:Int)) (IntKind.bits .u32)=16 from rfl,show min (Int.toNat (24:Int)) (IntKind.bits .u32)=24 from rfl];rw [bS (n:=a) ⟨by omega,by omega⟩,bS (n:=b) ⟨by omega,by omega⟩,bS (n:=c) ⟨by omega,by omega⟩,bS (n:=d) ⟨by omega,by omega⟩];rw [show (2:Int) ^ 8=256 from rfl,show (2:Int) ^ 16=65536 from rfl,show (2:Int) ^ 24=16777216 from rfl];rw [bS (n:=b*256) ⟨by omega,by omega⟩,bS (n:=c*65536) ⟨by omega,by omega⟩,bS (n:=d*16777216) ⟨by omega,by omega⟩];have e1:=comm a (b*256) _ 0 (qP (P:=256) (S:=0) (a:=b) (r:=a) (n:=8) rfl ha (by omega) (by omega));rw [e1,bS (n:=b*256+a) ⟨by omega,by omega⟩];have e2:=comm (b*256+a) (c*65536) _ 0 (qP (P:=65536) (S:=0) (a:=c) (r:=b*256+a) (n:=16) rfl (by omega) (by omega) (by omega));rw [e2,bS (n:=c*65536+(b*256+a)) ⟨by omega,by omega⟩];have e3:=comm (c*65536+(b*256+a)) (d*16777216) _ 0 (qP (P:=16777216) (S:=0) (a:=d) (r:=c*65536+(b*256+a)) (n:=24) rfl (by omega) (by omega) (by omega));rw [e3,bS (n:=d*16777216+(c*65536+(b*256+a))) ⟨by omega,by omega⟩];unfold litW; omega
theorem rA {l:List Int} {Q:Int->Prop} (hl:4<=l.length) (hb:bytesL l) (H:Q (litW (l.getD 0 0) (l.getD 1 0) (l.getD 2 0) (l.getD 3 0))):iF l Q:=by unfold iF;refine ixd (n:=0) rfl (by omega) (ixd (n:=1) rfl (by omega) (ixd (n:=2) rfl (by omega) (ixd (n:=3) rfl (by omega) ?_)));rw [or4 (bX hb _) (bX hb _) (bX hb _) (bX hb _)];exact H
theorem rC {a b c d:Int} {Q:Int->Prop} (ha:0<=a/\a<256) (hb:0<=b/\b<256) (hc:0<=c/\c<256) (hd:0<=d/\d<256) (H:Q (litW a b c d)):ej [a,b,c,d] Q:=by
 unfold ej;refine ixr (by decide) rfl (ixr (by decide) rfl (ixr (by decide) rfl (ixr (by decide) rfl ?_)))
 rw [bS (n:=a) ⟨by omega,by omega⟩,bS (n:=b) ⟨by omega,by omega⟩,bS (n:=c) ⟨by omega,by omega⟩,bS (n:=d) ⟨by omega,by omega⟩,
  bS (n:=256*b) ⟨by omega,by omega⟩,bS (n:=65536*c) ⟨by omega,by omega⟩,bS (n:=16777216*d) ⟨by omega,by omega⟩,
  bS (n:=a+256*b) ⟨by omega,by omega⟩,bS (n:=a+256*b+65536*c) ⟨by omega,by omega⟩,bS (n:=a+256*b+65536*c+16777216*d) ⟨by omega,by omega⟩]
 rw [show a+256*b+65536*c+16777216*d=litW a b c d by unfold litW; omega];exact H
theorem gN {l:List Int} {n m k:Nat} {i j:Int} (hi:i=(n:Int)) (hj:j=(m:Int)) (h:n+k<m):(sub l i j).getD k 0=l.getD (n+k) 0:=by subst hi hj;unfold sub;rw [Int.toNat_natCast,Int.toNat_natCast,List.getD_eq_getElem?_getD,List.getD_eq_getElem?_getD,List.getElem?_drop,List.getElem?_take];rw [if_pos h]
theorem uw {l:List Int} {i j:Int} (h:bytesL l):bytesL (sub l i j):=fun x hx=>by unfold sub at hx;exact h x (List.mem_of_mem_take (List.mem_of_mem_drop hx))
theorem Aj {k:Vector Int 32} {n:Vector Int 12} {c:Int} {Q:aV.QT} (hk:bytesL k.toList) (hn:bytesL n.toList) (H: ∀ r:Vector Int 16,r.toList=firS k.toList n.toList c->Q r):aV k n c Q:=by
 have hkl:k.toList.length=32:=Vector.length_toList ..
 have hnl:n.toList.length=12:=Vector.length_toList ..
 have l2: ∀ (j t:Nat) (m:aV.V),t+j=3->m.eO=n->m.Eh=(t:Int)->m.w7.toList=(sigL++(wds k.toList 8++(c::wds n.toList t)))++List.replicate j 0->aV.L2 Q m:=by
  intro j
  induction j with
  | zero=>
   intro t m ht e1 e2 e3;obtain rfl:t=3:=by omega
   refine aV.cw ?_;unfold aV.B2;rw [e2,decide_eq_false (by omega),aa];refine H _ ?_
   rw [e3,List.replicate_zero,List.append_nil]; rfl
  | succ j ih=>
   intro t m ht e1 e2 e3
   have hlen:(sigL++(wds k.toList 8++(c::wds n.toList t))).length=13+t:=by simp only [List.length_append,List.length_cons,j9]; show 4+_=_; omega
   refine aV.cw ?_;unfold aV.B2;rw [e2,decide_eq_true (by omega),ak,e1,iS,fT (n:=4*(t:Int)) (by omega),fT (n:=13+(t:Int)) (by omega),cK (by omega)];refine ⟨⟨by omega,by omega,by rw [hnl]; omega⟩, ?_⟩;have hsl:=qi (l:=n.toList) (i:=4*(t:Int)) (j:=((12:Nat):Int)) (by rw [hnl]; omega);refine rA (by omega) (uw hn) ?_;rw [gN (n:=4*t) (by omega) rfl (by omega),gN (n:=4*t) (by omega) rfl (by omega),gN (n:=4*t) (by omega) rfl (by omega),gN (n:=4*t) (by omega) rfl (by omega)];refine ixdv (n:=13+t) rfl (by omega) (by omega) ?_;refine ih (t+1) _ (by omega) (by first | exact e1 | rfl) rfl ?_;dsimp only;rw [gj (i:=13+(t:Int)) (l:=sigL++(wds k.toList 8++(c::wds n.toList t))) (y:=0) (r:=List.replicate j 0) (by rw [e3]; rfl) (by rw [hlen]; omega)];congr 1;rw [List.append_assoc,List.append_assoc,List.cons_append,<- nH n.toList t];rfl
 have l1: ∀ (j t:Nat) (m:aV.V),t+j=8->m.ow=k->m.eO=n->m.bg=c->m.v11=(t:Int)->m.w7.toList=(sigL++wds k.toList t)++List.replicate (j+4) 0->aV.L1 Q m:=by
  intro j
  induction j with
  | zero=>
   intro t m ht e1 e4 e5 e2 e3;obtain rfl:t=8:=by omega
   have hlen:(sigL++wds k.toList 8).length=12:=by simp only [List.length_append,j9]; rfl
   refine aV.bG ?_;unfold aV.B1;rw [e2,decide_eq_false (by omega),aa];refine ixdv (n:=12) rfl rfl (by decide) ?_;refine l2 3 0 _ (by omega) e4 rfl ?_;dsimp only;rw [gj (i:=(12:Int)) (l:=sigL++wds k.toList 8) (y:=0) (r:=List.replicate 3 0) (by rw [e3]; rfl) (by rw [hlen]; rfl)];rw [e5,List.append_assoc sigL]
   rfl
  | succ j ih=>
   intro t m ht e1 e4 e5 e2 e3
   have hlen:(sigL++wds k.toList t).length=4+t:=by simp only [List.length_append,j9]; rfl
   refine aV.bG ?_;unfold aV.B1;rw [e2,decide_eq_true (by omega),ak,e1,iS,fT (n:=4*(t:Int)) (by omega),fT (n:=4+(t:Int)) (by omega),cK (by omega)];refine ⟨⟨by omega,by omega,by rw [hkl]; omega⟩, ?_⟩;have hsl:=qi (l:=k.toList) (i:=4*(t:Int)) (j:=((32:Nat):Int)) (by rw [hkl]; omega);refine rA (by omega) (uw hk) ?_;rw [gN (n:=4*t) (by omega) rfl (by omega),gN (n:=4*t) (by omega) rfl (by omega),gN (n:=4*t) (by omega) rfl (by omega),gN (n:=4*t) (by omega) rfl (by omega)];refine ixdv (n:=4+t) rfl (by omega) (by omega) ?_;refine ih (t+1) _ (by omega) (by first | exact e1 | rfl) e4 e5 rfl ?_;dsimp only;rw [gj (i:=4+(t:Int)) (l:=sigL++wds k.toList t) (y:=0) (r:=List.replicate (j+4) 0) (by rw [e3,show j+1+4=(j+4)+1 by omega]; rfl) (by rw [hlen]; omega)];congr 1;rw [List.append_assoc,<- nH k.toList t];rfl
 unfold aV;exact l1 8 0 _ (by omega) rfl rfl rfl rfl rfl
theorem xE (k n:List Int) (c:Int):(firS k n c).length=16:=by unfold firS; simp only [List.length_append,List.length_cons,j9]; rfl
theorem EG {first w:List Int} {t:Nat}:IntKind.wrap .u8 (Int.fdiv (IntKind.wrap .u32 (w.getD (t / 4) 0+first.getD (t / 4) 0)) (2 ^ (min (Int.toNat (8*((t:Int) % 4))) (IntKind.bits .u32))))=IntKind.wrap .u8 (add (w.getD (t / 4) 0) (first.getD (t / 4) 0) / 2 ^ (8*(t % 4))):=by
 rw [show min (Int.toNat (8*((t:Int) % 4))) (IntKind.bits .u32)=8*(t % 4) by
  rw [show (8*((t:Int) % 4)).toNat=8*(t % 4) by omega]; exact Nat.min_eq_left (show _<=32 by omega)]
 rw [fd _ (qN _).1]; rfl
theorem pN {k:Vector Int 32} {n:Vector Int 12} {c:Int} {Q:aG.QT} (hk:bytesL k.toList) (hn:bytesL n.toList) (H: ∀ r:Vector Int 64,r.toList=blkS k.toList n.toList c->Q r):aG k n c Q:=by
 obtain ⟨F,hF⟩: ∃ F,F=firS k.toList n.toList c:=⟨_,rfl⟩
 have Ri:F.length=16:=by rw [hF,xE]
 have l4: ∀ (j t:Nat) (m:aG.V),t+j=64->m.jo=(t:Int)->m.aM.toList=F->m.w8.toList=rndS F 10->m.mK.toList=outL F (rndS F 10) t++List.replicate j 0->aG.L4 Q m:=by
  intro j
  induction j with
  | zero=>
   intro t m ht e1 e2 e3 e4;obtain rfl:t=64:=by omega
   refine aG.ju ?_;unfold aG.B4;rw [e1,decide_eq_false (by omega),aa];refine H _ ?_
   rw [e4,List.replicate_zero,List.append_nil,hF]; rfl
  | succ j ih=> intro t m ht e1 e2 e3 e4;refine aG.ju ?_;unfold aG.B4;rw [e1,decide_eq_true (by omega),ak];rw [WK (by omega),PB (by omega),fT (n:=(t:Int) / 4) (by omega),fT (n:=8*((t:Int) % 4)) (by omega),cK (by omega)];refine ixdv (n:=t / 4) e3 (by omega) (by omega) (ixdv (n:=t / 4) e2 (by omega) (by omega) ?_);refine ⟨by omega,ixdv (n:=t) rfl rfl (by omega) ?_⟩;refine ih (t+1) _ (by omega) rfl e2 e3 ?_;dsimp only;rw [gj (i:=(t:Int)) (l:=outL F (rndS F 10) t) (y:=0) (r:=List.replicate j 0) (by rw [e4]; rfl) (by rw [rz]),EG,uv]
 have l1: ∀ (j r:Nat) (m:aG.V),r+j=10->m.v20=(r:Int)->m.aM.toList=F->m.w8.toList=rndS F r->aG.L1 Q m:=by
  intro j
  induction j with
  | zero=>
   intro r m hr e1 e2 e3;obtain rfl:r=10:=by omega
   refine aG.bG ?_;unfold aG.B1;rw [e1,decide_eq_false (by omega),aa]
   exact l4 64 0 _ (by omega) rfl e2 e3 (by dsimp only; exact Vector.toList_replicate ..)
  | succ j ih=>
   intro r m hr e1 e2 e3
   have l3: ∀ (j' t:Nat) (m':aG.V),t+j'=4->m'.v20=(r:Int)->m'.fM=(t:Int)->m'.aM.toList=F->m'.w8.toList=diaS (colS (rndS F r) 4) t->aG.L3 (aG.L1 Q) Q m':=by
    intro j'
    induction j' with
    | zero=>
     intro t m' ht a1 a2 a3 a4;obtain rfl:t=4:=by omega
     refine aG.gH _ ?_;unfold aG.B3;rw [a2,decide_eq_false (by omega),aa]
     exact ih (r+1) _ (by omega) (by dsimp only; rw [a1,cK (by omega)]) a3 a4
    | succ j' DO=>
     intro t m' ht a1 a2 a3 a4;refine aG.gH _ ?_;unfold aG.B3;rw [a2,decide_eq_true (by omega),ak]
     rw [fT (n:=(t:Int)+1) (by omega),fT (n:=(t:Int)+2) (by omega),fT (n:=(t:Int)+3) (by omega),PB (by omega),PB (by omega),PB (by omega),
      fT (n:=4+((t:Int)+1) % 4) (by omega),fT (n:=8+((t:Int)+2) % 4) (by omega),fT (n:=12+((t:Int)+3) % 4) (by omega)]
     refine nG (a:=t) (b:=4+(t+1) % 4) (c:=8+(t+2) % 4) (d:=12+(t+3) % 4) a4 rfl (by omega) (by omega) (by omega) (by omega) (by omega) (by omega) (by omega) fun v hv=> ?_;exact DO (t+1) _ (by omega) a1 (by dsimp only; omega) a3 (by dsimp only; rw [hv,uu]; rfl)
   have l2: ∀ (j' t:Nat) (m':aG.V),t+j'=4->m'.v20=(r:Int)->m'.gX=(t:Int)->m'.aM.toList=F->m'.w8.toList=colS (rndS F r) t->aG.L2 (aG.L1 Q) Q m':=by
    intro j'
    induction j' with
    | zero=>
     intro t m' ht a1 a2 a3 a4;obtain rfl:t=4:=by omega
     refine aG.cw _ ?_;unfold aG.B2;rw [a2,decide_eq_false (by omega),aa]
     exact l3 4 0 _ (by omega) a1 rfl a3 a4
    | succ j' DO=> intro t m' ht a1 a2 a3 a4;refine aG.cw _ ?_;unfold aG.B2;rw [a2,decide_eq_true (by omega),ak];rw [fT (n:=(t:Int)+1) (by omega),fT (n:=4+(t:Int)) (by omega),fT (n:=8+(t:Int)) (by omega),fT (n:=12+(t:Int)) (by omega)];refine nG (a:=t) (b:=4+t) (c:=8+t) (d:=12+t) a4 rfl (by omega) (by omega) (by omega) (by omega) (by omega) (by omega) (by omega) fun v hv=> ?_;exact DO (t+1) _ (by omega) a1 (by dsimp only; omega) a3 (by dsimp only; rw [hv,ur]; rfl)
   refine aG.bG ?_;unfold aG.B1;rw [e1,decide_eq_true (by omega),ak];exact l2 4 0 _ (by omega) (by first | exact e1 | rfl) rfl e2 e3
 unfold aG;refine Aj hk hn fun r hr=> ?_;exact l1 10 0 _ (by omega) rfl (by dsimp only; rw [hr,hF]) (by dsimp only; rw [hr,hF]; rfl)
def plN:List (Nat × Nat × Nat × Nat):=[(0,4,8,12),(1,5,9,13),(2,6,10,14),(3,7,11,15),(0,5,10,15),(1,6,11,12),(2,7,8,13),(3,4,9,14)]
def plI (p:Nat × Nat × Nat × Nat):List Int:=[(p.1:Int),(p.2.1:Int),(p.2.2.1:Int),(p.2.2.2:Int)]
theorem MQ (w:List Int):dblS w=plN.foldl qAt w:=by unfold dblS diaS colS plN;simp only [List.range,List.range.loop,List.foldl_cons,List.foldl_nil,colP,diaP]
theorem Rj: ∀ p ∈ plN,p.1<16/\p.2.1<16/\p.2.2.1<16/\p.2.2.2<16:=by decide
theorem ixs {l:List Int} {i:Int} {n:Nat} {K:Int->Prop} (hi:i=(n:Int)) (h:n<l.length) (H: ∀ x,K x):ixP l i K:=fC n hi h (H _)
theorem xF {k:Vector Int 32} {n:Vector Int 12} {c:Int} {Q:ai.QT} (hk:bytesL k.toList) (hn:bytesL n.toList) (H: ∀ r:Vector Int 64,r.toList=blkS k.toList n.toList c->Q r):ai k n c Q:=by
 have hkl:k.toList.length=32:=Vector.length_toList ..
 have hnl:n.toList.length=12:=Vector.length_toList ..
 obtain ⟨F,hF⟩: ∃ F,F=firS k.toList n.toList c:=⟨_,rfl⟩
 have Ri:F.length=16:=by rw [hF,xE]
 have Rk: ∀ r,(rndS F r).length=16:=fun r=>by rw [xD,Ri]
 obtain ⟨R,hR⟩: ∃ R,R=rndS F 10:=⟨_,rfl⟩
 have hRl:R.length=16:=by rw [hR]; exact Rk 10
 have l7: ∀ (j t:Nat) (m:ai.V),t+j=16->m.i17=(t:Int)->m.aM=F->m.od=R->m.kU.toList=outL F (R) (4*t)++List.replicate (4*j) 0->ai.L7 Q m:=by
  intro j
  induction j with
  | zero=>
   intro t m ht e1 e2 e3 e4;obtain rfl:t=16:=by omega
   refine ai.Lt ?_;unfold ai.B7;rw [e1,decide_eq_false (by omega),aa];refine H _ ?_
   rw [e4]; simp only [Nat.mul_zero,List.replicate_zero,List.append_nil]; rw [hR,hF]; rfl
  | succ j ih=>
   intro t m ht e1 e2 e3 e4
   have l8: ∀ (j' u:Nat) (m':ai.V),u+j'=4->m'.Et=(u:Int)->m'.i17=(t:Int)->m'.aM=F->m'.od=R->m'.QH=add ((R).getD t 0) (F.getD t 0)->m'.kU.toList=outL F (R) (4*t+u)++List.replicate (4*j+j') 0->ai.L8 (ai.L7 Q) Q m':=by
    intro j'
    induction j' with
    | zero=>
     intro u m' hu a1 a2 a3 a4 a5 a6;obtain rfl:u=4:=by omega
     refine ai.Ls _ ?_;unfold ai.B8;rw [a1,decide_eq_false (by omega),aa,a2,cK (by omega)]
     exact ih (t+1) _ (by omega) rfl a3 a4 (by dsimp only; rw [a6]; rfl)
    | succ j' DO=>
     intro u m' hu a1 a2 a3 a4 a5 a6;refine ai.Ls _ ?_;unfold ai.B8;rw [a1,a2,decide_eq_true (by omega),ak,fT (n:=8*(u:Int)) (by omega),fT (n:=4*(t:Int)) (by omega),fT (n:=4*(t:Int)+(u:Int)) (by omega),cK (by omega)];refine fV (by omega) (ixdv (n:=4*t+u) rfl (by omega) (by omega) ?_);refine DO (u+1) _ (by omega) rfl (by first | exact a2 | rfl) a3 a4 a5 ?_;dsimp only;rw [gj (i:=4*(t:Int)+(u:Int)) (l:=outL F (R) (4*t+u)) (y:=0) (r:=List.replicate (4*j+j') 0) (by rw [a6]; rfl) (by rw [rz]; omega)];congr 1;rw [show 4*t+(u+1)=(4*t+u)+1 by omega,<- uv];congr 1;have e1:(4*t+u) / 4=t:=by omega
     have e2:(4*t+u) % 4=u:=by omega
     rw [e1,e2,a5]
     rw [show min (Int.toNat (8*(u:Int))) (IntKind.bits .u32)=8*u by
      rw [show (8*(u:Int)).toNat=8*u by omega]; exact Nat.min_eq_left (show _<=32 by omega)]
     rw [fd _ (xq _ _).1]
   refine ai.Lt ?_;unfold ai.B7;rw [e1,e2,e3,decide_eq_true (by omega),ak];refine ixd rfl (by rw [hRl]; omega) (ixd rfl (by omega) ?_);exact l8 4 0 _ (by omega) rfl (by first | exact e1 | rfl) (by first | exact e2 | rfl) (by first | exact e3 | rfl) rfl (by dsimp only; rw [e4,show 4*(j+1)=4*j+4 by omega]; rfl)
 have l3: ∀ (j r:Nat) (m:ai.V),r+j=10->m.eo=(r:Int)->m.aM=F->m.od=rndS F r->ai.L3 Q m:=by
  intro j
  induction j with
  | zero=>
   intro r m hr e1 e2 e3;obtain rfl:r=10:=by omega
   refine ai.gH ?_;unfold ai.B3;rw [e1,decide_eq_false (by omega),aa]
   exact l7 16 0 _ (by omega) rfl e2 (e3.trans hR.symm) (by dsimp only; exact Vector.toList_replicate ..)
  | succ j ih=>
   intro r m hr e1 e2 e3
   have l4: ∀ (j' t:Nat) (m':ai.V),t+j'=8->m'.eo=(r:Int)->m'.aM=F->m'.uh=plN.map plI->m'.DN=8->m'.z8=(t:Int)->m'.od=(plN.take t).foldl qAt (rndS F r)->ai.L4 (ai.L3 Q) Q m':=by
    intro j'
    induction j' with
    | zero=>
     intro t m' ht a1 a2 a3 a4 a5 a6;obtain rfl:t=8:=by omega
     refine ai.ju _ ?_;unfold ai.B4;rw [a5,a4,decide_eq_false (by omega),aa,a1,cK (by omega)]
     exact ih (r+1) _ (by omega) rfl a2 (by dsimp only; rw [a6]; exact (MQ _).symm)
    | succ j' DO=>
     intro t m' ht a1 a2 a3 a4 a5 a6;have htl:t<plN.length:=by show t<8; omega
     obtain ⟨p,hp⟩: ∃ p,p=plN[t]:=⟨_,rfl⟩
     obtain ⟨h1,h2,h3,h4⟩:=Rj p (by rw [hp]; exact List.getElem_mem htl)
     obtain ⟨w,hw⟩: ∃ w,w=(plN.take t).foldl qAt (rndS F r):=⟨_,rfl⟩
     have hwl:w.length=16:=by
      rw [hw]
      have: ∀ (ps:List (Nat × Nat × Nat × Nat)) (w:List Int),(ps.foldl qAt w).length=w.length:=by
       intro ps
       induction ps with
       | nil=>intro w; rfl
       | cons p ps ih=>intro w; rw [List.foldl_cons,ih,vD]
      rw [this,Rk]
     have hnext:(plN.take (t+1)).foldl qAt (rndS F r)=qAt w p:=by rw [dg htl,List.foldl_append,<- hw,<- hp]; rfl
     obtain ⟨a,b,c',d⟩:=p;dsimp only at h1 h2 h3 h4
     have DM: ∀ m2:ai.V,m2.eo=(r:Int)->m2.aM=F->m2.uh=plN.map plI->m2.DN=8->m2.z8=(t:Int)->m2.od=w->m2.Io=plI (a,b,c',d)->m2.VN=qS (w.getD a 0) (w.getD b 0) (w.getD c' 0) (w.getD d 0)-> ∀ bb,ai.VO (ai.L3 Q) (ai.L4 (ai.L3 Q) Q) Q bb m2:=by intro m2 b1 b2 b3 b4 b5 b6 b7 b8 bb;unfold ai.VO ai.K6;refine ai.xg _ _ ?_;unfold ai.B5; dsimp only;rw [show decide ((0:Int)<4)=true from rfl,ak,b7,b8,b6];refine ixr (by decide) rfl (ixdv (n:=0) rfl rfl (by decide) (ixs (n:=a) rfl (by omega) fun _=> ?_));refine ai.xg _ _ ?_;unfold ai.B5; dsimp only;rw [show decide (IntKind.wrap .i64 ((0:Int)+1)<4)=true from rfl,ak];refine ixr (by decide) rfl (ixdv (n:=1) rfl rfl (by decide) (ixs (n:=b) rfl (by rw [List.length_set]; omega) fun _=> ?_));refine ai.xg _ _ ?_;unfold ai.B5; dsimp only;rw [show decide (IntKind.wrap .i64 (IntKind.wrap .i64 ((0:Int)+1)+1)<4)=true from rfl,ak];refine ixr (by decide) rfl (ixdv (n:=2) rfl rfl (by decide) (ixs (n:=c') rfl (by rw [List.length_set,List.length_set]; omega) fun _=> ?_));refine ai.xg _ _ ?_;unfold ai.B5; dsimp only;rw [show decide (IntKind.wrap .i64 (IntKind.wrap .i64 (IntKind.wrap .i64 ((0:Int)+1)+1)+1)<4)=true from rfl,ak];refine ixr (by decide) rfl (ixdv (n:=3) rfl rfl (by decide) (ixs (n:=d) rfl (by rw [List.length_set,List.length_set,List.length_set]; omega) fun _=> ?_));refine ai.xg _ _ ?_;unfold ai.B5; dsimp only;rw [show decide (IntKind.wrap .i64 (IntKind.wrap .i64 (IntKind.wrap .i64 (IntKind.wrap .i64 ((0:Int)+1)+1)+1)+1)<4)=false from rfl,aa,b5,cK (by omega)];refine DO (t+1) _ (by omega) b1 b2 b3 b4 rfl ?_;dsimp only;rw [hnext];unfold qAt; dsimp only;simp only [Int.toNat_natCast]
     refine ai.ju _ ?_;unfold ai.B4;rw [a5,a4,decide_eq_true (by omega),ak,a3,a6,<- hw];refine fC t rfl (by rw [List.length_map]; exact htl) ?_;rw [List.getElem_map,<- hp];refine ixr (by decide) rfl (ixd (n:=a) rfl (by omega) (ixr (by decide) rfl (ixd (n:=b) rfl (by omega) (ixr (by decide) rfl (ixd (n:=c') rfl (by omega) (ixr (by decide) rfl (ixd (n:=d) rfl (by omega) ⟨?_, ?_⟩)))))))
     ·refine mj ?_
      refine DM _ ?_ ?_ ?_ ?_ ?_ ?_ ?_ ?_ _ <;> first | rfl | exact a1 | exact a2 | exact a3 | exact a4 | exact a5
     ·refine mj ?_
      refine DM _ ?_ ?_ ?_ ?_ ?_ ?_ ?_ ?_ _ <;> first | rfl | exact a1 | exact a2 | exact a3 | exact a4 | exact a5
   refine ai.gH ?_;unfold ai.B3;rw [e1,decide_eq_true (by omega),ak];show ai.L4 _ Q _;exact l4 8 0 _ (by omega) (by first | exact e1 | rfl) e2 rfl rfl rfl e3
 have l2: ∀ (j t:Nat) (m:ai.V),t+j=3->m.eO=n->m.i9=(t:Int)->m.aM=sigL++(wds k.toList 8++(c::wds n.toList t))->ai.L2 Q m:=by
  intro j
  induction j with
  | zero=>
   intro t m ht e1 e2 e3;obtain rfl:t=3:=by omega
   refine ai.cw ?_;unfold ai.B2;have e4:m.aM=F:=by rw [e3,hF]; rfl
   rw [e2,decide_eq_false (by omega),aa];refine ⟨cn (by rw [e4]; simp only [List.length_nil]; omega), ?_⟩
   exact l3 10 0 _ (by omega) rfl e4 (by dsimp only; rw [e4]; rfl)
  | succ j ih=>
   intro t m ht e1 e2 e3
   have hlen:(sigL++(wds k.toList 8++(c::wds n.toList t))).length=13+t:=by simp only [List.length_append,List.length_cons,j9]; show 4+_=_; omega
   refine ai.cw ?_;unfold ai.B2;rw [e2,decide_eq_true (by omega),ak,e1,iS,fT (n:=4*(t:Int)) (by omega),fT (n:=4*(t:Int)+4) (by omega),cK (by omega)];refine ⟨⟨by omega,by omega,by rw [hnl]; omega⟩, ?_⟩;rw [MN (n:=4*t) (by omega) (by omega) (by rw [hnl]; omega)];refine rC (bX hn _) (bX hn _) (bX hn _) (bX hn _) ⟨cn (by rw [e3,hlen]; simp only [List.length_cons,List.length_nil]; omega), ?_⟩;refine ih (t+1) _ (by omega) (by first | exact e1 | rfl) rfl ?_;dsimp only;rw [e3,List.append_assoc,List.append_assoc,List.cons_append,<- nH n.toList t];rfl
 have l1: ∀ (j t:Nat) (m:ai.V),t+j=8->m.ow=k->m.eO=n->m.bg=c->m.i8=(t:Int)->m.aM=sigL++wds k.toList t->ai.L1 Q m:=by
  intro j
  induction j with
  | zero=>
   intro t m ht e1 e4 e5 e2 e3;obtain rfl:t=8:=by omega
   have hlen:(sigL++wds k.toList 8).length=12:=by simp only [List.length_append,j9]; rfl
   refine ai.bG ?_;unfold ai.B1;rw [e2,decide_eq_false (by omega),aa,e3,e5];refine ⟨cn (by rw [hlen]; simp only [List.length_cons,List.length_nil]; omega), ?_⟩;refine l2 3 0 _ (by omega) e4 rfl ?_;dsimp only
   rw [List.append_assoc]; rfl
  | succ j ih=>
   intro t m ht e1 e4 e5 e2 e3;have hlen:(sigL++wds k.toList t).length=4+t:=by simp only [List.length_append,j9]; rfl
   refine ai.bG ?_;unfold ai.B1;rw [e2,decide_eq_true (by omega),ak,e1,iS,fT (n:=4*(t:Int)) (by omega),fT (n:=4*(t:Int)+4) (by omega),cK (by omega)];refine ⟨⟨by omega,by omega,by rw [hkl]; omega⟩, ?_⟩;rw [MN (n:=4*t) (by omega) (by omega) (by rw [hkl]; omega)];refine rC (bX hk _) (bX hk _) (bX hk _) (bX hk _) ⟨cn (by rw [e3,hlen]; simp only [List.length_cons,List.length_nil]; omega), ?_⟩;refine ih (t+1) _ (by omega) (by first | exact e1 | rfl) e4 e5 rfl ?_;dsimp only;rw [e3,List.append_assoc,<- nH k.toList t];rfl
 unfold ai;exact l1 8 0 _ (by omega) rfl rfl rfl rfl rfl
def X8 (a b:Int):Int:=IntKind.wrap .u8 (((BitVec.ofInt (IntKind.bits .u8) a ^^^ (BitVec.ofInt (IntKind.bits .u8) b)).toNat:Int))
def ctr (c:Int) (q:Nat):Int:=IntKind.wrap .u32 (c+(q:Int))
theorem Lz {c:Int} (h:gE c):ctr c 0=c:=by unfold ctr; rw [show c+((0:Nat):Int)=c by omega]; exact bS h
theorem LA (c:Int) (q:Nat):IntKind.wrap .u32 (ctr c q+1)=ctr c (q+1):=by unfold ctr; simp only [wrap_u32]; omega
def strS (k n:List Int) (c:Int) (i:Nat):Int:=(blkS k n (ctr c (i / 64))).getD (i % 64) 0
def turnL (k n:List Int) (c:Int) (b:List Int) (t:Nat):List Int:=(List.range t).map fun i=>X8 (b.getD i 0) (strS k n c i)
theorem gA (k n:List Int) (c:Int) (b:List Int) (t:Nat):(turnL k n c b t).length=t:=by unfold turnL; simp
theorem Ak (k n:List Int) (c:Int) (b:List Int) (t:Nat):turnL k n c b t++[X8 (b.getD t 0) (strS k n c t)]=turnL k n c b (t+1):=by unfold turnL; rw [List.range_succ,List.map_append]; rfl
theorem Jn (a b:Int):0<=X8 a b/\X8 a b<256:=qj _
theorem xG (k n:List Int) (c:Int) (b:List Int) (t:Nat):bytesL (turnL k n c b t):=by intro x hx;obtain ⟨i,_,rfl⟩:=List.mem_map.1 hx;exact Jn _ _
def cipS (k n:List Int) (c:Int) (b:List Int):List Int:=turnL k n c b b.length
theorem xH (k n:List Int) (c:Int):(blkS k n c).length=64:=rz _ _ _
theorem rD {l r:List Int} {i:Nat} (h:l.length<=i):(l++r).getD i 0=r.getD (i - l.length) 0:=by rw [List.getD_eq_getElem?_getD,List.getD_eq_getElem?_getD,List.getElem?_append_right h]
theorem CY {l:List Int} {t i:Nat}:(l.drop t).getD i 0=l.getD (t+i) 0:=by rw [List.getD_eq_getElem?_getD,List.getD_eq_getElem?_getD,List.getElem?_drop]
theorem CZ {l:List Int} {t:Nat} (h:t<l.length):l.drop t=l.getD t 0::l.drop (t+1):=by rw [List.drop_eq_getElem_cons h,List.getD_eq_getElem?_getD,List.getElem?_eq_getElem h]; rfl
theorem EH {k n:List Int} {c:Int} {b:List Int} {t:Nat}:(turnL k n c b t++b.drop t).getD t 0=b.getD t 0:=by rw [rD (by rw [gA]; omega),gA,Nat.sub_self,CY]; rfl
theorem xI {k n:List Int} {c:Int} {b:List Int} {t:Nat} (h:t<b.length):(turnL k n c b t++b.drop t).set t (X8 (b.getD t 0) (strS k n c t))=turnL k n c b (t+1)++b.drop (t+1):=by rw [List.set_append_right _ _ (by rw [gA]; omega),gA,Nat.sub_self,CZ h,List.set_cons_zero,<- Ak,List.append_assoc]; rfl
theorem nI {k n:List Int} {c:Int} {b:List Int} {t:Nat} (h:t<=b.length):(turnL k n c b t++b.drop t).length=b.length:=by rw [List.length_append,gA,List.length_drop]; omega
theorem Al {k:Vector Int 32} {n:Vector Int 12} {c:Int} {b:List Int} {Q:bK.QT} (hk:bytesL k.toList) (hn:bytesL n.toList) (hc:gE c) (hb:b.length<=1000000) (H:Q (cipS k.toList n.toList c b)):bK k n c b Q:=by
 obtain ⟨kl,hkl⟩: ∃ l,l=k.toList:=⟨_,rfl⟩
 obtain ⟨nl,hnl⟩: ∃ l,l=n.toList:=⟨_,rfl⟩
 rw [<- hkl,<- hnl] at H
 have l1: ∀ (f q:Nat) (m:bK.V),(b.length+63) / 64<=q+f->q<=(b.length+63) / 64->m.gI=k->m.fJ=n->m.bg=ctr c q->m.j4=((64*q:Nat):Int)->m.eW=turnL kl nl c b (min (64*q) b.length)++b.drop (min (64*q) b.length)->bK.L1 Q m:=by
  intro f
  induction f with
  | zero=>
   intro q m h1 h2 e1 e2 e3 e4 e5;refine bK.bG ?_;unfold bK.B1;have hlen:m.eW.length=b.length:=by rw [e5,nI (by omega)]
   rw [hlen,if_neg (by omega),e4,decide_eq_false (by omega),aa,e5,Nat.min_eq_right (by omega),List.drop_of_length_le (Nat.le_refl _),List.append_nil]
   exact H
  | succ f ih=>
   intro q m h1 h2 e1 e2 e3 e4 e5;refine bK.bG ?_;unfold bK.B1;have hlen:m.eW.length=b.length:=by rw [e5,nI (by omega)]
   rw [hlen,if_neg (by omega),e4]
   by_cases hlt:64*q<b.length
   ·rw [decide_eq_true (by omega),ak,e1,e2]
    refine pN hk hn fun s hs=> ?_;rw [<- hkl,<- hnl,e3] at hs;rw [fT (n:=((64*q:Nat):Int)+64) (by omega)]
    obtain ⟨hi,ehi,hh⟩: ∃ hi:Nat,(if (b.length:Int)<((64*q:Nat):Int)+64 then (b.length:Int) else ((64*q:Nat):Int)+64)=(hi:Int)/\hi=min (64*(q+1)) b.length:=by
     by_cases VI:(b.length:Int)<((64*q:Nat):Int)+64
     ·exact ⟨b.length,by rw [if_pos VI],by omega⟩
     ·exact ⟨64*(q+1),by rw [if_neg VI]; omega,by omega⟩
    rw [ehi];refine ⟨⟨by omega,by omega,by omega⟩, ?_⟩;have hsl:=qi (l:=m.eW) (i:=((64*q:Nat):Int)) (j:=(hi:Int)) (by omega)
    have l2: ∀ (j t:Nat) (m':bK.V),t+j=hi - 64*q->m'.gI=k->m'.fJ=n->m'.bg=ctr c q->m'.j4=((64*q:Nat):Int)->m'.qg=s->m'.Qc=((hi - 64*q:Nat):Int)->m'.fM=(t:Int)->m'.eW=turnL kl nl c b (64*q+t)++b.drop (64*q+t)->bK.L2 (bK.L1 Q) Q m':=by
     intro j
     induction j with
     | zero=>
      intro t m' ht a1 a2 a3 a4 a5 a6 a7 a8;refine bK.cw _ ?_;unfold bK.B2;rw [a6,a7,dge (by omega),aa,a3,LA,a4,fT (n:=((64*q:Nat):Int)+64) (by omega)]
      exact ih (q+1) _ (by omega) (by omega) a1 a2 rfl (by dsimp only; omega) (by dsimp only; rw [a8,show 64*q+t=min (64*(q+1)) b.length by omega])
     | succ j DO=>
      intro t m' ht a1 a2 a3 a4 a5 a6 a7 a8;have ux:m'.eW.length=b.length:=by rw [a8,nI (by omega)]
      refine bK.cw _ ?_;unfold bK.B2;rw [a6,a7,a4,dlt (by omega),ak,fT (n:=((64*q:Nat):Int)+(t:Int)) (by omega),cK (by omega)];refine ixd (n:=64*q+t) (by omega) (by omega) ?_;refine ixdv (n:=t) (l:=blkS kl nl (ctr c q)) (by rw [a5]; exact hs) rfl (by omega) ?_;refine ixs (n:=64*q+t) (by omega) (by omega) fun _=> ?_;refine DO (t+1) _ (by omega) a1 a2 a3 (by first | exact a4 | rfl) a5 (by first | exact a6 | rfl) rfl ?_;dsimp only;rw [a8,EH];rw [show (((64*q:Nat):Int)+(t:Int)).toNat=64*q+t by omega]
      have hst:(blkS kl nl (ctr c q)).getD t 0=strS kl nl c (64*q+t):=by unfold strS;rw [show (64*q+t) / 64=q by omega,show (64*q+t) % 64=t by omega]
      rw [hst];exact xI (by omega)
    refine l2 (hi - 64*q) 0 _ (by omega) (by first | exact e1 | rfl) (by first | exact e2 | rfl) e3 (by first | exact e4 | rfl) rfl (by dsimp only; omega) rfl ?_;dsimp only;rw [e5,Nat.min_eq_left (by omega)]; rfl
   ·rw [decide_eq_false (by omega),aa,e5,Nat.min_eq_right (by omega),List.drop_of_length_le (Nat.le_refl _),List.append_nil]
    exact H
 unfold bK;refine ⟨cn (by simp only [List.length_nil]; omega), ?_⟩;exact l1 ((b.length+63) / 64) 0 _ (by omega) (Nat.zero_le _) rfl rfl (Lz hc).symm rfl (by dsimp only; rw [Nat.mul_zero,Nat.zero_min]; rfl)
def strm (k n:List Int) (c:Int):Nat->List Int
 | 0=>[]
 | q+1=>strm k n c q++blkS k n (ctr c q)
theorem kZ (k n:List Int) (c:Int): ∀ q,(strm k n c q).length=64*q
 | 0=>rfl
 | q+1=>by show (strm k n c q++blkS k n (ctr c q)).length=_; rw [List.length_append,kZ k n c q,xH]; omega
theorem xJ (k n:List Int) (c:Int): ∀ q i,i<64*q->(strm k n c q).getD i 0=strS k n c i
 | 0,i,h=>by omega
 | q+1,i,h=>by
  show (strm k n c q++blkS k n (ctr c q)).getD i 0=_;have hl:=kZ k n c q
  by_cases h1:i<64*q
  ·rw [kY (by omega),xJ k n c q i h1]
  ·rw [rD (by omega),hl]
   unfold strS;rw [show i / 64=q by omega,show i % 64=i - 64*q by omega]
theorem vE {k:Vector Int 32} {n:Vector Int 12} {c:Int} {sz:Nat} {Q:aJ.QT} (hk:bytesL k.toList) (hn:bytesL n.toList) (hc:gE c) (hb:sz<=1000000)
  (H: ∀ l:List Int,l.length=sz->(∀ i,i<sz->l.getD i 0=strS k.toList n.toList c i)->Q l):aJ k n c (sz:Int) Q:=by
 have l2: ∀ (f q:Nat) (m:aJ.V),(sz+63) / 64<=q+f->q<=(sz+63) / 64->m.gI=k->m.fJ=n->m.bg=ctr c q->m.gY=(sz:Int)->m.eW=strm k.toList n.toList c q->aJ.L2 Q m:=by
  have fin: ∀ (q:Nat) (m:aJ.V),sz<=64*q->m.gY=(sz:Int)->m.eW=strm k.toList n.toList c q->(SlOk m.eW (0:Int) m.gY)/\Q (sub m.eW (0:Int) m.gY):=by
   intro q m hq e4 e5;have hl:=kZ k.toList n.toList c q;rw [e4,e5];refine ⟨⟨by omega,by omega,by omega⟩, ?_⟩;refine H _ ?_ ?_
   ·have:=qi (l:=strm k.toList n.toList c q) (i:=0) (j:=(sz:Int)) (by omega); omega
   ·intro i hi
    have WN:=gN (l:=strm k.toList n.toList c q) (n:=0) (m:=sz) (k:=i) (i:=(0:Int)) (j:=(sz:Int)) rfl rfl (by omega);rw [WN,Nat.zero_add];exact xJ _ _ _ _ _ (by omega)
  intro f
  induction f with
  | zero=>
   intro q m h1 h2 e1 e2 e3 e4 e5;have hl:=kZ k.toList n.toList c q;refine aJ.cw ?_;unfold aJ.B2;rw [decide_eq_false (by rw [e4,e5]; omega),aa]
   exact fin q m (by omega) e4 e5
  | succ f ih=>
   intro q m h1 h2 e1 e2 e3 e4 e5;have hl:=kZ k.toList n.toList c q;refine aJ.cw ?_;unfold aJ.B2
   by_cases hlt:64*q<sz
   ·rw [decide_eq_true (by rw [e4,e5]; omega),ak,e1,e2]
    refine xF hk hn fun r hr=> ?_;rw [e3] at hr;refine ⟨cn (by rw [e5,hr,hl,xH]; omega), ?_⟩;rw [e3,LA];exact ih (q+1) _ (by omega) (by omega) (by first | exact e1 | rfl) (by first | exact e2 | rfl) rfl e4 (by dsimp only; rw [e5,hr]; rfl)
   ·rw [decide_eq_false (by rw [e4,e5]; omega),aa]
    exact fin q m (by omega) e4 e5
 unfold aJ;rw [decide_eq_false (by omega),aa,decide_eq_false (by omega)];unfold aJ.K1; dsimp only;rw [aa];exact l2 ((sz+63) / 64) 0 _ (by omega) (Nat.zero_le _) rfl rfl (Lz hc).symm rfl rfl
theorem xK {k:Vector Int 32} {n:Vector Int 12} {c:Int} {b:List Int} {Q:bw.QT} (hk:bytesL k.toList) (hn:bytesL n.toList) (hc:gE c) (hb:b.length<=1000000) (H:Q (cipS k.toList n.toList c b)):bw k n c b Q:=by
 unfold bw;rw [if_neg (by omega)]
 refine vE hk hn hc hb fun s hs hg=>⟨cn (by simp only [List.length_nil]; omega), ?_⟩
 have l1: ∀ (j t:Nat) (m:bw.V),t+j=b.length->m.b3=b->m.s9=s->m.i11=(t:Int)->m.nB=turnL k.toList n.toList c b t++b.drop t->bw.L1 Q m:=by
  intro j
  induction j with
  | zero=>
   intro t m ht e1 e2 e3 e4;obtain rfl:t=b.length:=by omega
   refine bw.bG ?_;unfold bw.B1;rw [e3,e2,dge (by omega),aa,e4,List.drop_of_length_le (Nat.le_refl _),List.append_nil]
   exact H
  | succ j ih=>
   intro t m ht e1 e2 e3 e4;have hl:m.nB.length=b.length:=by rw [e4,nI (by omega)]
   refine bw.bG ?_;unfold bw.B1;rw [e3,e2,e1,dlt (by omega),ak,cK (by omega)];refine ixd (n:=t) rfl (by omega) (ixd (n:=t) rfl (by omega) (ixs (n:=t) rfl (by omega) fun _=> ?_));rw [hg t (by omega)];refine ih (t+1) _ (by omega) (by first | exact e1 | rfl) (by first | exact e2 | rfl) rfl ?_;dsimp only;rw [e4,Int.toNat_natCast];exact xI (by omega)
 exact l1 b.length 0 _ (by omega) rfl rfl rfl rfl
def nonB (e b:Int) (i:Nat):Int:=if i<4 then IntKind.wrap .u8 (e / 2 ^ (8*i)) else IntKind.wrap .u8 (b / 2 ^ (8*(i - 4)))
def nonL (e b:Int) (k:Nat):List Int:=(List.range k).map (nonB e b)
theorem rE (e b:Int) (k:Nat):(nonL e b k).length=k:=by unfold nonL; simp
theorem oG (e b:Int) (k:Nat):nonL e b k++[nonB e b k]=nonL e b (k+1):=by unfold nonL; rw [List.range_succ,List.map_append]; rfl
theorem rF (e b:Int) (k:Nat):bytesL (nonL e b k):=by intro x hx;obtain ⟨i,_,rfl⟩:=List.mem_map.1 hx;unfold nonB;split <;> exact qj _
theorem MR {x:Int} (hx:0<=x) {i:Nat} (hi:i<4):IntKind.wrap .u8 (Int.fdiv x (2 ^ (min (Int.toNat (8*(i:Int))) (IntKind.bits .u32))))=IntKind.wrap .u8 (x / 2 ^ (8*i)):=by
 rw [show min (Int.toNat (8*(i:Int))) (IntKind.bits .u32)=8*i by
  rw [show (8*(i:Int)).toNat=8*i by omega]; exact Nat.min_eq_left (show _<=32 by omega),fd _ hx]
theorem Rl {x:Int} (hx:0<=x) {i:Nat} (hi:i<8):IntKind.wrap .u8 (Int.fdiv x (2 ^ (min (Int.toNat (8*(i:Int))) (IntKind.bits .u64))))=IntKind.wrap .u8 (x / 2 ^ (8*i)):=by
 rw [show min (Int.toNat (8*(i:Int))) (IntKind.bits .u64)=8*i by
  rw [show (8*(i:Int)).toNat=8*i by omega]; exact Nat.min_eq_left (show _<=64 by omega),fd _ hx]
theorem Am {e b:Int} {Q:bL.QT} (he:0<=e) (hb:0<=b) (H: ∀ r:Vector Int 12,r.toList=nonL e b 12->Q r):bL e b Q:=by
 have l1: ∀ (j t:Nat) (m:bL.V),t+j=12->m.fD=e->m.eB=b->m.v7=(t:Int)->m.n5.toList=nonL e b t++List.replicate j 0->bL.L1 Q m:=by
  intro j
  induction j with
  | zero=>
   intro t m ht e1 e2 e3 e4;obtain rfl:t=12:=by omega
   refine bL.bG ?_;unfold bL.B1;rw [e3,decide_eq_false (by omega),aa];refine H _ ?_
   rw [e4,List.replicate_zero,List.append_nil]
  | succ j ih=>
   intro t m ht e1 e2 e3 e4
   have fin: ∀ (x:Int) (m':bL.V),x=nonB e b t->m'.fD=e->m'.eB=b->m'.v7=(t:Int)->m'.n5=m.n5.setIfInBounds (Int.toNat (t:Int)) x->bL.K2 (bL.L1 Q) Q m':=by intro x m' hx a1 a2 a3 a4;unfold bL.K2;refine ih (t+1) _ (by omega) a1 a2 (by dsimp only; rw [a3,cK (by omega)]) ?_;dsimp only;rw [a4,gj (i:=(t:Int)) (l:=nonL e b t) (y:=0) (r:=List.replicate j 0) (by rw [e4]; rfl) (by rw [rE]),hx,oG]
   refine bL.bG ?_;unfold bL.B1;rw [e3,decide_eq_true (by omega),ak]
   by_cases h:t<4
   ·rw [decide_eq_true (show (t:Int)<4 by omega),ak,fT (n:=8*(t:Int)) (by omega),e1,MR he h]
    refine fV (by omega) (ixdv (n:=t) rfl rfl (by omega) ?_);exact fin _ _ (by unfold nonB; rw [if_pos h]) (by first | exact e1 | rfl) e2 (by first | exact e3 | rfl) rfl
   ·rw [decide_eq_false (show ¬ (t:Int)<4 by omega),aa,fT (n:=(t:Int) - 4) (by omega),show (t:Int) - 4=((t - 4:Nat):Int) by omega,fT (n:=8*((t - 4:Nat):Int)) (by omega),e2,Rl hb (by omega)]
    refine fV (by omega) (ixdv (n:=t) rfl rfl (by omega) ?_);exact fin _ _ (by unfold nonB; rw [if_neg h]) e1 (by first | exact e2 | rfl) (by first | exact e3 | rfl) rfl
 exact l1 12 0 _ (by omega) rfl rfl rfl (by dsimp only; exact Vector.toList_replicate ..)
theorem xL {e b:Int} {Q:aN.QT} (he:0<=e) (hb:0<=b) (H: ∀ r:Vector Int 12,r.toList=nonL e b 12->Q r):aN e b Q:=by
 have l2: ∀ (j t:Nat) (m:aN.V),t+j=8->m.eB=b->m.i7=(t:Int)->m.ga.toList=nonL e b (4+t)++List.replicate j 0->aN.L2 Q m:=by
  intro j
  induction j with
  | zero=>
   intro t m ht e2 e3 e4;obtain rfl:t=8:=by omega
   refine aN.cw ?_;unfold aN.B2;rw [e3,decide_eq_false (by omega),aa];refine H _ ?_
   rw [e4,List.replicate_zero,List.append_nil]
  | succ j ih=> intro t m ht e2 e3 e4;refine aN.cw ?_;unfold aN.B2;rw [e3,decide_eq_true (by omega),ak,fT (n:=8*(t:Int)) (by omega),fT (n:=4+(t:Int)) (by omega),cK (by omega),e2,Rl hb (by omega)];refine fV (by omega) (ixdv (n:=4+t) rfl (by omega) (by omega) ?_);refine ih (t+1) _ (by omega) (by first | exact e2 | rfl) rfl ?_;dsimp only;rw [gj (i:=4+(t:Int)) (l:=nonL e b (4+t)) (y:=0) (r:=List.replicate j 0) (by rw [e4]; rfl) (by rw [rE]; omega)];rw [show 4+(t+1)=(4+t)+1 by omega,<- oG];congr 2;unfold nonB;rw [if_neg (by omega),Nat.add_sub_cancel_left]
 have l1: ∀ (j t:Nat) (m:aN.V),t+j=4->m.fD=e->m.eB=b->m.i6=(t:Int)->m.ga.toList=nonL e b t++List.replicate (j+8) 0->aN.L1 Q m:=by
  intro j
  induction j with
  | zero=>
   intro t m ht e1 e2 e3 e4;obtain rfl:t=4:=by omega
   refine aN.bG ?_;unfold aN.B1;rw [e3,decide_eq_false (by omega),aa]
   exact l2 8 0 _ (by omega) e2 rfl e4
  | succ j ih=> intro t m ht e1 e2 e3 e4;refine aN.bG ?_;unfold aN.B1;rw [e3,decide_eq_true (by omega),ak,fT (n:=8*(t:Int)) (by omega),cK (by omega),e1,MR he (by omega)];refine fV (by omega) (ixdv (n:=t) rfl rfl (by omega) ?_);refine ih (t+1) _ (by omega) (by first | exact e1 | rfl) e2 rfl ?_;dsimp only;rw [gj (i:=(t:Int)) (l:=nonL e b t) (y:=0) (r:=List.replicate (j+8) 0) (by rw [e4,show j+1+8=(j+8)+1 by omega]; rfl) (by rw [rE]),<- oG];congr 2;unfold nonB;rw [if_pos (by omega)]
 exact l1 4 0 _ (by omega) rfl rfl rfl (by dsimp only; exact Vector.toList_replicate ..)
theorem MS {b:List Int} (hb:WfB b) {item place v:Int} {Q:bn.QT} (h:blockS b item place=v) (H:Q v):bn ⟨b⟩ item place Q:=ru hb (h ▸ H)
def digV (b:List Int):Vector Int 32:=Vector.ofFn fun i:Fin 32=>(sumL b).getD i.val 0
theorem xM (b:List Int):(sumL b).length=32:=vC _ _
theorem An (b:List Int):bytesL (sumL b):=by intro x hx;unfold sumL digL at hx;obtain ⟨i,_,rfl⟩:=List.mem_map.1 hx;exact qj _
theorem Jo {b:List Int} {r:Vector Int 32} (h:r.toList=sumL b):r=digV b:=by apply Vector.ext;intro i hi;unfold digV;rw [Vector.getElem_ofFn];have h1:r[i]=r.toList[i]'(by rw [Vector.length_toList]; exact hi):=(Vector.getElem_toList ..).symm;rw [h1,List.getD_eq_getElem?_getD,List.getElem?_eq_getElem (by rw [xM]; exact hi)];simp only [h]; rfl
theorem uy (b:List Int):(digV b).toList=sumL b:=by
 apply List.ext_getElem
 ·rw [Vector.length_toList,xM]
 ·intro i h1 h2
  rw [Vector.getElem_toList];unfold digV;rw [Vector.getElem_ofFn,List.getD_eq_getElem?_getD,List.getElem?_eq_getElem h2]; rfl
def hidB (key:Vector Int 32) (e n:Int) (p:List Int):List Int:=cipS key.toList (nonL e n 12) 0 p
theorem rG (key:Vector Int 32) (e n:Int) (p:List Int):(hidB key e n p).length=p.length:=gA _ _ _ _ _
theorem mO (key:Vector Int 32) (e n:Int) (p:List Int):bytesL (hidB key e n p):=xG _ _ _ _ _
theorem uz {key:Vector Int 32} {e n:Int} {p:List Int} {Q:cE.QT} (hk:bytesL key.toList) (hp:p.length=256) (he:0<=e) (hn:0<=n/\n<1000000) (H:Q (hidB key e n p) 0):cE key e n p Q:=by unfold cE cE.K1;rw [hp,show (((256:Nat):Int) !=256)=false by decide,aa,decide_eq_false (by omega)];dsimp only;rw [aa,wrap_u64 (n:=n) (by omega) (by omega)];refine Am he hn.1 fun r hr=> ?_;refine Al hk (by rw [hr]; exact rF _ _ _) ⟨by decide,by decide⟩ (by omega) ?_;rw [hr]; exact H
theorem C0 {k:Vector Int 32} {e pl n:Int} {p:List Int} {σ:St Obj} {Q:cB.QT} (hk:bytesL k.toList) (he:0<=e) (hp:p.length=256) (hn:0<=n/\n<1000000) (hpl:pl=0\/pl=1)
  (H:Q (hidB k e n p) ⟨pl,e,digV (hidB k e n p)⟩ 0 σ):cB none k e pl n p σ Q:=by
 unfold cB;refine uz hk hp he hn ?_;rw [show ((0:Int) !=0)=false from rfl,aa];unfold j5
 have fin: ∀ m:cB.V,m.b0=none->m.fW=e->m.jd=pl->m.Mz=false->m.KZ=hidB k e n p->cB.K1 Q m σ:=by rintro ⟨b0,fW,jd,iP,KZ,Mz⟩ e1 e2 e3 e4 e5;dsimp only at e1 e2 e3 e4 e5;subst e1 e2 e3 e4 e5;unfold cB.K1; dsimp only;rw [aa];unfold aP;rw [show (!(Option.isNone (none:Option Addr)))=false from rfl,aa];unfold aP.K1; dsimp only;rw [aa];refine oF (by rw [rG]; omega) (mO _ _ _ _) fun r hr=> ?_;rw [Jo hr];exact H
 rcases hpl with rfl | rfl
 ·rw [show ((0:Int)==0)=true from rfl,ak]
  refine fin _ ?_ ?_ ?_ ?_ ?_ <;> rfl
 ·rw [show ((1:Int)==0)=false from rfl,aa]
  refine fin _ ?_ ?_ ?_ ?_ ?_ <;> rfl
def uA (e:Int) (k:Nat):List Int:=(List.range k).map fun i=>IntKind.wrap .u8 (e / 2 ^ (8*i))
def layR (r:af):List Int:=(IntKind.wrap .u8 r.Place::uA r.cu 4)++r.bY.toList
theorem k7 (r:af):(layR r).length=37:=by unfold layR uA; simp only [List.length_append,List.length_cons,List.length_map,List.length_range,Vector.length_toList]
def catR:List af->List Int
 | []=>[]
 | r::l=>layR r++catR l
theorem gO: ∀ l,(catR l).length=37*l.length
 | []=>rfl
 | r::l=>by show (layR r++catR l).length=_; rw [List.length_append,k7,gO l,List.length_cons]; omega
theorem lU: ∀ (l:List af) r,catR (l++[r])=catR l++layR r
 | [],r=>by show layR r++[]=_; rw [List.append_nil]; rfl
 | a::l,r=>by show layR a++catR (l++[r])=(layR a++catR l)++layR r; rw [lU l r,List.append_assoc]
def layS (l:List af):List Int:=(IntKind.wrap .u8 (l.length:Int)::catR l)++List.replicate (255 - 37*l.length) 0
theorem nJ {l:List af} (h:l.length<=6):(layS l).length=256:=by unfold layS; simp only [List.length_append,List.length_cons,List.length_replicate,gO]; omega
theorem uB {m:bJ.V} {Q:bJ.QT} (hb:m.dx.length<=1000) (H:Q (m.dx++[IntKind.wrap .u8 m.n1])):bJ.K7 Q m:=by unfold bJ.K7;exact ⟨cn (by simp only [List.length_cons,List.length_nil]; omega),H⟩
theorem C1 {b:List Int} {n:Int} {Q:bJ.QT} (hb:b.length<=900) (H:Q (b++[IntKind.wrap .u8 n])):bJ b n 1 Q:=by unfold bJ;refine ⟨cn (by omega), ?_⟩;unfold gu;exact uB (by dsimp only; omega) H
theorem C2 {b:List Int} {n:Int} {Q:bJ.QT} (hb:b.length<=900) (hn:0<=n) (H:Q (b++uA n 4)):bJ b n 4 Q:=by
 unfold bJ;refine ⟨cn (by omega), ?_⟩;unfold gu;show bJ.K4 Q _;unfold bJ.K4 bJ.K5 bJ.K6;have f1: ∀ x:Int,0<=x->Int.fdiv x (2 ^ (min (Int.toNat (8:Int)) (IntKind.bits .u64)))=x / 256:=fun x hx=>fd 8 hx;refine ⟨cn ?_,cn ?_,cn ?_,uB ?_ ?_⟩
 ·dsimp only; simp only [List.length_append,List.length_cons,List.length_nil]; omega
 ·dsimp only; simp only [List.length_append,List.length_cons,List.length_nil]; omega
 ·dsimp only; simp only [List.length_append,List.length_cons,List.length_nil]; omega
 ·dsimp only; simp only [List.length_append,List.length_cons,List.length_nil]; omega
 ·dsimp only
  rw [f1 _ hn,f1 _ (by omega),f1 _ (by omega)];simp only [List.append_assoc,List.cons_append,List.nil_append]
  have e:uA n 4=[IntKind.wrap .u8 n,IntKind.wrap .u8 (n / 256),IntKind.wrap .u8 (n / 256 / 256),IntKind.wrap .u8 (n / 256 / 256 / 256)]:=by
   show [_,_,_,_]=[_,_,_,_]
   have p0:n / 2 ^ (8*0)=n:=by simp
   have p1:n / 2 ^ (8*1)=n / 256:=rfl;have p2:n / 2 ^ (8*2)=n / 256 / 256:=by show n / 65536=_; omega
   have p3:n / 2 ^ (8*3)=n / 256 / 256 / 256:=by show n / 16777216=_; omega
   dsimp only;rw [p0,p1,p2,p3]
  rw [e] at H;exact H
theorem C3 {r:af} {Q:List Int->Prop} (hp:r.Place=0\/r.Place=1) (he:gE r.cu) (H:Q (layR r)):nw (sr r) Q:=by
 unfold nw;have hd:(sr r).bY.toList.length=32:=Vector.length_toList ..
 have e1:IntKind.wrap .u8 (IntKind.wrap .u64 (sr r).Place)=IntKind.wrap .u8 r.Place:=by show IntKind.wrap .u8 (IntKind.wrap .u64 r.Place)=_;rw [wrap_u64 (n:=r.Place) (by omega) (by omega)]
 have e2:IntKind.wrap .u64 (sr r).cu=r.cu:=wrap_u64 he.1 (by have:=he.2; show r.cu<_; omega);refine C1 (by decide) ?_;rw [e1,e2];refine C2 (by simp) he.1 ?_;refine ⟨cn (by rw [hd]; unfold uA; simp only [List.length_append,List.length_cons,List.length_map,List.length_range,List.length_nil]; decide), ?_⟩;exact H
theorem C5 {r:af} {Q:List Int->Prop} (he:gE r.cu) (H:Q (layR r)):bF r Q:=by
 have hd:r.bY.toList.length=32:=Vector.length_toList ..
 have l1: ∀ (j t:Nat) (m:bF.V),t+j=4->m.r1=r->m.i4=(t:Int)->m.cP=IntKind.wrap .u8 r.Place::uA r.cu t->bF.L1 Q m:=by
  intro j
  induction j with
  | zero=>
   intro t m ht e1 e2 e3;obtain rfl:t=4:=by omega
   refine bF.bG ?_;unfold bF.B1;rw [e2,decide_eq_false (by omega),aa,e1,e3]
   exact ⟨cn (by rw [hd]; unfold uA; simp only [List.length_cons,List.length_map,List.length_range]; omega),H⟩
  | succ j ih=> intro t m ht e1 e2 e3;refine bF.bG ?_;unfold bF.B1;rw [e2,decide_eq_true (by omega),ak,e1,fT (n:=8*(t:Int)) (by omega),cK (by omega),MR he.1 (by omega),e3];refine fV (by omega) ⟨cn (by unfold uA; simp only [List.length_cons,List.length_map,List.length_range,List.length_nil]; omega), ?_⟩;refine ih (t+1) _ (by omega) (by first | exact e1 | rfl) rfl ?_;dsimp only;unfold uA;rw [List.range_succ,List.map_append]; rfl
 exact l1 4 0 _ (by omega) rfl rfl rfl
def okR (l:List af):Prop:= ∀ r ∈ l,(r.Place=0\/r.Place=1)/\gE r.cu
theorem C7 {l:List af} {Q:cq.QT} (hl:1<=l.length/\l.length<=6) (hr:okR l) (H:Q (layS l) 0):cq (l.map sr) Q:=by
 unfold cq;rw [List.length_map,decide_eq_false (by omega),aa,decide_eq_false (by omega)];unfold cq.K1; dsimp only;rw [aa]
 have l2: ∀ (j t:Nat) (m:cq.V),t+j=l.length->m.pH=l.map sr->m.v20=(l.length:Int)->m.oc=(t:Int)->m.b4=IntKind.wrap .u8 (l.length:Int)::catR (l.take t)->cq.L2 Q m:=by
  intro j
  induction j with
  | zero=>
   intro t m ht e1 e2 e3 e4;obtain rfl:t=l.length:=by omega
   refine cq.cw ?_;unfold cq.B2;rw [e3,e2,dge (by omega),aa,e4,List.take_of_length_le (Nat.le_refl _)];unfold oB;have hb:(IntKind.wrap .u8 (l.length:Int)::catR l).length=1+37*l.length:=by rw [List.length_cons,gO]; omega
   rw [hb,decide_eq_false (by omega),aa];refine ⟨cn (by rw [hb]; omega), ?_⟩;dsimp only;rw [fT (n:=256 - ((1+37*l.length:Nat):Int)) (by omega)];refine ⟨by omega,cn (by rw [hb]; omega), ?_⟩;rw [show (256 - ((1+37*l.length:Nat):Int)).toNat=255 - 37*l.length by omega]
   exact H
  | succ j ih=>
   intro t m ht e1 e2 e3 e4;have hi:t<l.length:=by omega
   have hc:=gO (l.take t);rw [List.length_take] at hc;refine cq.cw ?_;unfold cq.B2;rw [e3,e2,e1,dlt hi,ak];refine dX (by rw [List.length_map]; exact hi) ?_;rw [List.getElem_map];obtain ⟨h1,h2⟩:=hr _ (List.getElem_mem hi)
   have k3: ∀ m':cq.V,m'.pH=l.map sr->m'.v20=(l.length:Int)->m'.oc=(t:Int)->m'.b4=IntKind.wrap .u8 (l.length:Int)::catR (l.take t)->m'.r6=sr l[t]->m'.DJ=false->cq.K3 (cq.L2 Q) Q m':=by intro m' a1 a2 a3 a4 a5 a6;unfold cq.K3;rw [a6,aa,a5];refine C3 h1 h2 ⟨cn (by rw [a4,k7,List.length_cons]; omega), ?_⟩;refine ih (t+1) _ (by omega) a1 a2 (by dsimp only; rw [a3,cK (by omega)]) ?_;dsimp only;rw [a4,dg hi,lU]; rfl
   rcases h1 with hh | hh
   ·rw [show ((sr l[t]).Place !=0)=false by show (l[t].Place !=0)=false; rw [hh]; rfl,aa]
    exact k3 _ (by first | exact e1 | rfl) (by first | exact e2 | rfl) (by first | exact e3 | rfl) e4 rfl rfl
   ·rw [show ((sr l[t]).Place !=0)=true by show (l[t].Place !=0)=true; rw [hh]; rfl,ak]
    exact k3 _ (by first | exact e1 | rfl) (by first | exact e2 | rfl) (by first | exact e3 | rfl) e4 rfl (by show (l[t].Place !=1)=false; rw [hh]; rfl)
 exact l2 l.length 0 _ (by omega) rfl (by dsimp only; rw [List.length_map]) rfl (by dsimp only; rw [List.length_map]; rfl)
theorem Ao {l:List af} {Q:aB.QT} (hl:1<=l.length/\l.length<=6) (hr:okR l) (H:Q (layS l) 0):aB l Q:=by
 unfold aB;rw [decide_eq_false (by omega),aa,decide_eq_false (by omega)];unfold aB.K1; dsimp only;rw [aa]
 have l4: ∀ (j i:Nat) (m:aB.V),i+j=255 - 37*l.length->m.fN=(IntKind.wrap .u8 (l.length:Int)::catR l)++List.replicate i 0->aB.L4 Q m:=by
  intro j
  induction j with
  | zero=>
   intro i m hi e;obtain rfl:i=255 - 37*l.length:=by omega
   refine aB.ju ?_;unfold aB.B4;have hb:m.fN.length=256:=by rw [e]; exact nJ hl.2
   rw [hb,show decide (((256:Nat):Int)<256)=false from rfl,aa,e]
   exact H
  | succ j ih=>
   intro i m hi e;refine aB.ju ?_;unfold aB.B4;have hb:m.fN.length=1+37*l.length+i:=by rw [e]; simp only [List.length_append,List.length_cons,List.length_replicate,gO]; omega
   rw [hb,decide_eq_true (by omega),ak];refine ⟨cn (by simp only [List.length_cons,List.length_nil]; omega),ih (i+1) _ (by omega) ?_⟩;dsimp only;rw [e,List.append_assoc,<- List.replicate_succ']
 have l2: ∀ (j t:Nat) (m:aB.V),t+j=l.length->m.l0=l->m.i5=(t:Int)->m.fN=IntKind.wrap .u8 (l.length:Int)::catR (l.take t)->aB.L2 Q m:=by
  intro j
  induction j with
  | zero=>
   intro t m ht e1 e3 e4;obtain rfl:t=l.length:=by omega
   refine aB.cw ?_;unfold aB.B2;rw [e3,e1,dge (by omega),aa]
   exact l4 (255 - 37*l.length) 0 _ (by omega) (by rw [e4,List.take_of_length_le (Nat.le_refl _),List.replicate_zero,List.append_nil])
  | succ j ih=>
   intro t m ht e1 e3 e4;have hi:t<l.length:=by omega
   have hc:=gO (l.take t);rw [List.length_take] at hc;refine aB.cw ?_;unfold aB.B2;rw [e3,e1,dlt hi,ak];obtain ⟨h1,h2⟩:=hr _ (List.getElem_mem hi);refine dX hi ?_;rw [decide_eq_false (by omega),aa];refine dX hi ?_;unfold aB.K3;rw [decide_eq_false (by omega)];dsimp only;rw [aa];refine dX hi (C5 h2 ⟨cn (by rw [e4,k7,List.length_cons]; omega), ?_⟩);rw [cK (by omega)];refine ih (t+1) _ (by omega) (by first | exact e1 | rfl) rfl ?_;dsimp only;rw [e4,dg hi,lU]; rfl
 exact l2 l.length 0 _ (by omega) rfl rfl rfl
def okT (n:Int):Bool:=
 let b:=newB n
 let h:=hOf n
 (List.range h.Level.length).all (fun i=>
  decide (0<=levelS b i) &&
  (decide ((i:Int)<n) || (decide (1<=(kidsR h i).length) && decide ((kidsR h i).length<=6) && decide (0<=(kidsR h i).getD 0 0) && decide ((kidsR h i).getD 0 0+(kidsR h i).length<=(i:Int)))))
theorem Jp:((List.range 14).all fun n=>okT ((n:Int)+1))=true:=by decide+kernel
structure TOk (n:Int):Prop where
 N:NOk n
 Ra: ∀ i:Nat,i<(hOf n).Level.length->0<=levelS (newB n) i
 VS: ∀ i:Nat,n<=(i:Int)->i<(hOf n).Level.length->1<=(kidsR (hOf n) i).length/\(kidsR (hOf n) i).length<=6/\0<=(kidsR (hOf n) i).getD 0 0/\(kidsR (hOf n) i).getD 0 0+(kidsR (hOf n) i).length<=(i:Int)
theorem tok {n:Int} (hn:1<=n/\n<=14):TOk n:=by
 have h:=List.all_eq_true.1 Jp (n - 1).toNat (List.mem_range.2 (by omega));rw [show (((n - 1).toNat:Nat):Int)+1=n by omega] at h;unfold okT at h;dsimp only at h;have h2: ∀ i:Nat,i<(hOf n).Level.length->_:=fun i hi=>List.all_eq_true.1 h i (List.mem_range.2 hi);refine ⟨nok hn, ?_, ?_⟩
 ·intro i hi
  have h3:=h2 i hi;rw [Bool.and_eq_true] at h3;exact of_decide_eq_true h3.1
 ·intro i hi qC
  have h3:=h2 i qC;rw [Bool.and_eq_true] at h3;have h4:=h3.2;rw [decide_eq_false (show ¬ ((i:Int)<n) by omega),Bool.false_or] at h4;simp only [Bool.and_eq_true,decide_eq_true_eq] at h4;exact ⟨h4.1.1.1,h4.1.1.2,h4.1.2,h4.2⟩
end Go.Pt
namespace Go.Pt
open Go Go.Wc Go.Pu
variable {key:Vector Int 32} {e:Int} {pages:List (List Int)}
def pgI (pages:List (List Int)) (refs:List af) (i:Nat):List Int:=
 if i<pages.length then pages.getD i [] else layS (sub refs ((kidsR (hOf (pages.length:Int)) (i:Int)).getD 0 0) ((kidsR (hOf (pages.length:Int)) (i:Int)).getD 0 0+((kidsR (hOf (pages.length:Int)) (i:Int)).length:Int)))
def bN (i:Nat):Int:=2+2*(i:Int)
def hidI (key:Vector Int 32) (e:Int) (i:Nat) (p:List Int):List Int:=hidB key e (bN i) p
def refI (key:Vector Int 32) (e:Int) (i:Nat) (p:List Int):af:=⟨0,e,digV (hidI key e i p)⟩
def runM (key:Vector Int 32) (e:Int) (pages:List (List Int)):Nat->List cO × List af
 | 0=>([],[])
 | i+1=>((runM key e pages i).1++[⟨bN i,hidI key e i (pgI pages (runM key e pages i).2 i)⟩],(runM key e pages i).2++[refI key e i (pgI pages (runM key e pages i).2 i)])
theorem ke (i:Nat):(runM key e pages i).1.length=i:=by
 induction i with
 | zero=>rfl
 | succ i ih=>simp [runM,ih]
theorem iy (i:Nat):(runM key e pages i).2.length=i:=by
 induction i with
 | zero=>rfl
 | succ i ih=>simp [runM,ih]
theorem vF (he:gE e) (i:Nat):okR (runM key e pages i).2:=by
 induction i with
 | zero=>intro r hr; cases hr
 | succ i ih=>
  intro r hr;rcases List.mem_append.1 hr with h | h
  ·exact ih r h
  ·rw [List.mem_singleton.1 h]; exact ⟨.inl rfl,he⟩
theorem BM {l:List af} {a b:Int} (h:okR l):okR (sub l a b):=fun r hr=>h r (List.mem_of_mem_take (List.mem_of_mem_drop hr))
theorem EI {l:List af} {a b:Int}:sub (l.map sr) a b=(sub l a b).map sr:=by unfold sub; rw [List.map_drop,List.map_take]
structure MC (key:Vector Int 32) (e:Int) (pages:List (List Int)):Prop where
 T:TOk (pages.length:Int)
 key:bytesL key.toList
 ep:gE e
theorem MC.small (C:MC key e pages):(hOf (pages.length:Int)).Level.length<=400:=C.T.N.wh.small
theorem MC.pos (C:MC key e pages):pages.length<=(hOf (pages.length:Int)).Level.length:=by have:=C.T.N.pos; exact_mod_cast this
theorem MC.Jq (C:MC key e pages):1<=pages.length/\pages.length<=14:=by have:=C.T.N.Q9; omega
theorem MC.slok (C:MC key e pages) {i:Nat} (hi:pages.length<=i) (hl:i<(hOf (pages.length:Int)).Level.length):
  SlOk (runM key e pages i).2 ((kidsR (hOf (pages.length:Int)) (i:Int)).getD 0 0) ((kidsR (hOf (pages.length:Int)) (i:Int)).getD 0 0+((kidsR (hOf (pages.length:Int)) (i:Int)).length:Int)):=by
 have k:=C.T.VS i (by omega) hl;unfold SlOk;rw [iy];omega
theorem MC.sublen (C:MC key e pages) {i:Nat} (hi:pages.length<=i) (hl:i<(hOf (pages.length:Int)).Level.length):
  1<=(sub (runM key e pages i).2 ((kidsR (hOf (pages.length:Int)) (i:Int)).getD 0 0) ((kidsR (hOf (pages.length:Int)) (i:Int)).getD 0 0+((kidsR (hOf (pages.length:Int)) (i:Int)).length:Int))).length/\(sub (runM key e pages i).2 ((kidsR (hOf (pages.length:Int)) (i:Int)).getD 0 0) ((kidsR (hOf (pages.length:Int)) (i:Int)).getD 0 0+((kidsR (hOf (pages.length:Int)) (i:Int)).length:Int))).length<=6:=by
 rw [cg (C.slok hi hl)];have k:=C.T.VS i (by omega) hl;omega
theorem MC.pglen (C:MC key e pages) (hp: ∀ x ∈ pages,x.length=256) {i:Nat} (hl:i<(hOf (pages.length:Int)).Level.length):(pgI pages (runM key e pages i).2 i).length=256:=by
 unfold pgI
 by_cases h:i<pages.length
 ·rw [if_pos h,List.getD_eq_getElem?_getD,List.getElem?_eq_getElem h]
  exact hp _ (List.getElem_mem h)
 ·rw [if_neg h]
  exact nJ (C.sublen (by omega) hl).2
theorem xN (C:MC key e pages) {σ:St Obj} {i:Nat} (hi:i<(hOf (pages.length:Int)).Level.length) {p:List Int} (hp:p.length=256) {refs:List aF} {puts:List cO} (hr:refs.length=i) (hu:puts.length=i)
  {Q:List aF->List cO->St Obj->Prop} (H:Q (refs++[sr (refI key e i p)]) (puts++[⟨bN i,hidI key e i p⟩]) σ):iG p ⟨newB (pages.length:Int)⟩ refs none key e puts σ Q:=by
 have hs:=C.small;unfold iG;refine MS C.T.N.wb (v:=bN i) ?_ ?_
 ·unfold blockS
  rw [hr,if_neg]
  ·unfold bN; omega
  ·have:=C.T.Ra i hi; omega
 refine C0 C.key C.ep.1 hp (by unfold bN; omega) (.inl rfl) ?_;refine ⟨cn (by simp; omega),cn (by simp; omega),H⟩
theorem EJ {l:List af} {m:Nat} (h:l.length=m) (hm:1<=m) (hs:m<=400) {K:aF->Prop} (H:K (sr (l.getLastD ⟨0,0,Vector.replicate 32 0⟩))):ixP (l.map sr) (IntKind.wrap .i64 (((l.map sr).length:Int) - (1:Int))) K:=by
 rw [List.length_map,h,wrap64 (by omega) (by omega)];refine fC (m - 1) (by omega) (by rw [List.length_map]; omega) ?_;rw [List.getElem_map]
 have:l.getLastD ⟨0,0,Vector.replicate 32 0⟩=l[m - 1]'(by omega):=by subst h; rw [List.getLastD_eq_getLast?,List.getLast?_eq_getElem?,List.getElem?_eq_getElem (by omega)]; rfl
 rw [<- this]; exact H
def rootM (key:Vector Int 32) (e:Int) (pages:List (List Int)):af:=(runM key e pages (hOf (pages.length:Int)).Level.length).2.getLastD ⟨0,0,Vector.replicate 32 0⟩
def putsM (key:Vector Int 32) (e:Int) (pages:List (List Int)):List cO:=(runM key e pages (hOf (pages.length:Int)).Level.length).1
theorem Jr {l:List (List Int)} {Q:Bool->Unit->Prop} (hl:l.length<=100000) (H1:(∀ x ∈ l,x.length=256)->Q false ()) (H2: ∀ x ∈ l,x.length ≠ 256->Q true ()):
  cR (fun x0 _ K=>gz x0 (fun r=>K r ())) l () Q:=by
 unfold cR aC
 have k: ∀ (j i:Nat) (m:aC.V) (R:Int->Unit->Prop),i+j=l.length->m.s0=l->m.v7=(l.length:Int)->m.v8=(i:Int)->(∀ x ∈ l.take i,x.length=256)->
   ((∀ x ∈ l,x.length=256)->R (-1) ())->(∀ i:Nat,∀ x ∈ l,x.length ≠ 256->R i ())->aC.L1 (fun x0 _ K=>gz x0 (fun r=>K r ())) R m ():=by
  intro j
  induction j with
  | zero=>
   rintro i ⟨s0,v7,v8⟩ R e e1 e2 e3 h G1 G2;dsimp only at e1 e2 e3;subst e1 e2 e3;refine aC.bG _ ?_;unfold aC.B1; dsimp only;rw [dge (by omega),aa];rw [List.take_of_length_le (by omega)] at h
   exact G1 h
  | succ j ih=>
   rintro i ⟨s0,v7,v8⟩ R e e1 e2 e3 h G1 G2;dsimp only at e1 e2 e3;subst e1 e2 e3;have hi:i<s0.length:=by omega
   refine aC.bG _ ?_;unfold aC.B1; dsimp only;rw [dlt hi,ak];refine dX hi ?_
   by_cases hh:s0[i].length=256
   ·show br ((s0[i].length:Int) !=256) _ _
    rw [hh,show (((256:Nat):Int) !=256)=false by decide,aa,cK (by omega)];refine ih (i+1) _ R (by omega) rfl rfl rfl ?_ G1 G2;intro x hx;rw [dg hi] at hx;rcases List.mem_append.1 hx with hx | hx
    ·exact h x hx
    ·rw [List.mem_singleton.1 hx]; exact hh
   ·show br ((s0[i].length:Int) !=256) _ _
    rw [show ((s0[i].length:Int) !=256)=true by simp; omega,ak];exact G2 i _ (List.getElem_mem hi) hh
 refine k l.length 0 _ _ (by omega) rfl rfl rfl (by simp) ?_ ?_
 ·intro h; rw [decide_eq_false (by omega)]; exact H1 h
 ·intro i x hx hh; rw [decide_eq_true (by omega)]; exact H2 x hx hh
theorem Da (C:MC key e pages) {σ:St Obj} {Q:bR.QT} (hp: ∀ x ∈ pages,x.length=256) (H:Q ((putsM key e pages)) (sr (rootM key e pages)) 0 σ):bR none key e pages σ Q:=by
 have hs:=C.small;have hn:=C.Jq;have hpos:=C.pos
 have l3: ∀ (j i:Nat) (m:bR.V),i+j=(hOf (pages.length:Int)).Level.length->pages.length<=i->m.qg=⟨newB (pages.length:Int)⟩->m.iT=none->m.iU=key->m.iV=e->m.fX=(runM key e pages i).1->m.eS=(runM key e pages i).2.map sr->m.iM=(i:Int)->bR.L3 Q m σ:=by
  intro j
  induction j with
  | zero=>
   rintro i ⟨eR,b4,vv,j6,v9,qg,fM,fX,eS,a2,a3,a4,w9,mZ,DK,iM⟩ ei hi e1 e2 e3 e4 e5 e6 e7;dsimp only at e1 e2 e3 e4 e5 e6 e7;subst e1 e2 e3 e4 e5 e6 e7;obtain rfl:i=(hOf (pages.length:Int)).Level.length:=by omega
   refine bR.gH ?_;unfold bR.B3; dsimp only;refine fL C.T.N.wb ?_;rw [C.T.N.items,dge (by omega),aa]
   exact EJ (iy _) (by omega) (by omega) H
  | succ j ih=>
   rintro i ⟨eR,b4,vv,j6,v9,qg,fM,fX,eS,a2,a3,a4,w9,mZ,DK,iM⟩ ei hi e1 e2 e3 e4 e5 e6 e7;dsimp only at e1 e2 e3 e4 e5 e6 e7;subst e1 e2 e3 e4 e5 e6 e7;have hl:i<(hOf (pages.length:Int)).Level.length:=by omega
   refine bR.gH ?_;unfold bR.B3; dsimp only;refine fL C.T.N.wb ?_;rw [C.T.N.items,dlt (by exact hl),ak];refine oE C.T.N.wb ?_;rw [C.T.N.kids];have k:=C.T.VS i (by omega) hl
   have hget: ∀ h0:0<(kidsR (hOf (pages.length:Int)) i).length,(kidsR (hOf (pages.length:Int)) i)[0]=(kidsR (hOf (pages.length:Int)) (i:Int)).getD 0 0:=by intro h0;rw [List.getD_eq_getElem?_getD,List.getElem?_eq_getElem h0]; rfl
   refine fC 0 rfl (by omega) ?_;refine fC 0 rfl (by omega) ?_;rw [hget (by omega),wrap64 (n:=(kidsR (hOf (pages.length:Int)) (i:Int)).getD 0 0+_) (by omega) (by omega)];refine ⟨?_, ?_⟩
   ·have:=C.slok hi hl
    unfold SlOk at this |-
    rw [List.length_map];exact this
   rw [EI];refine C7 (C.sublen hi hl) (BM (vF C.ep i)) ?_
   have hpg:pgI pages (runM a3 a4 pages i).2 i=layS (sub (runM a3 a4 pages i).2 ((kidsR (hOf (pages.length:Int)) (i:Int)).getD 0 0) ((kidsR (hOf (pages.length:Int)) (i:Int)).getD 0 0+((kidsR (hOf (pages.length:Int)) (i:Int)).length:Int))):=by unfold pgI; rw [if_neg (by omega)]
   have hle:=C.pglen hp hl;rw [hpg] at hle;refine xN C hl hle (by rw [List.length_map,iy]) (by rw [ke]) ?_;rw [cK (by omega)];refine ih (i+1) _ (by omega) (by omega) rfl rfl rfl rfl ?_ ?_ rfl
   ·dsimp only; rw [runM,hpg]
   ·dsimp only; rw [runM,List.map_append,hpg]; rfl
 have l2: ∀ (j i:Nat) (m:bR.V),i+j=pages.length->m.eR=pages->m.w9=pages->m.mZ=(pages.length:Int)->m.DK=(i:Int)->m.qg=⟨newB (pages.length:Int)⟩->m.iT=none->m.iU=key->m.iV=e->m.fX=(runM key e pages i).1->m.eS=(runM key e pages i).2.map sr->bR.L2 Q m σ:=by
  intro j
  induction j with
  | zero=>
   rintro i ⟨eR,b4,vv,j6,v9,qg,fM,fX,eS,a2,a3,a4,w9,mZ,DK,iM⟩ ei e8 e9 EK Rm e1 e2 e3 e4 e5 e6;dsimp only at e1 e2 e3 e4 e5 e6 e8 e9 EK Rm;subst e1 e2 e3 e4 e5 e6 e8 e9 EK Rm;obtain rfl:i=w9.length:=by omega
   refine bR.cw ?_;unfold bR.B2; dsimp only;rw [dge (by omega),aa]
   exact l3 ((hOf (w9.length:Int)).Level.length - w9.length) w9.length _ (by omega) (by omega) rfl rfl rfl rfl rfl rfl rfl
  | succ j ih=>
   rintro i ⟨eR,b4,vv,j6,v9,qg,fM,fX,eS,a2,a3,a4,w9,mZ,DK,iM⟩ ei e8 e9 EK Rm e1 e2 e3 e4 e5 e6;dsimp only at e1 e2 e3 e4 e5 e6 e8 e9 EK Rm;subst e1 e2 e3 e4 e5 e6 e8 e9 EK Rm;have hi:i<w9.length:=by omega
   refine bR.cw ?_;unfold bR.B2; dsimp only;rw [dlt hi,ak];refine dX hi ?_
   have hpg:pgI w9 (runM a3 a4 w9 i).2 i=w9[i]:=by unfold pgI; rw [if_pos hi,List.getD_eq_getElem?_getD,List.getElem?_eq_getElem hi]; rfl
   refine xN C (i:=i) (by omega) (hp _ (List.getElem_mem hi)) (by rw [List.length_map,iy]) (by rw [ke]) ?_;rw [cK (by omega)];refine ih (i+1) _ (by omega) rfl rfl rfl rfl rfl rfl rfl rfl ?_ ?_
   ·dsimp only; rw [runM,hpg]
   ·dsimp only; rw [runM,List.map_append,hpg]; rfl
 unfold bR;refine kX (by omega) ?_;rw [show ((0:Int) !=0)=false from rfl,aa];refine Jr (by omega) (fun _=> ?_) (fun x hx hh=>(hh (hp x hx)).elim);unfold bR.K1; dsimp only;rw [aa];exact l2 pages.length 0 _ (by omega) rfl rfl rfl rfl rfl rfl rfl rfl rfl rfl
end Go.Pt
namespace Go.Pt
open Go Go.Wc Go.Pu
def blkOk (s:aH) (m:Nat):Prop:=s.blocks.length=256*m/\1<=m/\m<=1024
theorem rH {s:aH} {m:Nat} {Q:Int->aH->Prop} (hb:blkOk s m) (H:Q (m:Int) s):fu s Q:=by unfold fu;rw [hb.1];have h:=hb.2;rw [show Int.tdiv ((256*m:Nat):Int) 256=(m:Int) by rw [Int.tdiv_eq_ediv_of_nonneg (by omega)]; omega,wrap64 (by omega) (by omega)];exact H
theorem xO {s:aH} {m:Nat} {n:Int} {Q:bQ.QT} (hb:blkOk s m) (hn:0<=n/\n<m) (H:Q 0 s):bQ n s Q:=by unfold bQ;refine rH hb ?_;have h:=hb.2;rw [show ((m:Int)==0)=false by simp; omega,aa,decide_eq_false (by omega),aa];refine rH hb ?_;rw [decide_eq_false (by omega)];unfold bQ.K1; dsimp only;rw [aa];exact H
theorem uC {s:aH} {n:Int} {Q:aH->Prop} (ht:s.trace.length<=90000) (H:Q ⟨s.blocks,s.waits,s.cN,s.trace++[n]⟩):fK n s Q:=by unfold fK;refine ⟨cn (by simp; omega), ?_⟩;rw [decide_eq_false (by simp; omega),aa];exact H
theorem jv {l:List Int} {Q:List Int->Prop} (hB:l.length<=4000000000) (H:Q l):cL l Q:=⟨cn hB,H⟩
theorem Ap {s:aH} {m:Nat} {n:Int} {b:List Int} {Q:Int->aH->Prop} (hb:blkOk s m) (hn:0<=n/\n<m) (hl:b.length=256) (ht:s.trace.length<=90000) (hw:s.waits.length<=90000)
  (H:Q 0 ⟨s.blocks,s.waits++[⟨n,b⟩],s.cN,s.trace++[n]⟩):gi n b s Q:=by
 unfold gi;refine xO hb hn ?_;rw [show ((0:Int) !=0)=false from rfl,aa,hl,show (((256:Nat):Int) !=256)=false by decide,aa];refine jv (by omega) ⟨cn (by simp; omega),uC ht H⟩
def pw (x:cO):b9:=⟨x.Block,x.Bytes⟩
theorem Db {puts:List cO} {s:aH} {m:Nat} {Q:cM.QT} (hb:blkOk s m) (hp: ∀ x ∈ puts,(0<=x.Block/\x.Block<m)/\x.Bytes.length=256) (hl:puts.length<=1000) (ht:s.trace.length<=1000) (hw:s.waits.length<=1000)
  (H:Q 0 ⟨s.blocks,s.waits++puts.map pw,s.cN,s.trace++puts.map (·.Block)⟩):cM puts s Q:=by
 have k: ∀ (j i:Nat) (c:cM.V),i+j=puts.length->c.v8=puts->c.v9=(puts.length:Int)->c.v10=(i:Int)->c.ug=⟨s.blocks,s.waits++(puts.take i).map pw,s.cN,s.trace++(puts.take i).map (·.Block)⟩->cM.L1 Q c:=by
  intro j
  induction j with
  | zero=>
   intro i c ei e1 e2 e3 e4;refine cM.bG ?_;unfold cM.B1;rw [e2,e3,dge (by omega),aa,e4,List.take_of_length_le (by omega)]
   exact H
  | succ j ih=>
   intro i c ei e1 e2 e3 e4;have hi:i<puts.length:=by omega
   refine cM.bG ?_;unfold cM.B1;rw [e1,e2,e3,dlt hi,ak];refine dX hi ?_;have h:=hp _ (List.getElem_mem hi);rw [e4];refine Ap (m:=m) ⟨hb.1,hb.2⟩ h.1 h.2 (by simp; omega) (by simp; omega) ?_;rw [show ((0:Int) !=0)=false from rfl,aa,cK (by omega)];refine ih (i+1) _ (by omega) rfl rfl rfl ?_;dsimp only;rw [dg hi,List.map_append,List.map_append,List.append_assoc,List.append_assoc];rfl
 unfold cM;exact k puts.length 0 _ (by omega) rfl rfl rfl (by simp)
def wrB (B:List Int) (x:b9):List Int:=B.take (256*x.n.toNat)++x.b++B.drop (256*x.n.toNat+256)
theorem Dc {s:aH} {m:Nat} {x:b9} {Q:aH->Prop} (hb:blkOk s m) (hn:0<=x.n/\x.n<m) (hl:x.b.length=256) (H:Q ⟨wrB s.blocks x,s.waits,s.cN,s.trace⟩):gK x 256 s Q:=by
 have h:=hb.1;have h2:=hb.2;unfold gK;rw [wrap64 (n:=x.n*256) (by omega) (by omega)]
 have hs:SlOk s.blocks (x.n*256) (s.blocks.length:Int):=⟨by omega,by rw [h]; omega,by omega⟩
 refine ⟨hs,⟨by omega,by omega,by omega⟩, ?_⟩
 have e:cpP s.blocks (Int.toNat (x.n*256)) ((sub s.blocks (x.n*256) (s.blocks.length:Int)).length) (sub x.b 0 256)=wrB s.blocks x:=by
  have e1:sub x.b 0 256=x.b:=by unfold sub; simp [List.take_of_length_le (Nat.le_of_eq hl)]
  rw [e1,cg hs];unfold cpP wrB;have e2:min x.b.length ((s.blocks.length:Int).toNat - (x.n*256).toNat)=256:=by rw [hl,h]; omega
  rw [e2,List.take_of_length_le (Nat.le_of_eq hl),show (x.n*256).toNat=256*x.n.toNat by omega]
 rw [e]; exact H
theorem BN {B:List Int} {x:b9} {m:Nat} (hB:B.length=256*m) (hn:0<=x.n/\x.n<m) (hl:x.b.length=256):(wrB B x).length=256*m:=by unfold wrB;simp [hl]; omega
theorem Dd {B:List Int} {x:b9} (hB:bytesL B) (hx:bytesL x.b):bytesL (wrB B x):=fun y hy=>by
 unfold wrB at hy;rcases List.mem_append.1 hy with hy | hy
 ·rcases List.mem_append.1 hy with hy | hy
  ·exact hB y (List.mem_of_mem_take hy)
  ·exact hx y hy
 ·exact hB y (List.mem_of_mem_drop hy)
theorem EL {B:List Int} {x:b9} {m:Nat} (hB:B.length=256*m) (hn:0<=x.n/\x.n<m) (hl:x.b.length=256):((wrB B x).take (256*x.n.toNat+256)).drop (256*x.n.toNat)=x.b:=by
 unfold wrB;have e:(B.take (256*x.n.toNat)).length=256*x.n.toNat:=by rw [List.length_take]; omega
 rw [List.append_assoc,List.take_append,List.drop_append,e];rw [List.take_of_length_le (by omega),List.drop_eq_nil_of_le (by omega),e,Nat.sub_self,List.drop_zero,List.nil_append,Nat.add_sub_cancel_left,List.take_append,hl,Nat.sub_self,List.take_zero,List.append_nil,List.take_of_length_le (by omega)]
theorem De {B:List Int} {x:b9} {m k:Nat} (hB:B.length=256*m) (hn:0<=x.n/\x.n<m) (hl:x.b.length=256) (hk:k ≠ x.n.toNat):((wrB B x).take (256*k+256)).drop (256*k)=(B.take (256*k+256)).drop (256*k):=by
 unfold wrB;have e:(B.take (256*x.n.toNat)).length=256*x.n.toNat:=by rw [List.length_take]; omega
 apply List.ext_getElem?;intro i;rw [List.getElem?_drop,List.getElem?_drop,List.getElem?_take,List.getElem?_take]
 by_cases hi:256*k+i<256*k+256
 ·rw [if_pos hi,if_pos hi,List.append_assoc]
  by_cases h1:256*k+i<256*x.n.toNat
  ·rw [List.getElem?_append_left (by rw [e]; exact h1),List.getElem?_take,if_pos h1]
  ·have h2:256*x.n.toNat+256<=256*k+i:=by omega
   rw [List.getElem?_append_right (by rw [e]; omega),e,List.getElem?_append_right (by omega),hl,List.getElem?_drop];congr 1; omega
 ·rw [if_neg hi,if_neg hi]
def wrAll (B:List Int) (l:List b9):List Int:=l.foldl wrB B
theorem oH {m:Nat}: ∀ {l:List b9} {B:List Int},B.length=256*m->(∀ x ∈ l,(0<=x.n/\x.n<m)/\x.b.length=256)->(wrAll B l).length=256*m
 | [],B,hB,_=>hB
 | x::l,B,hB,h=>oH (l:=l) (BN hB (h x (by simp)).1 (h x (by simp)).2) fun y hy=>h y (by simp [hy])
theorem pO: ∀ {l:List b9} {B:List Int},bytesL B->(∀ x ∈ l,bytesL x.b)->bytesL (wrAll B l)
 | [],B,hB,_=>hB
 | x::l,B,hB,h=>pO (l:=l) (Dd hB (h x (by simp))) fun y hy=>h y (by simp [hy])
theorem uD {m:Nat} {k:Nat}: ∀ {l:List b9} {B:List Int} {v:List Int},B.length=256*m->(∀ x ∈ l,(0<=x.n/\x.n<m)/\x.b.length=256)->(l.map (·.n)).Pairwise (· ≠ ·)->
  ((∃ x ∈ l,x.n=k/\x.b=v)\/((∀ x ∈ l,x.n ≠ k)/\(B.take (256*k+256)).drop (256*k)=v))->((wrAll B l).take (256*k+256)).drop (256*k)=v
 | [],B,v,hB,_,_,h=>by
  rcases h with ⟨x,hx,_⟩ | ⟨_,h⟩
  ·cases hx
  ·exact h
 | x::l,B,v,hB,h,hp,hv=>by
  have hx:=h x (by simp);simp only [List.map_cons,List.pairwise_cons] at hp;refine uD (l:=l) (BN hB hx.1 hx.2) (fun y hy=>h y (by simp [hy])) hp.2 ?_;rcases hv with ⟨y,hy,e1,e2⟩ | ⟨h1,h2⟩
  ·rcases List.mem_cons.1 hy with rfl | hy
   ·right
    refine ⟨fun z hz e=>hp.1 z.n (List.mem_map.2 ⟨z,hz,rfl⟩) (by rw [e1,e]), ?_⟩;have:=EL hB hx.1 hx.2;rw [show y.n.toNat=k by omega] at this;rw [this,e2]
   ·exact .inl ⟨y,hy,e1,e2⟩
  ·right
   refine ⟨fun z hz=>h1 z (by simp [hz]), ?_⟩;rw [De hB hx.1 hx.2 (fun e=>h1 x (by simp) (by omega))];exact h2
theorem Aq {s:aH} {m:Nat} {Q:bE.QT} (hb:blkOk s m) (hw: ∀ x ∈ s.waits,(0<=x.n/\x.n<m)/\x.b.length=256) (hl:s.waits.length<=10000) (ht:s.trace.length<=10000)
  (H:Q (s.waits.length:Int) ⟨wrAll s.blocks s.waits,[],s.cN,s.trace++[-1]⟩):bE s Q:=by
 unfold bE;refine rH hb ?_;have h2:=hb.2;rw [show ((m:Int)==0)=false by simp; omega,aa]
 have k: ∀ (j i:Nat) (c:bE.V),i+j=s.waits.length->c.mI=s.waits->c.iE=(s.waits.length:Int)->c.pH=(i:Int)->c.n3=(s.waits.length:Int)->c.s0=⟨wrAll s.blocks (s.waits.take i),s.waits,s.cN,s.trace⟩->bE.L1 Q c:=by
  intro j
  induction j with
  | zero=>
   intro i c ei e1 e2 e3 e4 e5;refine bE.bG ?_;unfold bE.B1;rw [e2,e3,dge (by omega),aa,e4,e5,List.take_of_length_le (by omega)]
   exact uC (by dsimp only; omega) H
  | succ j ih=>
   intro i c ei e1 e2 e3 e4 e5;have hi:i<s.waits.length:=by omega
   refine bE.bG ?_;unfold bE.B1;rw [e1,e2,e3,dlt hi,ak];refine dX hi ?_;have h:=hw _ (List.getElem_mem hi);rw [e5];refine Dc (m:=m) ⟨oH hb.1 fun x hx=>hw x (List.mem_of_mem_take hx),hb.2⟩ h.1 h.2 ?_;rw [cK (by omega)];refine ih (i+1) _ (by omega) rfl rfl rfl e4 ?_;dsimp only;rw [dg hi];unfold wrAll;rw [List.foldl_append]; rfl
 exact k s.waits.length 0 _ (by omega) rfl rfl rfl rfl (by simp [wrAll])
theorem Df {s:aH} {m:Nat} {n:Int} {Q:List Int->Int->aH->Prop} (hb:blkOk s m) (hn:0<=n/\n<m) (hw:s.waits=[]) (H:Q ((s.blocks.take (256*n.toNat+256)).drop (256*n.toNat)) 0 s):gL n s Q:=by
 have h:=hb.1;have h2:=hb.2;unfold gL;refine xO hb hn ?_;rw [show ((0:Int) !=0)=false from rfl,aa,wrap64 (n:=n*256) (by omega) (by omega),wrap64 (n:=n+1) (by omega) (by omega),wrap64 (n:=(n+1)*256) (by omega) (by omega)]
 have hs:SlOk s.blocks (n*256) ((n+1)*256):=⟨by omega,by omega,by omega⟩
 refine ⟨hw,rfl,hs,jv (by rw [cg hs]; omega) ?_⟩
 have e:sub s.blocks (n*256) ((n+1)*256)=(s.blocks.take (256*n.toNat+256)).drop (256*n.toNat):=by unfold sub;rw [show ((n+1)*256).toNat=256*n.toNat+256 by omega,show (n*256).toNat=256*n.toNat by omega]
 rw [e]; exact H
theorem Rn {x y:Int} (hx:0<=x/\x<256):X8 (X8 x y) y=x:=by
 unfold X8;rw [show IntKind.bits .u8=8 from rfl];generalize hB:BitVec.ofInt 8 y=B;generalize hA:BitVec.ofInt 8 x=A
 have e1:IntKind.wrap .u8 (((A ^^^ B).toNat:Nat):Int)=((A ^^^ B).toNat:Int):=by rw [wrap_u8];have:=(A ^^^ B).isLt;omega
 rw [e1,BitVec.ofInt_natCast,BitVec.ofNat_toNat,BitVec.setWidth_eq,BitVec.xor_assoc,BitVec.xor_self,BitVec.xor_zero,wrap_u8,<- hA,BitVec.toNat_ofInt];omega
theorem xP {k n:List Int} {c:Int} {b:List Int} {t i:Nat} (h:i<t):(turnL k n c b t)[i]? =some (X8 (b.getD i 0) (strS k n c i)):=by simp only [turnL,List.getElem?_map,List.getElem?_range h,Option.map_some]
theorem Js {k n:List Int} {c:Int} {p:List Int} (hp:bytesL p):cipS k n c (cipS k n c p)=p:=by
 have hl:(cipS k n c p).length=p.length:=gA _ _ _ _ _;apply List.ext_getElem?;intro i
 by_cases h2:i<p.length
 ·show (turnL k n c (cipS k n c p) (cipS k n c p).length)[i]? =_
  rw [xP (by rw [hl]; exact h2)]
  have e:(cipS k n c p).getD i 0=X8 (p.getD i 0) (strS k n c i):=by rw [List.getD_eq_getElem?_getD];show ((turnL k n c p p.length)[i]?).getD 0=_;rw [xP h2]; rfl
  have e2:p.getD i 0=p[i]:=by rw [List.getD_eq_getElem?_getD,List.getElem?_eq_getElem h2]; rfl
  rw [e,e2,Rn (hp _ (List.getElem_mem h2)),List.getElem?_eq_getElem h2]
 ·have Bw:(cipS k n c (cipS k n c p)).length=p.length:=(gA _ _ _ _ _).trans hl
  rw [List.getElem?_eq_none (by omega),List.getElem?_eq_none (by omega)]
theorem Jt {key:Vector Int 32} {e n:Int} {p:List Int} (hp:bytesL p):hidB key e n (hidB key e n p)=p:=Js hp
def dgB (x:List Int) (r:af):Bool:=sumL x==r.bY.toList
def oP (key:Vector Int 32) (r:af) (n:Int) (x:List Int):List Int × Int:=match dgB x r with
 | true=>(hidB key r.cu n x,0)
 | false=>([],9)
theorem Dg {key:Vector Int 32} {r:af} {n:Int} {x:List Int} {σ:St Obj} {Q:cI.QT} (hk:bytesL key.toList) (hx:x.length=256) (hb:bytesL x) (he:gE r.cu) (hn:0<=n/\n<1000000)
  (H:Q (oP key r n x).1 (oP key r n x).2 σ):cI none key (sr r) n x σ Q:=by
 unfold cI;rw [hx,show (((256:Nat):Int) !=256)=false by decide,aa,decide_eq_false (by omega)];unfold cI.K1; dsimp only;rw [aa];unfold aP;rw [show (!(Option.isNone (none:Option Addr)))=false from rfl,aa];unfold aP.K1; dsimp only;rw [aa];refine oF (b:=x) (by omega) hb fun v hv=> ?_;show br (!(v.toList==r.bY.toList)) _ _;rw [hv];unfold oP at H;change br (!(dgB x r)) _ _
 cases hd:dgB x r with
 | true=>
  rw [hd] at H;rw [show (!true)=false from rfl,aa]
  exact uz hk hx he.1 hn H
 | false=> rw [hd] at H;rw [show (!false)=true from rfl,ak];exact H
theorem Ar {key:Vector Int 32} {r:af} {n:Int} {x:List Int} {Q:bD.QT} (hk:bytesL key.toList) (hx:x.length=256) (hb:bytesL x) (he:gE r.cu) (hn:0<=n/\n<1000000)
  (H:Q (oP key r n x).1 (oP key r n x).2):bD key r n x Q:=by
 unfold bD;rw [hx,show (((256:Nat):Int) !=256)=false by decide,aa,decide_eq_false (by omega)];unfold bD.K1; dsimp only;rw [aa];refine CX (b:=x) (by omega) hb fun v hv=> ?_;show br (!(v.toList==r.bY.toList)) _ _;rw [hv];unfold oP at H;change br (!(dgB x r)) _ _
 cases hd:dgB x r with
 | true=>
  rw [hd] at H;rw [show (!true)=false from rfl,aa,wrap_u64 (n:=n) (by omega) (by omega)];refine xL he.1 hn.1 fun v hv=> ?_;refine xK hk (by rw [hv]; exact rF _ _ _) ⟨by decide,by decide⟩ (by omega) ?_
  rw [hv]; exact H
 | false=> rw [hd] at H;rw [show (!false)=true from rfl,ak];exact H
theorem MT {key:Vector Int 32} {r:af} {n:Int} {x:List Int} (hx:x.length=256):((oP key r n x).1.length=256/\(oP key r n x).2=0\/(oP key r n x).1=[]/\(oP key r n x).2=9)/\bytesL (oP key r n x).1:=by
 unfold oP
 cases hd:dgB x r with
 | true=>exact ⟨.inl ⟨by show (hidB _ _ _ _).length=_; rw [rG,hx],rfl⟩,mO _ _ _ _⟩
 | false=>exact ⟨.inr ⟨rfl,rfl⟩,fun y hy=>by cases hy⟩
def allZ (l:List Int):Prop:= ∀ x ∈ l,x=0
instance (l:List Int):Decidable (allZ l):=by unfold allZ; exact inferInstance
theorem rK {Q:List Int->Prop}: ∀ (n:Nat) (l:List Int) (c:aU.V),c.s0=l->c.c1=0->l.length=n->n<=100000->(∀ r,(allZ r↔allZ l)->r.length<=n->Q r)->aU.L1 Q c:=by
 intro n
 induction n with
 | zero=>
  rintro l ⟨s0,c1,mI⟩ e1 e2 hl hn H;dsimp only at e1 e2;subst e1 e2;obtain rfl:=List.length_eq_zero_iff.1 hl;refine aU.bG ?_;unfold aU.B1 aU.K2; dsimp only;rw [decide_eq_false (by simp),aa,aa]
  exact H [] Iff.rfl (by simp)
 | succ n ih=>
  rintro l ⟨s0,c1,mI⟩ e1 e2 hl hn H;dsimp only at e1 e2;subst e1 e2
  obtain ⟨m,y,rfl⟩: ∃ m y,s0=m++[y]:=by
   rcases List.eq_nil_or_concat s0 with h | ⟨m,y,h⟩
   ·subst h; simp at hl
   ·exact ⟨m,y,by simpa using h⟩
  simp only [List.length_append,List.length_cons,List.length_nil] at hl;refine aU.bG ?_;unfold aU.B1 aU.K2; dsimp only
  have e1:IntKind.wrap .i64 (((m++[y]).length:Int) - 1)=(m.length:Int):=by rw [wrap64 (by simp only [List.length_append,List.length_cons,List.length_nil]; omega) (by simp only [List.length_append,List.length_cons,List.length_nil]; omega)]; simp
  rw [decide_eq_true (by simp only [List.length_append,List.length_cons,List.length_nil]; omega),ak,e1];refine lP (x:=y) (by rw [List.getElem?_append_right (Nat.le_refl _)]; simp) ?_
  cases h:(y==0) with
  | true=>
   have h:y=0:=by simpa using h
   subst h;rw [ak];refine ⟨⟨by omega,by omega,by simp only [List.length_append,List.length_cons,List.length_nil]; omega⟩, ?_⟩;have e2:sub (m++[(0:Int)]) 0 (m.length:Int)=m:=by rw [qL]; simp
   rw [e2]
   exact ih m _ rfl rfl (by omega) (by omega) fun r hr hrl=>H r (by
    rw [hr]; unfold allZ;simp only [List.mem_append,List.mem_singleton]
    exact ⟨fun h x hx=>hx.elim (h x) id,fun h x hx=>h x (.inl hx)⟩) (by omega)
  | false=> rw [aa];exact H _ Iff.rfl (by simp; omega)
theorem tr {Q:List Int->Prop}: ∀ (l:List Int) (c:bf.V),c.s0=l->c.c1=0->l.length<=100000->(∀ r,(r=[]↔allZ l)->Q r)->bf.L1 Q c:=by
 intro l
 induction l with
 | nil=>
  rintro ⟨s0,c1,l9⟩ e1 e2 hn H;dsimp only at e1 e2;subst e1 e2;refine bf.bG ?_;unfold bf.B1 bf.K2; dsimp only;rw [decide_eq_false (by simp),aa,aa];rw [show ((([]:List Int).length:Int)==0)=true from rfl,ak]
  exact H [] (by simp [allZ])
 | cons y l ih=>
  rintro ⟨s0,c1,l9⟩ e1 e2 hn H;dsimp only at e1 e2;subst e1 e2;simp only [List.length_cons] at hn;refine bf.bG ?_;unfold bf.B1 bf.K2; dsimp only;rw [decide_eq_true (by simp only [List.length_cons]; omega),ak];refine Mk (x:=y) (by omega) rfl ?_
  cases h:(y==0) with
  | true=>
   have h:y=0:=by simpa using h
   subst h;rw [ak];refine ⟨⟨by omega,by simp only [List.length_cons]; omega,by omega⟩, ?_⟩;have e2:sub ((0:Int)::l) 1 ((((0:Int)::l).length:Nat):Int)=l:=by rw [qM]; rfl
   rw [e2]
   exact ih _ rfl rfl (by omega) fun r hr=>H r (by rw [hr]; unfold allZ; simp)
  | false=>
   have h:y ≠ 0:=by simpa using h
   have e:(((y::l).length:Int)==0)=false:=by rw [beq_eq_false_iff_ne]; simp only [List.length_cons]; omega
   rw [aa,e,aa];exact H _ (by simp only [reduceCtorEq,false_iff]; intro hz; exact h (hz y (by simp)))
theorem Dh {l:List Int} {Q:Bool->Prop} (hl:l.length<=100000) (H:Q (decide (allZ l))):lQ l Q:=by
 unfold lQ cF;have e0:((⟨#[0]⟩:ByteArray).data.toList.getD (Int.toNat (0:Int)) 0).toNat=0:=by decide
 cases h:((l.length:Int)==0) with
 | true=>
  have h:l=[]:=by simp at h; exact h
  subst h;rw [ak]
  simpa [allZ] using H
 | false=>
  have e1:((⟨#[0]⟩:ByteArray).toList==(⟨#[]⟩:ByteArray).toList)=false:=by
   have a1:(⟨#[0]⟩:ByteArray).toList=[0]:=by simp [ByteArray.toList,ByteArray.toList.loop,ByteArray.size,ByteArray.get!]
   have a2:(⟨#[]⟩:ByteArray).toList=[]:=by simp [ByteArray.toList,ByteArray.toList.loop,ByteArray.size]
   rw [a1,a2]; rfl
  have e2:(((⟨#[0]⟩:ByteArray).size:Int)==1)=true:=by decide
  rw [aa,e1,aa,e2,ak];refine ⟨by decide, ?_⟩;unfold cF.K1; dsimp only;rw [e0];have e3:decide (((0:Nat):Int)<128)=true:=by decide
  rw [e3,ak];refine ⟨by decide,by decide, ?_⟩;unfold aU;refine rK l.length l _ rfl rfl rfl hl fun r hr hrl=> ?_;unfold bf;refine tr r _ rfl rfl (by omega) fun r2 VQ=> ?_
  have e:((r2.length:Int)==0)=decide (allZ l):=by rw [Bool.eq_iff_iff,decide_eq_true_iff,<- hr,<- VQ];simp
  show Q ((r2.length:Int)==0);rw [e]; exact H
variable {b:List Int} {e:Int}
theorem LB {Q:bP->Prop} {k:Int} (H:Q ⟨b,k⟩):dP k ⟨b,0⟩ Q:=by unfold dP;rw [show ((0:Int)==0)=true from rfl,ak]; exact H
theorem rL {Q:List Int->bP->Prop} {n:Nat} (hn:n<=b.length) (hb:b.length<=100000) (H:Q (b.take n) ⟨b.drop n,0⟩):cT (n:Int) ⟨b,0⟩ Q:=by unfold cT ct;dsimp only;rw [show ((0:Int) !=0)=false from rfl,aa,if_neg (by omega),decide_eq_false (by omega),aa];refine ⟨⟨by omega,by omega,by omega⟩,⟨by omega,by omega,by omega⟩, ?_⟩;rw [qL,qM,Int.toNat_natCast];exact jv (by rw [List.length_take]; omega) H
theorem uE {Q:List Int->bP->Prop} {n:Int} (he:e ≠ 0) (H:Q [] ⟨b,e⟩):cT n ⟨b,e⟩ Q:=by unfold cT ct;dsimp only;rw [show (e !=0)=true by simpa using he,ak]; exact H
theorem uF {Q:aK.QT} {l:List Int} (hl:bytesL l) (hn:l.length<=8) {r:bP} {most:Int}
  (H: ∀ c:aK.V,c.r0=r->c.ny=most->c.n7=valB l->br (r.e==0) (aK.K2 Q {c with fM:=decide (valB l>most)}) (aK.K2 Q {c with fM:=false})):
  ∀ (c:aK.V),c.r0=r->c.ny=most->c.n7=0->c.iP=l->c.l9=(l.length:Int)->c.wE=0->aK.L1 Q c:=by
 have key: ∀ (rest acc:List Int) (c:aK.V),l=acc++rest->c.r0=r->c.ny=most->c.n7=valB acc->c.iP=l->c.l9=(l.length:Int)->c.wE=(acc.length:Int)->aK.L1 Q c:=by
  intro rest
  induction rest with
  | nil=>
   rintro acc ⟨r0,m2,n7,iP,l9,wE,fM⟩ e q1 q2 q3 q4 q5 q6;have e':acc=l:=by simpa using e.symm
   subst e';dsimp only at q1 q2 q3 q4 q5 q6;subst q1 q2 q3 q4 q5 q6;refine aK.bG ?_;unfold aK.B1 ct; dsimp only;rw [decide_eq_false (by omega),aa]
   exact H ⟨r0,m2,valB iP,iP,_,_,fM⟩ rfl rfl rfl
  | cons x rest ih=>
   intro acc c e q1 q2 q3 q4 q5 q6;have hll:l.length=acc.length+(rest.length+1):=by rw [e]; simp
   have hx:=hl x (by rw [e]; simp);have ha:=mG (l:=acc) fun y hy=>hl y (by rw [e]; simp [hy]);have h7:acc.length<=7:=by omega
   have hp:=ov h7;have xQ:(256:Int) ^ 7=72057594037927936:=by decide
   have hpos:0<(256:Int) ^ acc.length:=Int.pow_pos (by decide);have hxp:x*256 ^ acc.length<=255*256 ^ acc.length:=Int.mul_le_mul_of_nonneg_right (by omega) (by omega);have WO:0<=x*256 ^ acc.length:=Int.mul_nonneg hx.1 (by omega);refine aK.bG ?_;unfold aK.B1;rw [q5,q6,q4,decide_eq_true (by omega),ak];refine lP (x:=x) (by rw [e]; exact IN) ?_;have e1:IntKind.wrap .i64 ((8:Int)*(acc.length:Int))=((8*acc.length:Nat):Int):=by rw [wrap64 (by omega) (by omega)]; omega
   have e2:min (8*acc.length) (IntKind.bits .u64)=8*acc.length:=by have:IntKind.bits .u64=64:=rfl;rw [this]; omega
   have e3:((2:Int) ^ (8*acc.length))=256 ^ acc.length:=by rw [Int.pow_mul]; rfl
   rw [e1];refine fV (by omega) ?_;have e4:IntKind.bits .u64=64:=rfl;rw [Int.toNat_natCast,e2,e3,wrap_u64 (n:=x) (by omega) (by omega),wrap_u64 (n:=x*256 ^ acc.length) (by omega) (by omega),e4,q3,D9 ha hx (by omega),wrap_u64 (by omega) (by omega),wrap64 (by omega) (by omega)];have e5:valB (acc++[x])=valB acc+x*256 ^ acc.length:=by rw [pz]; simp [valB,Int.mul_comm]
   refine ih (acc++[x]) _ (by rw [e]; simp) q1 q2 ?_ rfl rfl ?_
   ·dsimp only; rw [e5]
   ·dsimp only; simp
 exact fun c q1 q2 q3 q4 q5 q6=>key l [] c rfl q1 q2 q3 q4 q5 (by simpa using q6)
theorem vG {Q:aK.QT} {k:Nat} {most:Int} (hk:1<=k/\k<=8) (hkb:k<=b.length) (hb:bytesL b) (hbl:b.length<=100000)
  (H:if valB (b.take k)<=most then Q (valB (b.take k)) ⟨b.drop k,0⟩ else Q 0 ⟨b.drop k,3⟩):aK (k:Int) most ⟨b,0⟩ Q:=by
 unfold aK gu
 have e:(if (8:Int)<(if (1:Int)>(k:Int) then (1:Int) else (k:Int)) then (8:Int) else (if (1:Int)>(k:Int) then (1:Int) else (k:Int)))=(k:Int):=by rw [if_neg (by omega),if_neg (by omega)]
 rw [e];refine rL hkb hbl (uF (r:=⟨b.drop k,0⟩) (most:=most) (fun x hx=>hb x (List.mem_of_mem_take hx)) (by rw [List.length_take]; omega) ?_ _ rfl rfl rfl rfl rfl rfl);intro c q1 q2 q3;rw [show ((0:Int)==0)=true from rfl,ak];unfold aK.K2; dsimp only
 by_cases h:valB (b.take k)<=most
 ·rw [if_pos h] at H
  rw [decide_eq_false (by omega),aa,q1,q3];exact H
 ·rw [if_neg h] at H
  rw [decide_eq_true (by omega),ak,q1];exact LB H
theorem EM {Q:aK.QT} {k most:Int} (he:e ≠ 0) (H:Q 0 ⟨b,e⟩):aK k most ⟨b,e⟩ Q:=by unfold aK gu;refine uE he (uF (l:=[]) (r:=⟨b,e⟩) (most:=most) (fun x hx=>by cases hx) (by simp) ?_ _ rfl rfl rfl rfl rfl rfl);intro c q1 q2 q3;rw [show (e==0)=false by simpa using he,aa];unfold aK.K2; dsimp only;rw [aa,q1,q3]; exact H
theorem Ju {Q:bB.QT} (hb:b.length<=100000) (H: ∀ e':Int,(e'=0↔allZ b)-> ∀ r,Q e' r):bB ⟨b,0⟩ Q:=by
 unfold bB ct;dsimp only;rw [show ((0:Int)==0)=true from rfl,ak];refine Dh hb ?_;unfold bB.K1 bB.K2; dsimp only
 by_cases hz:allZ b
 ·rw [decide_eq_true hz,Bool.not_true,aa]
  unfold ct;exact H 0 (by simp [hz]) _
 ·rw [decide_eq_false hz,Bool.not_false,ak]
  refine LB ?_;unfold ct;exact H 3 (by simp [hz]) _
end Go.Pt
namespace Go.Pt
open Go Go.Wc Go.Pu
def DJ (l:List Int):Vector Int 32:=cpV (Vector.replicate 32 (0:Int)) (Int.toNat (0:Int)) l
theorem rM {l:List Int} (h:l.length=32):(DJ l).toList=l:=by unfold DJ;rw [zM];simp [cpL,List.take_of_length_le (Nat.le_of_eq h),List.drop_eq_nil_of_le,h]
def rfAt (q:List Int):af:=⟨q.getD 0 0,valB ((q.drop 1).take 4),DJ ((q.drop 5).take 32)⟩
def zR:af:=⟨0,0,Vector.replicate 32 0⟩
theorem Ro {q:List Int} (h:1<=q.length):valB (q.take 1)=q.getD 0 0:=by
 cases q with
 | nil=>simp at h
 | cons x q=>simp [valB]
theorem LC {q:List Int} (h:bytesL q):gE (valB (q.take 4)):=by
 have:=mG (l:=q.take 4) fun x hx=>h x (List.mem_of_mem_take hx);have e:(256:Int) ^ (q.take 4).length<=256 ^ 4:=ov (by rw [List.length_take]; omega);have e4:(256:Int) ^ 4=4294967296:=by decide
 unfold gE; omega
theorem xR {q:List Int} {Q:aF->Int->Prop} (hl:q.length=37) (hb:bytesL q) (H1:q.getD 0 0<=1->Q (sr (rfAt q)) 0) (H2: ¬ q.getD 0 0<=1->Q (sr zR) 1):jf q Q:=by
 have h0:=bX hb 0;have uG:bytesL (q.drop 1):=fun x hx=>hb x (List.mem_of_mem_drop hx);unfold jf jH;rw [hl,show (((37:Nat):Int) !=37)=false by decide,aa];refine vG (k:=1) (by omega) (by omega) hb (by omega) ?_;rw [Ro (by omega)]
 by_cases h:q.getD 0 0<=1
 ·rw [if_pos h]
  refine vG (k:=4) (by omega) (by rw [List.length_drop]; omega) uG (by rw [List.length_drop]; omega) ?_;have hv:=LC uG;rw [if_pos (by unfold gE at hv; omega)];refine rL (n:=32) (by rw [List.length_drop,List.length_drop]; omega) (by rw [List.length_drop,List.length_drop]; omega) ?_;unfold ct; dsimp only;rw [show ((0:Int) !=0)=false from rfl,aa,wrap64 (by omega) (by omega),bS hv,List.drop_drop];exact H1 h
 ·rw [if_neg h]
  refine EM (by decide) (uE (by decide) ?_);unfold ct; dsimp only;rw [show ((3:Int) !=0)=true from rfl,ak];exact H2 h
theorem xS {q:List Int} {Q:ay.QT} (hl:q.length=37) (hb:bytesL q) (H1:q.getD 0 0<=1->Q (rfAt q) 0) (H2: ¬ q.getD 0 0<=1->Q zR 1):ay q Q:=by
 have h0:=bX hb 0;have hg:q[0]'(by omega)=q.getD 0 0:=by rw [List.getD_eq_getElem?_getD,List.getElem?_eq_getElem (by omega)]; rfl
 unfold ay;rw [hl,show (((37:Nat):Int) !=37)=false by decide,aa];refine fC 0 rfl (by omega) ?_;rw [hg];unfold ay.K1; dsimp only
 by_cases h:q.getD 0 0<=1
 ·rw [decide_eq_false (by omega),aa]
  refine fC 0 rfl (by omega) ?_;rw [hg,wrap64 (by omega) (by omega)]
  have l3: ∀ (j i:Nat) (c:ay.V) (D:Vector Int 32),i+j=32->c.b0=q->c.i6=(i:Int)->c.r4=⟨q.getD 0 0,valB ((q.drop 1).take 4),D⟩->D.toList=(q.drop 5).take i++List.replicate (32 - i) 0->ay.L3 Q c:=by
   intro j
   induction j with
   | zero=>
    intro i c D ei e1 e2 e3 e4;refine ay.gH ?_;unfold ay.B3;rw [e2,decide_eq_false (by omega),aa,e3]
    have eD:D=DJ ((q.drop 5).take 32):=by
     apply Vector.toList_inj.1;rw [e4,rM (by rw [List.length_take,List.length_drop]; omega)];obtain rfl:i=32:=by omega
     simp
    rw [eD]
    exact H1 h
   | succ j ih=>
    intro i c D ei e1 e2 e3 e4;refine ay.gH ?_;unfold ay.B3;rw [e2,decide_eq_true (by omega),ak,e1,wrap64 (by omega) (by omega)];refine fC (5+i) (by omega) (by omega) ?_;refine fC i rfl (by rw [Vector.length_toList]; omega) ?_;rw [cK (by omega),e3];refine ih (i+1) _ (D.setIfInBounds (Int.toNat (i:Int)) (q[5+i]'(by omega))) (by omega) rfl rfl rfl ?_;rw [Vector.toList_setIfInBounds,e4,Int.toNat_natCast];have hi:i<(q.drop 5).length:=by rw [List.length_drop]; omega
    have et:((q.drop 5).take i).length=i:=by rw [List.length_take]; omega
    rw [List.set_append_right _ _ (by omega),et,Nat.sub_self,dg hi,show 32 - i=(32 - (i+1))+1 by omega,List.replicate_succ,List.set_cons_zero,List.append_assoc];simp
  have l2: ∀ (j i:Nat) (c:ay.V),i+j=4->c.b0=q->c.i5=(i:Int)->c.r4=⟨q.getD 0 0,valB ((q.drop 1).take i),Vector.replicate 32 0⟩->ay.L2 Q c:=by
   intro j
   induction j with
   | zero=>
    intro i c ei e1 e2 e3;refine ay.cw ?_;unfold ay.B2;rw [e2,decide_eq_false (by omega),aa];obtain rfl:i=4:=by omega
    exact l3 32 0 _ _ (by omega) e1 rfl e3 (by simp)
   | succ j ih=>
    intro i c ei e1 e2 e3;refine ay.cw ?_;unfold ay.B2;rw [e2,decide_eq_true (by omega),ak,e1,wrap64 (n:=1+(i:Int)) (by omega) (by omega),wrap64 (n:=8*(i:Int)) (by omega) (by omega)];refine fC (1+i) (by omega) (by omega) ?_;refine fV (by omega) ?_;rw [cK (by omega),e3];have hi:i<(q.drop 1).length:=by rw [List.length_drop]; omega
    have hx:=hb _ (List.getElem_mem (show 1+i<q.length by omega));have hv:=mG (l:=(q.drop 1).take i) fun x hx=>hb x (List.mem_of_mem_drop (List.mem_of_mem_take hx));have hil:((q.drop 1).take i).length=i:=by rw [List.length_take]; omega
    rw [hil] at hv
    have hp:(256:Int) ^ i*256<=4294967296:=by
     have:i<=3:=by omega
     have hp:=ov this;have e3:(256:Int) ^ 3=16777216:=by decide
     omega
    have hpos:0<(256:Int) ^ i:=Int.pow_pos (by decide);have hxp:(q[1+i]'(by omega))*256 ^ i<=255*256 ^ i:=Int.mul_le_mul_of_nonneg_right (by omega) (by omega);have WO:0<=(q[1+i]'(by omega))*256 ^ i:=Int.mul_nonneg hx.1 (by omega)
    have e2:min (Int.toNat (8*(i:Int))) (IntKind.bits .u32)=8*i:=by have:IntKind.bits .u32=32:=rfl;rw [this]; omega
    have e3:((2:Int) ^ (8*i))=256 ^ i:=by rw [Int.pow_mul]; rfl
    refine ih (i+1) _ (by omega) rfl rfl ?_;dsimp only;rw [e2,e3,wrap_u32 (q[1+i]'(by omega)),Int.emod_eq_of_lt (by omega) (by omega),wrap_u32 ((q[1+i]'(by omega))*256 ^ i),Int.emod_eq_of_lt (by omega) (by omega),wrap_u32,Int.emod_eq_of_lt (by omega) (by omega)];rw [dg hi,pz,hil];simp [valB,Int.mul_comm,Nat.add_comm 1 i]
  exact l2 4 0 _ (by omega) rfl rfl (by simp [valB])
 ·rw [decide_eq_true (by omega),ak]
  exact H2 h
end Go.Pt
namespace Go.Pt
open Go Go.Wc Go.Pu
variable {p:List Int}
def rowS (p:List Int) (i:Nat):List Int:=(p.drop (1+37*i)).take 37
def cntS (p:List Int):Int:=p.getD 0 0
def rfs (p:List Int) (k:Nat):List af:=(List.range k).map fun i=>rfAt (rowS p i)
def okRow (p:List Int) (i:Nat):Prop:=(rowS p i).getD 0 0<=1
def okPg (p:List Int):Prop:=1<=cntS p/\cntS p<=6/\(∀ i:Nat,(i:Int)<cntS p->okRow p i)/\allZ (p.drop (1+37*(cntS p).toNat))
theorem fO (k:Nat):(rfs p k).length=k:=by unfold rfs; simp
theorem EN (k:Nat):rfs p (k+1)=rfs p k++[rfAt (rowS p k)]:=by unfold rfs; rw [List.range_succ,List.map_append]; rfl
theorem vH (hl:p.length=256) {i:Nat} (hi:i<6):(rowS p i).length=37:=by unfold rowS; rw [List.length_take,List.length_drop]; omega
theorem jI (hb:bytesL p) (i:Nat):bytesL (rowS p i):=fun x hx=>hb x (List.mem_of_mem_drop (List.mem_of_mem_take hx))
theorem MU {X:Type} {A:List X} {z r:X} {k i:Nat} (hi:A.length=i):cpP (A++List.replicate (k+1) z) i ((sub (A++List.replicate (k+1) z) (i:Int) ((A++List.replicate (k+1) z).length:Int)).length) [r]=(A++[r])++List.replicate k z:=by
 have hs:SlOk (A++List.replicate (k+1) z) (i:Int) ((A++List.replicate (k+1) z).length:Int):=⟨by omega,by simp; omega,by omega⟩
 rw [cg hs];unfold cpP;have e:min [r].length (((A++List.replicate (k+1) z).length:Int).toNat - (i:Int).toNat)=1:=by simp; omega
 rw [e,<- hi,List.take_left,List.drop_append,List.drop_eq_nil_of_le (by omega)];simp [List.replicate_succ]
theorem oI (hl:p.length=256) (hb:bytesL p) {Q:cr.QT} (H1:okPg p->Q ((rfs p (cntS p).toNat).map sr) 0) (H2: ¬ okPg p->Q [] 9):cr p Q:=by
 have h0:=bX hb 0;change 0<=cntS p/\cntS p<256 at h0;unfold cr jH;rw [hl,show (((256:Nat):Int) !=256)=false by decide,aa];refine vG (k:=1) (by omega) (by omega) hb (by omega) ?_;rw [Ro (by omega),show p.getD 0 0=cntS p from rfl]
 by_cases h6:cntS p<=6
 ·rw [if_pos h6,wrap64 (by omega) (by omega)]
  have hc:((cntS p).toNat:Int)=cntS p:=by omega
  have go: ∀ (j i:Nat) (c:cr.V),i+j=(cntS p).toNat->c.r4=⟨p.drop (1+37*i),0⟩->c.eE=cntS p->c.l6=(rfs p i).map sr++List.replicate j (sr zR)->c.oc=cntS p->c.gX=(i:Int)->(∀ k:Nat,k<i->okRow p k)->cr.L1 Q c:=by
   intro j
   induction j with
   | zero=>
    intro i c ei e1 e2 e3 e4 e5 hr;refine cr.bG ?_;unfold cr.B1;rw [e4,e5,decide_eq_false (by omega),aa,e2]
    cases hz:(cntS p==0) with
    | true=>
     have hz:cntS p=0:=by simpa using hz
     rw [ak];unfold cr.K2; dsimp only;rw [ak]
     exact H2 fun h=>by have:=h.1; omega
    | false=>
     have hz:cntS p ≠ 0:=by simpa using hz
     rw [aa,e1];refine Ju (by rw [List.length_drop]; omega) fun e' he r=> ?_;unfold cr.K2; dsimp only;obtain rfl:i=(cntS p).toNat:=by omega
     by_cases VT:e'=0
     ·rw [show (e' !=0)=false by simpa using VT,aa,e3]
      simp only [List.replicate_zero,List.append_nil];exact H1 ⟨by omega,h6,fun i hi=>hr i (by omega),he.1 VT⟩
     ·rw [show (e' !=0)=true by simpa using VT,ak]
      exact H2 fun h=>VT (he.2 h.2.2.2)
   | succ j ih=>
    intro i c ei e1 e2 e3 e4 e5 hr;have WQ:i<6:=by omega
    refine cr.bG ?_;unfold cr.B1;rw [e4,e5,decide_eq_true (by omega),ak,e1];refine rL (n:=37) (by rw [List.length_drop]; omega) (by rw [List.length_drop]; omega) ?_;change jf (rowS p i) _;refine xR (vH hl WQ) (jI hb i) (fun h=> ?_) (fun h=> ?_)
    ·rw [show ((0:Int) !=0)=false from rfl,aa,e3]
     have hil:((rfs p i).map sr).length=i:=by rw [List.length_map,fO]
     refine ⟨⟨by omega,by simp [fO]; omega,by omega⟩, ?_⟩;rw [Int.toNat_natCast,MU hil,cK (by omega),List.drop_drop];refine ih (i+1) _ (by omega) ?_ e2 ?_ rfl rfl fun k hk=> ?_
     ·dsimp only; rw [show 1+37*i+37=1+37*(i+1) by omega]
     ·dsimp only; rw [EN,List.map_append]; rfl
     ·rcases Nat.lt_or_ge k i with EO | EO
      ·exact hr k EO
      ·obtain rfl:k=i:=by omega
       exact h
    ·rw [show ((1:Int) !=0)=true from rfl,ak]
     exact H2 fun hk=>h (hk.2.2.1 i (by omega))
  refine wX (by omega) ?_;refine go (cntS p).toNat 0 _ (by omega) (by simp) rfl ?_ ?_ rfl (fun k hk=>by omega)
  ·dsimp only; rw [show (rfs p 0)=[] from rfl]; rfl
  ·dsimp only; rw [List.length_replicate]; omega
 ·rw [if_neg h6,wrap64 (by omega) (by omega)]
  refine wX (by omega) ?_;refine cr.bG ?_;unfold cr.B1; dsimp only;rw [show (decide ((0:Int)<((List.replicate (Int.toNat 0) (⟨0,0,Vector.replicate 32 0⟩:aF)).length:Int)))=false by simp,aa,show ((0:Int)==0)=true from rfl,ak];unfold cr.K2; dsimp only;rw [ak];exact H2 fun h=>h6 h.2.1
theorem uH {a b:List Int} {Q:bq.QT} (hl:a.length=b.length) (ha:a.length<=100000) (H:Q (decide (a=b))):bq a b Q:=by
 unfold bq;rw [show ((a.length:Int) !=(b.length:Int))=false by simp; omega,aa]
 have k: ∀ (j i:Nat) (c:bq.V),i+j=a.length->c.a0=a->c.b1=b->c.i5=(i:Int)->a.take i=b.take i->bq.L1 Q c:=by
  intro j
  induction j with
  | zero=>
   intro i c ei e1 e2 e3 h;refine bq.bG ?_;unfold bq.B1;rw [e1,e3,dge (by omega),aa];rw [List.take_of_length_le (by omega),List.take_of_length_le (by omega)] at h;rw [decide_eq_true h] at H
   exact H
  | succ j ih=>
   intro i c ei e1 e2 e3 h;have hi:i<a.length:=by omega
   have qC:i<b.length:=by omega
   refine bq.bG ?_;unfold bq.B1;rw [e1,e2,e3,dlt hi,ak];refine dX hi (dX qC ?_)
   by_cases hq:a[i]=b[i]
   ·rw [show (a[i] !=b[i])=false by simpa using hq,aa,cK (by omega)]
    refine ih (i+1) _ (by omega) rfl rfl rfl ?_;rw [dg hi,dg qC,h,hq]
   ·rw [show (a[i] !=b[i])=true by simpa using hq,ak]
    rw [decide_eq_false (fun e=>hq (by subst e; rfl))] at H;exact H
 exact k a.length 0 _ (by omega) rfl rfl rfl rfl
theorem Jv {l:List Int} (h:bytesL l) (hl:l.length=4):uA (valB l) 4=l:=by
 have:=IQ h;rw [hl] at this
 have e: ∀ n:Int,uA n 4=leB 4 n:=by
  intro n;unfold uA;simp only [show List.range 4=[0,1,2,3] from rfl,List.map_cons,List.map_nil,wrap_u8,leB];simp only [Nat.mul_zero,Int.pow_zero,Int.ediv_one,show (2:Int) ^ (8*1)=256 from rfl,show (2:Int) ^ (8*2)=65536 from rfl,show (2:Int) ^ (8*3)=16777216 from rfl];congr 1; congr 1;congr 1
  ·omega
  ·congr 1; omega
 rw [e,this]
theorem Jw {q:List Int} (hl:q.length=37) (hb:bytesL q):layR (rfAt q)=q:=by
 have h0:=bX hb 0;unfold layR rfAt;dsimp only;rw [wrap_u8,Int.emod_eq_of_lt h0.1 h0.2,Jv (fun x hx=>hb x (List.mem_of_mem_drop (List.mem_of_mem_take hx))) (by rw [List.length_take,List.length_drop]; omega),rM (by rw [List.length_take,List.length_drop]; omega)]
 match q,hl with
 | x::q,hl=>
  simp only [List.getD_cons_zero,List.drop_succ_cons,List.drop_zero,List.length_cons] at hl |-
  rw [List.take_of_length_le (i:=32) (by rw [List.length_drop]; omega)];show x::(q.take 4++q.drop 4)=_;rw [List.take_append_drop]
theorem xT (hl:p.length=256) (hb:bytesL p): ∀ k:Nat,k<=6->catR (rfs p k)=(p.drop 1).take (37*k)
 | 0,_=>by simp [rfs,catR]
 | k+1,hk=>by rw [EN,lU,xT hl hb k (by omega),Jw (vH hl (by omega)) (jI hb k)];unfold rowS;rw [show 37*(k+1)=37*k+37 by omega,List.take_add,List.drop_drop]
theorem BO (hl:p.length=256) (hb:bytesL p) {k:Nat} (hk:k<=6):layS (rfs p k)=p↔(cntS p=k/\allZ (p.drop (1+37*k))):=by
 have h0:=bX hb 0;unfold layS;rw [fO,xT hl hb k hk,wrap_u8,Int.emod_eq_of_lt (by omega) (by omega)]
 obtain ⟨x,q,rfl⟩: ∃ x q,p=x::q:=by
  cases p with
  | nil=>simp at hl
  | cons x q=>exact ⟨x,q,rfl⟩
 simp only [List.length_cons] at hl;rw [show 1+37*k=37*k+1 by omega];simp only [List.drop_succ_cons,List.drop_zero,List.cons_append,List.cons.injEq]
 have e:q.take (37*k)++List.replicate (255 - 37*k) 0=q↔allZ (q.drop (37*k)):=by
  constructor
  ·intro h x hx
   rw [<- h,List.drop_append,List.drop_eq_nil_of_le (by rw [List.length_take]; omega),List.nil_append] at hx;exact List.eq_of_mem_replicate (List.mem_of_mem_drop hx)
  ·intro h
   have:q.drop (37*k)=List.replicate (255 - 37*k) 0:=List.eq_replicate_iff.2 ⟨by rw [List.length_drop]; omega,h⟩;rw [<- this,List.take_append_drop]
 rw [e];constructor
 ·rintro ⟨h1,h2⟩; exact ⟨by unfold cntS; simp; omega,h2⟩
 ·rintro ⟨h1,h2⟩; exact ⟨by unfold cntS at h1; simp at h1; omega,h2⟩
theorem oJ (hl:p.length=256) (hb:bytesL p) {Q:aL.QT} (H1:okPg p->Q (rfs p (cntS p).toNat) 0) (H2: ¬ okPg p->Q [] 9):aL p Q:=by
 have h0:=bX hb 0;change 0<=cntS p/\cntS p<256 at h0;have hc:((cntS p).toNat:Int)=cntS p:=by omega
 have hg:p[0]'(by omega)=cntS p:=by unfold cntS; rw [List.getD_eq_getElem?_getD,List.getElem?_eq_getElem (by omega)]; rfl
 unfold aL;rw [hl,show (((256:Nat):Int) !=256)=false by decide,aa]
 have fin: ∀ (i:Nat) (c:aL.V) (S1:aL.V->Prop),i=min (cntS p).toNat 6->c.c5=p->c.fN=rfs p i->(∀ k:Nat,k<i->okRow p k)->c.gX=false->aL.K2 S1 Q c:=by
  intro i c S1 ei e1 e2 hr e3;unfold aL.K2;rw [e3,aa,e2]
  by_cases hz:i=0
  ·subst hz
   unfold aB;rw [show rfs p 0=[] from rfl,show decide ((([]:List af).length:Int)<1)=true from rfl,ak];unfold aB.K1; dsimp only;rw [ak,show ((1:Int) !=0)=true from rfl,ak];unfold aL.K3; dsimp only;rw [ak];exact H2 fun h=>by have:=h.1; omega
  ·refine Ao (by rw [fO]; omega) ?_ ?_
   ·intro r hr'
    obtain ⟨k,hk,rfl⟩:=List.mem_map.1 hr';have hk:=List.mem_range.1 hk;have h1:=hr k hk;have h2:=bX (jI hb k) 0;unfold okRow at h1;refine ⟨?_,LC fun x hx=>jI hb k x (List.mem_of_mem_drop hx)⟩;show (rowS p k).getD 0 0=0\/(rowS p k).getD 0 0=1;omega
   rw [show ((0:Int) !=0)=false from rfl,aa,e1];refine uH (by rw [nJ (by rw [fO]; omega),hl]) (by rw [nJ (by rw [fO]; omega)]; omega) ?_;unfold aL.K3; dsimp only
   by_cases hq:layS (rfs p i)=p
   ·rw [decide_eq_true hq,show (!true)=false from rfl,aa]
    obtain ⟨g1,g2⟩:=(BO hl hb (by omega)).1 hq;have WT:i=(cntS p).toNat:=by omega
    rw [WT] at g2 hr |-
    exact H1 ⟨by omega,by omega,fun k hk=>hr k (by omega),g2⟩
   ·rw [decide_eq_false hq,show (!false)=true from rfl,ak]
    refine H2 fun h=>hq ((BO hl hb (by omega)).2 ?_);have h1:=h.2.1;have WT:i=(cntS p).toNat:=by omega
    rw [WT]; exact ⟨by omega,h.2.2.2⟩
 have go: ∀ (j i:Nat) (c:aL.V),i+j=min (cntS p).toNat 6->c.c5=p->c.fN=rfs p i->c.i5=(i:Int)->(∀ k:Nat,k<i->okRow p k)->aL.L1 Q c:=by
  intro j
  induction j with
  | zero=>
   intro i c ei e1 e2 e3 hr;refine aL.bG ?_;unfold aL.B1;rw [e1,e3];refine fC 0 rfl (by omega) ?_;rw [hg,wrap64 (by omega) (by omega)]
   by_cases hq:(i:Int)<cntS p
   ·rw [decide_eq_true hq,ak,decide_eq_false (by omega)]
    exact fin i _ _ (by omega) rfl e2 hr rfl
   ·rw [decide_eq_false hq,aa]
    exact fin i _ _ (by omega) rfl e2 hr rfl
  | succ j ih=>
   intro i c ei e1 e2 e3 hr;have WQ:i<6:=by omega
   refine aL.bG ?_;unfold aL.B1;rw [e1,e3];refine fC 0 rfl (by omega) ?_;rw [hg,wrap64 (by omega) (by omega),decide_eq_true (by omega),ak,decide_eq_true (by omega)];unfold aL.K2; dsimp only;rw [ak,wrap64 (n:=37*(i:Int)) (by omega) (by omega),wrap64 (n:=1+37*(i:Int)) (by omega) (by omega),wrap64 (n:=38+37*(i:Int)) (by omega) (by omega)];refine ⟨⟨by omega,by omega,by omega⟩, ?_⟩
   have er:sub p (1+37*(i:Int)) (38+37*(i:Int))=rowS p i:=by unfold sub rowS;rw [show (38+37*(i:Int)).toNat=(1+37*i)+37 by omega,show (1+37*(i:Int)).toNat=1+37*i by omega,List.drop_take];congr 1; omega
   rw [er];refine xS (vH hl WQ) (jI hb i) (fun h=> ?_) (fun h=> ?_)
   ·rw [show ((0:Int) !=0)=false from rfl,aa,e2]
    refine ⟨cn (by simp [fO]; omega), ?_⟩;rw [cK (by omega)];refine ih (i+1) _ (by omega) rfl ?_ rfl fun k hk=> ?_
    ·dsimp only; rw [EN]
    ·rcases Nat.lt_or_ge k i with EO | EO
     ·exact hr k EO
     ·obtain rfl:k=i:=by omega
      exact h
   ·rw [show ((1:Int) !=0)=true from rfl,ak]
    exact H2 fun hk=>h (hk.2.2.1 i (by omega))
 exact go (min (cntS p).toNat 6) 0 _ (by omega) rfl rfl rfl (fun k hk=>by omega)
theorem Au {many:Int} (hb:bytesL p) (hp:p.length=256\/p=[]) (hm:1<=many/\many<=6): ∃ (l:List af) (e:Int),l.length<=6/\
  (∀ Q:cj.QT,Q (l.map sr) e->cj p many Q)/\(∀ Q:az.QT,Q l e->az p many Q)/\
  (okPg p->p.length=256->cntS p=many->l=rfs p (cntS p).toNat/\e=0):=by
 have VU: ∀ (Q:cj.QT),cr p (fun gW oA=>br (oA !=(0:Int)) (Q ([]:List aF) oA) (br ((gW.length:Int) !=many) (Q ([]:List aF) (9:Int)) (Q gW (0:Int))))->cj p many Q:=by intro Q H;unfold cj;rw [decide_eq_false (by omega),aa,decide_eq_false (by omega)];unfold cj.K1; dsimp only;rw [aa];exact H
 have VV: ∀ (Q:az.QT),(∀ c:az.V,c.many1=many->aL p (fun sY gW=>br (gW==(0:Int)) (az.K2 Q {c with l6:=sY,e7:=gW,MI:=((sY.length:Int) !=many)}) (az.K2 Q {c with l6:=sY,e7:=gW,MI:=false})))->az p many Q:=by intro Q H;unfold az;rw [decide_eq_false (by omega),aa,decide_eq_false (by omega)];unfold az.K1; dsimp only;rw [aa];exact H {az.v0 with c5:=p,many1:=many,iP:=false} rfl
 by_cases xQ:p.length=256
 ·by_cases hok:okPg p
  ·by_cases hc:cntS p=many
   ·refine ⟨rfs p (cntS p).toNat,0,by rw [fO]; have:=hok.2.1; omega,fun Q h=>VU Q ?_,fun Q h=>VV Q fun c hcm=> ?_,fun _ _ _=>⟨rfl,rfl⟩⟩
    ·refine oI xQ hb (fun _=> ?_) (fun h=>absurd hok h)
     rw [show ((0:Int) !=0)=false from rfl,aa,List.length_map,fO,show ((((cntS p).toNat:Nat):Int) !=many)=false by simp; omega,aa];exact h
    ·refine oJ xQ hb (fun _=> ?_) (fun h=>absurd hok h)
     rw [show ((0:Int)==0)=true from rfl,ak];unfold az.K2; dsimp only;rw [fO,show ((((cntS p).toNat:Nat):Int) !=many)=false by simp; omega,aa];exact h
   ·refine ⟨[],9,by simp,fun Q h=>VU Q ?_,fun Q h=>VV Q fun c hcm=> ?_,fun _ _ h=>absurd h hc⟩
    ·have h1:=hok.1
     refine oI xQ hb (fun _=> ?_) (fun h=>absurd hok h);rw [show ((0:Int) !=0)=false from rfl,aa,List.length_map,fO,show ((((cntS p).toNat:Nat):Int) !=many)=true by simp; omega,ak];exact h
    ·have h1:=hok.1
     refine oJ xQ hb (fun _=> ?_) (fun h=>absurd hok h);rw [show ((0:Int)==0)=true from rfl,ak];unfold az.K2; dsimp only;rw [fO,show ((((cntS p).toNat:Nat):Int) !=many)=true by simp; omega,ak];exact h
  ·refine ⟨[],9,by simp,fun Q h=>VU Q ?_,fun Q h=>VV Q fun c hcm=> ?_,fun h=>absurd h hok⟩
   ·refine oI xQ hb (fun h=>absurd h hok) (fun _=> ?_)
    rw [show ((9:Int) !=0)=true from rfl,ak];exact h
   ·refine oJ xQ hb (fun h=>absurd h hok) (fun _=> ?_)
    rw [show ((9:Int)==0)=false from rfl,aa];unfold az.K2; dsimp only;rw [aa];exact h
 ·obtain rfl:p=[]:=hp.resolve_left xQ
  refine ⟨[],1,by simp,fun Q h=>VU Q ?_,fun Q h=>VV Q fun c hcm=> ?_,fun _ h=>by simp at h⟩
  ·unfold cr
   rw [show ((([]:List Int).length:Int) !=256)=true by decide,ak];show br ((1:Int) !=0) _ _;rw [show ((1:Int) !=0)=true from rfl,ak];exact h
  ·unfold aL
   rw [show ((([]:List Int).length:Int) !=256)=true by decide,ak];show br ((1:Int)==0) _ _;rw [show ((1:Int)==0)=false from rfl,aa];unfold az.K2; dsimp only;rw [aa];exact h
end Go.Pt
namespace Go.Pt
open Go Go.Wc Go.Pu
variable {key:Vector Int 32} {e:Int} {pages:List (List Int)}
theorem valle (n:Int) (h:gE n):valB (uA n 4)=n:=by
 have e:uA n 4=leB 4 n:=by
  unfold uA;simp only [show List.range 4=[0,1,2,3] from rfl,List.map_cons,List.map_nil,wrap_u8,leB];simp only [Nat.mul_zero,Int.pow_zero,Int.ediv_one,show (2:Int) ^ (8*1)=256 from rfl,show (2:Int) ^ (8*2)=65536 from rfl,show (2:Int) ^ (8*3)=16777216 from rfl];congr 1; congr 1;congr 1
  ·omega
  ·congr 1; omega
 rw [e];exact IS h.1 (by rw [show (256:Int) ^ 4=4294967296 by decide]; exact h.2)
theorem BP (n:Int):(uA n 4).length=4:=by unfold uA; simp
theorem Jx {r:af} (hp:r.Place=0\/r.Place=1) (he:gE r.cu):rfAt (layR r)=r:=by
 have hd:r.bY.toList.length=32:=Vector.length_toList ..
 have ew:IntKind.wrap .u8 r.Place=r.Place:=by rw [wrap_u8]; omega
 have e1:(layR r).getD 0 0=r.Place:=by show IntKind.wrap .u8 r.Place=_; exact ew
 have e2:((layR r).drop 1).take 4=uA r.cu 4:=by show (uA r.cu 4++r.bY.toList).take 4=_;rw [List.take_left' (BP _)]
 have e3:((layR r).drop 5).take 32=r.bY.toList:=by show ((uA r.cu 4++r.bY.toList).drop 4).take 32=_;rw [List.drop_left' (BP _),List.take_of_length_le (by omega)]
 unfold rfAt;rw [e1,e2,e3,valle _ he];have:DJ r.bY.toList=r.bY:=Vector.toList_inj.1 (rM hd);rw [this]
theorem xU: ∀ {l:List af} {i:Nat} (hi:i<l.length),((catR l).drop (37*i)).take 37=layR l[i]
 | r::l,0,_=>by
  show (layR r++catR l).take 37=_
  rw [List.take_left' (k7 r)]; rfl
 | r::l,i+1,h=>by show ((layR r++catR l).drop (37*(i+1))).take 37=_;rw [show 37*(i+1)=(layR r).length+37*i by rw [k7]; omega,List.drop_append,List.drop_eq_nil_of_le (by omega),List.nil_append,Nat.add_sub_cancel_left];exact xU (l:=l) (by simpa using h)
theorem BQ {l:List af} (hl:l.length<=6) {i:Nat} (hi:i<l.length):rowS (layS l) i=layR l[i]:=by unfold rowS layS;rw [show 1+37*i=37*i+1 by omega,List.cons_append,List.drop_succ_cons,List.drop_append_of_le_length (by rw [gO]; omega),List.take_append_of_le_length (by rw [List.length_drop,gO]; omega)];exact xU hi
theorem lV {l:List af} (hl:l.length<=6):cntS (layS l)=l.length:=by show IntKind.wrap .u8 (l.length:Int)=_;rw [wrap_u8]; omega
theorem Jy {p:List Int} {k i:Nat} (h:i<k):(rfs p k)[i]? =some (rfAt (rowS p i)):=by simp only [rfs,List.getElem?_map,List.getElem?_range h,Option.map_some]
theorem Jz {l:List af} (hl:l.length<=6) (hr:okR l):rfs (layS l) l.length=l:=by
 apply List.ext_getElem?;intro i
 by_cases h:i<l.length
 ·rw [Jy h,BQ hl h,List.getElem?_eq_getElem h]
  have:=hr _ (List.getElem_mem h);rw [Jx this.1 this.2]
 ·rw [List.getElem?_eq_none (by rw [fO]; omega),List.getElem?_eq_none (by omega)]
theorem MV {l:List af} (hl:1<=l.length/\l.length<=6) (hr:okR l):okPg (layS l):=by
 refine ⟨by rw [lV hl.2]; omega,by rw [lV hl.2]; omega,fun i hi=> ?_, ?_⟩
 ·rw [lV hl.2] at hi
  have qC:i<l.length:=by omega
  unfold okRow;rw [BQ hl.2 qC];have:=(hr _ (List.getElem_mem qC)).1;show IntKind.wrap .u8 l[i].Place<=1;rw [wrap_u8]; omega
 ·rw [lV hl.2,Int.toNat_natCast]
  unfold layS;rw [show 1+37*l.length=37*l.length+1 by omega,List.cons_append,List.drop_succ_cons,List.drop_append,List.drop_eq_nil_of_le (by rw [gO]; omega)];intro x hx;exact List.eq_of_mem_replicate (List.mem_of_mem_drop (by simpa using hx))
theorem Av {r:af} (hd:bytesL r.bY.toList):bytesL (layR r):=fun x hx=>by
 unfold layR at hx;rcases List.mem_append.1 hx with hx | hx
 ·rcases List.mem_cons.1 hx with rfl | hx
  ·rw [wrap_u8]; omega
  ·obtain ⟨i,_,rfl⟩:=List.mem_map.1 hx
   rw [wrap_u8]; omega
 ·exact hd x hx
theorem Aw {l:List af} (hd: ∀ r ∈ l,bytesL r.bY.toList):bytesL (layS l):=fun x hx=>by
 unfold layS at hx;rcases List.mem_append.1 hx with hx | hx
 ·rcases List.mem_cons.1 hx with rfl | hx
  ·rw [wrap_u8]; omega
  ·have: ∀ (l:List af),(∀ r ∈ l,bytesL r.bY.toList)-> ∀ x ∈ catR l,0<=x/\x<256:=by
    intro l
    induction l with
    | nil=>intro _ x hx; cases hx
    | cons r l ih=>
     intro h x hx;rcases List.mem_append.1 hx with hx | hx
     ·exact Av (h r (by simp)) x hx
     ·exact ih (fun q hq=>h q (by simp [hq])) x hx
   exact this l hd x hx
 ·rw [List.eq_of_mem_replicate hx]; omega
def pgF (key:Vector Int 32) (e:Int) (pages:List (List Int)) (i:Nat):List Int:=pgI pages (runM key e pages i).2 i
def rfF (key:Vector Int 32) (e:Int) (pages:List (List Int)) (i:Nat):af:=refI key e i (pgF key e pages i)
theorem xV: ∀ {k i:Nat},i<k->(runM key e pages k).1[i]? =some ⟨bN i,hidI key e i (pgF key e pages i)⟩
 | k+1,i,h=>by
  show ((runM key e pages k).1++[_])[i]? =_;rcases Nat.lt_or_ge i k with h1 | h1
  ·rw [List.getElem?_append_left (by rw [ke]; exact h1)]; exact xV h1
  ·obtain rfl:i=k:=by omega
   rw [List.getElem?_append_right (by rw [ke]; omega),ke,Nat.sub_self]; rfl
theorem BR: ∀ {k i:Nat},i<k->(runM key e pages k).2[i]? =some (rfF key e pages i)
 | k+1,i,h=>by
  show ((runM key e pages k).2++[_])[i]? =_;rcases Nat.lt_or_ge i k with h1 | h1
  ·rw [List.getElem?_append_left (by rw [iy]; exact h1)]; exact BR h1
  ·obtain rfl:i=k:=by omega
   rw [List.getElem?_append_right (by rw [iy]; omega),iy,Nat.sub_self]; rfl
theorem EP {k:Nat} {x:cO} (h:x ∈ (runM key e pages k).1): ∃ i,i<k/\x=⟨bN i,hidI key e i (pgF key e pages i)⟩:=by
 obtain ⟨i,hi⟩:=List.mem_iff_getElem?.1 h;have hlt:i<k:=by have:=(List.getElem?_eq_some_iff.1 hi).1; rwa [ke] at this
 rw [xV hlt] at hi;exact ⟨i,hlt,(Option.some.inj hi).symm⟩
theorem ER {k:Nat} {x:af} (h:x ∈ (runM key e pages k).2): ∃ i,i<k/\x=rfF key e pages i:=by
 obtain ⟨i,hi⟩:=List.mem_iff_getElem?.1 h;have hlt:i<k:=by have:=(List.getElem?_eq_some_iff.1 hi).1; rwa [iy] at this
 rw [BR hlt] at hi;exact ⟨i,hlt,(Option.some.inj hi).symm⟩
theorem JA (i:Nat):bytesL (rfF key e pages i).bY.toList:=by show bytesL (digV _).toList;rw [uy]; exact An _
def okU (n:Int):Bool:=(List.range (hOf n).Level.length).all fun t=>decide (t+1=(hOf n).Level.length) || (List.range (hOf n).Level.length).any fun p=>decide (t<p) && decide (n<=(p:Int)) && decide ((kidsR (hOf n) p).getD 0 0<=(t:Int)) && decide ((t:Int)<(kidsR (hOf n) p).getD 0 0+(kidsR (hOf n) p).length)
theorem JB:((List.range 14).all fun n=>okU ((n:Int)+1))=true:=by decide+kernel
theorem Rq {n:Int} (hn:1<=n/\n<=14) {t:Nat} (ht:t<(hOf n).Level.length):t+1=(hOf n).Level.length\/ ∃ p:Nat,t<p/\p<(hOf n).Level.length/\n<=(p:Int)/\(kidsR (hOf n) p).getD 0 0<=(t:Int)/\(t:Int)<(kidsR (hOf n) p).getD 0 0+(kidsR (hOf n) p).length:=by
 have h:=List.all_eq_true.1 JB (n - 1).toNat (List.mem_range.2 (by omega));rw [show (((n - 1).toNat:Nat):Int)+1=n by omega] at h;unfold okU at h;have h2:=List.all_eq_true.1 h t (List.mem_range.2 ht);rcases Bool.or_eq_true_iff.1 h2 with h3 | h3
 ·exact .inl (of_decide_eq_true h3)
 ·obtain ⟨p,hp,h4⟩:=List.any_eq_true.1 h3
  simp only [Bool.and_eq_true,decide_eq_true_eq] at h4;exact .inr ⟨p,h4.1.1.1,List.mem_range.1 hp,h4.1.1.2,h4.1.2,h4.2⟩
theorem MC.xW (C:MC key e pages) (hb: ∀ x ∈ pages,bytesL x) {i:Nat}:bytesL (pgF key e pages i):=by
 unfold pgF pgI
 by_cases h:i<pages.length
 ·rw [if_pos h,List.getD_eq_getElem?_getD,List.getElem?_eq_getElem h]
  exact hb _ (List.getElem_mem h)
 ·rw [if_neg h]
  refine Aw fun r hr=> ?_;obtain ⟨k,_,rfl⟩:=ER (List.mem_of_mem_take (List.mem_of_mem_drop hr));exact JA k
structure SM (key:Vector Int 32) (e:Int) (pages:List (List Int)) (s:aH):Prop where
 ok:blkOk s (2+2*(hOf (pages.length:Int)).Level.length)
 waits:s.waits=[]
 bytes:bytesL s.blocks
 get: ∀ i:Nat,i<(hOf (pages.length:Int)).Level.length->(s.blocks.take (256*(2+2*i)+256)).drop (256*(2+2*i))=hidI key e i (pgF key e pages i)
theorem Di {n:Nat} {Q:dm.QT} (hn:1<=n/\n<=1024) (H:Q ⟨List.replicate (256*n) 0,[],[],[]⟩ 0):dm (n:Int) Q:=by unfold dm;rw [decide_eq_false (by omega),aa,decide_eq_false (by omega)];unfold dm.K1; dsimp only;rw [aa,wrap64 (n:=(n:Int)*256) (by omega) (by omega)];refine wX (by omega) ?_;rw [show ((n:Int)*256).toNat=256*n by omega];exact H
theorem pP (C:MC key e pages) {Q:Int->Prop} (H:Q ((2+2*(hOf (pages.length:Int)).Level.length:Nat):Int)):dR ⟨newB (pages.length:Int)⟩ Q:=by have hs:=C.small;have hp:=C.pos;have hn:=C.Jq;unfold dR;refine fL C.T.N.wb ?_;rw [C.T.N.items,show ((((hOf (pages.length:Int)).Level.length:Nat):Int)==0)=false by rw [beq_eq_false_iff_ne]; omega,aa];refine fL C.T.N.wb ?_;rw [C.T.N.items,wrap64 (n:=2*_) (by omega) (by omega),wrap64 (by omega) (by omega)];rw [show ((2:Int)+2*((hOf (pages.length:Int)).Level.length:Int))=((2+2*(hOf (pages.length:Int)).Level.length:Nat):Int) by omega];exact H
theorem Dj (C:MC key e pages) (hp: ∀ x ∈ pages,x.length=256) (hb: ∀ x ∈ pages,bytesL x) {σ:St Obj} {Q:bt.QT} (H: ∀ s,SM key e pages s->Q s ⟨newB (pages.length:Int)⟩ (sr (rootM key e pages)) true σ):bt none key e pages σ Q:=by
 have hs:=C.small;have hpos:=C.pos;have hn:=C.Jq;have hpl:(putsM key e pages).length=(hOf (pages.length:Int)).Level.length:=by unfold putsM; rw [ke]
 unfold bt;refine kX (by omega) ?_;refine pP C ?_;rw [if_neg (by omega)];refine Di (by omega) ?_;refine Da C hp ?_;rw [show ((0:Int) !=0)=false from rfl,aa,aa,aa];refine pP C ?_;unfold bt.K1; dsimp only;rw [show ((((2+2*(hOf (pages.length:Int)).Level.length:Nat)):Int)==0)=false by rw [beq_eq_false_iff_ne]; omega,aa]
 have hput: ∀ x ∈ putsM key e pages,(0<=x.Block/\x.Block<((2+2*(hOf (pages.length:Int)).Level.length:Nat):Int))/\x.Bytes.length=256/\bytesL x.Bytes:=by intro x hx;obtain ⟨i,hi,rfl⟩:=EP hx;refine ⟨by unfold bN; dsimp only; omega, ?_,mO _ _ _ _⟩;show (hidB _ _ _ _).length=256;rw [rG];exact C.pglen hp hi
 refine Db (m:=2+2*(hOf (pages.length:Int)).Level.length) ⟨by simp,by omega,by omega⟩ (fun x hx=>⟨(hput x hx).1,(hput x hx).2.1⟩) (by omega) (by simp) (by simp) ?_;rw [show ((0:Int)==0)=true from rfl,ak]
 have hw: ∀ x ∈ (putsM key e pages).map pw,(0<=x.n/\x.n<((2+2*(hOf (pages.length:Int)).Level.length:Nat):Int))/\x.b.length=256:=by intro x hx;obtain ⟨y,hy,rfl⟩:=List.mem_map.1 hx;exact ⟨(hput y hy).1,(hput y hy).2.1⟩
 refine Aq (m:=2+2*(hOf (pages.length:Int)).Level.length) ⟨by simp,by omega,by omega⟩ (by simpa using hw) (by simp; omega) (by simp; omega) ?_;dsimp only;rw [List.nil_append,List.length_map,show (((putsM key e pages).length:Int)==((putsM key e pages).length:Int))=true by simp];have hz:(List.replicate (256*(2+2*(hOf (pages.length:Int)).Level.length)) (0:Int)).length=256*(2+2*(hOf (pages.length:Int)).Level.length):=by simp
 refine H _ ⟨⟨oH hz hw,by omega,by omega⟩,rfl,pO (fun x hx=>by rw [List.eq_of_mem_replicate hx]; omega) (fun x hx=>by
  obtain ⟨y,hy,rfl⟩:=List.mem_map.1 hx
  exact (hput y hy).2.2),fun i hi=> ?_⟩
 refine uD (k:=2+2*i) hz hw ?_ (.inl ⟨⟨bN i,hidI key e i (pgF key e pages i)⟩, ?_, ?_,rfl⟩)
 ·rw [List.map_map,List.pairwise_map]
  refine List.pairwise_iff_getElem.2 fun a b ha hb hab=> ?_;have h1:(putsM key e pages)[a]? =some ⟨bN a,hidI key e a (pgF key e pages a)⟩:=xV (by omega);have h2:(putsM key e pages)[b]? =some ⟨bN b,hidI key e b (pgF key e pages b)⟩:=xV (by omega);rw [List.getElem?_eq_getElem ha] at h1;rw [List.getElem?_eq_getElem hb] at h2;have h1:=Option.some.inj h1;have h2:=Option.some.inj h2;show (putsM key e pages)[a].Block ≠ (putsM key e pages)[b].Block;rw [h1,h2];unfold bN; dsimp only; omega
 ·refine List.mem_map.2 ⟨⟨bN i,hidI key e i (pgF key e pages i)⟩, ?_,rfl⟩
  exact List.mem_iff_getElem?.2 ⟨i,xV hi⟩
 ·show bN i=_
  unfold bN; omega
theorem rN {b:List Int} {Q:Int->Prop} (hb:WfB b) (H:Q (pagesS b)):ef ⟨b⟩ Q:=by unfold ef;have hl:=hb.len;dsimp only;rw [show ((b.length:Int)==0)=false by rw [beq_eq_false_iff_ne]; omega,aa];exact gb 1 rfl (by omega) H
theorem uI {b:List Int} {Q:Int->Prop} (hb:WfB b) (H:Q (itemsS b - 1)):eI ⟨b⟩ Q:=by unfold eI;refine fL hb ?_;have:0<=itemsS b/\itemsS b<=1000:=rm hb _;rw [wrap64 (by omega) (by omega)];exact H
def blkOf (s:aH) (n:Int):List Int:=(s.blocks.take (256*n.toNat+256)).drop (256*n.toNat)
theorem vI {s:aH} {m:Nat} (hb:blkOk s m) {n:Int} (hn:0<=n/\n<m):(blkOf s n).length=256:=by have:=hb.1;unfold blkOf;rw [List.length_drop,List.length_take]; omega
theorem uJ {s:aH} (h:bytesL s.blocks) (n:Int):bytesL (blkOf s n):=fun x hx=>h x (List.mem_of_mem_take (List.mem_of_mem_drop hx))
theorem MC.blkr (C:MC key e pages) {it pl:Int} (h:0<=blockS (newB (pages.length:Int)) it pl):blockS (newB (pages.length:Int)) it pl=2+2*it+pl/\0<=it/\it<((hOf (pages.length:Int)).Level.length:Int)/\(pl=0\/pl=1):=by
 unfold blockS at h |-
 by_cases hc:levelS (newB (pages.length:Int)) it<0\/pl<0\/pl>1
 ·rw [if_pos hc] at h; omega
 ·rw [if_neg hc]
  refine ⟨rfl, ?_⟩
  by_cases hr:0<=it/\it<((hOf (pages.length:Int)).Level.length:Int)
  ·exact ⟨hr.1,hr.2,by omega⟩
  ·have:=C.T.N.out hr; omega
theorem Ax (C:MC key e pages) {it pl:Int} {Q:ax.QT} (H:Q (blockS (newB (pages.length:Int)) it pl)):ax (hOf (pages.length:Int)) it pl Q:=by
 have hs:=C.small;unfold ax;refine xm ?_
 by_cases hr:0<=it/\it<((hOf (pages.length:Int)).Level.length:Int)
 ·have eh:hasS (hOf (pages.length:Int)) it=true:=by unfold hasS; simp; exact hr
  have hlv:=C.T.Ra it.toNat (by omega);rw [show ((it.toNat:Nat):Int)=it by omega] at hlv;rw [eh,show (!true)=false from rfl,aa];unfold blockS at H
  by_cases h0:pl<0
  ·rw [decide_eq_true h0,ak]
   rw [if_pos (.inr (.inl h0))] at H;unfold ax.K1; dsimp only;rw [ak]; exact H
  ·rw [decide_eq_false h0,aa]
   by_cases h1:pl>1
   ·rw [decide_eq_true h1]
    rw [if_pos (.inr (.inr h1))] at H;unfold ax.K1; dsimp only;rw [ak]; exact H
   ·rw [decide_eq_false h1]
    rw [if_neg (by omega)] at H;unfold ax.K1; dsimp only;rw [aa,wrap64 (n:=2*it) (by omega) (by omega),wrap64 (n:=2+2*it) (by omega) (by omega),wrap64 (n:=2+2*it+pl) (by omega) (by omega)];exact H
 ·have eh:hasS (hOf (pages.length:Int)) it=false:=by
   unfold hasS
   cases h:(decide (0<=it) && decide (it<((hOf (pages.length:Int)).Level.length:Int))) with
   | false=>rfl
   | true=>simp only [Bool.and_eq_true,decide_eq_true_eq] at h; exact absurd h hr
  have hlv:=C.T.N.out hr;rw [eh,show (!false)=true from rfl,ak];unfold blockS at H;rw [if_pos (.inl (by omega))] at H;unfold ax.K1; dsimp only;rw [ak]; exact H
def fP (key:Vector Int 32) (pages:List (List Int)) (s:aH) (it:Int) (r:af):List Int × Int:=
 if blockS (newB (pages.length:Int)) it r.Place<0 then ([],1) else oP key r (blockS (newB (pages.length:Int)) it r.Place) (blkOf s (blockS (newB (pages.length:Int)) it r.Place))
theorem rO (C:MC key e pages) {s:aH} (hs:blkOk s (2+2*(hOf (pages.length:Int)).Level.length)) (hw:s.waits=[]) (hb:bytesL s.blocks) {it:Int} {r:af} (he:gE r.cu) {σ:St Obj}
  {Q:List Int->Int->aH->St Obj->Prop} (H:Q (fP key pages s it r).1 (fP key pages s it r).2 s σ):je none key ⟨newB (pages.length:Int)⟩ it (sr r) s σ Q:=by
 have hsm:=C.small;unfold je;refine ru C.T.N.wb ?_;change br (decide (blockS (newB (pages.length:Int)) it r.Place<0)) _ _;unfold fP at H
 by_cases h:blockS (newB (pages.length:Int)) it r.Place<0
 ·rw [if_pos h] at H
  rw [decide_eq_true h,ak]; exact H
 ·rw [if_neg h] at H
  have hr:=C.blkr (by omega:0<=blockS (newB (pages.length:Int)) it r.Place);have hn:0<=blockS (newB (pages.length:Int)) it r.Place/\blockS (newB (pages.length:Int)) it r.Place<((2+2*(hOf (pages.length:Int)).Level.length:Nat):Int):=by omega
  rw [decide_eq_false h,aa];have EC:0<=blockS (newB (pages.length:Int)) it r.Place/\blockS (newB (pages.length:Int)) it r.Place<1000000:=by omega
  refine Df hs hn hw ?_;rw [show ((0:Int) !=0)=false from rfl,aa];exact Dg C.key (vI hs hn) (uJ hb _) he EC H
theorem xX (C:MC key e pages) {s:aH} (hs:blkOk s (2+2*(hOf (pages.length:Int)).Level.length)) (hb:bytesL s.blocks) {it:Int} {r:af} (he:gE r.cu)
  {Q:List Int->Int->Prop} (H:Q (fP key pages s it r).1 (fP key pages s it r).2):bz s.blocks key (hOf (pages.length:Int)) it r Q:=by
 have hsm:=C.small;have hl:=hs.1;unfold bz;refine Ax C ?_;unfold fP at H
 by_cases h:blockS (newB (pages.length:Int)) it r.Place<0
 ·rw [if_pos h] at H
  rw [decide_eq_true h,ak];unfold bz.K1; dsimp only;rw [ak]; exact H
 ·rw [if_neg h] at H
  have hr:=C.blkr (by omega:0<=blockS (newB (pages.length:Int)) it r.Place);have hn:0<=blockS (newB (pages.length:Int)) it r.Place/\blockS (newB (pages.length:Int)) it r.Place<((2+2*(hOf (pages.length:Int)).Level.length:Nat):Int):=by omega
  generalize blockS (newB (pages.length:Int)) it r.Place=n at h hn hr H;rw [decide_eq_false h,aa];rw [wrap64 (n:=256*n) (by omega) (by omega),wrap64 (n:=256*n+256) (by omega) (by omega),decide_eq_false (by omega)];unfold bz.K1; dsimp only;rw [aa,wrap64 (n:=256*n) (by omega) (by omega),wrap64 (n:=256*n+256) (by omega) (by omega)];refine ⟨⟨by omega,by omega,by omega⟩, ?_⟩
  have eb:sub s.blocks (256*n) (256*n+256)=blkOf s n:=by unfold sub blkOf;rw [show (256*n+256).toNat=256*n.toNat+256 by omega,show (256*n).toNat=256*n.toNat by omega]
  rw [eb];exact Ar C.key (vI hs hn) (uJ hb _) he (by omega) H
theorem Rs (C:MC key e pages) {s:aH} (hs:blkOk s (2+2*(hOf (pages.length:Int)).Level.length)) (hb:bytesL s.blocks) (it:Int) (r:af):bytesL (fP key pages s it r).1/\((fP key pages s it r).1.length=256\/(fP key pages s it r).1=[]):=by
 unfold fP
 by_cases h:blockS (newB (pages.length:Int)) it r.Place<0
 ·rw [if_pos h]; exact ⟨fun x hx=>(by cases hx), .inr rfl⟩
 ·rw [if_neg h]
  have hr:=C.blkr (by omega:0<=blockS (newB (pages.length:Int)) it r.Place);have:=MT (key:=key) (r:=r) (n:=blockS (newB (pages.length:Int)) it r.Place) (vI hs (by omega:0<=blockS (newB (pages.length:Int)) it r.Place/\_<((2+2*(hOf (pages.length:Int)).Level.length:Nat):Int)));exact ⟨this.2,this.1.elim (fun h=> .inl h.1) fun h=> .inr h.1⟩
theorem MW (C:MC key e pages) (hbp: ∀ x ∈ pages,bytesL x) {s:aH} (S:SM key e pages s) {i:Nat} (hi:i<(hOf (pages.length:Int)).Level.length):fP key pages s i (rfF key e pages i)=(pgF key e pages i,0):=by
 have hlv:=C.T.Ra i hi
 have eb:blockS (newB (pages.length:Int)) i (rfF key e pages i).Place=bN i:=by show blockS (newB (pages.length:Int)) i 0=_;unfold blockS;rw [if_neg (by omega)];unfold bN; omega
 unfold fP;rw [eb,if_neg (by unfold bN; omega)]
 have ek:blkOf s (bN i)=hidI key e i (pgF key e pages i):=by unfold blkOf;rw [show (bN i).toNat=2+2*i by unfold bN; omega];exact S.get i hi
 rw [ek];unfold oP
 have hd:dgB (hidI key e i (pgF key e pages i)) (rfF key e pages i)=true:=by unfold dgB;show (sumL _==(digV _).toList)=true;rw [uy]; simp
 rw [hd];show (hidB key e (bN i) (hidB key e (bN i) (pgF key e pages i)),(0:Int))=_;rw [Jt (C.xW hbp)]
theorem uK (C:MC key e pages) {it:Int} {p:List Int} (hb:bytesL p) (hp:p.length=256\/p=[]): ∃ (l:List af) (er:Int),l.length<=6/\
  (∀ Q,Q (l.map sr) er->iZ ⟨newB (pages.length:Int)⟩ it p Q)/\(∀ Q,Q l er->eu (hOf (pages.length:Int)) it p Q)/\
  (∀ m:Int,((kidsR (hOf (pages.length:Int)) it).length:Int)=m->1<=m->okPg p->p.length=256->cntS p=m->l=rfs p (cntS p).toNat/\er=0):=by
 have u1: ∀ Q,br (((kidsR (hOf (pages.length:Int)) it).length:Int)==0) (Q ([]:List aF) (1:Int)) (cj p ((kidsR (hOf (pages.length:Int)) it).length:Int) fun gJ kF=>Q gJ kF)->iZ ⟨newB (pages.length:Int)⟩ it p Q:=by intro Q H;unfold iZ;refine oE C.T.N.wb ?_;rw [C.T.N.kids]; exact H
 have u2: ∀ Q,br (((kidsR (hOf (pages.length:Int)) it).length:Int)==0) (Q ([]:List af) (1:Int)) (az p ((kidsR (hOf (pages.length:Int)) it).length:Int) fun gJ kF=>Q gJ kF)->eu (hOf (pages.length:Int)) it p Q:=by intro Q H;unfold eu;exact Ad C.T.N.wh H
 by_cases hz:(kidsR (hOf (pages.length:Int)) it).length=0
 ·refine ⟨[],1,by simp,fun Q h=>u1 Q ?_,fun Q h=>u2 Q ?_,fun m hm h1=>by omega⟩
  ·rw [hz,show (((0:Nat):Int)==0)=true from rfl,ak]; exact h
  ·rw [hz,show (((0:Nat):Int)==0)=true from rfl,ak]; exact h
 ·have hz':(((kidsR (hOf (pages.length:Int)) it).length:Int)==0)=false:=by rw [beq_eq_false_iff_ne]; omega
  by_cases h6:(kidsR (hOf (pages.length:Int)) it).length<=6
  ·obtain ⟨l,er,q1,q2,q3,q4⟩:=Au (p:=p) (many:=((kidsR (hOf (pages.length:Int)) it).length:Int)) hb hp (by omega)
   refine ⟨l,er,q1,fun Q h=>u1 Q ?_,fun Q h=>u2 Q ?_,fun m hm h1 h2 h3 h4=>q4 h2 h3 (by omega)⟩
   ·rw [hz',aa]; exact q2 _ h
   ·rw [hz',aa]; exact q3 _ h
  ·refine ⟨[],1,by simp,fun Q h=>u1 Q ?_,fun Q h=>u2 Q ?_,fun m hm h1 h2 h3 h4=>by have:=h2.2.1; omega⟩
   ·rw [hz',aa]
    unfold cj;rw [decide_eq_false (by omega),aa,decide_eq_true (by omega)];unfold cj.K1; dsimp only;rw [ak]; exact h
   ·rw [hz',aa]
    unfold az;rw [decide_eq_false (by omega),aa,decide_eq_true (by omega)];unfold az.K1; dsimp only;rw [ak]; exact h
theorem MX {X:Type} {l m:List X} {i n:Nat} (h:i+m.length<=l.length) (hn:m.length<=n):cpP l i n m=l.take i++m++l.drop (i+m.length):=by unfold cpP;rw [Nat.min_eq_left hn,List.take_of_length_le (Nat.le_refl _)]
theorem Ay (C:MC key e pages) (hp: ∀ x ∈ pages,x.length=256) (hbp: ∀ x ∈ pages,bytesL x) {s:aH} (S:SM key e pages s) {σ:St Obj} {Q:bW.QT}
  (H: ∀ (R:List af) (ps:List (List Int)),R.length=(hOf (pages.length:Int)).Level.length->(∀ x ∈ R,gE x.cu)->Q (R.map sr) ps 0 s σ):bW none key ⟨newB (pages.length:Int)⟩ (sr (rootM key e pages)) s σ Q:=by
 have hsm:=C.small;have hpos:=C.pos;have hn:=C.Jq;have hN:=C.T.N;have PZ:gE (0:Int):=by unfold gE; omega
 have hrt:rootM key e pages=rfF key e pages ((hOf (pages.length:Int)).Level.length - 1):=by unfold rootM;rw [List.getLastD_eq_getLast?,List.getLast?_eq_getElem?,iy,BR (by omega)]; rfl
 have go: ∀ (i:Nat) (c:bW.V) (R:List af),i<=(hOf (pages.length:Int)).Level.length->c.fY=(i:Int) - 1->c.sZ=s->c.b0=none->c.z6=key->c.s8=⟨newB (pages.length:Int)⟩->c.gM=R.map sr->c.iu.length=pages.length->
   R.length=(hOf (pages.length:Int)).Level.length->(∀ x ∈ R,gE x.cu)->(∀ t:Nat,t<(hOf (pages.length:Int)).Level.length->(t+1=(hOf (pages.length:Int)).Level.length\/ ∃ p:Nat,i<=p/\p<(hOf (pages.length:Int)).Level.length/\(pages.length:Int)<=(p:Int)/\(kidsR (hOf (pages.length:Int)) p).getD 0 0<=(t:Int)/\(t:Int)<(kidsR (hOf (pages.length:Int)) p).getD 0 0+(kidsR (hOf (pages.length:Int)) p).length)->R[t]? =some (rfF key e pages t))->bW.L1 Q c σ:=by
  intro i
  induction i with
  | zero=>
   intro c R _ e1 e2 e3 e4 e5 e6 e7 e8 e9 EK;refine bW.bG ?_;unfold bW.B1;rw [e1,decide_eq_false (by omega),aa,e6,e2]
   exact H R _ e8 e9
  | succ i ih=>
   intro c R hi e1 e2 e3 e4 e5 e6 e7 e8 e9 EK
   have hget:R[i]? =some (rfF key e pages i):=by
    refine EK i (by omega) ?_;rcases Rq (n:=(pages.length:Int)) (by omega) (show i<_ by omega) with h | ⟨p,h1,h2,h3,h4,h5⟩
    ·exact .inl h
    ·exact .inr ⟨p,by omega,h2,h3,h4,h5⟩
   refine bW.bG ?_;unfold bW.B1;rw [e1,show ((i+1:Nat):Int) - 1=(i:Int) by omega,decide_eq_true (by omega),ak,e6];refine lP (x:=sr (rfF key e pages i)) (by rw [List.getElem?_map,hget]; rfl) ?_;rw [e2,e3,e4,e5];have heF:gE (rfF key e pages i).cu:=C.ep;refine rO C S.ok S.waits S.bytes heF ?_;rw [MW C hbp S (by omega)];rw [show (((0:Int)) !=0)=false from rfl,aa];refine rN hN.wb ?_;rw [hN.pages]
   by_cases hip:i<pages.length
   ·rw [decide_eq_true (by omega),ak]
    refine fC i rfl (by omega) ?_;unfold bW.K2; dsimp only;refine ih _ R (by omega) ?_ rfl rfl rfl rfl rfl (by simp [e7]) e8 e9 fun t ht h=>EK t ht ?_
    ·dsimp only; rw [wrap64 (by omega) (by omega)]
    ·rcases h with h | ⟨p,h1,h2,h3,h4⟩
     ·exact .inl h
     ·exact .inr ⟨p,by omega,h2,h3,h4⟩
   ·rw [decide_eq_false (by omega),aa]
    have kd:=C.T.VS i (by omega) (by omega);have hpl:=C.pglen (key:=key) (e:=e) hp (show i<_ by omega)
    have hpg:pgF key e pages i=layS (sub (runM key e pages i).2 ((kidsR (hOf (pages.length:Int)) (i:Int)).getD 0 0) ((kidsR (hOf (pages.length:Int)) (i:Int)).getD 0 0+((kidsR (hOf (pages.length:Int)) (i:Int)).length:Int))):=by unfold pgF pgI; rw [if_neg (by omega)]
    have hsub:=C.sublen (key:=key) (e:=e) (by omega:pages.length<=i) (by omega);have hsl:=C.slok (key:=key) (e:=e) (by omega:pages.length<=i) (by omega);have hokR:okR (sub (runM key e pages i).2 ((kidsR (hOf (pages.length:Int)) (i:Int)).getD 0 0) ((kidsR (hOf (pages.length:Int)) (i:Int)).getD 0 0+((kidsR (hOf (pages.length:Int)) (i:Int)).length:Int))):=BM (vF C.ep i);have hslen:=cg hsl;generalize hSub:sub (runM key e pages i).2 ((kidsR (hOf (pages.length:Int)) (i:Int)).getD 0 0) ((kidsR (hOf (pages.length:Int)) (i:Int)).getD 0 0+((kidsR (hOf (pages.length:Int)) (i:Int)).length:Int))=L at hpg hsub hokR hslen;have hLl:L.length=(kidsR (hOf (pages.length:Int)) (i:Int)).length:=by omega
    obtain ⟨l,er,q1,q2,q3,q4⟩:=uK C (it:=(i:Int)) (p:=pgF key e pages i) (C.xW hbp) (.inl hpl);obtain ⟨el,ee⟩:=q4 _ rfl (by omega) (by rw [hpg]; exact MV hsub hokR) hpl (by rw [hpg,lV hsub.2,hLl])
    have el2:l=L:=by rw [el,hpg,lV hsub.2,Int.toNat_natCast,Jz hsub.2 hokR]
    subst ee el2;refine q2 _ ?_;rw [show (((0:Int)) !=0)=false from rfl,aa];refine oE hN.wb ?_;rw [hN.kids];refine fC 0 rfl (by omega) ?_
    have hg:(kidsR (hOf (pages.length:Int)) i)[0]'(by omega)=(kidsR (hOf (pages.length:Int)) (i:Int)).getD 0 0:=by rw [List.getD_eq_getElem?_getD,List.getElem?_eq_getElem (by omega)]; rfl
    rw [hg]
    obtain ⟨k0,IA⟩: ∃ k0,(kidsR (hOf (pages.length:Int)) (i:Int)).getD 0 0=k0:=⟨_,rfl⟩
    have kd2:=kd;rw [IA] at kd2 hsl hslen hSub |-
    have hs2:SlOk (R.map sr) k0 ((R.map sr).length:Int):=⟨by omega,by rw [List.length_map]; omega,by omega⟩
    refine ⟨hs2, ?_⟩
    have ecp:cpP (R.map sr) (Int.toNat k0) ((sub (R.map sr) k0 ((R.map sr).length:Int)).length) (l.map sr)=(R.take k0.toNat++l++R.drop (k0.toNat+l.length)).map sr:=by rw [MX (by rw [List.length_map,List.length_map]; omega) (by rw [cg hs2,List.length_map,List.length_map]; omega)];rw [List.map_append,List.map_append,List.map_take,List.map_drop,List.length_map]
    rw [ecp]
    have hlg: ∀ t:Nat,(h1:k0.toNat<=t)->(h2:t<k0.toNat+l.length)->l[t - k0.toNat]? =some (rfF key e pages t):=by intro t h1 h2;rw [<- hSub];unfold sub;rw [List.getElem?_drop,List.getElem?_take,if_pos (by omega),show k0.toNat+(t - k0.toNat)=t by omega];exact BR (by omega)
    unfold bW.K2; dsimp only;refine ih _ (R.take k0.toNat++l++R.drop (k0.toNat+l.length)) (by omega) ?_ rfl rfl rfl rfl rfl e7 ?_ ?_ fun t ht h=> ?_
    ·dsimp only; rw [wrap64 (by omega) (by omega)]
    ·simp only [List.length_append,List.length_take,List.length_drop]; omega
    ·intro x hx
     rcases List.mem_append.1 hx with hx | hx
     ·rcases List.mem_append.1 hx with hx | hx
      ·exact e9 x (List.mem_of_mem_take hx)
      ·exact (hokR x hx).2
     ·exact e9 x (List.mem_of_mem_drop hx)
    ·have hlt:(R.take k0.toNat).length=k0.toNat:=by rw [List.length_take]; omega
     rcases Nat.lt_or_ge t k0.toNat with h1 | h1
     ·rw [List.append_assoc,List.getElem?_append_left (by omega),List.getElem?_take,if_pos h1]
      refine EK t ht ?_;rcases h with h | ⟨p,g1,g2,g3,g4,g5⟩
      ·exact .inl h
      ·refine .inr ⟨p, ?_,g2,g3,g4,g5⟩
       rcases Nat.lt_or_ge i p with MY | MY
       ·omega
       ·obtain rfl:p=i:=by omega
        omega
     ·rcases Nat.lt_or_ge t (k0.toNat+l.length) with h2 | h2
      ·rw [List.append_assoc,List.getElem?_append_right (by omega),hlt,List.getElem?_append_left (by omega)]
       exact hlg t h1 h2
      ·rw [List.getElem?_append_right (by rw [List.length_append]; omega),List.length_append,hlt,List.getElem?_drop,show k0.toNat+l.length+(t - (k0.toNat+l.length))=t by omega]
       refine EK t ht ?_;rcases h with h | ⟨p,g1,g2,g3,g4,g5⟩
       ·exact .inl h
       ·refine .inr ⟨p, ?_,g2,g3,g4,g5⟩
        rcases Nat.lt_or_ge i p with MY | MY
        ·omega
        ·obtain rfl:p=i:=by omega
         omega
 unfold bW;refine fL hN.wb ?_;rw [hN.items,show ((((hOf (pages.length:Int)).Level.length:Nat):Int)==0)=false by rw [beq_eq_false_iff_ne]; omega,aa];refine fL hN.wb ?_;rw [hN.items];refine wX (by omega) ?_;refine rN hN.wb ?_;rw [hN.pages];refine wX (by omega) ?_;refine uI hN.wb ?_;rw [hN.items,Int.toNat_natCast];refine fC ((hOf (pages.length:Int)).Level.length - 1) (by omega) (by rw [List.length_replicate]; omega) ?_;refine uI hN.wb ?_;rw [hN.items];refine go (hOf (pages.length:Int)).Level.length _ ((List.replicate (hOf (pages.length:Int)).Level.length zR).set ((hOf (pages.length:Int)).Level.length - 1) (rootM key e pages)) (Nat.le_refl _) rfl rfl rfl rfl rfl ?_ (by simp) (by simp) ?_ fun t ht h=> ?_
 ·dsimp only
  rw [List.map_set,List.map_replicate,show (((hOf (pages.length:Int)).Level.length:Int) - 1).toNat=(hOf (pages.length:Int)).Level.length - 1 by omega];rfl
 ·intro x hx
  rcases List.mem_or_eq_of_mem_set hx with hx | hx
  ·rw [List.eq_of_mem_replicate hx]; exact PZ
  ·rw [hx,hrt]; exact C.ep
 ·rcases h with h | ⟨p,h1,h2,_⟩
  ·obtain rfl:t=(hOf (pages.length:Int)).Level.length - 1:=by omega
   rw [List.getElem?_set_self (by rw [List.length_replicate]; omega),hrt]
  ·omega
end Go.Pt
