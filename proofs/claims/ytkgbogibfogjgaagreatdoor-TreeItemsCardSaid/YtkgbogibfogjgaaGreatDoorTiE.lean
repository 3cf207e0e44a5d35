import Derived.Test.YtkgbogibfogjgaaGreatDoorTiD
set_option linter.unusedVariables false
set_option linter.unusedSimpArgs false
set_option maxHeartbeats 4000000
set_option maxRecDepth 100000
namespace Go.Ex
open Go Go.Wc Go.Pu
variable {D:Tabs} {X:At} {ν ν':Nu} {h h':Hp} {A B B':List At} {ω ω':List Gm} {H H':SH D} {K:KS D} {τ:Tys} {Γ:EnvS D} {Γr:Env}
theorem E9 {nm:Nat} {s:SV D} (h:apart nm s=true): ∀ n,baseS s=some n->n ≠ nm:=by unfold apart at h;intro n hn e;rw [hn] at h;subst e;simp at h
theorem oR {t:Ty} {s:SV D} {w:Value} {m:List (D.d t)} {nm:Nat} {L:List At} {h0:Hp} {a:At} (R:HR X ν ω H h []) (hw:VR ν s w) (hl:listS t H s=some m) (hap:apart nm s=true) (hX:X ∈ L)
  (hL: ∀ j o' y k,j ≠ nm->H.get j=some o'->ν[j]? =some y->ω[j]? =some k->o'.sem D X ν y k ∈ L) (I:Inv h0 [a,bigA L]): ∃ b k d,w= .slice b k d/\Rd (D.r t) (bigA L) b k d m:=by
 obtain ⟨b,k,d,e,hr⟩:=k9 (L:=L) R (nQ hw hl) hl ⟨hX,fun n o y g hb ho hy hg=>hL n o y g (E9 hap n hb) ho hy hg⟩ (by
  obtain ⟨F,M,hP⟩:=Inv.get (Inv.swap I)
  exact ⟨_,F,M,hP⟩)
 exact ⟨b,k,d,e,hr⟩
theorem JR {t':Ty} {te:TI} {d y:SV D} {v w:Value} {m:List (D.d t')} (R:HR X ν ω H h []) (hv:VR ν d v) (hw:VR ν y w) (hsz:te.size=(D.r t').n) (hl:listS t' H y=some m)
  (HS:copyS t' d y m H K):
  ∃ a n c b k d,v= .slice a n c/\w= .slice b k d/\cpW te.size h ⟨a,n,c⟩ ⟨b,k,d⟩ fun i h'=>PC K X ν ω H (.int .i64 i) h':=by
 unfold copyS at HS;split at HS
 case h_4=>exact HS.elim
 ·rename_i nm
  split at HS
  case h_2=>exact HS.elim
  rename_i t2 l ho;split at HS
  case h_2=>exact HS.elim
  rename_i l' hc;obtain ⟨e1,e2⟩:=dG hc;subst e1; subst e2
  cases hap:apart nm y with
  | false=>rw [hap] at HS; exact HS.elim
  | true=> rw [hap] at HS;obtain ⟨x,hx,rfl⟩:=hv;obtain ⟨x',g,L,hx',hg,I,hXL,hL,k⟩:=R.at ho;rw [hx] at hx'; cases hx';obtain ⟨b,kk,d,rfl,hr⟩:=oR R hw hl hap hXL hL I;refine ⟨_,_,_,_,_,_,rfl,rfl, ?_⟩;obtain ⟨e3,I⟩:=Inv.factE I;have n1:=fF I;have n2:=fB hr I.swap;rw [hsz];refine We hr (A:=[]) I fun h' I'=> ?_;obtain ⟨R2,S2⟩:=k h' (.own t2 (cpL l m)) g (Inv.factI e3 I');rw [n1,n2];exact ⟨tt,_,_,_,_,HS,rfl,trivial,S2,R2⟩
 ·rename_i nm lo hi
  split at HS
  case h_2=>exact HS.elim
  rename_i t2 l ho;split at HS
  case h_2=>exact HS.elim
  rename_i l' hc;obtain ⟨e1,e2⟩:=dG hc;subst e1; subst e2
  cases hap:apart nm y with
  | false=>rw [hap] at HS; exact HS.elim
  | true=>
   rw [hap] at HS;obtain ⟨x,hx,h0,rfl⟩:=hv;obtain ⟨x',g,L,hx',hg,I,hXL,hL,k⟩:=R.at ho;rw [hx] at hx'; cases hx';obtain ⟨b,kk,d,rfl,hr⟩:=oR R hw hl hap hXL hL I;refine ⟨_,_,_,_,_,_,rfl,rfl, ?_⟩;obtain ⟨e3,I⟩:=Inv.factE I;have n1:=fF I;have n2:=fB hr I.swap
   have hs:SlOk l lo hi:=⟨h0.1,h0.2.1,by rw [<- n1]; exact h0.2.2⟩
   have hp:=IP hs
   have key:=P3 (i:=lo.toNat) (n2:=(sub l lo hi).length) (K:=fun i h'=>PC K X ν ω H (.int .i64 i) h') hr (A:=[]) I hp fun h' I'=>by obtain ⟨R2,S2⟩:=k h' (.own t2 (cpP l lo.toNat (sub l lo hi).length m)) g (Inv.factI e3 I');rw [n2];exact ⟨tt,_,_,_,_,HS,rfl,trivial,S2,R2⟩
   rw [hsz,e3];have e4:resl x.a x.c (D.r t2).n lo=resl x.a x.c (D.r t2).n ((lo.toNat:Nat):Int):=by unfold resl; rw [Int.toNat_natCast]
   rw [e4,<- cg hs];exact key
 ·rename_i nm off k n lo hi
  split at HS
  case h_2=>exact HS.elim
  rename_i T ss ho;split at HS
  case h_2=>exact HS.elim
  rename_i vw m2 hvw hcm;split at HS
  case h_2=>exact HS.elim
  rename_i ss' hs'
  cases hat:atN hi n with
  | false=>rw [hat] at HS; exact HS.elim
  | true=>
  rw [hat] at HS;simp only [cnd] at HS;have hn:=M8 hat;obtain ⟨e1,e2⟩:=dG hcm;subst e1; subst e2;obtain ⟨x,hx,h0,rfl⟩:=hv;obtain ⟨x',g,L,hx',hg,I,hXL,hL,kk⟩:=R.at ho;rw [hx] at hx'; cases hx'
  obtain ⟨b,k3,d,rfl,cp⟩: ∃ b k3 d,w= .slice b k3 d/\ ∀ (gs:List Seg) (j:Nat),SGL ν ss gs->segAt gs j 0=some (off, .vec k n vw)->Inv h [Pu.blk x.p T gs,bigA L]->k3=m.length/\
    ∀ (K':Int->Hp->Prop),(∀ h',Inv h' [Pu.blk x.p T (gs.set j (.vec k n (cpV vw lo.toNat m))),bigA L]->K' ((min k3 (n - lo.toNat):Nat):Int) h')->cpW 1 h ⟨resl (some (x.p.add off)) n 1 lo,n - lo.toNat,n - lo.toNat⟩ ⟨b,k3,d⟩ K':=by
   have h0':0<=lo/\lo<=(n:Int):=⟨h0.1,by have:=h0.2.1; omega⟩
   cases hap:apart nm y with
   | true=>
    obtain ⟨b,k3,d,e,hr⟩:=oR R hw hl hap hXL hL I
    exact ⟨b,k3,d,e,fun gs j h1 hj I=>⟨fB hr I.swap,fun K' kk=>Mi (lo:=lo) hj ⟨rfl,rfl⟩ h0' rfl hr (A:=[]) I kk⟩⟩
   | false=>
    have hz:=nQ hw hl;cases y <;> simp only [apart,baseS,Bool.not_eq_false',reduceCtorEq,Bool.true_eq_false] at hap
    case sl RA=>
     have:RA=nm:=by simpa using hap
     subst this;simp [listS,listN,ho] at hl
    case sw RA PE qC=>
     have:RA=nm:=by simpa using hap
     subst this;simp [listS,listN,ho] at hl
    case vs RA W0 k2 n2 PE qC=>
     have:RA=nm:=by simpa using hap
     subst this;simp only [listS,ho] at hl;split at hl
     case h_2=>cases hl
     rename_i w2 VW;rw [iS] at hl;obtain ⟨e3,e4⟩:=dG hl;cases e3; subst e4;obtain ⟨x2,Ac,h2,rfl⟩:=hz;rw [hx] at Ac; cases Ac
     have m7:SlOk w2.toList PE qC:=⟨h2.1,h2.2.1,by rw [Vector.length_toList]; exact h2.2.2⟩
     refine ⟨_,_,_,rfl,fun gs j h1 hj I=> ?_⟩;obtain ⟨j2,VH,_⟩:=jK h1 VW;have hr:Rd (rI k) (Pu.blk x.p T gs) (resl (some (x.p.add W0)) n2 1 PE) (qC.toNat - PE.toNat) (n2 - PE.toNat) (sub w2.toList PE qC):=mF (D6 (p:=x.p) (T:=T) VH) m7 (cg m7).symm;exact ⟨fB hr I,fun K' kk=>IW (lo:=lo) hj ⟨rfl,rfl⟩ h0' rfl hr (A:=[bigA L]) I kk⟩
  ·refine ⟨_,_,_,_,_,_,rfl,rfl, ?_⟩
   rw [iS] at HS;replace I:=Inv.exE I;obtain ⟨gs,I⟩:=I;replace I:=Inv.factE I;obtain ⟨h1,I⟩:=I;obtain ⟨j,hj,hpj⟩:=jK h1 hvw
   have hs:SlOk vw.toList lo hi:=⟨h0.1,h0.2.1,by rw [Vector.length_toList]; exact h0.2.2⟩
   rw [show te.size=1 from hsz];subst hn;obtain ⟨n2,cp⟩:=cp gs j h1 hj I;refine cp _ fun h' I'=> ?_;have hlen:(sub vw.toList lo (n:Int)).length=(n:Int).toNat - lo.toNat:=cg hs;obtain ⟨c1,c2⟩:=h1.cells.put (new:=[.vec k n (cpV vw lo.toNat m)]) (ws:=lumpV k n (cpV vw lo.toNat m).toList) ⟨_,[],by simp,rfl,rfl⟩ hs';obtain ⟨gs',g1,g2⟩:=c1.segs
   have e5:segs (gs.set j (.vec k n (cpV vw lo.toNat m)))=segs gs':=by
    rw [<- g2];obtain ⟨_,hil⟩:=nj (t:= .vec k n (cpV vw lo.toNat m)) hj rfl;obtain ⟨q1,q2⟩:=dr hj;rw [Nat.zero_add] at q2
    have q3:segs gs=segs (gs.take j)++(lumpV k n vw.toList++segs (gs.drop (j+1))):=by
     conv=>lhs; rw [q1,cv]
     rfl
    rw [gB hil,cv];show segs (gs.take j)++(lumpV k n (cpV vw lo.toNat m).toList++segs (gs.drop (j+1)))=_;rw [q3,q2,<- cD,List.take_left,cm];congr 2
    have q4: ∀ (a b c:List Value) (i j:Nat),a.length=i->b.length=j->(a++(b++c)).drop (i+j)=c:=by rintro a b c i j rfl rfl;rw [<- List.append_assoc,<- List.length_append,List.drop_left]
    exact (q4 _ _ _ _ _ rfl (cm k n _)).symm
   have I2:Inv h' [(SO.blk T ss').sem D X ν x none,bigA L]:=
    Inv.exI gs' (Inv.factI g1 (Inv.conv I' fun F M ⟨a1,a2,a3,a4⟩=>⟨a1,a2,a3,by rw [<- e5]; exact a4⟩))
   obtain ⟨R2,S2⟩:=kk h' _ none I2;rw [n2,show (n - lo.toNat)=(sub vw.toList lo (n:Int)).length by rw [hlen]; simp];exact ⟨tt,_,_,_,_,HS,rfl,trivial,S2,R2⟩
def bkA (D:Tabs) (X:At):(bk:List (Nat × Ds))->TupD D (bk.map (·.2))->List Value->At
 | [],_,_=>emp
 | b::bk,z,args=>exA fun v=>factA (args[b.1]? =some v) (sep (dsA D X b.2 z.1 v) (bkA D X bk z.2 args))
def specOf (c:Ctr D):Spec:=fun args h Kr=> ∃ (X:At) (x:TupD D c.ps) (σ:Option (St D.O)) (Q:TupD D c.rs->TupD D (c.bk.map (·.2))->Option (St D.O)->Prop),
 Inv h [X,sgA D σ,dsL D X c.ps x args]/\c.P x σ Q/\
 ∀ y z σ',Q y z σ'-> ∀ vs h',Inv h' [X,sgA D σ',dsL D X c.rs y vs,bkA D X c.bk z args]->oneOf (fun v=>Kr v h') vs
def ndA (D:Tabs):(d:Ds)->d.den D->Value->At
 | .rd _,_,_=>emp
 | d,x,v=>dsA D emp d x v
def ndL (D:Tabs):(ds:List Ds)->TupD D ds->List Value->At
 | [],_,vs=>factA (vs=[]) emp
 | d::ds,x,vs=>exA fun v=>exA fun w=>factA (vs=v::w) (sep (ndA D d x.1 v) (ndL D ds x.2 w))
def RdsOk (X:At):(ds:List Ds)->TupD D ds->List Value->Prop
 | d::ds,x,v::vs=>(match d,x.1 with
  | .rd t,l=> ∃ a c,v= .slice a l.length c/\Rd (D.r t) X a l.length c l
  | _,_=>True)/\RdsOk X ds x.2 vs
 | _,_,_=>True
theorem LH {d:Ds} {x:d.den D} {v:Value} {Y:At} (hd: ∀ t,d ≠ .rd t):dsA D X d x v=dsA D Y d x v:=by cases d <;> first | rfl | exact absurd rfl (hd _)
theorem AL: ∀ {ds:List Ds} {x:TupD D ds} {vs:List Value},RdsOk X ds x vs-> ∀ h F M,(ndL D ds x vs).P h F M->(dsL D X ds x vs).P h F M
 | [],x,vs,_,h,F,M,hP=>hP
 | d::ds,x,vs,hr,h,F,M,⟨v,w,e,F1,F2,e2,h1,h2⟩=>by
  subst e;obtain ⟨k1,k2⟩:=hr;refine ⟨v,w,rfl,F1,F2,e2, ?_,AL k2 _ _ _ h2⟩
  cases d with
  | rd t=>
   obtain ⟨a,c,e,hr⟩:=k1
   exact ⟨a,c,⟨e,hr⟩,h1⟩
  | _=>exact h1
theorem verOk {c:List (Nat × Nat)} {nm v:Nat} (h:((nm,v)::c).all (fun p=>Nat.beq (H.ver p.1) p.2)=true):H.ver nm=v/\c.all (fun p=>Nat.beq (H.ver p.1) p.2)=true:=by simp only [List.all_cons,Bool.and_eq_true] at h;exact ⟨by simpa using h.1,h.2⟩
theorem AM {t:Ty} {s:SV D} {l:List (D.d t)} (hl:listS t H s=some l) (hk: ∀ nm,baseS s=some nm->H'.get nm=H.get nm):listS t H' s=some l:=by
  unfold listS at hl |-
  cases s <;> simp only at hl |- <;> first
    | exact hl
    | (have e:=hk _ rfl
       simp only [listN,e] at hl |-
       exact hl)
    | (have e:=hk _ rfl
       rw [e]; exact hl)
theorem JS {t:Ty} {s:SV D} {l:List (D.d t)} (hl:listS t H s=some l) {nm:Nat} (hb:baseS s=some nm):nm<H.at_.length:=by
 have: ∃ o,H.get nm=some o:=by
  cases s <;> simp only [baseS,Option.some.injEq,reduceCtorEq] at hb <;> subst hb <;> simp only [listS,listN] at hl
  ·rename_i nm
   cases hq:H.get nm with
   | none=>rw [hq] at hl; simp at hl
   | some o=>exact ⟨o,rfl⟩
  ·rename_i nm lo hi
   cases hq:H.get nm with
   | none=>rw [hq] at hl; simp at hl
   | some o=>exact ⟨o,rfl⟩
  ·rename_i nm off k n lo hi
   cases hq:H.get nm with
   | none=>rw [hq] at hl; simp at hl
   | some o=>exact ⟨o,rfl⟩
 obtain ⟨o,ho⟩:=this;exact (List.getElem?_eq_some_iff.1 (get_at ho)).1
theorem AN: ∀ {ds:List Ds} {l:List (SV D)} {x:TupD D ds} {vs:List Value} {H H':SH D} {ω:List Gm} {A:List At} {chk:List (Nat × Nat)},HR X ν ω H h A->dA (VR ν) l vs->pkA ds l H=some (x,H',chk)->
  ∃ ω',HR X ν ω' H' h (ndL D ds x vs::A)/\SLe H ν ω H' ν ω'/\
   (∀ H2 ω2 h2 A2 L,SLe H' ν ω' H2 ν ω2->HR X ν ω2 H2 h2 A2->chk.all (fun p=>Nat.beq (H2.ver p.1) p.2)=true->X ∈ L->(∀ nm o y g,H2.get nm=some o->ν[nm]? =some y->ω2[nm]? =some g->o.sem D X ν y g ∈ L)->(∃ h F M,(bigA L).P h F M)->RdsOk (bigA L) ds x vs)
 | [],[],x,_,H,H',ω,A,chk,R, .nil,hp=>by
  simp only [pkA,Option.some.injEq,Prod.mk.injEq] at hp;obtain ⟨_,rfl,rfl⟩:=hp
  exact ⟨ω,R.addP fun M=>⟨rfl,rfl⟩,SLe.refl _ _ _,fun _ _ _ _ _ _ _ _ _ _ _=>trivial⟩
 | d::ds,s::l,x,v::vs,H,H',ω,A,chk,R, .cons hv hc,hp=>by
  by_cases hd: ∃ t,d= .rd t
  ·obtain ⟨t,rfl⟩:=hd
   simp only [pkA] at hp;split at hp
   case h_2=>cases hp
   rename_i xl hl;split at hp
   case h_2=>cases hp
   rename_i r H1 c h1;cases hp;obtain ⟨ω1,R1,S1,k⟩:=AN R hc h1;refine ⟨ω1, ?_,S1,fun H2 ω2 h2 A2 L S2 R2 hchk hX hL hP=> ?_⟩
   ·refine HR.exI v (HR.exI vs (HR.factI rfl (HR.sepI ?_)))
    have:=R1.front;exact R1.back (B:=ndA D (.rd t) xl v::ndL D ds r vs::A) (Inv.dV this)
   ·have hk:(∀ nm,baseS s=some nm->H2.get nm=H.get nm)/\c.all (fun p=>Nat.beq (H2.ver p.1) p.2)=true:=by
     cases hb:baseS s with
     | none=>rw [hb] at hchk; exact ⟨fun nm e=>(by cases e),hchk⟩
     | some nm=> rw [hb] at hchk;obtain ⟨q1,q2⟩:=verOk hchk;refine ⟨fun nm' e=> ?_,q2⟩;cases e;exact (lW (S1.trans S2) (JS hl hb)).2.2 q1
    have q: ∃ a c,v= .slice a xl.length c/\Rd (D.r t) (bigA L) a xl.length c xl:=by obtain ⟨a,n,c',e,hr⟩:=k9 (L:=L) R2 (nQ hv hl) (AM hl hk.1) ⟨hX,fun nm o y g _=>hL nm o y g⟩ hP;obtain ⟨h3,F,M,hP⟩:=hP;have en:=(hr hP).1;refine ⟨a,c',by rw [e,en], ?_⟩;rw [<- en]; exact hr
    exact ⟨q,k H2 ω2 h2 A2 L S2 R2 hk.2 hX hL hP⟩
  ·have W2: ∀ t,d ≠ .rd t:=fun t e=>hd ⟨t,e⟩
   have hp:(match pkD d s H with
   | some (x,H')=>match pkA ds l H' with
    | some (r,H'',c)=>some ((x,r),H'',c)
    | none=>none
   | none=>none)=some (x,H',chk):=by cases d <;> first | exact hp | exact absurd rfl (W2 _)
   split at hp
   case h_2=>cases hp
   rename_i xd H1 h1;split at hp
   case h_2=>cases hp
   rename_i r H2 c h2;cases hp;obtain ⟨ω1,R1,S1⟩:=AF R hv h1;obtain ⟨ω2,R2,S2,k⟩:=AN R1 hc h2;refine ⟨ω2,HR.exI v (HR.exI vs (HR.factI rfl (HR.sepI (R2.swap.conv fun F M hP=> ?_)))),S1.trans S2,fun H3 ω3 h3 A3 L S3 R3 hchk hX hL hP=>⟨?_,k H3 ω3 h3 A3 L S3 R3 hchk hX hL hP⟩⟩
   ·cases d <;> first | exact hP | exact absurd rfl (W2 _)
   ·cases d <;> first | trivial | exact absurd rfl (W2 _)
 | [],_::_,_,_,_,_,_,_,_,_,_,hp=>by simp [pkA] at hp
 | _::_,[],_,_,_,_,_,_,_,_,_,hp=>by simp [pkA] at hp
theorem Nb {d:Ds} {x:d.den D} {s:SV D} {v:Value} (R:HR X ν ω H h (dsA D X d x v::A)) (hv:VR ν s v) (hb:bkS d x s H=some H'):
  ∃ ν' ω',HR X ν' ω' H' h A/\SLe H ν ω H' ν' ω':=by
 cases d with
 | own t=>
  cases s <;> simp only [bkS,reduceCtorEq] at hb
  case nilS=>cases hb; exact ⟨ν,ω,R.JE,SLe.refl _ _ _⟩
  case sl nm=>
   split at hb
   case h_2=>cases hb
   rename_i t' ho;split at hb
   case isFalse=>cases hb
   rename_i et;subst et;cases hb;replace R:=HR.exE R;obtain ⟨a,R⟩:=R;replace R:=HR.exE R;obtain ⟨c,R⟩:=R;replace R:=HR.factE R;obtain ⟨e,R⟩:=R;obtain ⟨y,hy,e2⟩:=hv;rw [e] at e2;injection e2 with q1 q2 q3;obtain ⟨x',g,hx',_,k⟩:=R.dup ho
   have R2:=k (factA (x'.sz=(D.r t').n) emp) fun F M hP=>⟨hP.1,rfl⟩
   obtain ⟨esz,_⟩:=HR.factE R2;have ey:y=x':=by rw [hy] at hx'; exact Option.some.inj hx'
   subst ey
   obtain ⟨R3,S3⟩:=HR.give R ho (.own t' x) none (fun z hz F M hP=>by
    have:y=z:=by rw [hy] at hz; exact Option.some.inj hz
    subst this;refine ⟨esz, ?_⟩;show (ownS (D.r t') y.a y.n y.c x).P h F M;rw [<- q1,<- q2,<- q3]
    exact hP)
   exact ⟨ν,_,R3,S3⟩
 | blk T cs=>
  cases s with
  | ad nm off=>
   cases off with
   | succ n=>simp [bkS] at hb
   | zero=>
    simp only [bkS] at hb;split at hb
    case h_2=>cases hb
    rename_i ho;cases hb;replace R:=HR.exE R;obtain ⟨p,R⟩:=R;replace R:=HR.exE R;obtain ⟨vs,R⟩:=R;replace R:=HR.factE R;obtain ⟨e,R⟩:=R;obtain ⟨y,hy,e2⟩:=hv;rw [e] at e2;have ep:p=y.p:=by simpa [Addr.add] using e2
    subst ep;obtain ⟨ν1,ω1,R1,c1,S1⟩:=qm (HR.swap (HR.sepE R));obtain ⟨gs,g1,g2⟩:=c1.segs;have LZ:=S1.1 _ _ hy
    obtain ⟨R3,S3⟩:=HR.give R1 ho (.blk T (unCs cs x H).1) none (fun z hz F M hP=>by
     have:y=z:=by rw [LZ] at hz; exact Option.some.inj hz
     subst this;obtain ⟨gs',e',hP⟩:=hP;obtain ⟨q1,q2,q3,q4⟩:=hP
     exact ⟨gs,g1,q1,q2,q3,by rw [<- g2,e']; exact q4⟩)
    exact ⟨ν1,_,R3,S1.trans S3⟩
  | _=>simp [bkS] at hb
 | _=>cases s <;> simp [bkS] at hb
theorem Fc: ∀ {bk:List (Nat × Ds)} {z:TupD D (bk.map (·.2))} {args:List (SV D)} {vs:List Value} {ν:Nu} {ω:List Gm} {H:SH D} {A:List At},HR X ν ω H h (bkA D X bk z vs::A)->dA (VR ν) args vs->bkL bk z args H=some H'->
  ∃ ν' ω',HR X ν' ω' H' h A/\SLe H ν ω H' ν' ω'
 | [],z,args,vs,ν,ω,H,A,R,hv,hb=>by
  simp only [bkL,Option.some.injEq] at hb;subst hb
  exact ⟨ν,ω,R.JE,SLe.refl _ _ _⟩
 | b::bk,z,args,vs,ν,ω,H,A,R,hv,hb=>by
  simp only [bkL] at hb;split at hb
  case h_2=>cases hb
  rename_i s hs;split at hb
  case h_2=>cases hb
  rename_i H1 h1;replace R:=HR.exE R;obtain ⟨v,R⟩:=R;replace R:=HR.factE R;obtain ⟨e,R⟩:=R
  have W3:VR ν s v:=by
   have: ∀ {l:List (SV D)} {us:List Value} {i:Nat},dA (VR ν) l us->l[i]? =some s->us[i]? =some v->VR ν s v:=by
    intro l us i h
    induction h generalizing i with
    | nil=>intro h; simp at h
    | cons h1 h2 ih=>
     cases i with
     | zero=>intro a b; simp at a b; rw [<- a,<- b]; exact h1
     | succ i=>intro a b; exact ih (by simpa using a) (by simpa using b)
   exact this hv hs e
  obtain ⟨ν1,ω1,R1,S1⟩:=Nb (HR.sepE R) W3 h1;obtain ⟨ν2,ω2,R2,S2⟩:=Fc R1 (hv.mono fun _ _ h=>h.mono S1.1) hb;exact ⟨ν2,ω2,R2,S1.trans S2⟩
theorem uN {f:Nat} {args:List (SV D)} {c:Ctr D}: ∀ {C:Ctrs D},pickC f args C=some c->(f,c) ∈ C
 | [],h=>by simp [pickC] at h
 | (g,c')::r,h=>by
  simp only [pickC] at h
  cases hb:(Nat.beq g f && fnOk c'.ps args) with
  | true=>
   rw [hb] at h;simp only [cond_true,Option.some.injEq] at h;simp only [Bool.and_eq_true,Nat.beq_eq] at hb
   rw [<- h,<- hb.1]; exact List.mem_cons_self
  | false=>rw [hb] at h; exact List.mem_cons_of_mem _ (uN h)
theorem Ce: ∀ {ds:List Ds},noRd ds=true-> ∀ {x:TupD D ds} {vs:List Value} {X Y:At},dsL D X ds x vs=dsL D Y ds x vs
 | [],_,_,_,_,_=>rfl
 | d::ds,h,x,vs,X,Y=>by
  have hd:(∀ t,d ≠ .rd t)/\noRd ds=true:=by
   cases d <;> first
    | (simp [noRd] at h; done)
    | exact ⟨by simp,h⟩
  simp only [dsL];congr 1; funext v; congr 1; funext w;rw [LH (X:=X) (Y:=Y) hd.1,Ce hd.2 (X:=X) (Y:=Y)]
theorem yj: ∀ {bk:List (Nat × Ds)} {z:TupD D (bk.map (·.2))} {args:List (SV D)} {vs:List Value} {H H':SH D} {X Y:At},bkL bk z args H=some H'->bkA D X bk z vs=bkA D Y bk z vs
 | [],_,_,_,_,_,_,_,_=>rfl
 | b::bk,z,args,vs,H,H',X,Y,h=>by
  simp only [bkL] at h;split at h
  case h_2=>cases h
  rename_i s hs;split at h
  case h_2=>cases h
  rename_i H1 h1;simp only [bkA];congr 1; funext v
  have hd: ∀ t,b.2 ≠ .rd t:=by intro t e;obtain ⟨j,d⟩:=b;simp only at e;subst e;simp [bkS] at h1
  rw [LH (X:=X) (Y:=Y) hd,yj h (X:=X) (Y:=Y)]
theorem Cf: ∀ {l:List (SV D)} {vs:List Value},dA (VR ν) l vs->(∀ s ∈ l,∀ m,s ≠ .tup m)->VL ν l vs
 | [],[], .nil,_=>rfl
 | s::l,v::vs, .cons h1 h2,hn=>⟨v,vs,rfl,by
  have:=hn s (by simp)
  cases s <;> first | exact h1 | exact absurd rfl (this _),Cf h2 fun s hs=>hn s (by simp [hs])⟩
theorem JT {d:Ds} {x:d.den D} {H:SH D}: ∀ m,(unD d x H).1 ≠ .tup m:=by
 intro m e
 cases d with
 | val t=>
  simp only [unD] at e
  cases ho:ofP (aggT t) (dec t x H).1 with
  | none=>rw [ho] at e; cases e
  | some s=>
   rw [ho] at e;simp only [Option.getD_some] at e;subst e
   cases ha:aggT t with
   | true=>
    rw [ha] at ho;simp only [ofP] at ho
    split at ho <;> cases ho
   | false=>
    rw [ha] at ho
    cases t <;> simp [dec,decL,leavesOf,decT,tupOf,ofP] at ho <;> (simp [aggT] at ha)
 | _=>simp [unD] at e
theorem Cg: ∀ {ds:List Ds} {x:TupD D ds} {H:SH D},∀ s ∈ (unL ds x H).1,∀ m,s ≠ .tup m
 | [],_,_,s,hs=>by simp [unL] at hs
 | d::ds,x,H,s,hs=>by
  simp only [unL,List.mem_cons] at hs;rcases hs with rfl | hs
  ·exact JT
  ·exact Cg s hs
theorem uO {d:Ds} {x:d.den D} {H:SH D}:stillB (unD d x H).1=true:=by
 cases d with
 | val t=>
  simp only [unD]
  cases ho:ofP (aggT t) (dec t x H).1 with
  | none=>rfl
  | some s=>
   simp only [Option.getD_some]
   cases ha:aggT t with
   | true=>
    rw [ha] at ho;simp only [ofP] at ho
    split at ho <;> (cases ho; rfl)
   | false=>
    rw [ha] at ho
    cases t <;> simp [dec,decL,leavesOf,decT,tupOf,ofP] at ho <;> first
     | (subst ho; rfl)
     | (simp [aggT] at ha; done)
 | _=>rfl
theorem JU {l:List (SV D)} {vs:List Value} {K:Value->Prop} (h:dA (VR ν) l vs) (hn: ∀ s ∈ l,∀ m,s ≠ .tup m) (hk: ∀ v,VR ν (resS l) v->K v):oneOf K vs:=by
 match l,vs,h with
 | [],[],_=>exact hk _ ⟨[],rfl,rfl⟩
 | [s],[v], .cons h1 .nil=>exact hk _ h1
 | s::s2::l,v::v2::vs,h=>exact hk _ ⟨_,Cf h hn,rfl⟩
theorem Fe {ds:List Ds} {x:TupD D ds} {H H':SH D}:Cur H' (resS (unL ds x H).1):=by
 match ds,x with
 | [],_=>exact trivial
 | [d],x=>exact Cur.of uO
 | d::d2::ds,x=>exact trivial
theorem sx {C:Ctrs D} {f:Nat} {args:List (SV D)} {vs:List Value} (R:HR X ν ω H h []) (ha:dA (VR ν) args vs) (HC:callS C f args H K): ∃ c,(f,c) ∈ C/\specOf c vs h (PC K X ν ω H):=by
 unfold callS at HC;split at HC
 ·exact HC.elim
 rename_i c hc;refine ⟨c,uN hc, ?_⟩;split at HC
 ·exact HC.elim
 rename_i x H1 chk hp
 cases hb:(chk.all (fun p=>Nat.beq (H1.ver p.1) p.2) && noRd c.rs) with
 | false=>rw [hb] at HC; exact HC.elim
 | true=>
  rw [hb] at HC;simp only [Bool.and_eq_true] at hb
  have HC:c.P x (cnd c.sg H1.sg none) fun y z σ=>
    match bkL c.bk z args ⟨H1.at_,cnd c.sg σ H1.sg⟩ with
    | none=>False
    | some H2=>K tt (resS (unL c.rs y H2).1) (unL c.rs y H2).2:=HC
  obtain ⟨ω1,R1,S1,krd⟩:=AN R ha hp;have memL: ∀ nm o y g,H1.get nm=some o->ν[nm]? =some y->ω1[nm]? =some g->o.sem D X ν y g ∈ semL D X ν H1.at_ ν ω1:=fun nm o y g ho hy hg=>ql _ _ _ nm _ (get_at ho) hy hg
  have back: ∀ (L:At) (y:TupD D c.rs) (z:TupD D (c.bk.map (·.2))) (σ':Option (St D.O)) (vs':List Value) (h':Hp),
    (∀ C,Inv h' (L::sgA D σ'::C)->Inv h' ((X::sgA D (cnd c.sg σ' H1.sg)::semL D X ν H1.at_ ν ω1)++C))->
    (match bkL c.bk z args ⟨H1.at_,cnd c.sg σ' H1.sg⟩ with
    | none=>False
    | some H2=>K tt (resS (unL c.rs y H2).1) (unL c.rs y H2).2)->
    Inv h' [L,sgA D σ',dsL D L c.rs y vs',bkA D L c.bk z vs]->oneOf (fun v=>PC K X ν ω H v h') vs':=by
   intro L y z σ' vs' h' hL HQ I;split at HQ
   ·exact HQ.elim
   rename_i H2 h2;rw [Ce hb.2 (X:=L) (Y:=X),yj h2 (X:=L) (Y:=X)] at I
   have R2:HR X ν ω1 ⟨H1.at_,cnd c.sg σ' H1.sg⟩ h' [dsL D X c.rs y vs',bkA D X c.bk z vs]:=⟨R1.l1,R1.l2,hL _ I⟩
   obtain ⟨ν2,ω2,R3,S3⟩:=Fc R2.swap ha h2;obtain ⟨ν4,ω4,R4,c4,S4⟩:=rX R3
   have S0:SLe H1 ν ω1 ⟨H1.at_,cnd c.sg σ' H1.sg⟩ ν ω1:=⟨NLe.refl ν,fun i o v hi=>⟨o,v,hi,Nat.le_refl _,fun _=>⟨rfl,rfl⟩⟩⟩
   exact JU c4 Cg fun v hv=>⟨tt,_,_,_,_,HQ,hv,Fe,S1.trans (S0.trans (S3.trans S4)),R4⟩
  cases hsg:c.sg with
  | false=>
   rw [hsg] at HC
   let L:=LL X ν ω1 H1
   have hP: ∃ h F M,(bigA L).P h F M:=by obtain ⟨F,M,hP⟩:=Inv.get (Inv.swap R1.front);exact ⟨_,F,M,hP⟩
   have hr:=krd H1 ω1 h _ L (SLe.refl _ _ _) R1 hb.1 (by simp [L]) (fun nm o y g ho hy hg=>by
    have:=memL nm o y g ho hy hg
    simp only [L,LL,List.mem_cons]; exact .inr (.inr this)) hP
   refine ⟨bigA L,x,none,_, ?_,HC,fun y z σ' HQ vs' h' I=> ?_⟩
   ·have I:=Inv.swap R1.front
    have I2:Inv h [dsL D (bigA L) c.ps x vs,bigA L]:=(Inv.swap I).conv (AL hr h);exact Inv.bV (Inv.dV I2)
   ·refine back (bigA L) y z σ' vs' h' (fun C I=> ?_) (by rw [hsg]; exact HQ) I
    rw [hsg]
    exact (Inv.dn (Inv.swap I)).bigE
  | true=>
   rw [hsg] at HC
   let L:=X::semL D X ν H1.at_ ν ω1
   have I0:Inv h (bigA L::sgA D H1.sg::[ndL D c.ps x vs]):=by
    have I:=R1.inv
    have p:((X::sgA D H1.sg::semL D X ν H1.at_ ν ω1)++[ndL D c.ps x vs]).Perm (L++(sgA D H1.sg::[ndL D c.ps x vs])):=by simp only [L,List.cons_append];exact List.Perm.cons _ List.perm_middle.symm
    exact (Inv.prm p I).bigI
   have hP: ∃ h F M,(bigA L).P h F M:=by obtain ⟨F,M,hP⟩:=Inv.get I0;exact ⟨_,F,M,hP⟩
   have hr:=krd H1 ω1 h _ L (SLe.refl _ _ _) R1 hb.1 (by simp [L]) (fun nm o y g ho hy hg=>by
    have:=memL nm o y g ho hy hg
    simp only [L,List.mem_cons]; exact .inr this) hP
   refine ⟨bigA L,x,H1.sg,_, ?_,HC,fun y z σ' HQ vs' h' I=> ?_⟩
   ·exact Inv.rot (X:=[bigA L,sgA D H1.sg]) ((Inv.bV I0).conv (AL hr h))
   ·refine back (bigA L) y z σ' vs' h' (fun C I=> ?_) (by rw [hsg]; exact HQ) I
    rw [hsg];have I2:=I.bigE
    have p:(L++(sgA D σ'::C)).Perm ((X::sgA D σ'::semL D X ν H1.at_ ν ω1)++C):=by simp only [L,List.cons_append];exact List.Perm.cons _ List.perm_middle
    exact Inv.prm p I2
end Go.Ex
namespace Go.Ex
open Go Go.Wc Go.Pu
variable {D:Tabs} {X:At} {ν ν':Nu} {h h':Hp} {A B B':List At} {ω ω':List Gm} {H H':SH D} {K:KS D} {τ:Tys} {Γ:EnvS D} {Γr:Env} {P:Program}
def specAny (C:Ctrs D) (f:Nat):Spec:=fun args h K=> ∃ c,(f,c) ∈ C/\specOf c args h K
def specsL (C:Ctrs D):Specs:=C.map fun p=>(p.1,specAny C p.1)
theorem sy {C:Ctrs D} {f:Nat} {c:Ctr D} (hc:(f,c) ∈ C):(specsL C).get f=some (specAny C f):=by
  have: ∀ (l:Ctrs D),(f,c) ∈ l->Specs.get (l.map fun p=>(p.1,specAny C p.1)) f=some (specAny C f):=by
    intro l
    induction l with
    | nil=>intro h; cases h
    | cons p l ih=>
      intro h;simp only [List.map_cons,Specs.get]
      cases hb:Nat.beq p.1 f with
      | true => have e : p.1 = f := by simpa using hb
                simp [e]
      | false=>
        simp only [cond_false];refine ih ?_;rcases List.mem_cons.1 h with e | h
        . rw [<- e] at hb; simp at hb
        . exact h
  exact this C hc
theorem mQ {C:Ctrs D} {f:Nat} {S:Spec} (h:(specsL C).get f=some S):S=specAny C f:=by
  have: ∀ (l:Ctrs D),Specs.get (l.map fun p=>(p.1,specAny C p.1)) f=some S->S=specAny C f:=by
    intro l
    induction l with
    | nil=>intro h; simp [Specs.get] at h
    | cons p l ih=>
      intro h;simp only [List.map_cons,Specs.get] at h
      cases hb:Nat.beq p.1 f with
      | true => rw [hb] at h
                have e:p.1=f:=by simpa using hb
                simp at h; rw [<- h,e]
      | false=>rw [hb] at h; exact ih h
  exact this C h
theorem uP {c:CK} {s:SV D} {v:Value} {Kr:Value->Prop} (hb:ckB c s=true) (hl: ∀ k n,c ≠ .lump k n) (h3:iH ν s v) (hk:Kr v):Wc.shape c Kr:=by
 cases c with
 | lump k n=>exact absurd rfl (hl k n)
 | int k=>
  cases s <;> simp only [ckB,Bool.false_eq_true] at hb;have:=bH hb; subst this;have h3:v=_:=h3;subst h3
  exact ⟨_,hk⟩
 | bool=>
  cases s <;> simp only [ckB,Bool.false_eq_true] at hb;have h3:v=_:=h3;subst h3
  exact ⟨_,hk⟩
 | str=>
  cases s <;> simp only [ckB,Bool.false_eq_true] at hb;have h3:v=_:=h3;subst h3
  exact ⟨_,hk⟩
 | any=>exact ⟨_,hk⟩
 | ptr=>
  have: ∃ q,v= .pointer q:=by
   cases s <;> simp only [ckB,Bool.false_eq_true] at hb <;> simp only [iH] at h3 <;> first
    | exact ⟨_,h3⟩
    | (obtain ⟨_,_,h2⟩:=h3; exact ⟨_,h2⟩)
    | (obtain ⟨_,_,_,_,h2⟩:=h3; exact ⟨_,h2⟩)
  obtain ⟨q,rfl⟩:=this
  exact ⟨q,hk⟩
 | sl=>
  have: ∃ a n c,v= .slice a n c:=by
   cases s <;> simp only [ckB,Bool.false_eq_true] at hb <;> simp only [iH] at h3 <;> first
    | exact ⟨_,_,_,h3⟩
    | (obtain ⟨_,_,h2⟩:=h3; exact ⟨_,_,_,h2⟩)
    | (obtain ⟨_,_,_,h2⟩:=h3; exact ⟨_,_,_,h2⟩)
  obtain ⟨a,n,c,rfl⟩:=this
  exact ⟨⟨a,n,c⟩,hk⟩
 | map=>
  have: ∃ q,v= .map q:=by
   cases s <;> simp only [ckB,Bool.false_eq_true] at hb <;> simp only [iH] at h3 <;> first
    | exact ⟨_,h3⟩
    | (obtain ⟨_,_,h2⟩:=h3; exact ⟨_,h2⟩)
  obtain ⟨q,rfl⟩:=this;exact ⟨q,hk⟩
theorem oS: ∀ {cs:List CK} {l:List (SV D)} {vs:List Value} {Kr:List Value->Prop},cksB cs l=true->CRL ν l vs->Kr vs->shapes cs Kr
 | [],[],vs,Kr,_,hc,hk=>by have hc:vs=[]:=hc; subst hc; exact hk
 | c::cs,s::l,vs,Kr,hb,⟨u,w,e,h1,h2⟩,hk=>by
  subst e;simp only [cksB,Bool.and_eq_true] at hb
  by_cases hl: ∃ k n,c= .lump k n
  ·obtain ⟨k,n,rfl⟩:=hl
   cases s <;> simp only [ckB,Bool.false_eq_true,false_and] at hb;rename_i k' n' v;obtain ⟨b1,b2⟩:=hb;simp only [Bool.and_eq_true] at b1;have:=bH b1.1; subst this;have en:n=n':=by simpa using b1.2
   subst en;have h1:u=_:=h1;subst h1;exact ⟨v.toList,oS b2 h2 hk⟩
  ·have Bw: ∀ k n,c ≠ .lump k n:=fun k n e=>hl ⟨k,n,e⟩
   obtain ⟨v,rfl,h3⟩:=h1.v0 (by
    rintro k n x rfl;cases c <;> simp [ckB] at hb
    exact Bw _ _ rfl)
   have:=uP hb.1 Bw h3 (Kr:=fun v=>shapes cs fun vs=>Kr (v::vs)) (oS hb.2 h2 hk)
   cases c <;> first
    | exact absurd rfl (Bw _ _)
    | exact this
 | [],_::_,_,_,hb,_,_=>by simp [cksB] at hb
 | _::_,[],_,_,hb,_,_=>by simp [cksB] at hb
theorem Nc {ti:TI} {s:SV D} {v:Value} {Kr:Value->Prop} (hv:VR ν s v) (hb:isaB ti s=true) (hk:Kr v):isA ti v Kr:=by
 unfold isaB at hb;unfold isA
 cases ha:Wc.isAgg ti.kd with
 | true=>
  rw [ha] at hb;simp only at hb;split at hb
  case h_2=>cases hb
  rename_i l hl;simp only [Bool.and_eq_true] at hb;obtain ⟨⟨b1,b2⟩,b3⟩:=hb;have hc:=lg hv hl b2;have ho:=kn hl b2;have e:=nL hv b3 ho;simp only [cnd]
  exact oS b1 hc ⟨e,by rw [<- e]; exact hk⟩
 | false=>
  rw [ha] at hb;simp only [cnd]
  cases hcs:ti.gC with
  | nil=>rw [hcs] at hb; cases hb
  | cons c cs=>
   rw [hcs] at hb
   have hl: ∀ k n,c ≠ .lump k n:=by rintro k n rfl;cases hb
   have hb:ckB c s=true:=by
    cases c <;> first
     | exact absurd rfl (hl _ _)
     | exact hb
   have h3:c= .any\/iH ν s v:=by
    cases c <;> first
     | exact absurd rfl (hl _ _)
     | exact .inl rfl
     | (right; cases s <;> simp only [ckB,Bool.false_eq_true] at hb <;> exact hv)
   rcases h3 with rfl | h3
   ·exact ⟨v,rfl,hk⟩
   ·exact uP (Kr:=fun u=>v=u/\Kr u) hb hl h3 ⟨rfl,hk⟩
theorem ym: ∀ vs:List Value,vs=segs (vs.map Seg.one)
 | []=>rfl
 | v::vs=>by simp only [List.map_cons,segs,Seg.cells,List.singleton_append]; rw [<- ym vs]
theorem JV {C:Ctrs D} {f:Nat} {xs:List Operand} {rt:Nat} (R:HR X ν ω H h []) (hv: ∀ x ∈ xs,EvR ν H Γ Γr x) (HC:callS C f (xs.map (evS Γ)) H K):
  ∃ S,(specsL C).get f=some S/\S (xs.map (ev Γr)) h (PC K X ν ω H):=by
 obtain ⟨c,hc,hs⟩:=sx R (lq fun x hx=>(hv x hx).1) HC;exact ⟨_,sy hc,c,hc,hs⟩
theorem Ff {l c:Operand} {k1 k2:IntKind} {i j:Int} (h:sameO l c=true) (e1:evS Γ l= .int k1 i) (e2:evS Γ c= .int k2 j):i=j:=by
 unfold sameO at h;split at h
 ·rename_i a b
  have:a=b:=by simpa using h
  subst this;rw [e1] at e2; cases e2; rfl
 ·rename_i a _ b
  have:a=b:=by simpa using h
  subst this;simp only [evS,ofC,rY,SV.int.injEq] at e1 e2;rw [<- e1.2,<- e2.2]
 ·cases h
theorem JW {ty:Nat->Option Ty} {C:Ctrs D} {rt:Nat} {o:Op} (hA:Agree P τ) (R:HR X ν ω H h []) (hv: ∀ x ∈ o.operands.toList,EvR ν H Γ Γr x) (HS:opCS τ ty C rt o Γ H K):
  opC τ (specsL C) (specsL C) rt o Γr h (PC K X ν ω H):=by
 cases o with
 | alloc e=>
  simp only [opCS] at HS;simp only [opC];split at HS
  case h_2=>exact HS.elim
  rename_i te ht;rw [ht];simp only;split at HS
  case h_2=>exact HS.elim
  rename_i z hz;obtain ⟨z1,z2,z3⟩:=sj (ν:=ν) hz;have:=E8 R z1 e
  exact ⟨tt,_,_,_,_,HS,⟨⟨some ⟨h.size,0,none⟩,0,0,0,none⟩,gv R _,by simp [Nm.p,Addr.add]⟩,trivial,dL R.l2 _ _,by simpa using this⟩
 | box e x=>
  have hx:=(hv x (by simp [Op.operands])).1;simp only [opCS] at HS;simp only [opC];split at HS
  case h_2=>exact HS.elim
  rename_i te ht;split at HS
  case h_2=>exact HS.elim
  rename_i l hl
  cases hb:(l.all okC && l.all stillB) with
  | false=>rw [hb] at HS; exact HS.elim
  | true=>
   rw [hb] at HS;simp only [Bool.and_eq_true] at hb;have:=E8 R (lg hx hl hb.1) e
   exact ⟨tt,_,_,_,_,HS,⟨⟨some ⟨h.size,0,none⟩,0,0,0,none⟩,gv R _,by simp [Nm.p,Addr.add]⟩,trivial,dL R.l2 _ _,by simpa using this⟩
 | buildSlice t n ps=>
  simp only [opCS] at HS;simp only [opC];split at HS
  case h_2=>exact HS.elim
  rename_i ti ht;rw [ht];simp only;split at HS
  case h_2=>exact HS.elim
  rename_i e ek;rw [ek];split at HS
  case h_2=>exact HS.elim
  rename_i te t' hte hty;simp only [hte];split at HS
  case h_2=>exact HS.elim
  rename_i l H1 hl
  cases hb:(Nat.beq ps.toList.length n && Nat.ble (n*te.size) 16777216 && Nat.beq te.size (D.r t').n) with
  | false=>rw [hb] at HS; exact HS.elim
  | true=>
   rw [hb] at HS;simp only [Bool.and_eq_true] at hb HS;obtain ⟨⟨b1,b2⟩,b3⟩:=hb;have hn:ps.toList.length=n:=by simpa using b1
   have hsz:te.size=(D.r t').n:=by simpa using b3
   simp only [b2,cnd]
   have hps:dA (fun (p:Nat × SV D) (q:Nat × Value)=>p.1=q.1/\VR ν p.2 q.2) (ps.toList.map fun p=>(p.1,evS Γ p.2)) (ps.toList.map fun p=>(p.1,ev Γr p.2)):=
    lq fun p hp=>⟨rfl,(hv p.2 (by simp only [Op.operands]; exact List.mem_map.2 ⟨p,hp,rfl⟩)).1⟩
   obtain ⟨ω1,vs,R1,S1,hlen,k⟩:=Cc (te:=te) hsz hps R hl;have hlen:l.length=n:=by rw [hlen,List.length_map,hn]
   have:=k [] (zeros te.zero n) (fun cs=>PC K X ν ω H (.slice (some ⟨h.size,0,none⟩) n n) (h.push (.cells cs.toArray e (0,0)))) (by simp) (by rw [iY,List.length_map,hn,(hA e te hte).2]) ?_
   ·simpa using this
   ·rw [List.nil_append]
    obtain ⟨F,M,hP⟩:=Inv.get R1.front;have hone:=Els.one hP.2;have cells:=ym vs
    have key:alW h e vs fun p h'=>HR X ν ω1 H1 h' [ownS (D.r t') (some p) n n l]:=ni (vs.map Seg.one) cells R1.front fun p h' I=>by have I2:=Inv.litL (n:=n) (Inv.swap I) cells (by rw [hlen]);exact R1.back (B:=[ownS (D.r t') (some p) n n l]) I2
    have key:HR X ν ω1 H1 (h.push (.cells vs.toArray e (0,0))) [ownS (D.r t') (some ⟨h.size,0,none⟩) n n l]:=key;subst hlen
    exact PC.own R S1 key HS
 | store t a x=>exact Dr R (hv a (by simp [Op.operands])).1 (hv a (by simp [Op.operands])).2 (hv x (by simp [Op.operands])).1 HS
 | convert s d x=>
  have hx:=(hv x (by simp [Op.operands])).1;simp only [opCS] at HS;simp only [opC];split at HS
  case h_2=>exact HS.elim
  rename_i ts td hs hd;rw [hs,hd];simp only;split at HS
  case h_2=>exact HS.elim
  rename_i e b e1 e2 e3;rw [e3] at hx;rw [e1,e2,show ev Γr x=_ from hx];split at HS
  case h_2=>exact HS.elim
  rename_i te hte;split at HS
  case h_2=>exact HS.elim
  rename_i hk;simp only [hte,hk];refine P2 R.all fun a1 c1 h' I=> ?_
  exact PC.own R (t:= .int .u8) (SLe.refl _ _ _) (R.back (B:=[_]) I) HS
 | makeMap t x=>
  simp only [opCS] at HS
  have hx:x=none\/ ∃ y k n,x=some y/\ev Γr y= .int k n:=by
   cases x with
   | none=>exact .inl rfl
   | some y=>
    right;simp only at HS;have hy:=(hv y (by simp [Op.operands])).1
    cases he:evS Γ y <;> rw [he] at HS hy <;> first
     | exact HS.elim
     | exact ⟨y,_,_,rfl,hy⟩
  have HS:(match τ.get t with
  | some ti=>match ti.kd with
   | .map kt e=>match τ.get kt,τ.get e,ty e with
    | some tk,some te,some t'=>match tk.kd with
     | .int k=>K tt (.map H.nx) (H.new (.map k t' (Wc.isAgg te.kd) (some [])))
     | _=>False
    | _,_,_=>False
   | _=>False
  | none=>False):=by
   rcases hx with rfl | ⟨y,k,n,rfl,hy⟩
   ·exact HS
   ·simp only at HS
    cases he:evS Γ y <;> rw [he] at HS <;> first
     | exact HS.elim
     | exact HS
  split at HS
  case h_2=>exact HS.elim
  rename_i ti ht;split at HS
  case h_2=>exact HS.elim
  rename_i kt e ek;split at HS
  case h_2=>exact HS.elim
  rename_i tk te t' htk hte hty;split at HS
  case h_2=>exact HS.elim
  rename_i k hk
  have key:amW h fun r h'=>PC K X ν ω H (.map (some r)) h':=PY (kI k) (D.r t') (Wc.isAgg te.kd) R.all fun r h' o I=>by have R1:HR X ν ω H h' [mapX (kI k) (D.r t') (Wc.isAgg te.kd) (some r) o (some [])]:=R.back (B:=[_]) I;have R2:=R1.push (.map k t' (Wc.isAgg te.kd) (some [])) ⟨none,0,0,0,some r⟩ o fun h F M hP=>hP;exact ⟨tt,_,_,_,_,HS,⟨_,gv R _,rfl⟩,trivial,dL R.l2 _ _,R2⟩
  rcases hx with rfl | ⟨y,k2,n,rfl,hy⟩
  ·simp only [opC]; exact key
  ·simp only [opC,ht,hy,ek]; exact key
 | makeSlice t l c=>
  have h1:=(hv l (by simp [Op.operands])).1;have h2:=(hv c (by simp [Op.operands])).1;simp only [opCS] at HS;simp only [opC];split at HS
  case h_2=>exact HS.elim
  rename_i ti k1 i k2 j ht e1 e2;rw [e1] at h1; rw [e2] at h2;rw [ht,show ev Γr l=_ from h1,show ev Γr c=_ from h2];simp only;split at HS
  case h_2=>exact HS.elim
  rename_i e ek;rw [ek];split at HS
  case h_2=>exact HS.elim
  rename_i te t' hte hty;simp only [hte];split at HS
  case h_2=>exact HS.elim
  rename_i z hz
  cases hb:(Nat.ble te.bytes 30000 && Nat.beq te.size (D.r t').n) with
  | false=>rw [hb] at HS; exact HS.elim
  | true=>
   rw [hb] at HS;simp only [Bool.and_eq_true,cnd] at hb HS
   obtain ⟨rfl,HS2⟩:i=j/\mkW i (fun _=>K tt (.sl H.nx) (H.new (.own t' (List.replicate i.toNat z)))):=by
    unfold sameW at HS
    cases hs:sameO l c with
    | true=>rw [hs] at HS; exact ⟨Ff hs e1 e2,HS⟩
    | false=>rw [hs] at HS; exact HS
   obtain ⟨hn,hK⟩:=P7 HS2;rw [show te.size=(D.r t').n by simpa using hb.2];refine Wb R.all (AK hz) (by simpa using hb.1) hn fun a1 c1 h' I=> ?_
   exact PC.own R (SLe.refl _ _ _) (R.back (B:=[_]) I) hK
 | call c=>
  obtain ⟨callee,args,ats⟩:=c
  cases callee with
  | invoke r m=>exact HS.elim
  | value f=>
   have hv': ∀ p ∈ args.toList,EvR ν H Γ Γr p:=fun p hp=>hv p (by simp [Op.operands,Call.operands]; exact .inr (by simpa using hp));have hvf:EvR ν H Γ Γr f:=hv f (by simp [Op.operands,Call.operands])
   have gen:(match evS Γ f,τ.get rt with
    | .fn g cs,some ti=>callS C g (args.toList.map (evS Γ)++cs.map fun nm=> .ad nm 0) H fun gg s H'=>cnd (isaB ti s) (K gg s H') False
    | _,_=>False)->(match τ.get rt with
    | some ti=>phi (specsL C) (ev Γr f) (args.toList.map (ev Γr)) h fun v h'=>isA ti v fun v=>PC K X ν ω H v h'
    | none=>False):=by
    intro HS;split at HS
    case h_2=>exact HS.elim
    rename_i g cs ti e1 ht;have hf:=hvf.1;rw [e1] at hf;obtain ⟨xs,hxs,hf⟩:=hf;rw [ht,hf]
    have hall:dA (VR ν) (args.toList.map (evS Γ)++cs.map fun nm=>SV.ad nm 0) (args.toList.map (ev Γr)++xs.map fun x=>Value.pointer (some x.p)):=by
     have a1:dA (VR ν) (args.toList.map (evS Γ)) (args.toList.map (ev Γr)):=lq fun x hx=>(hv' x hx).1
     have a2:dA (VR ν) (cs.map fun nm=>(SV.ad nm 0:SV D)) (xs.map fun x=>Value.pointer (some x.p)):=by
      clear hf e1 HS
      induction cs generalizing xs with
      | nil=>cases xs with
       | nil=>exact .nil
       | cons a b=>simp at hxs
      | cons c cs ih=>cases xs with
       | nil=>simp at hxs
       | cons x xs=> simp only [List.map_cons,List.cons.injEq] at hxs;exact .cons ⟨x,hxs.1,by simp [Addr.add]⟩ (ih _ hxs.2)
     exact wV a1 a2
    obtain ⟨c,hc,hs⟩:=sx R hall HS;simp only [phi,sy hc];obtain ⟨X',x,σ,Q,q1,q2,q3⟩:=hs;refine ⟨c,hc,X',x,σ,Q,by simpa using q1,q2,fun y z σ' hQ vs h' I=> ?_⟩;have:=q3 y z σ' hQ vs h' (by simpa using I)
    have one: ∀ {K1 K2:Value->Prop} {vs:List Value},(∀ v,K1 v->K2 v)->oneOf K1 vs->oneOf K2 vs:=by
     intro K1 K2 vs hk h
     match vs,h with
     | [],h=>exact hk _ h
     | [v],h=>exact hk _ h
     | _::_::_,h=>exact hk _ h
    refine one (fun v hv=> ?_) this;obtain ⟨gg,s,H',ν',ω',hK,r1,r2,r3,r4⟩:=hv
    cases hb:isaB ti s with
    | false=>rw [hb] at hK; exact hK.elim
    | true=> rw [hb] at hK;exact Nc r1 hb ⟨gg,s,H',ν',ω',hK,r1,r2,r3,r4⟩
   cases f with
   | func f=>
    simp only [opCS] at HS;simp only [opC];obtain ⟨S,h1,h2⟩:=JV (rt:=rt) R hv' HS;rw [h1]
    exact h2
   | tmp t=>exact gen HS
   | const v=>exact gen HS
   | global g=>exact gen HS
  | builtin b=>
   have hv': ∀ p ∈ args.toList,EvR ν H Γ Γr p:=fun p hp=>hv p (by simp [Op.operands,Call.operands]; simpa using hp);simp only [opCS] at HS;simp only [opC];split at HS
   case h_4=>exact HS.elim
   ·rename_i s x t u e1 e2
    rw [e1,e2];have hs:=(hv' s (by rw [e1]; simp)).1;have hx:=(hv' x (by rw [e1]; simp)).1;simp only;split at HS
    case h_2=>exact HS.elim
    rename_i ti tu ht hu;rw [ht,hu];split at HS
    case h_2=>exact HS.elim
    rename_i e ek;split at HS
    case h_2=>exact HS.elim
    rename_i te t' hte hty
    cases hb:(Nat.beq te.size (D.r t').n && !Nat.beq te.bytes 0 && Nat.ble te.bytes 30000) with
    | false=>rw [hb] at HS; exact HS.elim
    | true=>
     rw [hb] at HS;simp only [Bool.and_eq_true,Bool.not_eq_true',cnd] at hb HS;obtain ⟨⟨b1,b2⟩,b3⟩:=hb;have hsz:te.size=(D.r t').n:=by simpa using b1
     have hby:te.bytes ≠ 0:=by intro e0; rw [e0] at b2; simp at b2
     have hbb:te.bytes<=30000:=by simpa using b3
     have hz:=(hA e te hte).2;split at HS
     case h_5=>exact HS.elim
     ·rename_i e5 nm lo hi Nd es
      rw [es] at hs;split at HS
      case h_2=>exact HS.elim
      rename_i l m hl hm;obtain ⟨hB,HS⟩:=HS
      have hmne:m ≠ []/\K tt (.sl H.nx) (H.new (.own t' (sub l lo hi++m))):=by
       cases m with
       | nil=>exact HS.elim
       | cons a b=>exact ⟨by simp,HS⟩
      obtain ⟨a,n,c,b,k,d,q1,q2,q3⟩:=Du (e:=e) R hs hx hsz hz hby hbb hl hm hmne.1 hB hmne.2;rw [q1,q2];simp only [ek,hte,Nd];exact q3
     ·rename_i e5 Nd hne
      split at HS
      case h_2=>exact HS.elim
      rename_i l H1 hg;split at HS
      case h_2=>exact HS.elim
      rename_i m hm;obtain ⟨a,n,c,b,k,d,q1,q2,q3⟩:=Dt (e:=e) R hs hx hsz hz hby hbb hg hm HS.1 HS.2;rw [q1,q2];simp only [ek,hte,Nd];exact q3
     ·rename_i y Nd ey
      rw [ey] at hx;split at HS
      case h_2=>exact HS.elim
      split at HS
      case h_2=>exact HS.elim
      rename_i l H1 hg;obtain ⟨ω1,a,c,q1,R1,S1⟩:=vS R hs hg;rw [q1,show ev Γr x=_ from hx];simp only [ek,hte,Nd];rw [show te.size=1 from hsz];simp only [show Nat.beq 1 1=true from rfl,cnd];refine PW R1.front (by rw [hz,show te.size=1 from hsz]) hby hbb HS.1 fun a1 c1 h' I=> ?_;exact PC.own R (t:= .int .u8) S1 (R1.back (B:=[_]) I) HS.2
     ·rename_i k0 k1 m Nd ey
      rw [ey] at hx;split at HS
      case h_2=>exact HS.elim
      rename_i l H1 z hg Ma;obtain ⟨ω1,a,c,q1,R1,S1⟩:=vS R hs hg;rw [q1,show ev Γr x=_ from hx];simp only [ek,hte,Nd];rw [hsz];refine PX R1.front (AK Ma) hby hbb HS.1 HS.2.1 fun a1 c1 h' I=> ?_;exact PC.own R S1 (R1.back (B:=[_]) I) HS.2.2
   ·rename_i d x t r e1 e2
    rw [e1,e2];have hd:=(hv' d (by rw [e1]; simp)).1;have hx:=(hv' x (by rw [e1]; simp)).1;simp only;split at HS
    case h_2=>exact HS.elim
    rename_i ti ht;rw [ht];split at HS
    case h_2=>exact HS.elim
    rename_i e ek;split at HS
    case h_2=>exact HS.elim
    rename_i te t' hte hty
    cases hb:Nat.beq te.size (D.r t').n with
    | false=>rw [hb] at HS; exact HS.elim
    | true=>
     rw [hb] at HS;simp only [cnd] at HS;split at HS
     ·exact HS.elim
     rename_i m hm;obtain ⟨a,n,c,b,k,d',q1,q2,q3⟩:=JR (te:=te) R hd hx (by simpa using hb) hm HS;rw [q1,q2];simp only [ek,hte];exact q3
   ·rename_i x t r e1 e2
    rw [e1,e2];have hx:=(hv' x (by rw [e1]; simp)).1;simp only;split at HS
    case h_2=>exact HS.elim
    rename_i ti ht;rw [ht];split at HS
    case h_2=>exact HS.elim
    rename_i e ek;split at HS
    case h_2=>exact HS.elim
    rename_i te t' nm hte hty es;rw [es] at hx;split at HS
    case h_2=>exact HS.elim
    rename_i z t2 l Ma ho;split at HS
    case h_2=>exact HS.elim
    rename_i l' hc;obtain ⟨e3,e4⟩:=dG hc;subst e3; subst e4
    cases hb:Nat.beq te.size (D.r t2).n with
    | false=>rw [hb] at HS; exact HS.elim
    | true=>
     rw [hb] at HS;obtain ⟨y,hy,q⟩:=hx;rw [q];simp only [ek,hte];obtain ⟨x',g,L,hx',hg,I,_,_,k⟩:=R.at ho;rw [hy] at hx'; cases hx';obtain ⟨e5,I⟩:=Inv.factE I;have en:=fF I;refine Wf I (AK Ma) fun h' I'=> ?_;obtain ⟨R2,S2⟩:=k h' (.own t2 (List.replicate l.length z)) g (Inv.factI e5 (by rw [<- en]; exact I'))
     exact ⟨tt, .undef,_,_,_,HS,rfl,trivial,S2,R2⟩
 | _=>exact HS.elim
end Go.Ex
namespace Go.Ex
open Go Go.Wc Go.Pu
variable {τ:Tys} {Γ:Env} {h:Hp}
abbrev KR:=(Hp->Prop)->Value->Prop
theorem iJ {c:CK} {p:Addr} {K K':KR} (hk: ∀ f v,K f v->K' f v) (H:ldC c h p K):ldC c h p K':=by
 cases c <;> first
  | exact H.elim
  | (obtain ⟨n,h1,h2⟩:=H; exact ⟨n,h1,hk _ _ h2⟩)
theorem fQ: ∀ {cs:List CK} {p:Addr} {i:Nat} {K K':(Hp->Prop)->List Value->Prop},(∀ f v,K f v->K' f v)->ldCs cs h p i K->ldCs cs h p i K'
 | [],p,i,K,K',hk,H=>hk _ _ H
 | c::cs,p,i,K,K',hk,H=>by
  cases c <;> first
   | (obtain ⟨l,h1,h2,h3⟩:=(H:ldL _ _ h _ _); exact ⟨l,h1,h2,fQ (fun f v hv=>hk _ _ hv) h3⟩)
   | (rename_i k; exact iJ (c:= .int k) (K:=fun f v=>ldCs cs h p (i+1) fun g vs=>K (fun h'=>f h'/\g h') (v::vs)) (fun f v hv=>fQ (fun g w hw=>hk _ _ hw) hv) H)
   | exact iJ (c:= .bool) (K:=fun f v=>ldCs cs h p (i+1) fun g vs=>K (fun h'=>f h'/\g h') (v::vs)) (fun f v hv=>fQ (fun g w hw=>hk _ _ hw) hv) H
   | exact iJ (c:= .str) (K:=fun f v=>ldCs cs h p (i+1) fun g vs=>K (fun h'=>f h'/\g h') (v::vs)) (fun f v hv=>fQ (fun g w hw=>hk _ _ hw) hv) H
   | exact iJ (c:= .ptr) (K:=fun f v=>ldCs cs h p (i+1) fun g vs=>K (fun h'=>f h'/\g h') (v::vs)) (fun f v hv=>fQ (fun g w hw=>hk _ _ hw) hv) H
   | exact iJ (c:= .sl) (K:=fun f v=>ldCs cs h p (i+1) fun g vs=>K (fun h'=>f h'/\g h') (v::vs)) (fun f v hv=>fQ (fun g w hw=>hk _ _ hw) hv) H
   | exact iJ (c:= .map) (K:=fun f v=>ldCs cs h p (i+1) fun g vs=>K (fun h'=>f h'/\g h') (v::vs)) (fun f v hv=>fQ (fun g w hw=>hk _ _ hw) hv) H
   | exact iJ (c:= .any) (K:=fun f v=>ldCs cs h p (i+1) fun g vs=>K (fun h'=>f h'/\g h') (v::vs)) (fun f v hv=>fQ (fun g w hw=>hk _ _ hw) hv) H
theorem ko {pl:Nat->Option (Nat × Nat)}: ∀ {ps:List (Nat × Value)} {cs:List Value} {K K':List Value->Prop},(∀ v,K v->K' v)->fillL pl ps cs K->fillL pl ps cs K'
 | [],cs,K,K',hk,H=>hk _ H
 | (i,v)::r,cs,K,K',hk,H=>by
  simp only [fillL] at H |-
  split at H
  ·exact H.elim
  rename_i off size e
  try rw [e]
  try simp only
  cases hb:(Nat.beq v.cells.toList.length size && Nat.ble (off+size) cs.length) with
  | false=>rw [hb] at H; exact H.elim
  | true=>rw [hb] at H; exact ko hk H
theorem nR {s:Sl} {lo hi:Int} {n:Nat} {K K':Sl->Prop} (hk: ∀ v,K v->K' v) (H:slW s lo hi n K):slW s lo hi n K':=⟨H.1,H.2.1,hk _ H.2.2⟩
theorem Fg {s:Sl} {lo hi m:Int} {n:Nat} {K K':Sl->Prop} (hk: ∀ v,K v->K' v) (H:slX s lo hi m n K):slX s lo hi m n K':=⟨H.1,H.2.1,H.2.2.1,hk _ H.2.2.2⟩
theorem yo {b:Option Addr} {len:Nat} {i:Int} {n:Nat} {K K':Addr->Prop} (hk: ∀ v,K v->K' v) (H:ixW b len i n K):ixW b len i n K':=by obtain ⟨a,h1,h2,h3⟩:=H; exact ⟨a,h1,h2,hk _ h3⟩
theorem AO {c:CK} {K K':Value->Prop} (hk: ∀ v,K v->K' v) (H:Wc.shape c K):Wc.shape c K':=by cases c <;> first | exact H.elim | (obtain ⟨n,h1⟩:=H; exact ⟨n,hk _ h1⟩)
theorem pU: ∀ {cs:List CK} {K K':List Value->Prop},(∀ v,K v->K' v)->shapes cs K->shapes cs K'
 | [],K,K',hk,H=>hk _ H
 | c::cs,K,K',hk,H=>by
  cases c <;> first
   | (obtain ⟨l,h1⟩:=H; exact ⟨l,pU (fun v hv=>hk _ hv) h1⟩)
theorem yp {ti:TI} {v:Value} {K K':Value->Prop} (hk: ∀ v,K v->K' v) (H:isA ti v K):isA ti v K':=by
 unfold isA at H |-
 cases ha:Wc.isAgg ti.kd with
 | true=>rw [ha] at H; exact pU (fun u hu=>⟨hu.1,hk _ hu.2⟩) H
 | false=>
  rw [ha] at H;simp only [cnd] at H |-
  split at H
  ·exact AO (fun u hu=>⟨hu.1,hk _ hu.2⟩) H
  ·exact H.elim
theorem Fh {kd:Kd} {m:Option Nat} {key:Value} {K K':(Hp->Prop)->Option Value->Prop} (hk: ∀ f v,K f v->K' f v) (H:lkW kd h m key K):lkW kd h m key K':=by
 cases m with
 | none=>exact hk _ _ H
 | some r=>obtain ⟨es,ck,h1,o,h2,h3⟩:=H; exact ⟨es,ck,h1,o,h2,hk _ _ h3⟩
theorem Fi {m:Option Nat} {K K':(Hp->Prop)->Int->Prop} (hk: ∀ f v,K f v->K' f v) (H:lnM h m K):lnM h m K':=by
 cases m with
 | none=>exact hk _ _ H
 | some r=>obtain ⟨es,ck,h1,h3⟩:=H; exact ⟨es,ck,h1,hk _ _ h3⟩
theorem Fj {s:Sl} {K K':(Hp->Prop)->ByteArray->Prop} (hk: ∀ f v,K f v->K' f v) (H:It h s K):It h s K':=by
 unfold It at H |-
 split at H
 ·exact hk _ _ H
 ·obtain ⟨bs,h1,h2⟩:=H; exact ⟨bs,h1,hk _ _ h2⟩
theorem yq {o:Op} {K K':KR} (hk: ∀ f v,K f v->K' f v) (H:opR τ o Γ h K):opR τ o Γ h K':=by
 cases o with
 | move x=>exact hk _ _ H
 | assign x=>exact hk _ _ H
 | pick c a b=>
  simp only [opR] at H |-
  split at H
  ·rename_i t e
   try rw [e]
   cases t <;> exact hk _ _ H
  ·exact H.elim
 | build t ps=>
  simp only [opR,buildW] at H |-
  split at H
  ·exact H.elim
  rename_i ti e
  try rw [e]
  try simp only
  split at H
  ·rename_i fs e2
   try rw [e2]
   try simp only
   cases hb:fs.all (fun f=>(τ.get f.1).isSome) with
   | false=>rw [hb] at H; exact H.elim
   | true=>rw [hb] at H; exact ko (fun v hv=>hk _ _ hv) H
  ·rename_i n e' e2
   try rw [e2]
   try simp only
   split at H
   ·rename_i te e3
    try rw [e3]
    exact ko (fun v hv=>hk _ _ hv) H
   ·exact H.elim
  ·exact H.elim
 | load t a=>
  simp only [opR] at H |-
  split at H
  ·rename_i p e
   try rw [e]
   try simp only
   split at H
   ·rename_i ti e2
    try rw [e2]
    try simp only
    cases ha:Wc.isAgg ti.kd with
    | true=>
     rw [ha] at H;simp only [cnd] at H |-
     cases hb:Nat.beq (ckns ti.gC) ti.size with
     | false=>rw [hb] at H; exact H.elim
     | true=>rw [hb] at H; exact fQ (fun f v hv=>hk _ _ hv) H
    | false=>
     rw [ha] at H;simp only [cnd] at H |-
     split at H
     ·exact iJ hk H
     ·exact H.elim
   ·exact H.elim
  ·exact H.elim
 | nilCheck x=>
  simp only [opR] at H |-
  split at H
  ·rename_i p e
   try rw [e]
   cases p with
   | none=>exact H.elim
   | some a=>exact hk _ _ H
  ·rename_i e
   try rw [e]
   exact hk _ _ H
  ·exact H.elim
 | binOp op t x y u=>exact mP (fun u hu=>hk _ _ hu) H
 | unOp op t x=>exact nO (fun u hu=>hk _ _ hu) H
 | convert s d x=>
  simp only [opR] at H |-
  split at H
  ·rename_i ts td e1 e2
   try rw [e1,e2]
   try simp only
   split at H
   ·rename_i e3 e4 e5; try rw [e3,e4,e5]
    exact hk _ _ H
   ·rename_i e3 e4 e5; try rw [e3,e4,e5]
    exact hk _ _ H
   ·rename_i e3 e4 e5; try rw [e3,e4,e5]
    try simp only
    split at H
    ·rename_i te e6; try rw [e6]
     try simp only
     split at H
     ·rename_i e7; try rw [e7]
      exact Fj (fun f v hv=>hk _ _ hv) H
     ·exact H.elim
    ·exact H.elim
   ·exact H.elim
  ·exact H.elim
 | makeFunc f x y=>exact hk _ _ H
 | makeInterface t x=>
  simp only [opR] at H |-
  split at H
  ·rename_i ti e; try rw [e]
   try simp only
   split at H
   ·exact H.elim
   ·exact hk _ _ H
  ·exact H.elim
 | slice t x lo hi mx=>
  cases mx with
  | none=>
   rw [uL] at H |-
   unfold sliceW at H |-
   split at H
   ·rename_i ti e; try rw [e]
    try simp only
    split at H
    ·rename_i e2 e3 e4; try rw [e2,e3,e4]
     try simp only
     split at H
     ·rename_i te e5; try rw [e5]
      try simp only
      split at H
      ·rename_i e6; try rw [e6]
       exact nR (fun v hv=>hk _ _ hv) H
      ·rename_i e6; try rw [e6]
       split at H
       ·exact nR (fun v hv=>hk _ _ hv) H
       ·exact H.elim
     ·exact H.elim
    ·rename_i e2 e3 e4; try rw [e2,e3,e4]
     try simp only
     split at H
     ·rename_i e6; try rw [e6]
      exact Bv H fun v hv=>hk _ _ hv
     ·rename_i e6; try rw [e6]
      split at H
      ·exact Bv H fun v hv=>hk _ _ hv
      ·exact H.elim
    ·rename_i e2 e3 e4; try rw [e2,e3,e4]
     try simp only
     split at H
     ·rename_i te e5; try rw [e5]
      try simp only
      split at H
      ·rename_i e6; try rw [e6]
       exact nR (fun v hv=>hk _ _ hv) H
      ·rename_i e6; try rw [e6]
       split at H
       ·exact nR (fun v hv=>hk _ _ hv) H
       ·exact H.elim
     ·exact H.elim
    ·exact H.elim
   ·exact H.elim
  | some z=>
   cases hi with
   | none=>exact H.elim
   | some y=>
    simp only [opR] at H |-
    split at H
    ·rename_i ti e; try rw [e]
     try simp only
     split at H
     ·rename_i e2 e3 e4 e5 e6; try rw [e2,e3,e4,e5,e6]
      try simp only
      split at H
      ·rename_i te e7; try rw [e7]
       exact Fg (fun v hv=>hk _ _ hv) H
      ·exact H.elim
     ·exact H.elim
    ·exact H.elim
 | fieldAddr t x i=>
  simp only [opR] at H |-
  split at H
  ·rename_i ti e; try rw [e]
   try simp only
   split at H
   ·rename_i e2 e3; try rw [e2,e3]
    try simp only
    split at H
    ·rename_i e4; try rw [e4]
     try simp only
     split at H
     ·rename_i tf e5; try rw [e5]
      try simp only
      cases hb:Nat.beq tf.size 0 with
      | true=>rw [hb] at H; exact H.elim
      | false=>rw [hb] at H; exact hk _ _ H
     ·exact H.elim
    ·exact H.elim
   ·exact H.elim
  ·exact H.elim
 | field t x i=>
  simp only [opR] at H |-
  split at H
  ·rename_i ti e; try rw [e]
   try simp only
   split at H
   ·rename_i e2 e3; try rw [e2,e3]
    try simp only
    split at H
    ·rename_i e4; try rw [e4]
     try simp only
     split at H
     ·rename_i tf e5; try rw [e5]
      exact mP.hU (fun u hu=>hk _ _ hu) H
     ·exact H.elim
    ·exact H.elim
   ·exact H.elim
  ·exact H.elim
 | indexAddr t x i=>
  simp only [opR] at H |-
  split at H
  ·rename_i ti e; try rw [e]
   try simp only
   split at H
   ·rename_i e2 e3 e4; try rw [e2,e3,e4]
    try simp only
    split at H
    ·rename_i te e5; try rw [e5]
     exact yo (fun v hv=>hk _ _ hv) H
    ·exact H.elim
   ·rename_i e2 e3 e4; try rw [e2,e3,e4]
    try simp only
    split at H
    ·rename_i te e5; try rw [e5]
     exact yo (fun v hv=>hk _ _ hv) H
    ·exact H.elim
   ·exact H.elim
  ·exact H.elim
 | index t x i=>
  simp only [opR] at H |-
  split at H
  ·rename_i ti e; try rw [e]
   try simp only
   split at H
   ·rename_i e2 e3 e4; try rw [e2,e3,e4]
    exact ⟨H.1,hk _ _ H.2⟩
   ·rename_i n e' cs k j e2 e3 e4; try rw [e2,e3,e4]
    try simp only
    split at H
    ·rename_i te e5; try rw [e5]
     try simp only
     split at H
     ·rename_i k' e6; try rw [e6]
      try simp only
      cases hb:(Nat.beq te.size 1 && intsOk k' n cs.toList) with
      | false=>rw [hb] at H; exact H.elim
      | true=>rw [hb] at H; exact ⟨H.1,hk _ _ H.2⟩
     ·exact H.elim
    ·exact H.elim
   ·exact H.elim
  ·exact H.elim
 | lookup t x i ok=>
  simp only [opR] at H |-
  split at H
  ·rename_i ti e; try rw [e]
   try simp only
   split at H
   ·rename_i e2 e3; try rw [e2,e3]
    try simp only
    split at H
    ·rename_i tk te e4 e5; try rw [e4,e5]
     try simp only
     cases hb:isKey tk.kd with
     | false=>rw [hb] at H; exact H.elim
     | true=>rw [hb] at H; exact Fh (fun f v hv=>yp (fun u hu=>hk _ _ hu) hv) H
    ·exact H.elim
   ·exact H.elim
  ·exact H.elim
 | extract x i=>
  simp only [opR] at H |-
  split at H
  ·rename_i e; try rw [e]
   try simp only
   split at H
   ·rename_i e2; try rw [e2]
    exact hk _ _ H
   ·exact H.elim
  ·exact H.elim
 | call c=>
  obtain ⟨callee,args,ats⟩:=c
  cases callee with
  | builtin b=>
   simp only [opR] at H |-
   split at H
   ·rename_i e1 e2
    split at H
    ·rename_i ti e
     split at H
     ·rename_i e3 e4; exact hk _ _ H
     ·rename_i e3 e4; exact hk _ _ H
     ·rename_i e3 e4; exact Fi (fun f v hv=>hk _ _ hv) H
     ·rename_i e3; exact hk _ _ H
     ·exact H.elim
    ·exact H.elim
   ·rename_i e1 e2
    split at H
    ·rename_i ti e
     split at H
     ·rename_i e3 e4; exact hk _ _ H
     ·exact H.elim
    ·exact H.elim
   ·split at H
    ·rename_i e3 e4; exact hk _ _ H
    ·exact H.elim
   ·split at H
    ·rename_i e3 e4; exact hk _ _ H
    ·exact H.elim
   ·exact H.elim
  | value f=>exact H.elim
  | invoke r m=>exact H.elim
 | _=>exact H.elim
end Go.Ex
namespace Go.Ex
open Go Go.Wc Go.Pu
variable {D:Tabs} {τ:Tys} {Γ:Env} {h:Hp}
abbrev KC:=Value->Hp->Prop
theorem ji {a:Addr}: ∀ {vs:List Value} {i:Nat} {h:Hp} {K K':Hp->Prop},(∀ v,K v->K' v)->stAll h a i vs K->stAll h a i vs K'
 | [],i,h,K,K',hk,H=>hk _ H
 | v::vs,i,h,K,K',hk,H=>by
  simp only [stAll] at H |-
  cases v <;> first
   | exact H.elim
   | exact ⟨H.1,H.2.1,ji hk H.2.2⟩
theorem sA {T size bytes n:Nat} {z:Value} {s:Sl} {new:List Value} {K K':Sl->Hp->Prop} (hk: ∀ v w,K v w->K' v w) (H:apV T size bytes z h s n new K):apV T size bytes z h s n new K':=by
 unfold apV at H |-
 split at H
 ·rw [if_pos (by assumption)]
  split at H
  ·exact ji (fun v hv=>hk _ _ hv) H
  ·exact hk _ _ H
 ·rw [if_neg (by assumption)]
  obtain ⟨h1,h2,old,h3,h4⟩:=H;exact ⟨h1,h2,old,h3,fun c hc=>hk _ _ (h4 c hc)⟩
theorem Fk {K1 K2:Value->Prop} {vs:List Value} (hk: ∀ v,K1 v->K2 v) (h:oneOf K1 vs):oneOf K2 vs:=by
 match vs,h with
 | [],h=>exact hk _ h
 | [v],h=>exact hk _ h
 | _::_::_,h=>exact hk _ h
theorem nS {C:Ctrs D} {f:Nat} {args:List Value} {K K':KC} (hk: ∀ v w,K v w->K' v w) (H:specAny C f args h K):specAny C f args h K':=by obtain ⟨c,hc,X,x,σ,Q,h1,h2,h3⟩:=H;exact ⟨c,hc,X,x,σ,Q,h1,h2,fun y z σ' hQ vs h' I=>Fk (fun v hv=>hk _ _ hv) (h3 y z σ' hQ vs h' I)⟩
theorem Fl {C:Ctrs D} {rt:Nat} {o:Op} {K K':KC} (hk: ∀ v w,K v w->K' v w) (H:opC τ (specsL C) (specsL C) rt o Γ h K):opC τ (specsL C) (specsL C) rt o Γ h K':=by
 cases o with
 | alloc e=>
  simp only [opC] at H |-
  split at H
  ·exact hk _ _ H
  ·exact H.elim
 | box e x=>exact hk _ _ H
 | buildSlice t n ps=>
  simp only [opC] at H |-
  split at H
  ·rename_i ti e
   split at H
   ·rename_i e2 ek
    split at H
    ·rename_i te hte
     cases hb:Nat.ble (n*te.size) 16777216 with
     | false=>rw [hb] at H; exact H.elim
     | true=>rw [hb] at H; exact ko (fun v hv=>hk _ _ hv) H
    ·exact H.elim
   ·exact H.elim
  ·exact H.elim
 | store t a x=>
  simp only [opC] at H |-
  split at H
  ·split at H
   ·rename_i ti ht
    cases hb:Nat.beq (ev Γ x).cells.toList.length ti.size with
    | false=>rw [hb] at H; exact H.elim
    | true=>rw [hb] at H; exact ji (fun v hv=>hk _ _ hv) H
   ·exact H.elim
  ·exact H.elim
 | convert s d x=>
  simp only [opC] at H |-
  split at H
  ·split at H
   ·split at H
    ·split at H
     ·exact fun c hc=>hk _ _ (H c hc)
     ·exact H.elim
    ·exact H.elim
   ·exact H.elim
  ·exact H.elim
 | makeMap t x=>
  cases x with
  | none=>exact hk _ _ H
  | some y=>
   simp only [opC] at H |-
   split at H
   ·split at H
    ·exact hk _ _ H
    ·exact H.elim
   ·exact H.elim
 | makeSlice t l c=>
  simp only [opC] at H |-
  split at H
  ·split at H
   ·split at H
    ·exact ⟨H.1,H.2.1,hk _ _ H.2.2⟩
    ·exact H.elim
   ·exact H.elim
  ·exact H.elim
 | mapUpdate t m k x=>
  simp only [opC] at H |-
  split at H
  ·split at H
   ·split at H
    ·rename_i tk _
     cases hb:isKey tk.kd with
     | false=>rw [hb] at H; exact H.elim
     | true=> rw [hb] at H;obtain ⟨r,h1,es,ck,h2,o,h3,h4⟩:=H;exact ⟨r,h1,es,ck,h2,o,h3,hk _ _ h4⟩
    ·exact H.elim
   ·exact H.elim
  ·exact H.elim
 | call c=>
  obtain ⟨callee,args,ats⟩:=c
  cases callee with
  | invoke r m=>exact H.elim
  | value f=>
   have gen:(match τ.get rt with
    | some ti=>phi (specsL C) (ev Γ f) (args.toList.map (ev Γ)) h fun v h'=>isA ti v fun v=>K v h'
    | none=>False)->(match τ.get rt with
    | some ti=>phi (specsL C) (ev Γ f) (args.toList.map (ev Γ)) h fun v h'=>isA ti v fun v=>K' v h'
    | none=>False):=by
    intro H;split at H
    ·simp only [phi] at H |-
     split at H
     ·split at H
      ·rename_i S hS
       rw [mQ hS] at H |-
       exact nS (fun v w hv=>yp (fun u hu=>hk _ _ hu) hv) H
      ·exact H.elim
     ·exact H.elim
    ·exact H.elim
   cases f with
   | func f=>
    simp only [opC] at H |-
    split at H
    ·rename_i S hS
     rw [mQ hS] at H |-
     exact nS hk H
    ·exact H.elim
   | tmp t=>exact gen H
   | const v=>exact gen H
   | global g=>exact gen H
  | builtin b=>
   simp only [opC] at H |-
   split at H
   ·split at H
    ·split at H
     ·split at H
      ·split at H
       ·obtain ⟨new,h1,h2⟩:=H; exact ⟨new,h1,sA (fun v w hv=>hk _ _ hv) h2⟩
       ·rename_i te _ _ _ _ _ _
        cases hb:Nat.beq te.size 1 with
        | false=>rw [hb] at H; exact H.elim
        | true=>rw [hb] at H; exact sA (fun v w hv=>hk _ _ hv) H
       ·exact ⟨H.1,H.2.1,H.2.2.1,sA (fun v w hv=>hk _ _ hv) H.2.2.2⟩
       ·exact H.elim
      ·exact H.elim
     ·exact H.elim
    ·exact H.elim
   ·split at H
    ·split at H
     ·split at H
      ·obtain ⟨new,h1,h2⟩:=H
       refine ⟨new,h1, ?_⟩;split at h2
       ·exact ji (fun v hv=>hk _ _ hv) h2
       ·exact hk _ _ h2
      ·exact H.elim
     ·exact H.elim
    ·exact H.elim
   ·split at H
    ·split at H
     ·split at H
      ·unfold clW at H |-
       split at H
       ·exact hk _ _ H
       ·exact ji (fun v hv=>hk _ _ hv) H
      ·exact H.elim
     ·exact H.elim
    ·exact H.elim
   ·split at H
    ·split at H
     ·split at H
      ·rename_i tk _
       cases hb:isKey tk.kd with
       | false=>rw [hb] at H; exact H.elim
       | true=>
        rw [hb] at H;simp only [dlW] at H |-
        split at H
        ·exact hk _ _ H
        ·obtain ⟨es,ck,h1,o,h2,h3⟩:=H; exact ⟨es,ck,h1,o,h2,hk _ _ h3⟩
      ·exact H.elim
     ·exact H.elim
    ·exact H.elim
   ·exact H.elim
 | _=>exact H.elim
end Go.Ex
namespace Go.Ex
open Go Go.Wc Go.Pu
variable {D:Tabs} {X:At} {pr:List Nat} {args:List Value} {ν ν':Nu} {h h':Hp} {ω ω':List Gm} {H H':SH D} {τ:Tys} {ty:Nat->Option Ty} {C:Ctrs D} {Γ:EnvS D} {Γr:Env} {n:Nat}
structure SR (X:At) (pr:List Nat) (args:List Value) (ν:Nu) (ω:List Gm) (Γ:EnvS D) (H:SH D) (Γr:Env) (h:Hp):Prop where
 hr:HR X ν ω H h []
 env:EnvR ν H Γ Γr
 pr: ∀ j ∈ pr,∃ v,args[j]? =some v/\Env.find Γr j=some v
abbrev fcN (n:Nat) (K:Nat->Prop):Prop:=match n with
 | 0=>K 0
 | m+1=>K (m+1)
abbrev fcV (s:SV D) (K:SV D->Prop):Prop:=match s with
 | .sl nm=>fcN nm fun nm=>K (.sl nm)
 | .sw nm lo hi=>fcN nm fun nm=>K (.sw nm lo hi)
 | .sf nm lo hi=>fcN nm fun nm=>K (.sf nm lo hi)
 | .ad nm off=>fcN nm fun nm=>fcN off fun off=>K (.ad nm off)
 | .vs nm off k n lo hi=>fcN nm fun nm=>fcN off fun off=>K (.vs nm off k n lo hi)
 | .el nm ver i off t x=>fcN nm fun nm=>fcN ver fun ver=>fcN off fun off=>K (.el nm ver i off t x)
 | .ve nm ver off k n i x=>fcN nm fun nm=>fcN ver fun ver=>fcN off fun off=>K (.ve nm ver off k n i x)
 | .int k n=>K (.int k n)
 | .bool b=>K (.bool b)
 | .vec k n v=>K (.vec k n v)
 | .map nm=>fcN nm fun nm=>K (.map nm)
 | .oa nm off=>fcN nm fun nm=>fcN off fun off=>K (.oa nm off)
 | s=>K s
abbrev fcVs:List (SV D)->(List (SV D)->Prop)->Prop
 | [],K=>K []
 | s::r,K=>fcV s fun s=>fcVs r fun r=>K (s::r)
abbrev fcO (o:SO D) (K:SO D->Prop):Prop:=match o with
 | .blk T ss=>fcVs ss fun ss=>K (.blk T ss)
 | .own t l=>K (.own t l)
 | .ro t l=>K (.ro t l)
 | .rd t l=>K (.rd t l)
 | .map k t a L=>K (.map k t a L)
 | o=>K o
abbrev fcL:List (SO D × Nat)->(List (SO D × Nat)->Prop)->Prop
 | [],K=>K []
 | (o,v)::r,K=>fcO o fun o=>fcN v fun v=>fcL r fun r=>K ((o,v)::r)
abbrev fcH (H:SH D) (K:SH D->Prop):Prop:=match H with
 | ⟨l,σ⟩=>fcL l fun l=>K ⟨l,σ⟩
theorem Fm {n:Nat} {K:Nat->Prop}:fcN n K=K n:=by cases n <;> rfl
theorem AP {s:SV D} {K:SV D->Prop}:fcV s K=K s:=by cases s <;> simp only [fcV,Fm]
theorem Ch: ∀ {l:List (SV D)} {K:List (SV D)->Prop},fcVs l K=K l
 | [],K=>rfl
 | s::r,K=>by simp only [fcVs,AP,Ch (l:=r)]
theorem Nf {o:SO D} {K:SO D->Prop}:fcO o K=K o:=by cases o <;> simp only [fcO,Ch]
theorem Fo: ∀ {l:List (SO D × Nat)} {K:List (SO D × Nat)->Prop},fcL l K=K l
 | [],K=>rfl
 | (o,v)::r,K=>by simp only [fcL,Nf,Fm,Fo (l:=r)]
theorem Fp {H:SH D} {K:SH D->Prop}:fcH H K=K H:=by obtain ⟨l,σ⟩:=H;simp only [fcH,Fo]
abbrev opsS (τ:Tys) (ty:Nat->Option Ty) (C:Ctrs D):Ops D:=
  ⟨fun rt o Γ H K=>opRS τ ty rt o Γ H fun f v H'=>fcH H' fun H'=>fcV v fun v=>K f v H',
   fun rt o Γ H K=>opCS τ ty C rt o Γ H fun f v H'=>fcH H' fun H'=>fcV v fun v=>K f v H',fun o=>isR o || readsConv τ o⟩
theorem fcK {K:KS D}:(fun f v H'=>fcH H' fun H'=>fcV v fun v=>K f v H')=K:=by funext f v H';rw [Fp,AP]
theorem Ng {rt:Nat} {o:Op} {K:KS D} (h:(opsS τ ty C).r rt o Γ H K):opRS τ ty rt o Γ H K:=by have e:=fcK (K:=K);rw [<- e]; exact h
theorem Nh {rt:Nat} {o:Op} {K:KS D} (h:(opsS τ ty C).c rt o Γ H K):opCS τ ty C rt o Γ H K:=by have e:=fcK (K:=K);rw [<- e]; exact h
theorem EnvR.put (E:EnvR ν H Γ Γr) {d:Option Nat} {s:SV D} {v:Value} (hv:VR ν s v) (hc:Cur H s):EnvR ν H (putS d s Γ) (Wc.put d v Γr):=by
 cases d with
 | none=>exact E
 | some d=>
  intro t u hu;change cnd (Nat.beq d t) (some s) (findS Γ t)=some u at hu;simp only [Wc.put,Env.find]
  cases hb:Nat.beq d t with
  | true=>rw [hb] at hu; simp only [cnd,Option.some.injEq] at hu; subst hu; exact ⟨v,rfl,hv,hc⟩
  | false=>rw [hb] at hu; exact E t u hu
theorem EnvR.more (E:EnvR ν H Γ Γr) {t:Nat} {s:SV D} {v:Value} (hf:Env.find Γr t=some v) (hv:VR ν s v) (hc:Cur H s):EnvR ν H ((t,s)::Γ) Γr:=by
 intro u r hu;change cnd (Nat.beq t u) (some s) (findS Γ u)=some r at hu
 cases hb:Nat.beq t u with
 | true=>
  rw [hb] at hu; simp only [cnd,Option.some.injEq] at hu; subst hu;have:t=u:=by simpa using hb
  subst this
  exact ⟨v,hf,hv,hc⟩
 | false=>rw [hb] at hu; exact E u r hu
theorem AQ {d:Option Nat} {v:Value} (hp: ∀ j ∈ pr,∃ v,args[j]? =some v/\Env.find Γr j=some v) (hd:dstS pr n d=true): ∀ j ∈ pr,∃ u,args[j]? =some u/\Env.find (Wc.put d v Γr) j=some u:=by
 intro j hj;obtain ⟨u,h1,h2⟩:=hp j hj;refine ⟨u,h1, ?_⟩
 cases d with
 | none=>exact h2
 | some d=>
  simp only [dstS,Bool.and_eq_true,Bool.not_eq_true'] at hd
  have:d ≠ j:=by rintro rfl;rw [cG.2 hj] at hd; simp at hd
  simp only [Wc.put,Env.find]
  have hb:Nat.beq d j=false:=by
   cases hb:Nat.beq d j with
   | false=>rfl
   | true=>exact absurd (by simpa using hb) this
  rw [hb]; exact h2
theorem qp {d:Option Nat} (h:dstS pr n d=true):dstOk n d=true:=by simp only [dstS,Bool.and_eq_true] at h; exact h.1
theorem oT {o:Oper} (h:opsOkS pr n Γ o=true):dstS pr n o.dst=true:=(Bool.and_eq_true_iff.1 h).1
theorem uQ {o:Oper} (h:opsOkS pr n Γ o=true): ∀ x ∈ o.op.operands.toList,presentS Γ x=true/\cstB D x=true:=fun x hx=>by have:=List.all_eq_true.1 (Bool.and_eq_true_iff.1 h).2 x hx;exact Bool.and_eq_true_iff.1 this
theorem mR {o:Oper} (E:EnvR ν H Γ Γr) (hok:opsOkS pr n Γ o=true):(∀ x ∈ o.op.operands.toList,EvR ν H Γ Γr x)/\opsOk n Γr o=true:=by
 have ha:=uQ hok;refine ⟨fun x hx=>iO E (ha x hx).1 (ha x hx).2, ?_⟩;simp only [opsOk,Bool.and_eq_true,List.all_eq_true];refine ⟨qp (oT hok),fun x hx=> ?_⟩;have:=(ha x hx).1
 cases x with
 | tmp t=>
  obtain ⟨s,hs⟩:=Option.isSome_iff_exists.1 this;obtain ⟨v,h1,_⟩:=E t s hs
  simp [present,h1]
 | _=>rfl
theorem JX {x:Operand} {K:KR} (HK:opR τ (.nilCheck x) Γr h K):opR τ (.nilCheck x) Γr h fun f v=>K f v/\v=ev Γr x:=by
 simp only [opR] at HK |-
 split at HK
 ·rename_i p e
  cases p with
  | none=>exact HK.elim
  | some a=>exact ⟨HK,e.symm ▸ rfl⟩
 ·rename_i e
  exact ⟨HK,e.symm ▸ rfl⟩
 ·exact HK.elim
theorem sB {o:Oper} {K:(SH D->Bool)->EnvS D->SH D->Prop} {Kr:(Hp->Prop)->Env->Prop} (S:SR X pr args ν ω Γ H Γr h) (hok:opsOkS pr n Γ o=true)
  (HK:(opsS τ ty C).r o.type o.op Γ H fun f v H'=>K f (nilG o v (putS o.dst v Γ)) H')
  (k: ∀ g Γ' H' ν' ω' Γr' f,K g Γ' H'->SLe H ν ω H' ν' ω'->SR X pr args ν' ω' Γ' H' Γr' h->(∀ H2 ν2 ω2 h2,SLe H' ν' ω' H2 ν2 ω2->HR X ν2 ω2 H2 h2 []->g H2=true->f h2)->Kr f Γr'):
  opR τ o.op Γr h fun f v=>Kr f (Wc.put o.dst v Γr):=by
 obtain ⟨hv,_⟩:=mR S.env hok;have hd:=oT hok;have key:=qo (Γr:=Γr) S.hr hv (Ng HK)
 have gen: ∀ f v,PR (fun f v H'=>K f (nilG o v (putS o.dst v Γ)) H') X ν ω H h f v->(∀ t,o.op= .nilCheck (.tmp t)->v=ev Γr (.tmp t))->Kr f (Wc.put o.dst v Γr):=by
  rintro f v ⟨g,s,H',ν',ω',h1,h2,h3,h4,h5,h6⟩ hnil;refine k g _ H' ν' ω' _ f h1 h4 ⟨h5, ?_,AQ S.pr hd⟩ h6;have E1:EnvR ν' H' (putS o.dst s Γ) (Wc.put o.dst v Γr):=(S.env.mono h4).put h2 h3;unfold nilG;split
  ·rename_i t e
   split
   ·rename_i nm off
    have e2:=hnil t e;have hpres:presentS Γ (.tmp t)=true:=(uQ hok (.tmp t) (by rw [e]; simp [Op.operands])).1;obtain ⟨s0,WN⟩:=Option.isSome_iff_exists.1 hpres;obtain ⟨v0,q1,_⟩:=S.env t s0 WN;have e3:v=v0:=by rw [e2]; simp [ev,q1]
    subst e3;refine E1.more (v:=v) ?_ h2 h3
    cases hdst:o.dst with
    | none=>exact q1
    | some d=>
     simp only [Wc.put,Env.find]
     cases Nat.beq d t with
     | true=>rfl
     | false=>exact q1
   ·exact E1
  ·exact E1
 cases hop:o.op with
 | nilCheck x=>
  rw [hop] at key;refine yq (fun f v hv=> ?_) (JX key)
  exact gen f v hv.1 fun t e=>by rw [hop] at e; cases e; exact hv.2
 | _=> rw [hop] at key;refine yq (fun f v hv=> ?_) key;exact gen f v hv fun t e=>by rw [hop] at e; cases e
theorem yt {o:Oper} {K:(SH D->Bool)->EnvS D->SH D->Prop} {Kr:Env->Hp->Prop} (hA: ∃ P,Agree P τ) (S:SR X pr args ν ω Γ H Γr h) (HK:stepS (opsS τ ty C) pr n o Γ H K)
  (k: ∀ g Γ' H' ν' ω' Γr' h',K g Γ' H'->SLe H ν ω H' ν' ω'->SR X pr args ν' ω' Γ' H' Γr' h'->Kr Γr' h'):stepOp τ (specsL C) (specsL C) n o Γr h Kr:=by
 unfold stepS at HK;unfold stepOp
 cases hok:opsOkS pr n Γ o with
 | false=>rw [hok] at HK; exact HK.elim
 | true=>
  rw [hok] at HK;obtain ⟨hv,h2⟩:=mR S.env hok;rw [h2];simp only [cnd] at HK |-
  unfold opW
  cases hr:(isR o.op || readsConv τ o.op) with
  | true=>
   rw [hr] at HK;simp only [cnd] at HK |-
   exact sB (ty:=ty) (C:=C) (K:=K) (Kr:=fun _ Γr'=>Kr Γr' h) S hok HK fun g Γ' H' ν' ω' Γr' f a b c _=>k g Γ' H' ν' ω' Γr' h a b c
  | false=>
   rw [hr] at HK;simp only [cnd] at HK |-
   obtain ⟨P,hA⟩:=hA;have hd:=oT hok;refine Fl (fun v w hv=> ?_) (JW (Γr:=Γr) hA S.hr hv (Nh (τ:=τ) (ty:=ty) (C:=C) (K:=fun f v H'=>K f (putS o.dst v Γ) H') HK));obtain ⟨g,s,H',ν',ω',h1,h2,h3,h4,h5⟩:=hv;exact k g _ H' ν' ω' _ w h1 h4 ⟨h5,(S.env.mono h4).put h2 h3,AQ S.pr hd⟩
theorem AR {ops:List Oper} {o:Oper} {ex sk:EnvS D->Prop} {exr skr:Env->Prop} (S:SR X pr args ν ω Γ H Γr h) (HG:gdS ops o Γ ex sk)
  (k1: ∀ Γ' Γr',SR X pr args ν ω Γ' H Γr' h->ex Γ'->exr Γr') (k2: ∀ Γ' Γr',SR X pr args ν ω Γ' H Γr' h->sk Γ'->skr Γr'):gd ops o Γr exr skr:=by
 unfold gdS at HG;unfold gd;split at HG
 ·rename_i e; simp only [e]; exact k1 _ _ S HG
 ·rename_i j want e
  simp only [e];split at HG
  ·exact HG.elim
  rename_i g hg;simp only [hg];split at HG
  ·exact HG.elim
  rename_i d hd;simp only [hd];split at HG
  ·rename_i b hb
   obtain ⟨v,h1,h2,h3⟩:=S.env d _ hb;have h2:v= .bool b:=h2;subst h2;rw [h1];simp only
   have more:SR X pr args ν ω ((d, .bool b)::Γ) H ((d, .bool b)::Γr) h:=by
    refine ⟨S.hr, ?_,fun j hj=> ?_⟩
    ·exact (S.env.put (d:=some d) (s:= .bool b) (v:= .bool b) rfl trivial)
    ·obtain ⟨u,q1,q2⟩:=S.pr j hj
     refine ⟨u,q1, ?_⟩;simp only [Env.find]
     cases hbb:Nat.beq d j with
     | true=>
      have:d=j:=by simpa using hbb
      subst this
      rw [h1] at q2; simpa using q2
     | false=>exact q2
   cases b <;> cases want <;> first
    | exact k1 _ _ more HG
    | exact k2 _ _ more HG
  ·rename_i hb
   obtain ⟨v,h1,h2,h3⟩:=S.env d _ hb;have h2:v=Go.undef:=h2;subst h2;rw [h1];exact k2 _ _ S HG
  ·exact HG.elim
theorem SR.skip {o:Oper} (S:SR X pr args ν ω Γ H Γr h) (hd:dstS pr n o.dst=true):SR X pr args ν ω (putS o.dst .undef Γ) H (Wc.put o.dst Go.undef Γr) h:=
 ⟨S.hr,S.env.put rfl trivial,AQ S.pr hd⟩
theorem sC {ops:List Oper} {K:EnvS D->SH D->Prop} {Kr:Env->Hp->Prop} (hA: ∃ P,Agree P τ): ∀ {l:List Oper} {ν:Nu} {ω:List Gm} {Γ:EnvS D} {H:SH D} {Γr:Env} {h:Hp},SR X pr args ν ω Γ H Γr h->WSeqS (opsS τ ty C) pr n ops l Γ H K->
  (∀ ν' ω' Γ' H' Γr' h',SR X pr args ν' ω' Γ' H' Γr' h'->K Γ' H'->Kr Γr' h')->WSeq τ (specsL C) (specsL C) n ops l Γr h Kr
 | [],ν,ω,Γ,H,Γr,h,S,HW,k=>k _ _ _ _ _ _ S HW
 | o::r,ν,ω,Γ,H,Γr,h,S,HW,k=>by
  simp only [WSeqS] at HW;simp only [WSeq];refine AR S HW (fun Γ' Γr' S' HE=> ?_) fun Γ' Γr' S' HE=> ?_
  ·exact yt hA S' HE fun g Γ2 H2 ν2 ω2 Γr2 h2 a b c=>sC hA c a k
  ·cases hd:dstS pr n o.dst with
   | false=>rw [hd] at HE; exact HE.elim
   | true=> rw [hd] at HE;rw [qp hd];exact sC hA (S'.skip hd) HE k
def Tra (X:At) (ν:Nu) (ω:List Gm) (H:SH D) (g:SH D->Bool) (f:Hp->Prop):Prop:= ∀ H2 ν2 ω2 h2,SLe H ν ω H2 ν2 ω2->HR X ν2 ω2 H2 h2 []->g H2=true->f h2
def FR (X:At) (ν:Nu) (ω:List Gm) (H:SH D):FactS D->Facts->Prop
 | [],Fa=>Fa=[]
 | (d,g)::r,Fa=> ∃ fc Fb,Fa=(d,fc)::Fb/\Tra X ν ω H g fc/\FR X ν ω H r Fb
theorem FR.mono (S:SLe H ν ω H' ν' ω'): ∀ {Fs:FactS D} {Fa:Facts},FR X ν ω H Fs Fa->FR X ν' ω' H' Fs Fa
 | [],_,h=>h
 | (d,g)::r,Fa,⟨fc,Fb,e,t,h⟩=>⟨fc,Fb,e,fun H2 ν2 ω2 h2 a b c=>t H2 ν2 ω2 h2 (S.trans a) b c,FR.mono S h⟩
theorem FR.keep {j:Nat}: ∀ {Fs:FactS D} {Fa:Facts},FR X ν ω H Fs Fa->FR X ν ω H (keepS j Fs) (keepF j Fa)
 | [],_,h=>by have h:_=[]:=h; subst h; rfl
 | (d,g)::r,Fa,⟨fc,Fb,e,t,h⟩=>by
  subst e;simp only [keepS,keepF]
  cases memN j d with
  | true=>exact FR.keep h
  | false=>exact ⟨fc,_,rfl,t,FR.keep h⟩
theorem FR.all (R:HR X ν ω H h []) {Y:Prop} (hY:Y): ∀ {Fs:FactS D} {Fa:Facts},FR X ν ω H Fs Fa->allS Fs H=true->allF Fa h Y
 | [],_,hf,_=>by have hf:_=[]:=hf; subst hf; exact hY
 | (d,g)::r,Fa,⟨fc,Fb,e,t,hf⟩,ha=>by subst e;simp only [allS,Bool.and_eq_true] at ha;exact ⟨t H ν ω h (SLe.refl _ _ _) R ha.1,FR.all R hY hf ha.2⟩
theorem jw {ops:List Oper} {K:EnvS D->SH D->Prop} {Kr:Env->Hp->Prop} (hA: ∃ P,Agree P τ) (k: ∀ ν' ω' Γ' H' Γr' h',SR X pr args ν' ω' Γ' H' Γr' h'->K Γ' H'->Kr Γr' h'):
  ∀ (p:Plan) {ν:Nu} {ω:List Gm} {Γ:EnvS D} {H:SH D} {Γr:Env} {h:Hp} {Fs:FactS D} {Fa:Facts},SR X pr args ν ω Γ H Γr h->FR X ν ω H Fs Fa->WPlS (opsS τ ty C) pr n ops p Γ H Fs K->WPl τ (specsL C) (specsL C) n ops p Γr h Fa Kr
 | .done,ν,ω,Γ,H,Γr,h,Fs,Fa,S,F,HW=>k _ _ _ _ _ _ S HW
 | .nil,ν,ω,Γ,H,Γr,h,Fs,Fa,S,F,HW=>trivial
 | .all r,ν,ω,Γ,H,Γr,h,Fs,Fa,S,F,HW=>jw hA k r S F HW
 | .take i d p,ν,ω,Γ,H,Γr,h,Fs,Fa,S,F,HW=>by
  simp only [WPlS] at HW;simp only [WPl];split at HW
  ·exact HW.elim
  rename_i o ho
  try rw [ho]
  try simp only
  refine AR S HW (fun Γ' Γr' S' HE=> ?_) fun Γ' Γr' S' HE=> ?_
  ·cases hok:opsOkS pr n Γ' o with
   | false=>rw [hok] at HE; exact HE.elim
   | true=>
    cases hr:(isR o.op || readsConv τ o.op) with
    | false=>rw [hok,hr] at HE; exact HE.elim
    | true=>
     rw [hok,hr] at HE;simp only [Bool.and_self,cnd] at HE;rw [(mR S'.env hok).2];simp only [cnd]
     cases hlk:looks o.op with
     | true=>
      rw [hlk] at HE;simp only at HE |-
      refine sB (ty:=ty) (C:=C) (K:=fun f Γ' H'=>WPlS (opsS τ ty C) pr n ops p Γ' H' ((d,f)::Fs) K) (Kr:=fun f Γr2=>WPl τ (specsL C) (specsL C) n ops p Γr2 h ((d,f)::Fa) Kr) S' hok HE fun g Γ2 H2 ν2 ω2 Γr2 f a b c t=> ?_
      exact jw hA k p c (show FR X ν2 ω2 H2 ((d,g)::Fs) ((d,f)::Fa) from ⟨f,Fa,rfl,t,F.mono b⟩) a
     | false=>
      rw [hlk] at HE;simp only at HE |-
      refine sB (ty:=ty) (C:=C) (K:=fun f Γ' H'=>WPlS (opsS τ ty C) pr n ops p Γ' H' Fs K) (Kr:=fun f Γr2=>WPl τ (specsL C) (specsL C) n ops p Γr2 h Fa Kr) S' hok HE fun g Γ2 H2 ν2 ω2 Γr2 f a b c t=> ?_;exact jw hA k p c (F.mono b) a
  ·cases hd:dstS pr n o.dst with
   | false=>rw [hd] at HE; exact HE.elim
   | true=>
    rw [hd] at HE;rw [qp hd]
    exact jw hA k p (S'.skip hd) F HE
 | .alt i p r,ν,ω,Γ,H,Γr,h,Fs,Fa,S,F,HW=>by
  have one:(match ops[i]? with
   | none=>False
   | some o=>gdS ops o Γ (fun Γ=>stepS (opsS τ ty C) pr n o Γ H fun _ Γ' H'=>cnd (allS (keepS i Fs) H') (WPlS (opsS τ ty C) pr n ops p Γ' H' (keepS i Fs) K) False)
     (fun Γ=>cnd (dstS pr n o.dst) (WPlS (opsS τ ty C) pr n ops p (putS o.dst .undef Γ) H (keepS i Fs) K) False))->
   (match ops[i]? with
   | none=>False
   | some o=>gd ops o Γr (fun Γ=>stepOp τ (specsL C) (specsL C) n o Γ h fun Γ' h'=>allF (keepF i Fa) h' (WPl τ (specsL C) (specsL C) n ops p Γ' h' (keepF i Fa) Kr))
     (fun Γ=>cnd (dstOk n o.dst) (WPl τ (specsL C) (specsL C) n ops p (Wc.put o.dst Go.undef Γ) h (keepF i Fa) Kr) (False))):=by
   intro HX;split at HX
   ·exact HX.elim
   rename_i o ho
   try rw [ho]
   try simp only
   refine AR S HX (fun Γ' Γr' S' HE=> ?_) fun Γ' Γr' S' HE=> ?_
   ·refine yt hA S' HE fun g Γ2 H2 ν2 ω2 Γr2 h2 a b c=> ?_
    cases ha:allS (keepS i Fs) H2 with
    | false=>rw [ha] at a; exact a.elim
    | true=> rw [ha] at a;exact FR.all c.hr (jw hA k p c ((F.keep (j:=i)).mono b) a) ((F.keep (j:=i)).mono b) ha
   ·cases hd:dstS pr n o.dst with
    | false=>rw [hd] at HE; exact HE.elim
    | true=> rw [hd] at HE;rw [qp hd];exact jw hA k p (S'.skip hd) (F.keep (j:=i)) HE
  unfold WPlS at HW;unfold WPl
  cases r with
  | nil=>exact one HW
  | _=>exact ⟨one HW.1,jw hA k _ S F HW.2⟩
theorem Inv.dropL: ∀ {A B:List At},Inv h (A++B)->Inv h B
 | [],_,I=>I
 | _::_,_,I=>Inv.dropL (Inv.dn I)
theorem HR.told {A:List At} (R:HR X ν ω H h A):Inv h (X::sgA D H.sg::A):=by
 have I:=R.inv
 have p:((X::sgA D H.sg::semL D X ν H.at_ ν ω)++A).Perm (semL D X ν H.at_ ν ω++(X::sgA D H.sg::A)):=by
  have:(X::sgA D H.sg::semL D X ν H.at_ ν ω)++A=[X,sgA D H.sg]++(semL D X ν H.at_ ν ω++A):=by simp
  rw [this];have e2:semL D X ν H.at_ ν ω++(X::sgA D H.sg::A)=(semL D X ν H.at_ ν ω++[X,sgA D H.sg])++A:=by simp
  rw [e2,<- List.append_assoc];exact List.perm_append_comm.append_right A
 exact Inv.dropL (Inv.prm p I)
theorem HR.start {A:List At} {σ:Option (St D.O)} (I:Inv h (X::sgA D σ::A)):HR X [] [] (⟨[],σ⟩:SH D) h A:=⟨rfl,rfl,I⟩
abbrev SS (pt:Pts D):=pt.V->Option (St D.O)->Prop
def liveOf (k:Nat):Ann->List Nat
 | .seq a b=>bif memN k (pts a) then liveOf k a else liveOf k b
 | .join k0 live a b=>bif Nat.beq k0 k then live else bif memN k (pts a) then liveOf k a else liveOf k b
 | .cond a b=>bif memN k (pts a) then liveOf k a else liveOf k b
 | .block a=>liveOf k a
 | .loop k0 live b=>bif Nat.beq k0 k then live else liveOf k b
 | _=>[]
def loopsIn (k:Nat):Ann->List Nat
 | .seq a b=>bif memN k (pts a) then loopsIn k a else loopsIn k b
 | .join k0 _ a b=>bif Nat.beq k0 k then [] else bif memN k (pts a) then loopsIn k a else loopsIn k b
 | .cond a b=>bif memN k (pts a) then loopsIn k a else loopsIn k b
 | .block a=>loopsIn k a
 | .loop k0 _ b=>bif Nat.beq k0 k then [k0] else k0::loopsIn k b
 | _=>[]
def annOk (Lv Lp:Nat->List Nat):List Nat->Ann->Bool
 | ks, .seq a b=>annOk Lv Lp ks a && annOk Lv Lp ks b
 | ks, .join k live a b=>(Lv k==live) && (Lp k==ks) && annOk Lv Lp ks a && annOk Lv Lp ks b
 | ks, .cond a b=>annOk Lv Lp ks a && annOk Lv Lp ks b
 | ks, .block a=>annOk Lv Lp ks a
 | ks, .loop k live b=>(Lv k==live) && (Lp k==k::ks) && annOk Lv Lp (k::ks) b
 | _,_=>true
def alOk (all:List Value):List Ds->List Value->Prop
 | .al f js::ds,v::vs=>(∃ ps:List Addr,js.map (fun j=>all[j]?)=ps.map (fun p=>some (Value.pointer (some p)))/\v= .func (.func f) #[] (ps.map fun p=>Value.pointer (some p)).toArray)/\alOk all ds vs
 | _::ds,_::vs=>alOk all ds vs
 | _,_=>True
theorem dA.get {α β:Type} {r:α->β->Prop}: ∀ {l:List α} {m:List β} {j:Nat} {s:α},dA r l m->l[j]? =some s-> ∃ v,m[j]? =some v/\r s v
 | _::_,_::_,0,_, .cons h _,e=>by simp at e; subst e; exact ⟨_,rfl,h⟩
 | _::_,_::_,j+1,_, .cons _ h,e=>by simpa using dA.get h (by simpa using e)
theorem sD {all:List (SV D)} {vals:List Value} (hv:dA (VR ν) all vals): ∀ {js ms:List Nat},nmsAt all js=some ms->
  ∃ xs:List Nm,ms.map (fun nm=>ν[nm]?)=xs.map some/\js.map (fun j=>vals[j]?)=xs.map (fun x=>some (Value.pointer (some x.p)))
 | [],ms,e=>by simp only [nmsAt,Option.some.injEq] at e; subst e; exact ⟨[],rfl,rfl⟩
 | j::js,ms,e=>by
  simp only [nmsAt] at e
  cases h1:nmAt all j with
  | none=>rw [h1] at e; cases e
  | some nm=>
   rw [h1] at e;simp only at e
   cases h2:nmsAt all js with
   | none=>rw [h2] at e; cases e
   | some r=>
    rw [h2] at e;simp only [Option.some.injEq] at e;subst e;obtain ⟨xs,k1,k2⟩:=sD hv h2;unfold nmAt at h1;split at h1
    ·rename_i nm' hj
     cases h1;obtain ⟨v,W3,D8⟩:=dA.get hv hj;have D8:iH (D:=D) ν (.ad nm 0) v:=D8;obtain ⟨x,hx,Rw⟩:=D8;refine ⟨x::xs,by simp only [List.map_cons]; rw [hx,k1], ?_⟩;simp only [List.map_cons];rw [W3,k2,Rw];simp [Addr.add]
    ·cases h1
theorem Ci: ∀ {l m:List Nat},eqNs l m=true->l=m
 | [],[],_=>rfl
 | a::l,b::m,h=>by
  simp only [eqNs,Bool.and_eq_true] at h
  rw [Nat.eq_of_beq_eq_true h.1,Ci h.2]
 | [],_::_,h=>by simp [eqNs] at h
 | _::_,[],h=>by simp [eqNs] at h
theorem vU {all:List (SV D)} {vals:List Value} (hv:dA (VR ν) all vals): ∀ {ds:List Ds} {l:List (SV D)} {vs:List Value},dA (VR ν) l vs->chkA all ds l=true->alOk vals ds vs
 | [],[],[], .nil,_=>trivial
 | [],_::_,_::_, .cons _ _,_=>trivial
 | d::_,[],[], .nil,_=>by cases d <;> trivial
 | d::ds,s::l,v::vs, .cons h1 h2,hc=>by
  by_cases hd: ∃ f js,d= .al f js
  ·obtain ⟨f,js,rfl⟩:=hd
   simp only [chkA,Bool.and_eq_true] at hc;refine ⟨?_,vU hv h2 hc.2⟩;have Ni:=hc.1
   cases s with
   | fn f' ns=>
    simp only at Ni;split at Ni
    ·rename_i ms hm
     simp only [Bool.and_eq_true] at Ni;have e1:=Nat.eq_of_beq_eq_true Ni.1;have e2:=Ci Ni.2;subst e1; subst e2;obtain ⟨xs,k1,k2⟩:=sD hv hm;obtain ⟨ys,g1,g2⟩:=h1
     have e:ys=xs:=by rw [g1] at k1;exact (List.map_inj_right (fun _ _ h=>Option.some.inj h)).1 k1
     subst e;exact ⟨ys.map Nm.p,by rw [k2,List.map_map]; rfl,by rw [g2,List.map_map]; rfl⟩
    ·cases Ni
   | _=>simp at Ni
  ·have e:chkA all (d::ds) (s::l)=chkA all ds l:=by cases d <;> first | rfl | exact absurd ⟨_,_,rfl⟩ hd
   rw [e] at hc;have e2:alOk vals (d::ds) (v::vs)=alOk vals ds vs:=by cases d <;> first | rfl | exact absurd ⟨_,_,rfl⟩ hd
   rw [e2];exact vU hv h2 hc
theorem vV {all:List (SV D)} {vals:List Value} (hv:dA (VR ν) all vals): ∀ {ds:List Ds} {l:List (SV D)} {vs:List Value},dA (VR ν) l vs->alOk vals ds vs->dA (VR ν) (fixA all ds l) vs
 | [],_,_,h,_=>by cases h <;> (first | exact .nil | exact .cons ‹_› ‹_›)
 | d::_,[],[], .nil,_=>by cases d <;> exact .nil
 | d::ds,s::l,v::vs, .cons h1 h2,ha=>by
  by_cases hd: ∃ f js,d= .al f js
  ·obtain ⟨f,js,rfl⟩:=hd
   obtain ⟨⟨ps,a1,a2⟩,ha⟩:=ha
   show dA (VR ν) ((match nmsAt all js with
    | some ms=> .fn f ms
    | none=>s)::fixA all ds l) (v::vs)
   refine .cons ?_ (vV hv h2 ha);split
   ·rename_i ms hm
    obtain ⟨xs,k1,k2⟩:=sD hv hm;refine ⟨xs,k1, ?_⟩
    have e:ps=xs.map Nm.p:=by
     rw [a1] at k2;have k3:ps.map (fun p=>some (Value.pointer (some p)))=(xs.map Nm.p).map (fun p=>some (Value.pointer (some p))):=by rw [k2,List.map_map]; rfl
     exact (List.map_inj_right (fun _ _ h=>by simpa using h)).1 k3
    rw [a2,e,List.map_map]; rfl
   ·exact h1
  ·have e:fixA all (d::ds) (s::l)=s::fixA all ds l:=by cases d <;> first | rfl | exact absurd ⟨_,_,rfl⟩ hd
   have e2:alOk vals (d::ds) (v::vs)=alOk vals ds vs:=by cases d <;> first | rfl | exact absurd ⟨_,_,rfl⟩ hd
   rw [e2] at ha;rw [e];exact .cons h1 (vV hv h2 ha)
theorem sE {all:List (SV D)} {H:SH D}: ∀ {ds:List Ds} {l:List (SV D)},(∀ s ∈ l,Cur H s)-> ∀ s ∈ fixA all ds l,Cur H s
 | [],l,h,s,hs=>h s (by simpa [fixA] using hs)
 | d::_,[],_,s,hs=>by cases d <;> simp [fixA] at hs
 | d::ds,x::l,h,s,hs=>by
  by_cases hd: ∃ f js,d= .al f js
  ·obtain ⟨f,js,rfl⟩:=hd
   change s ∈ (match nmsAt all js with
    | some ms=> .fn f ms
    | none=>x)::fixA all ds l at hs
   rcases List.mem_cons.1 hs with rfl | hs
   ·split
    ·exact Cur.of rfl
    ·exact h x (by simp)
   ·exact sE (fun s hs=>h s (by simp [hs])) s hs
  ·have e:fixA all (d::ds) (x::l)=x::fixA all ds l:=by cases d <;> first | rfl | exact absurd ⟨_,_,rfl⟩ hd
   rw [e] at hs;rcases List.mem_cons.1 hs with rfl | hs
   ·exact h s (by simp)
   ·exact sE (fun s hs=>h s (by simp [hs])) s hs
variable (pt:Pts D) (Lv Lp:Nat->List Nat)
def PtR (X:At) (pr:List Nat) (args:List Value) (k:Nat) (c:pt.V) (σ:Option (St D.O)) (vals:List Value) (h:Hp):Prop:=
 Inv h [X,sgA D σ,dsL D X (pt.pd k) (pt.ls k c) vals]/\(∀ j ∈ pr,∃ v,args[j]? =some v/\Env.find ((Lv k).zip vals) j=some v)/\alOk vals (pt.pd k) vals
def SRel (X:At) (pr:List Nat) (args:List Value):List Nat->List (SS pt)->List LoopS->Prop
 | [],[],[]=>True
 | k::ks,S'::r',S::r=>(∀ c σ vals h,PtR pt Lv X pr args k c σ vals h->S' c σ->S vals h)/\SRel X pr args ks r' r
 | _,_,_=>False
def srcW (X:At) (pr:List Nat) (args:List Value):Src:=fun k Ss vals h=> ∃ c σ Ss',SRel pt Lv X pr args (Lp k) Ss' Ss/\PtR pt Lv X pr args k c σ vals h/\pt.src k Ss' c σ
theorem sF (E:EnvR ν H Γ Γr): ∀ {live:List Nat},live.all (fun s=>(findS Γ s).isSome)=true->live.all (fun s=>(Env.find Γr s).isSome)=true/\dA (VR ν) (livesS live Γ) (lives live Γr)
 | [],_=>⟨rfl, .nil⟩
 | t::l,hl=>by simp only [List.all_cons,Bool.and_eq_true] at hl;obtain ⟨s,hs⟩:=Option.isSome_iff_exists.1 hl.1;obtain ⟨v,h1,h2,_⟩:=E t s hs;obtain ⟨k1,k2⟩:=sF E hl.2;refine ⟨by simp [h1]; simpa using k1, ?_⟩;show dA (VR ν) ((findS Γ t).getD .undef::livesS l Γ) ((Env.find Γr t).getD Go.undef::lives l Γr);rw [hs,h1];exact .cons h2 k2
theorem yu: ∀ {live:List Nat} {j:Nat},j ∈ live->live.all (fun s=>(Env.find Γr s).isSome)=true->Env.find (live.zip (lives live Γr)) j=Env.find Γr j
 | t::l,j,hj,hl=>by
  simp only [List.all_cons,Bool.and_eq_true] at hl;obtain ⟨v,hv⟩:=Option.isSome_iff_exists.1 hl.1;show Env.find ((t,(Env.find Γr t).getD Go.undef)::l.zip (lives l Γr)) j=_;simp only [Env.find]
  cases hb:Nat.beq t j with
  | true=>
   have:t=j:=by simpa using hb
   subst this
   rw [hv]; rfl
  | false=>
   rcases List.mem_cons.1 hj with rfl | hj
   ·simp at hb
   ·exact yu hj hl.2
variable {pt Lv Lp}
theorem nT {base:pt.V} {k:Nat} {live:List Nat} {R:SS pt} {Rr:LoopS} (S:SR X pr args ν ω Γ H Γr h) (hL:Lv k=live) (HJ:jumpS pt pr base k live Γ H R)
  (kk: ∀ c σ vals,PtR pt Lv X pr args k c σ vals h->R c σ->Rr vals h):jump live Γr h Rr:=by
 unfold jumpS at HJ;unfold jump
 cases hb:(live.all (fun s=>(findS Γ s).isSome) && pr.all (fun t=>memN t live) && chkA (livesS live Γ) (pt.pd k) (livesS live Γ)) with
 | false=>rw [hb] at HJ; exact HJ.elim
 | true=>
  rw [hb] at HJ;obtain ⟨hb,hch⟩:=Bool.and_eq_true_iff.1 hb;have hb:=Bool.and_eq_true_iff.1 hb;simp only [cnd] at HJ;split at HJ
  case h_2=>exact HJ.elim
  rename_i t H' hp;obtain ⟨k1,k2⟩:=sF S.env hb.1;rw [k1];simp only [cnd];obtain ⟨ω',R2,S2⟩:=AG S.hr k2 hp;refine kk _ _ _ ⟨?_,fun j hj=> ?_,vU k2 k2 hch⟩ HJ
  ·rw [pt.ok]
   exact R2.told
  ·obtain ⟨v,h1,h2⟩:=S.pr j hj
   refine ⟨v,h1, ?_⟩;have hm:j ∈ live:=cG.1 (List.all_eq_true.1 hb.2 j hj);rw [hL,yu hm k1,h2]
theorem Cj: ∀ {live:List Nat} {svs:List (SV D)} {vals:List Value},dA (VR ν) svs vals->(∀ s ∈ svs,Cur H s)->EnvR ν H (live.zip svs) (live.zip vals)
 | [],_,_,_,_=>fun t s hs=>by simp [findS] at hs
 | t0::l,[],[], .nil,_=>fun t s hs=>by simp [findS] at hs
 | t0::l,s0::svs,v0::vals, .cons h1 h2,hc=>by
  intro t s hs;change cnd (Nat.beq t0 t) (some s0) (findS (l.zip svs) t)=some s at hs;show ∃ v,(bif Nat.beq t0 t then some v0 else Env.find (l.zip vals) t)=some v/\_
  cases hb:Nat.beq t0 t with
  | true=>rw [hb] at hs; simp only [cnd,Option.some.injEq] at hs; subst hs; exact ⟨v0,rfl,h1,hc _ (by simp)⟩
  | false=>rw [hb] at hs; exact Cj h2 (fun s hs=>hc s (by simp [hs])) t s hs
theorem vW {ds:List Ds} {x:TupD D ds} {H H':SH D}: ∀ s ∈ (unL ds x H).1,Cur H' s:=by
 intro s hs;refine Cur.of ?_
 induction ds generalizing H with
 | nil=>simp [unL] at hs
 | cons d ds ih=>
  simp only [unL,List.mem_cons] at hs;rcases hs with rfl | hs
  ·exact uO
  ·exact ih hs
theorem PtR.start {k:Nat} {c:pt.V} {σ:Option (St D.O)} {vals:List Value} (hp:PtR pt Lv X pr args k c σ vals h):
  ∃ ν ω,SR X pr args ν ω ((Lv k).zip (fixA (unL (pt.pd k) (pt.ls k c) ⟨[],σ⟩).1 (pt.pd k) (unL (pt.pd k) (pt.ls k c) ⟨[],σ⟩).1)) (unL (pt.pd k) (pt.ls k c) ⟨[],σ⟩).2 ((Lv k).zip vals) h:=by
 obtain ⟨ν,ω,R,hv,_⟩:=rX (HR.start hp.1);exact ⟨ν,ω,R,Cj (vV hv hv hp.2.2) (sE vW),hp.2.1⟩
def KRel (X:At) (pr:List Nat) (args:List Value) (K:KontS D) (Kr:Kont):Prop:= ∀ e ν ω Γ H Γr h,SR X pr args ν ω Γ H Γr h->K e Γ H->Kr e Γr h
theorem jP {next:EnvS D->SH D->Prop} {nextr:Env->Hp->Prop} {K:KontS D} {Kr:Kont} (h1: ∀ ν ω Γ H Γr h,SR X pr args ν ω Γ H Γr h->next Γ H->nextr Γr h) (h2:KRel X pr args K Kr):KRel X pr args (thenS next K) (thenK nextr Kr):=by
 intro e ν ω Γ H Γr h S HK
 cases e <;> first
  | exact h1 _ _ _ _ _ _ S HK
  | exact h2 _ _ _ _ _ _ _ S HK
theorem sG {id:Nat} {K:KontS D} {Kr:Kont} (h2:KRel X pr args K Kr):KRel X pr args (blockS' id K) (blockK id Kr):=by
 intro e ν ω Γ H Γr h S HK
 cases e <;> first
  | exact h2 _ _ _ _ _ _ _ S HK
  | skip
 rename_i id';simp only [blockS',blockK] at HK |-
 cases hb:Nat.beq id' id with
 | true=>rw [hb] at HK; exact h2 _ _ _ _ _ _ _ S HK
 | false=>rw [hb] at HK; exact h2 _ _ _ _ _ _ _ S HK
theorem RB {k:Nat} {ks:List Nat} {Ss':List (SS pt)} {Ss:List LoopS} (hk:Lp k=k::ks) (hS:SRel pt Lv X pr args ks Ss' Ss) {c:pt.V} {σ:Option (St D.O)} (HL:pt.lp k Ss' c σ):
  ∀ vals h,PtR pt Lv X pr args k c σ vals h->Lfp (fun S=>srcW pt Lv Lp X pr args k (S::Ss)) vals h:=by
 have H2:=pt.JK k Ss' c σ HL;refine Lf.ind H2 (fun p=> ∀ vals h,PtR pt Lv X pr args k p.1 p.2 vals h->Lfp (fun S=>srcW pt Lv Lp X pr args k (S::Ss)) vals h) fun p S0 hS0 hΦ vals h hp=> ?_;refine qH ⟨p.1,p.2,_::Ss', ?_,hp,hΦ⟩;rw [hk];exact ⟨fun c σ vals h hp hs=>hS0 (c,σ) hs vals h hp,hS⟩
theorem yw (hA: ∃ P,Agree P τ) {base:pt.V}: ∀ (c:Code) (A:Ann) (ks:List Nat) (Ss':List (SS pt)) (Ss:List LoopS) (K:KontS D) (Kr:Kont),annOk Lv Lp ks A=true->SRel pt Lv X pr args ks Ss' Ss->KRel X pr args K Kr->
  ∀ {ν:Nu} {ω:List Gm} {Γ:EnvS D} {H:SH D} {Γr:Env} {h:Hp},SR X pr args ν ω Γ H Γr h->WS pt (opsS τ ty C) pr n base c A Ss' Γ H K->W τ (specsL C) (specsL C) n (srcW pt Lv Lp X pr args) c A Ss Γr h Kr:=by
 intro c
 induction c with
 | skip=>intro A ks Ss' Ss K Kr _ _ hK ν ω Γ H Γr h S HW; exact hK _ _ _ _ _ _ _ S HW
 | exit id=>intro A ks Ss' Ss K Kr _ _ hK ν ω Γ H Γr h S HW; exact hK _ _ _ _ _ _ _ S HW
 | ret=>intro A ks Ss' Ss K Kr _ _ hK ν ω Γ H Γr h S HW; exact hK _ _ _ _ _ _ _ S HW
 | region id ops draw=>
  intro A ks Ss' Ss K Kr _ _ hK ν ω Γ H Γr h S HW
  cases draw with
  | false=>exact sC hA S HW fun ν' ω' Γ' H' Γr' h' S' hk=>hK _ _ _ _ _ _ _ S' hk
  | true=>
   cases A with
   | plan p=>
    simp only [WS] at HW;simp only [W]
    cases hb:(Region.noSelect ops && shutP p && planOk ops p ops.size (Array.replicate ops.size false) []) with
    | false=>rw [hb] at HW; exact HW.elim
    | true=>
     rw [hb] at HW
     exact jw (Fs:=[]) (Fa:=[]) hA (fun ν' ω' Γ' H' Γr' h' S' hk=>hK _ _ _ _ _ _ _ S' hk) p S (show FR X ν ω H [] [] from rfl) HW
   | _=>exact HW.elim
 | seq a b iha ihb=>
  intro A ks Ss' Ss K Kr hO hS hK ν ω Γ H Γr h S HW
  cases A with
  | seq A B=>
   simp only [annOk,Bool.and_eq_true] at hO
   exact iha A ks Ss' Ss _ _ hO.1 hS (jP (fun ν ω Γ H Γr h S hk=>ihb B ks Ss' Ss K Kr hO.2 hS hK S hk) hK) S HW
  | join k live A B=>
   simp only [annOk,Bool.and_eq_true,beq_iff_eq] at hO;obtain ⟨⟨⟨o1,o2⟩,o3⟩,o4⟩:=hO;refine iha A ks Ss' Ss _ _ o3 hS (jP (fun ν ω Γ H Γr h S hk=> ?_) hK) S HW
   exact nT S o1 hk fun c σ vals hp hs=>⟨c,σ,Ss',by rw [o2]; exact hS,hp,hs⟩
  | _=>exact HW.elim
 | cond c x y ihx ihy=>
  intro A ks Ss' Ss K Kr hO hS hK ν ω Γ H Γr h S HW
  cases A with
  | cond A B=>
   simp only [annOk,Bool.and_eq_true] at hO;simp only [WS] at HW;simp only [W]
   cases hp:presentS Γ c with
   | false=>rw [hp] at HW; exact HW.elim
   | true=>
    rw [hp] at HW;simp only [cnd] at HW;split at HW
    case h_2=>exact HW.elim
    rename_i b hb
    have hc:cstB D c=true:=by
     cases c with
     | const v=>
      cases v <;> first
       | rfl
       | (simp [evS,ofC] at hb; done)
     | _=>rfl
    obtain ⟨q1,_⟩:=iO S.env hp hc;rw [hb] at q1;have q1:ev Γr c= .bool b:=q1
    have hpr:present Γr c=true:=by
     cases c with
     | tmp t=>
      obtain ⟨s,hs⟩:=Option.isSome_iff_exists.1 hp;obtain ⟨v,h1,_⟩:=S.env t s hs
      simp [present,h1]
     | _=>rfl
    rw [hpr,q1];simp only [cnd]
    cases b with
    | true=>exact ihx A ks Ss' Ss K Kr hO.1 hS hK S HW
    | false=>exact ihy B ks Ss' Ss K Kr hO.2 hS hK S HW
  | _=>exact HW.elim
 | block id c ih=>
  intro A ks Ss' Ss K Kr hO hS hK ν ω Γ H Γr h S HW
  cases A with
  | block A=>exact ih A ks Ss' Ss _ _ hO hS (sG hK) S HW
  | _=>exact HW.elim
 | loop body ih=>
  intro A ks Ss' Ss K Kr hO hS hK ν ω Γ H Γr h S HW
  cases A with
  | loop k live B=>
   simp only [annOk,Bool.and_eq_true,beq_iff_eq] at hO
   exact nT S hO.1.1 HW fun c σ vals hp hl=>RB hO.1.2 hS hl vals h hp
  | _=>exact HW.elim
 | _=>intro A ks Ss' Ss K Kr _ _ hK ν ω Γ H Γr h S HW; exact HW.elim
theorem Nj (hA: ∃ P,Agree P τ) {k:Nat} {c0:pt.V} {σ0:Option (St D.O)} {vals:List Value} {h:Hp} (hp:PtR pt Lv X pr args k c0 σ0 vals h):
  ∀ (c:Code) (A:Ann) (ks:List Nat) (Ss' inner':List (SS pt)) (Ss inner:List LoopS) (K:KontS D) (Kr:Kont),annOk Lv Lp ks A=true->once (pts A)=true->k ∈ pts A->SRel pt Lv X pr args ks Ss' Ss->SRel pt Lv X pr args (loopsIn k A) inner' inner->KRel X pr args K Kr->
  ptS pt (opsS τ ty C) pr n c0 k (fixA (unL (pt.pd k) (pt.ls k c0) ⟨[],σ0⟩).1 (pt.pd k) (unL (pt.pd k) (pt.ls k c0) ⟨[],σ0⟩).1) (unL (pt.pd k) (pt.ls k c0) ⟨[],σ0⟩).2 c A Ss' inner' K->ptW τ (specsL C) (specsL C) n (srcW pt Lv Lp X pr args) k vals h c A Ss inner Kr:=by
 obtain ⟨ν0,ω0,S0⟩:=hp.start;intro c
 induction c with
 | seq a b iha ihb=>
  intro A ks Ss' inner' Ss inner Kx Kr hO hon hk hS hI hK HP
  cases A with
  | seq A B=>
   simp only [annOk,Bool.and_eq_true] at hO;obtain ⟨o1,o2,o3⟩:=gx hon;simp only [pts,List.mem_append] at hk;simp only [ptS] at HP;simp only [ptW]
   cases hm:memN k (pts A) with
   | true=>
    rw [hm] at HP;simp only [loopsIn,hm,cond_true] at hI
    exact iha A ks Ss' inner' Ss inner _ _ hO.1 o1 (cG.1 hm) hS hI (jP (fun ν ω Γ H Γr h S hk=>yw hA b B ks Ss' Ss Kx Kr hO.2 hS hK S hk) hK) HP
   | false=>
    rw [hm] at HP;simp only [loopsIn,hm,cond_false] at hI;have hkb:k ∈ pts B:=hk.resolve_left fun h=>by rw [cG.2 h] at hm; cases hm
    exact ihb B ks Ss' inner' Ss inner Kx Kr hO.2 o2 hkb hS hI hK HP
  | join k0 live A B=>
   simp only [annOk,Bool.and_eq_true,beq_iff_eq] at hO;obtain ⟨⟨⟨a1,a2⟩,a3⟩,a4⟩:=hO;simp only [pts,once,Bool.and_eq_true,Bool.not_eq_true'] at hon;obtain ⟨o1,o2,o3⟩:=gx hon.2;simp only [ptS] at HP;simp only [ptW]
   cases hb:Nat.beq k0 k with
   | true=>
    rw [hb] at HP;have e:k0=k:=by simpa using hb
    subst e;rw [a1] at S0
    exact yw hA b B ks Ss' Ss Kx Kr a4 hS hK S0 HP
   | false=>
    rw [hb] at HP;simp only [loopsIn,hb,cond_false] at hI
    have EO:k ∈ pts A++pts B:=by simp only [pts,List.mem_cons] at hk;exact hk.resolve_left fun e=>by subst e; simp at hb
    simp only [cnd] at HP |-
    cases hm:memN k (pts A) with
    | true=>
     rw [hm] at HP;simp only [hm,cond_true] at hI;refine iha A ks Ss' inner' Ss inner _ _ a3 o1 (cG.1 hm) hS hI (jP (fun ν ω Γ H Γr h S hk=> ?_) hK) HP
     exact nT S a1 hk fun c σ vals hp hs=>⟨c,σ,Ss',by rw [a2]; exact hS,hp,hs⟩
    | false=>
     rw [hm] at HP;simp only [hm,cond_false] at hI;have hkb:k ∈ pts B:=(List.mem_append.1 EO).resolve_left fun h=>by rw [cG.2 h] at hm; cases hm
     exact ihb B ks Ss' inner' Ss inner Kx Kr a4 o2 hkb hS hI hK HP
  | _=>exact HP.elim
 | cond c x y ihx ihy=>
  intro A ks Ss' inner' Ss inner Kx Kr hO hon hk hS hI hK HP
  cases A with
  | cond A B=>
   simp only [annOk,Bool.and_eq_true] at hO;obtain ⟨o1,o2,o3⟩:=gx hon;simp only [pts,List.mem_append] at hk;simp only [ptS] at HP;simp only [ptW]
   cases hm:memN k (pts A) with
   | true=>
    rw [hm] at HP;simp only [loopsIn,hm,cond_true] at hI
    exact ihx A ks Ss' inner' Ss inner Kx Kr hO.1 o1 (cG.1 hm) hS hI hK HP
   | false=>
    rw [hm] at HP;simp only [loopsIn,hm,cond_false] at hI;have hkb:k ∈ pts B:=hk.resolve_left fun h=>by rw [cG.2 h] at hm; cases hm
    exact ihy B ks Ss' inner' Ss inner Kx Kr hO.2 o2 hkb hS hI hK HP
  | _=>exact HP.elim
 | block id c ih=>
  intro A ks Ss' inner' Ss inner Kx Kr hO hon hk hS hI hK HP
  cases A with
  | block A=>exact ih A ks Ss' inner' Ss inner _ _ hO hon hk hS hI (sG hK) HP
  | _=>exact HP.elim
 | loop body ih=>
  intro A ks Ss' inner' Ss inner Kx Kr hO hon hk hS hI hK HP
  cases A with
  | loop k0 live B=>
   simp only [annOk,Bool.and_eq_true,beq_iff_eq] at hO;obtain ⟨⟨a1,a2⟩,a3⟩:=hO;simp only [pts,once,Bool.and_eq_true,Bool.not_eq_true'] at hon
   have hI: ∃ S' r' S r ls,inner'=S'::r'/\inner=S::r/\loopsIn k (.loop k0 live B)=k0::ls/\(∀ c σ vals h,PtR pt Lv X pr args k0 c σ vals h->S' c σ->S vals h)/\SRel pt Lv X pr args ls r' r:=by
    have: ∃ ls,loopsIn k (.loop k0 live B)=k0::ls:=by
     simp only [loopsIn]
     cases Nat.beq k0 k with
     | true=>exact ⟨[],rfl⟩
     | false=>exact ⟨_,rfl⟩
    obtain ⟨ls,e⟩:=this;rw [e] at hI
    cases inner' with
    | nil=>cases inner <;> exact hI.elim
    | cons S' r'=>cases inner with
     | nil=>exact hI.elim
     | cons S r=>exact ⟨S',r',S,r,ls,rfl,rfl,e,hI.1,hI.2⟩
   obtain ⟨S',r',S,r,ls,rfl,rfl,el,hI1,hI2⟩:=hI;simp only [ptS] at HP;simp only [ptW]
   have PF:SRel pt Lv X pr args (k0::ks) (S'::Ss') (S::Ss):=⟨hI1,hS⟩
   have hK2:KRel X pr args (thenS (fun Γ' H'=>jumpS pt pr c0 k0 live Γ' H' S') Kx) (thenK (fun Γ' h'=>jump live Γ' h' S) Kr):=
    jP (fun ν ω Γ H Γr h SS hk=>nT SS a1 hk fun c σ vals hp hs=>hI1 c σ vals h hp hs) hK
   cases hb:Nat.beq k0 k with
   | true=>
    rw [hb] at HP;have e:k0=k:=by simpa using hb
    subst e;rw [a1] at S0
    exact yw hA body B (k0::ks) (S'::Ss') (S::Ss) _ _ a3 PF hK2 S0 HP
   | false=>
    rw [hb] at HP
    have hkb:k ∈ pts B:=by simp only [pts,List.mem_cons] at hk;exact hk.resolve_left fun e=>by subst e; simp at hb
    have els:ls=loopsIn k B:=by simp only [loopsIn,hb,cond_false,List.cons.injEq,true_and] at el;exact el.symm
    subst els
    exact ih B (k0::ks) (S'::Ss') r' (S::Ss) r _ _ a3 hon.2 hkb PF hI2 hK2 HP
  | _=>exact HP.elim
 | _=>intro A ks Ss' inner' Ss inner Kx Kr hO hon hk hS hI hK HP; exact HP.elim
end Go.Ex
namespace Go.Ex
open Go Go.Wc Go.Pu
variable {D:Tabs} {X:At} {pr:List Nat} {args:List Value} {ν ν':Nu} {h h':Hp} {ω ω':List Gm} {H H':SH D} {τ:Tys} {ty:Nat->Option Ty} {C:Ctrs D} {Γ:EnvS D} {Γr:Env} {n:Nat}
theorem SR.mono (S:SR X pr args ν ω Γ H Γr h) (L:SLe H ν ω H' ν' ω') (R:HR X ν' ω' H' h []):SR X pr args ν' ω' Γ H' Γr h:=⟨R,S.env.mono L,S.pr⟩
theorem yx {c:CK} {a:Addr} {K K':(Hp->Prop)->Value->Prop} (hk: ∀ f v,K f v->K' f v) (H:ldC c h a K):ldC c h a K':=by
 cases c <;> first
  | exact H.elim
  | (obtain ⟨n,h1,h2⟩:=H; exact ⟨n,h1,hk _ _ h2⟩)
theorem oU {a:Addr}: ∀ {cs:List CK} {i:Nat} {K K':(Hp->Prop)->List Value->Prop} (hk: ∀ f vs,K f vs->K' f vs),ldCs cs h a i K->ldCs cs h a i K'
 | [],i,K,K',hk,H=>hk _ _ H
 | c::cs,i,K,K',hk,H=>by
  have step:ldC c h (a.add i) (fun f v=>ldCs cs h a (i+1) fun g vs=>K (fun h'=>f h'/\g h') (v::vs))->ldC c h (a.add i) (fun f v=>ldCs cs h a (i+1) fun g vs=>K' (fun h'=>f h'/\g h') (v::vs)):=
   fun H=>yx (fun f v h=>oU (fun g vs h=>hk _ _ h) h) H
  cases c with
  | lump k n=>
   obtain ⟨l,h1,h2,h3⟩:=H
   exact ⟨l,h1,h2,oU (fun f vs h=>hk _ _ h) h3⟩
  | _=>exact step H
theorem vX: ∀ {rs:List ResultVar} {ν:Nu} {ω:List Gm} {H:SH D} {K:List (SV D)->SH D->Prop} {Kr:List Value->Prop},SR X pr args ν ω Γ H Γr h->resV τ Γ H rs K->
  (∀ l vs H' ν' ω',SR X pr args ν' ω' Γ H' Γr h->SLe H ν ω H' ν' ω'->dA (VR ν') l vs->K l H'->Kr vs)->resW τ Γr h rs Kr
 | [],ν,ω,H,K,Kr,S,HK,k=>k [] [] H ν ω S (SLe.refl _ _ _) .nil HK
 | .tmp t::r,ν,ω,H,K,Kr,S,HK,k=>by
  simp only [resV] at HK;simp only [resW];split at HK
  case h_2=>exact HK.elim
  rename_i s hs;obtain ⟨v,h1,h2,h3⟩:=S.env t s hs;rw [h1]
  exact vX S HK fun l vs H' ν' ω' S' L hl hk=>k (s::l) (v::vs) H' ν' ω' S' L (.cons (h2.mono L.1) hl) hk
 | .cell a t::r,ν,ω,H,K,Kr,S,HK,k=>by
  simp only [resV] at HK;split at HK
  case h_2=>exact HK.elim
  rename_i s hs;obtain ⟨v,h1,h2,h3⟩:=S.env a s hs;have key:=ld S.hr h2 h3 HK
  have fin: ∀ f u,PR (fun _ u H'=>resV τ Γ H' r fun l H''=>K (u::l) H'') X ν ω H h f u->resW τ Γr h r fun vs=>Kr (u::vs):=by rintro f u ⟨g,su,H1,ν1,ω1,k1,k2,k3,k4,k5,k6⟩;exact vX (S.mono k4 k5) k1 fun l vs H' ν' ω' S' L hl hk=>k (su::l) (u::vs) H' ν' ω' S' (k4.trans L) (.cons (k2.mono L.1) hl) hk
  unfold resW;rw [h1];unfold loadW at key;split at key
  case h_2=>exact key.elim
  rename_i p;simp only;split at key
  case h_2=>exact key.elim
  rename_i ti hti;simp only [hti]
  cases hg:Wc.isAgg ti.kd with
  | true=>
   rw [hg] at key;simp only [cnd] at key |-
   cases hn:Nat.beq (ckns ti.gC) ti.size with
   | false=>rw [hn] at key; exact key.elim
   | true=>
    rw [hn] at key
    exact oU (fun f vs hh=>fin _ _ hh) key
  | false=>
   rw [hg] at key;simp only [cnd] at key |-
   split at key
   ·rename_i c hc
    rw [hc];exact yx fin key
   ·exact key.elim
theorem Fq: ∀ {bk:List (Nat × Ds)} {z:TupD D (bk.map (·.2))} {ω:List Gm} {H H':SH D} {A:List At},HR X ν ω H h A->EnvR ν H Γ Γr->(∀ j ∈ bk.map (·.1),∃ v,args[j]? =some v/\Env.find Γr j=some v)->pkK bk Γ H=some (z,H')->
  ∃ ω',HR X ν ω' H' h (bkA D X bk z args::A)/\SLe H ν ω H' ν ω'
 | [],z,ω,H,H',A,R,E,hp,hk=>by
  simp only [pkK,Option.some.injEq,Prod.mk.injEq] at hk;obtain ⟨_,rfl⟩:=hk
  exact ⟨ω,R.addP fun M=>rfl,SLe.refl _ _ _⟩
 | b::bk,z,ω,H,H',A,R,E,hp,hk=>by
  simp only [pkK] at hk;split at hk
  ·cases hk
  rename_i s hs;split at hk
  case h_2=>cases hk
  rename_i x H1 h1;split at hk
  case h_2=>cases hk
  rename_i r H2 h2;cases hk;obtain ⟨v,e1,e2,e3⟩:=E b.1 s hs;obtain ⟨w,f1,f2⟩:=hp b.1 (by simp);have:v=w:=by rw [e1] at f2; exact Option.some.inj f2
  subst this;obtain ⟨ω1,R1,S1⟩:=AF R e2 h1;obtain ⟨ω2,R2,S2⟩:=Fq R1 (E.mono S1) (fun j hj=>hp j (by simp only [List.map_cons,List.mem_cons]; exact .inr hj)) h2;exact ⟨ω2,HR.exI v (HR.factI f1 (HR.sepI R2.swap)),S1.trans S2⟩
theorem dA.len {α β:Type} {r:α->β->Prop}: ∀ {l:List α} {m:List β},dA r l m->l.length=m.length
 | [],[], .nil=>rfl
 | _::_,_::_, .cons _ h=>by simp [dA.len h]
theorem vY: ∀ {svs:List (SV D)} {vs:List Value} {i:Nat},dA (VR ν) svs vs->(∀ s ∈ svs,Cur H s)->EnvR ν H (argS i svs) (argEnv i vs)
 | [],[],_, .nil,_=>fun t s hs=>by simp [argS,findS] at hs
 | s::svs,v::vs,i, .cons h1 h2,hc=>by
  intro t u hu;change cnd (Nat.beq i t) (some s) (findS (argS (i+1) svs) t)=some u at hu;show ∃ w,(bif Nat.beq i t then some v else Env.find (argEnv (i+1) vs) t)=some w/\_
  cases hb:Nat.beq i t with
  | true=>rw [hb] at hu; simp only [cnd,Option.some.injEq] at hu; subst hu; exact ⟨v,rfl,h1,hc _ (by simp)⟩
  | false=>rw [hb] at hu; exact vY h2 (fun s hs=>hc s (by simp [hs])) t u hu
theorem oV: ∀ {vs:List Value} {i j:Nat},j<vs.length->Env.find (argEnv i vs) (i+j)=vs[j]?
  | v::vs,i,0,_=>by simp [argEnv,Env.find]
  | v :: vs, i, j + 1, h => by
    have hb:Nat.beq i (i+(j+1))=false:=by
      cases hb:Nat.beq i (i+(j+1)) with
      | false=>rfl
      | true => have : i = i + (j + 1) := Nat.eq_of_beq_eq_true hb
                omega
    simp only [argEnv,Env.find,hb,cond_false,List.getElem?_cons_succ];rw [show i+(j+1)=(i+1)+j from by omega];exact oV (by simpa using h)
abbrev QT (c:Ctr D):=TupD D c.rs->TupD D (c.bk.map (·.2))->Option (St D.O)->Prop
abbrev Told (c:Ctr D) (X:At) (Q:QT c) (args:List Value) (Kr:Value->Hp->Prop):Prop:=
 ∀ y z σ',Q y z σ'-> ∀ vs h',Inv h' [X,sgA D σ',dsL D X c.rs y vs,bkA D X c.bk z args]->oneOf (fun v=>Kr v h') vs
theorem vZ {c:Ctr D} {rs:Array ResultVar} {Q:QT c} {Kr:Value->Hp->Prop} (hQ:Told c X Q args Kr):KRel X (c.bk.map (·.1)) args (retS τ c rs Q) (retK τ rs Kr):=by
 intro e ν ω Γ H Γr h S HK
 have key:resV τ Γ H rs.toList (fun l H'=>match pkL c.rs l H' with
   | none=>False
   | some (y,H1)=>match pkK c.bk Γ H1 with
    | none=>False
    | some (z,H2)=>Q y z H2.sg)->resW τ Γr h rs.toList (oneOf fun v=>Kr v h):=by
  intro HK;refine vX S HK fun l vs H' ν' ω' S' L hl hk=> ?_;split at hk
  ·exact hk.elim
  rename_i y H1 h1;split at hk
  ·exact hk.elim
  rename_i z H2 h2;obtain ⟨ω1,R1,L1⟩:=AG S'.hr hl h1;obtain ⟨ω2,R2,L2⟩:=Fq R1 (S'.env.mono L1) S'.pr h2;have I:=R2.told;exact hQ y z _ hk vs h (Inv.prm (((List.Perm.swap _ _ _).cons _).cons _) I)
 cases e <;> first
  | exact key HK
  | exact HK.elim
theorem Ft {P:Program} {σ cl:Specs} {f:Nat} {fn:Func} {c:Code} {S:Spec} (hA:Agree P τ) (hσ:SpecsOk P σ) (hcl:SpecsOk P cl) (hm:P.follows .mixedOrders=true)
  (hf:P.funcs[f]? =some fn) (hb:fn.body=some c) (hn:(fn.name== "runtime.NumGoroutine")=false) (A:Ann) (ho:once (pts A)=true)
  (entry: ∀ args h K,S args h K-> ∃ src:Src,args.length<=fn.ntmps/\W τ σ cl fn.ntmps src c A [] (argEnv 0 args) h (retK τ fn.results K)/\
   ∀ k inner vals h,k ∈ pts A->inner.length=depth k A->src k inner.reverse vals h->ptW τ σ cl fn.ntmps src k vals h c A [] inner (retK τ fn.results K)):
  SpecOk P f S:=by
 refine ⟨⟨fn,hf,hn,by rw [hb]; rfl⟩,fun args K w HS=> ?_⟩;obtain ⟨src,hlen,hW,obl⟩:=entry args _ _ HS;refine calls_of_wp hf hb ?_;have hO:Obl τ σ cl fn.ntmps src c A [] (retK τ fn.results K):=fun k hk inner hin vals h hs=>obl k inner vals h hk hin (by simpa using hs)
 have hfit:Fits [] fn.ntmps (argEnv 0 args) {tmps:=args.toArray++Array.replicate (fn.ntmps - args.toArray.size) undef,defers:=[]}:=by
  refine ⟨by simp; omega,rfl,fun t v hv=> ?_⟩;obtain ⟨_,h2⟩:=iB _ _ _ _ hv;simp only [Nat.sub_zero] at h2
  have hlt:t<args.length:=by rw [List.getElem?_eq_some_iff] at h2; exact h2.1
  simp only [];rw [Array.getElem?_append_left (by simpa using hlt)];simpa using h2
 refine wp_mono (vh (w0:=w) hA hσ hcl hm c A [] _ ho hO _ _ hW _ w hfit rfl (Same.refl w)) fun e a w' he=> ?_
 cases e with
 | normal=>
  obtain ⟨Γ,h1,h2,h3⟩:=he;obtain ⟨v,g1,g2⟩:=iC hA h1 h3
  exact ⟨h1.2.1,v,g1,v,rfl,h2,g2⟩
 | ret=>
  obtain ⟨Γ,h1,h2,h3⟩:=he;obtain ⟨v,g1,g2⟩:=iC hA h1 h3
  exact ⟨h1.2.1,v,g1,v,rfl,h2,g2⟩
 | exit id=>obtain ⟨Γ,h1,h2,h3⟩:=he; exact h3.elim
 | _=>exact he.elim
theorem SRel.app {pt:Pts D} {Lv:Nat->List Nat}: ∀ {a b:List Nat} {A B:List (SS pt)} {A' B':List LoopS},SRel pt Lv X pr args a A A'->SRel pt Lv X pr args b B B'->SRel pt Lv X pr args (a++b) (A++B) (A'++B')
 | [],b,[],B,[],B',_,h=>h
 | _::a,b,_::A,B,_::A',B',h1,h=>⟨h1.1,h1.2.app h⟩
theorem SRel.rev {pt:Pts D} {Lv:Nat->List Nat}: ∀ {a:List Nat} {A:List (SS pt)} {A':List LoopS},SRel pt Lv X pr args a A A'->SRel pt Lv X pr args a.reverse A.reverse A'.reverse
 | [],[],[],_=>trivial
 | _::a,_::A,_::A',h=>by simp only [List.reverse_cons];exact (h.2.rev).app ⟨h.1,trivial⟩
theorem SRel.len {pt:Pts D} {Lv:Nat->List Nat}: ∀ {a:List Nat} {A:List (SS pt)} {A':List LoopS},SRel pt Lv X pr args a A A'->A.length=A'.length
 | [],[],[],_=>rfl
 | _::a,_::A,_::A',h=>by simp [h.2.len]
@[reducible] def allP (F:Nat->Prop):List Nat->Prop
 | []=>True
 | k::r=>F k/\allP F r
theorem Ck {F:Nat->Prop}: ∀ {l:List Nat},allP F l-> ∀ k ∈ l,F k
 | _::_,h,k,hk=>(List.mem_cons.1 hk).elim (fun e=>e ▸ h.1) (Ck h.2 k)
def fnB (c:Ctr D) (A:Ann) (n:Nat):Bool:=
 once (pts A) && annOk (fun k=>liveOf k A) (fun k=>(loopsIn k A).reverse) [] A && Nat.ble c.ps.length n && c.bk.all (fun b=>Nat.blt b.1 c.ps.length)
def CtrsOk (P:Program) (C:Ctrs D):Prop:= ∀ p ∈ C,SpecOk P p.1 (specOf p.2)
theorem CtrsOk.nil {P:Program}:CtrsOk P ([]:Ctrs D):=fun _ h=>by cases h
theorem CtrsOk.cons {P:Program} {f:Nat} {c:Ctr D} (h1:SpecOk P f (specOf c)) (h2:CtrsOk P C):CtrsOk P ((f,c)::C):=fun p hp=>
 (List.mem_cons.1 hp).elim (fun e=>by subst e; exact h1) (h2 p)
theorem CtrsOk.specs {P:Program} (h:CtrsOk P C):SpecsOk P (specsL C):=by
  intro f S hS
  have : ∃ c, (f, c) ∈ C := by
    have: ∀ (l:Ctrs D),Specs.get (l.map fun p=>(p.1,specAny C p.1)) f=some S-> ∃ c,(f,c) ∈ l:=by
      intro l
      induction l with
      | nil=>intro h; simp [Specs.get] at h
      | cons p l ih=>
        intro h;simp only [List.map_cons,Specs.get] at h
        cases hb:Nat.beq p.1 f with
        | true => have e : p.1 = f := by simpa using hb
                  exact ⟨p.2,by rw [<- e]; simp⟩
        | false => rw [hb] at h
                   obtain ⟨c,hc⟩:=ih h;exact ⟨c,List.mem_cons_of_mem _ hc⟩
    exact this C hS
  rw [mQ hS];obtain ⟨c0,WV⟩:=this;refine ⟨(h _ WV).1,fun args K w HS=> ?_⟩;obtain ⟨c,hc,HS⟩:=HS;exact (h _ hc).2 args K w HS
theorem wg: ∀ {ds:List Ds} {x:TupD D ds} {H:SH D},(unL ds x H).1.length=ds.length
 | [],_,_=>rfl
 | _::ds,x,H=>by simp [unL,wg (ds:=ds)]
theorem RC {P:Program} {f:Nat} {fn:Func} {code:Code} {c:Ctr D} {C:Ctrs D} (hA:Agree P τ) (hC:CtrsOk P C) (hm:P.follows .mixedOrders=true)
  (hf:P.funcs[f]? =some fn) (hb:fn.body=some code) (hn:(fn.name== "runtime.NumGoroutine")=false) (A:Ann) (pt:QT c->Pts D) (v0: ∀ Q,TupD D c.ps->(pt Q).V)
  (ho:fnB c A fn.ntmps=true)
  (entry: ∀ x σ Q,c.P x σ Q->WS (pt Q) (opsS τ ty C) (c.bk.map (·.1)) fn.ntmps (v0 Q x) code A [] (argS 0 (unL c.ps x ⟨[],σ⟩).1) (unL c.ps x ⟨[],σ⟩).2 (retS τ c fn.results Q))
  (obl: ∀ Q,allP (fun k=> ∀ inner v σ,inner.length=depth k A->(pt Q).src k inner.reverse v σ->
   ptS (pt Q) (opsS τ ty C) (c.bk.map (·.1)) fn.ntmps v k (fixA (unL ((pt Q).pd k) ((pt Q).ls k v) ⟨[],σ⟩).1 ((pt Q).pd k) (unL ((pt Q).pd k) ((pt Q).ls k v) ⟨[],σ⟩).1) (unL ((pt Q).pd k) ((pt Q).ls k v) ⟨[],σ⟩).2 code A [] inner (retS τ c fn.results Q)) (pts A)):
  SpecOk P f (specOf c):=by
 simp only [fnB,Bool.and_eq_true,List.all_eq_true] at ho;obtain ⟨⟨⟨o1,o2⟩,o3⟩,o4⟩:=ho;have hCs:=hC.specs;refine Ft hA hCs hCs hm hf hb hn A o1 fun args h Kr HS=> ?_;obtain ⟨X,x,σ,Q,I,hP,hQ⟩:=HS;obtain ⟨ν,ω,R,hv,_⟩:=rX (HR.start I);have hlen:args.length=c.ps.length:=by rw [<- dA.len hv,wg]
 refine ⟨srcW (pt Q) (fun k=>liveOf k A) (fun k=>(loopsIn k A).reverse) X (c.bk.map (·.1)) args, ?_, ?_, ?_⟩
 ·rw [hlen]; exact Nat.le_of_ble_eq_true o3
 ·refine yw ⟨P,hA⟩ code A [] [] [] _ _ o2 trivial (vZ hQ) ⟨R,vY hv vW,fun j hj=> ?_⟩ (entry x σ Q hP)
  obtain ⟨b,uG,rfl⟩:=List.mem_map.1 hj;have hlt:b.1<args.length:=by rw [hlen]; exact Nat.le_of_ble_eq_true (o4 b uG)
  refine ⟨args[b.1],List.getElem?_eq_getElem hlt, ?_⟩;have:=oV (i:=0) hlt;rw [Nat.zero_add] at this;rw [this,List.getElem?_eq_getElem hlt]
 ·rintro k inner vals h1 hk hin ⟨v,σ1,Ss',hS,hp,hs⟩
  have PF:=hS.rev;simp only [List.reverse_reverse] at PF;have hl:Ss'.reverse.length=depth k A:=by rw [PF.len,hin]
  have:=Ck (obl Q) k hk Ss'.reverse v σ1 hl (by rw [List.reverse_reverse]; exact hs);exact Nj ⟨P,hA⟩ hp code A [] [] Ss'.reverse [] inner _ _ o2 o1 hk trivial PF (vZ hQ) this
end Go.Ex
namespace Go.Ex
open Go Go.Wc Go.Pu
def rJ (α:Type):Rp α:=⟨0,fun _ _ vs _=>vs=[],by rintro _ _ _ _ rfl; rfl,by rintro _ _ _ _ rfl; simp,fun _ h=>h⟩
variable {D:Tabs}
def Pts.gZ {V:Type} (pd:Nat->List Ds) (up: ∀ k,V->TupD D (pd k)->V) (ls: ∀ k,V->TupD D (pd k)) (ok: ∀ k b t,ls k (up k b t)=t) (src:Option (St D.O)->Nat->List (V->Prop)->V->Prop):Pts D:=
  { V, pd, up, ls, ok
    src:=fun k Ss v o=>src o k (Ss.map fun S v=>S v o) v
    lp:=fun k Ss v o=>Lf (fun S=>src o k (S::Ss.map fun S v=>S v o)) v
    JK:=fun k Ss v o H=>by
      intro R hR
      have key:=H (fun v=>R (v,o)) (fun v ⟨S,h1,h2⟩=>hR (v,o) ⟨fun p=>p.2=o/\S p.1,fun p hp=>by
        obtain ⟨v',o'⟩:=p;obtain ⟨rfl,hp⟩:=hp
        exact h1 v' hp,by
        have e:(fun v=>(v,o).2=o/\S (v,o).1)=S:=by funext v; simp
        show src o k ((fun v=>(v,o).2=o/\S (v,o).1)::_) v
        rw [e]; exact h2⟩)
      exact key}
end Go.Ex
namespace Go.Ex
open Go Go.Wc Go.Pu
variable {D:Tabs}
def Pts.mkB {V B:Type} (pd:Nat->List Ds) (up: ∀ k,V × B->TupD D (pd k)->V × B) (ls: ∀ k,V × B->TupD D (pd k)) (ok: ∀ k b t,ls k (up k b t)=t)
    (src:B->Option (St D.O)->Nat->List (V->Unit->Prop)->V->Unit->Prop):Pts D:=
  { V := V × B, pd, up, ls, ok
    src:=fun k Ss p o=>src p.2 o k (Ss.map fun S=>fun v _=>S (v,p.2) o) p.1 ()
    lp:=fun k Ss p o=>Lf (fun S (q:V × Unit)=>src p.2 o k ((fun v z=>S (v,z))::Ss.map fun S=>fun v _=>S (v,p.2) o) q.1 q.2) (p.1,())
    JK:=fun k Ss p o H=>by
      obtain ⟨v,b⟩:=p;intro R hR
      have key:=H (fun q=>R ((q.1,b),o)) (fun q ⟨S,h1,h2⟩=>hR ((q.1,b),o) ⟨fun r=>r.1.2=b/\r.2=o/\S (r.1.1,()),fun r hr=>by
        obtain ⟨⟨v',b'⟩,o'⟩:=r;obtain ⟨rfl,rfl,hr⟩:=hr
        exact h1 (v',()) hr,by
        have e:(fun (v:V) (_:Unit)=>(((v,b),o):(V × B) × Option (St D.O)).1.2=b/\(((v,b),o):(V × B) × Option (St D.O)).2=o/\S (v,()))=fun v z=>S (v,z):=by funext v z;simp
        show src b o k ((fun (v:V) (_:Unit)=>(((v,b),o):(V × B) × Option (St D.O)).1.2=b/\(((v,b),o):(V × B) × Option (St D.O)).2=o/\S (v,()))::_) q.1 ()
        rw [e]; exact h2⟩)
      exact key}
def Pts.mkS {V:Type} (pd:Nat->List Ds) (up: ∀ k,V->TupD D (pd k)->V) (ls: ∀ k,V->TupD D (pd k)) (ok: ∀ k b t,ls k (up k b t)=t)
    (src:Nat->List (V->St D.O->Prop)->V->St D.O->Prop):Pts D:=
  { V, pd, up, ls, ok
    src:=fun k Ss v o=>match o with
      | some σ=>src k (Ss.map fun S v σ=>S v (some σ)) v σ
      | none=>False
    lp:=fun k Ss v o=>match o with
      | some σ=>Lf (fun S (q:V × St D.O)=>src k ((fun v σ=>S (v,σ))::Ss.map fun S v σ=>S v (some σ)) q.1 q.2) (v,σ)
      | none=>False
    JK := fun k Ss v o H => by
      cases o with
      | none=>exact H.elim
      | some σ=>
        intro R hR
        exact H (fun q=>R (q.1,some q.2)) (fun q ⟨S,h1,h2⟩=>hR (q.1,some q.2) ⟨fun r=> ∃ σ,r.2=some σ/\S (r.1,σ),fun r ⟨σ,e,hr⟩=>by
          obtain ⟨v',o'⟩:=r;have e:o'=some σ:=e;subst e
          exact h1 (v',σ) hr,by
          have e:(fun (v:V) (σ:St D.O)=> ∃ σ',((v,some σ):V × Option (St D.O)).2=some σ'/\S (((v,some σ):V × Option (St D.O)).1,σ'))=fun v σ=>S (v,σ):=by funext v σ;refine propext ⟨fun ⟨σ',e,h⟩=> ?_,fun h=>⟨σ,rfl,h⟩⟩;have e:some σ=some σ':=e;cases e; exact h
          show src k ((fun (v:V) (σ:St D.O)=> ∃ σ',((v,some σ):V × Option (St D.O)).2=some σ'/\S (((v,some σ):V × Option (St D.O)).1,σ'))::_) q.1 q.2
          rw [e]; exact h2⟩)}
abbrev unLk:(ds:List Ds)->TupD D ds->SH D->(List (SV D)->SH D->Prop)->Prop
 | [],_,H,K=>K [] H
 | d::ds,x,H,K=>fcH (unD d x.1 H).2 fun H'=>fcV (unD d x.1 H).1 fun s=>unLk ds x.2 H' fun l H''=>K (s::l) H''
theorem qt: ∀ {ds:List Ds} {x:TupD D ds} {H:SH D} {K:List (SV D)->SH D->Prop},unLk ds x H K=K (unL ds x H).1 (unL ds x H).2
 | [],_,_,_=>rfl
 | d::ds,x,H,K=>by show fcH _ _=_;rw [Fp,AP,qt (ds:=ds)]
def ObS {c:Ctr D} (τ:Tys) (ty:Nat->Option Ty) (C:Ctrs D) (n:Nat) (code:Code) (A:Ann) (rs:Array ResultVar) (pt:QT c->Pts D) (Q:QT c) (k:Nat) (inner:List ((pt Q).V->Option (St D.O)->Prop)):Prop:=
 ∀ v σ,(pt Q).src k inner.reverse v σ->unLk ((pt Q).pd k) ((pt Q).ls k v) ⟨[],σ⟩ fun svs H=>ptS (pt Q) (opsS τ ty C) (c.bk.map (·.1)) n v k (fixA svs ((pt Q).pd k) svs) H code A [] inner (retS τ c rs Q)
theorem Nk {P:Program} {τ:Tys} {ty:Nat->Option Ty} {f:Nat} {fn:Func} {code:Code} {c:Ctr D} {C:Ctrs D} (hA:Agree P τ) (hC:CtrsOk P C) (hm:P.follows .mixedOrders=true)
  (hf:P.funcs[f]? =some fn) (hb:fn.body=some code) (hn:(fn.name== "runtime.NumGoroutine")=false) (A:Ann) (pt:QT c->Pts D) (v0: ∀ Q,TupD D c.ps->(pt Q).V)
  (ho:fnB c A fn.ntmps=true)
  (entry: ∀ x σ Q,c.P x σ Q->unLk c.ps x ⟨[],σ⟩ fun svs H=>WS (pt Q) (opsS τ ty C) (c.bk.map (·.1)) fn.ntmps (v0 Q x) code A [] (argS 0 svs) H (retS τ c fn.results Q))
  (obl: ∀ Q,allP (fun k=> ∀ inner,inner.length=depth k A->ObS τ ty C fn.ntmps code A fn.results pt Q k inner) (pts A)):
  SpecOk P f (specOf c):=by
 refine RC hA hC hm hf hb hn A pt v0 ho (fun x σ Q h=>by have:=entry x σ Q h; rwa [qt] at this) fun Q=> ?_
 have key: ∀ l:List Nat,allP (fun k=> ∀ inner,inner.length=depth k A->ObS τ ty C fn.ntmps code A fn.results pt Q k inner) l->allP (fun k=> ∀ inner v σ,inner.length=depth k A->(pt Q).src k inner.reverse v σ->
   ptS (pt Q) (opsS τ ty C) (c.bk.map (·.1)) fn.ntmps v k (fixA (unL ((pt Q).pd k) ((pt Q).ls k v) ⟨[],σ⟩).1 ((pt Q).pd k) (unL ((pt Q).pd k) ((pt Q).ls k v) ⟨[],σ⟩).1) (unL ((pt Q).pd k) ((pt Q).ls k v) ⟨[],σ⟩).2 code A [] inner (retS τ c fn.results Q)) l:=by
  intro l
  induction l with
  | nil=>intro _; trivial
  | cons k l ih=>exact fun h=>⟨fun inner v σ hl hs=>by have:=h.1 inner hl v σ hs; rwa [qt] at this,ih h.2⟩
 exact key _ (obl Q)
end Go.Ex
namespace Go.Ex
open Go Go.Wc Go.Pu
variable {D:Tabs} {X:At} {h:Hp} {C:List At}
theorem mkN (I:Inv h C):Inv h (dsL D X [] () []::C):=Inv.factI rfl (Inv.dV I)
theorem mkC {d:Ds} {ds:List Ds} {x:d.den D} {xs:TupD D ds} {v:Value} {vs:List Value} (I:Inv h (dsA D X d x v::dsL D X ds xs vs::C)):Inv h (dsL D X (d::ds) (x,xs) (v::vs)::C):=
 Inv.exI v (Inv.exI vs (Inv.factI rfl (Inv.sepI I)))
theorem mkV (t:Ty) (x:D.d t) {v:Value} (vs:List Value) (hv:v=vOf (aggT t) vs) (hp: ∀ h M,(D.r t).P h M vs x) (I:Inv h C):Inv h (dsA D X (.val t) x v::C):=
 Inv.addP I fun M _=>⟨vs,hv,rfl,hp _ _⟩
theorem mkO (t:Ty) {a:Option Addr} {n c:Nat} {l:List (D.d t)} (I:Inv h (ownS (D.r t) a n c l::C)):Inv h (dsA D X (.own t) l (.slice a n c)::C):=by have e:=fF I;subst e;exact Inv.exI a (Inv.exI c (Inv.factI rfl I))
theorem mkR (t:Ty) {a:Option Addr} {c:Nat} {l:List (D.d t)} {Y:At} {As:List At} (hX:Rd (D.r t) Y a l.length c l) (hm:Y ∈ As) (I:Inv h C):Inv h (dsA D (bigA As) (.rd t) l (.slice a l.length c)::C):=
 Inv.exI a (Inv.exI c (Inv.factI ⟨rfl,MZ hX hm⟩ (Inv.dV I)))
theorem dsE {d:Ds} {ds:List Ds} {x:TupD D (d::ds)} {vs:List Value} (I:Inv h (dsL D X (d::ds) x vs::C)): ∃ v w,vs=v::w/\Inv h (dsA D X d x.1 v::dsL D X ds x.2 w::C):=by obtain ⟨v,I⟩:=Inv.exE I;obtain ⟨w,I⟩:=Inv.exE I;obtain ⟨e,I⟩:=Inv.factE I;exact ⟨v,w,e,I.sepE⟩
theorem dsN {x:TupD D []} {vs:List Value} (I:Inv h (dsL D X [] x vs::C)):vs=[]/\Inv h C:=by obtain ⟨e,I⟩:=Inv.factE I;exact ⟨e,I.dn⟩
theorem unV {t:Ty} {x:D.d t} {v:Value} (I:Inv h (dsA D X (.val t) x v::C)): ∃ vs,v=vOf (aggT t) vs/\Inv h (repA (D.r t) vs x::C):=by obtain ⟨vs,I⟩:=Inv.exE I;obtain ⟨e,I⟩:=Inv.factE I;exact ⟨vs,e,I⟩
theorem unP {t:Ty} {x:D.d t} {v:Value} (I:Inv h (dsA D X (.val t) x v::C)): ∃ vs,v=vOf (aggT t) vs/\(∃ h M,(D.r t).P h M vs x)/\Inv h C:=by obtain ⟨vs,e,I⟩:=unV I;obtain ⟨F,M,_,hP⟩:=Inv.get I;exact ⟨vs,e,⟨_,_,hP⟩,I.dn⟩
theorem W4 {t:Ty} {l:List (D.d t)} {v:Value} (I:Inv h (dsA D X (.val (.list t)) l v::C)): ∃ a c,v= .slice a l.length c/\Inv h (roS (D.r t) a l.length c l::C):=by obtain ⟨vs,e,I⟩:=unV I;obtain ⟨a,c,e2,I2⟩:=Inv.repS (E:=D.r t) I;subst e2;exact ⟨a,c,e,I2⟩
theorem unR {t:Ty} {l:List (D.d t)} {v:Value} (I:Inv h (dsA D X (.rd t) l v::C)): ∃ a c,v= .slice a l.length c/\Rd (D.r t) X a l.length c l/\Inv h C:=by obtain ⟨a,I⟩:=Inv.exE I;obtain ⟨c,I⟩:=Inv.exE I;obtain ⟨⟨e,hr⟩,I⟩:=Inv.factE I;exact ⟨a,c,e,hr,I.dn⟩
theorem Inv.bigT {F As:List At} (I:Inv h (F++As)):Inv h (F++[bigA As]):=by have I2:=Inv.prm List.perm_append_comm I;exact (Inv.bigI (As:=As) I2).rot
theorem Inv.bigU {F As:List At} (I:Inv h (F++[bigA As])):Inv h (F++As):=by have I2:=Inv.bigE (Inv.rot' I);exact Inv.prm List.perm_append_comm I2
theorem Fu {As:List At} (I:Inv h As):Inv h [bigA As]:=Inv.bigT (F:=[]) I
theorem RD {a:At} {As:List At} (I:Inv h (a::As)):Inv h [a,bigA As]:=Inv.bigT (F:=[a]) I
theorem Inv.addE {a b c:At} (I:Inv h [a,b,c]):Inv h [a,b,c,emp]:=Inv.prm (List.perm_append_comm (l₁:=[emp]) (l₂:=[a,b,c])) (Inv.dV I)
theorem lY (k:IntKind) (n:Nat) (l:List Int):lumpV k n (nrm n l)=lumpV k n l:=by rw [lumpV,lumpV,kH (mu _ _)]
theorem ja {P:Program} {f:Nat} {A B:Spec} (H:SpecOk P f A) (himp: ∀ args h K,B args h K->A args h K):SpecOk P f B:=⟨H.1,fun vs K w hb=>H.2 vs K w (himp _ _ _ hb)⟩
abbrev lf:Ann:= .leaf
abbrev sl (a:Ann):Ann:= .seq .leaf a
abbrev s2:Ann:= .seq .leaf .leaf
abbrev vi:Ds:= .val (.int .i64)
abbrev vu:Ds:= .val (.int .u32)
abbrev vb:Ds:= .val .bool
abbrev rb:Ds:= .rd (.int .u8)
abbrev ri:Ds:= .rd (.int .i64)
abbrev Pts.no:Pts D:=Pts.gZ (V:=Unit) (fun _=>[]) (fun _ c _=>c) (fun _ _=>()) (fun _ _ _=>rfl) (fun _ _ _ _=>False)
end Go.Ex
namespace Go.Ex
theorem kc {a b:Prop} (h:a) (e:a=b:=by kernel_rfl):b:=cast e h
theorem q0 {α:Type} {P:List α->Prop} (h:P []) (l:List α) (e:l.length=0):P l:=by obtain rfl:=List.length_eq_zero_iff.1 e; exact h
theorem q1 {α:Type} {P:List α->Prop} (h: ∀ a,P [a]) (l:List α) (e:l.length=1):P l:=by obtain ⟨a,rfl⟩:=List.length_eq_one_iff.1 e; exact h a
end Go.Ex
