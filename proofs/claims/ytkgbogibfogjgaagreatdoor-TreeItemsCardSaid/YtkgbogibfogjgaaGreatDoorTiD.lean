import Derived.Test.YtkgbogibfogjgaaGreatDoorTiB
set_option linter.unusedVariables false
set_option linter.unusedSimpArgs false
set_option maxHeartbeats 4000000
set_option maxRecDepth 100000
namespace Go.Ex
open Go Go.Wc Go.Pu
inductive Ty where
 | int (k:IntKind)
 | bool
 | str
 | ptr
 | vec (k:IntKind) (n:Nat)
 | st (i:Nat)
 | list (t:Ty)
 deriving DecidableEq
structure Tab where
 X:Nat->Type
 R: ∀ i,Rp (X i)
@[reducible] def Ty.den (D:Tab):Ty->Type
 | .int _=>Int
 | .bool=>Bool
 | .str=>ByteArray
 | .ptr=>Option Addr
 | .vec _ n=>Vector Int n
 | .st i=>D.X i
 | .list t=>List (t.den D)
@[reducible] def Tup (D:Tab):List Ty->Type
 | []=>Unit
 | t::ts=>t.den D × Tup D ts
@[reducible] def Ty.R (D:Tab):(t:Ty)->Rp (t.den D)
 | .int k=>rI k
 | .bool=>rB
 | .str=>rT
 | .ptr=>rP
 | .vec k n=>rV k n
 | .st i=>D.R i
 | .list t=>rS (t.R D)
def tupN (D:Tab):List Ty->Nat
 | []=>0
 | t::ts=>(t.R D).n+tupN D ts
def TupP (D:Tab) (h:Hp) (M:List Nat):(ts:List Ty)->List Value->Tup D ts->Prop
 | [],vs,_=>vs=[]
 | t::ts,vs,x=> ∃ u w,vs=u++w/\(t.R D).P h M u x.1/\TupP D h M ts w x.2
theorem TupP.len {D:Tab} {h:Hp} {M:List Nat}: ∀ {ts:List Ty} {vs:List Value} {x:Tup D ts},TupP D h M ts vs x->vs.length=tupN D ts
 | [],vs,_,H=>by have H:vs=[]:=H; subst H; rfl
 | t::ts,vs,x,⟨u,w,e,h1,h2⟩=>by subst e; rw [List.length_append,(t.R D).len h1,TupP.len h2]; rfl
theorem TupP.mono {D:Tab} {h h':Hp} {M M':List Nat} (hL:Le h M h' M'): ∀ {ts:List Ty} {vs:List Value} {x:Tup D ts},TupP D h M ts vs x->TupP D h' M' ts vs x
 | [],_,_,H=>H
 | t::ts,_,_,⟨u,w,e,h1,h2⟩=>⟨u,w,e,(t.R D).mono hL h1,TupP.mono hL h2⟩
theorem TupP.one {D:Tab} {h:Hp} {M:List Nat}: ∀ {ts:List Ty} {vs:List Value} {x:Tup D ts},TupP D h M ts vs x-> ∀ v ∈ vs,v.oneCell'=true
 | [],vs,_,H,v,hv=>by have H:vs=[]:=H; subst H; cases hv
 | t::ts,vs,x,⟨u,w,e,h1,h2⟩,v,hv=>by subst e;exact (List.mem_append.1 hv).elim ((t.R D).one h1 v) (TupP.one h2 v)
def RpT (D:Tab) {X:Type} (ts:List Ty) (g:X->Tup D ts):Rp X:=
 ⟨tupN D ts,fun h M vs x=>TupP D h M ts vs (g x),TupP.len,TupP.one,fun hL=>TupP.mono hL⟩
def Ty.isSt:Ty->Bool
 | .st _=>true
 | _=>false
structure Tabs extends Tab where
 leaves:Nat->List Ty
 flat: ∀ i,(leaves i).all (fun t=> !t.isSt)=true
 get: ∀ i,X i->Tup toTab (leaves i)
 put: ∀ i,Tup toTab (leaves i)->X i
 BT: ∀ i x,get i (put i x)=x
 rep: ∀ i h M vs x,(R i).P h M vs x↔TupP toTab h M (leaves i) vs (get i x)
 O:Type
 ob:O->Addr->At
abbrev Tabs.d (D:Tabs) (t:Ty):Type:=t.den D.toTab
abbrev Tabs.r (D:Tabs) (t:Ty):Rp (D.d t):=t.R D.toTab
inductive SV (D:Tabs) where
 | undef
 | opq
 | int (k:IntKind) (n:Int)
 | bool (b:Bool)
 | str (s:ByteArray)
 | vec (k:IntKind) (n:Nat) (v:Vector Int n)
 | nilS
 | nilP
 | nilM
 | nilF
 | sl (nm:Nat)
 | sw (nm:Nat) (lo hi:Int)
 | sf (nm:Nat) (lo hi:Int)
 | ad (nm off:Nat)
 | vs (nm off:Nat) (k:IntKind) (n:Nat) (lo hi:Int)
 | el (nm ver:Nat) (i:Int) (off:Nat) (t:Ty) (x:D.d t)
 | ve (nm ver off:Nat) (k:IntKind) (n:Nat) (i x:Int)
 | ob (p:Option Addr)
 | oa (nm off:Nat)
 | map (nm:Nat)
 | fn (f:Nat) (cs:List Nat)
 | agg (l:List (SV D))
 | tup (l:List (SV D))
inductive SO (D:Tabs) where
 | own (t:Ty) (l:List (D.d t))
 | ro (t:Ty) (l:List (D.d t))
 | rd (t:Ty) (l:List (D.d t))
 | blk (T:Nat) (ss:List (SV D))
 | map (k:IntKind) (t:Ty) (agg:Bool) (L:Option (List (Int × D.d t)))
 | adr (p:Addr)
 | away (t:Ty)
 | gone
structure SH (D:Tabs) where
 at_:List (SO D × Nat)
 sg:Option (St D.O)
structure Nm where
 a:Option Addr
 n:Nat
 c:Nat
 sz:Nat
 m:Option Nat
abbrev Gm:=Option (Array MapEntry × Nat)
def Nm.p (x:Nm):Addr:=x.a.getD ⟨0,0,none⟩
variable {D:Tabs}
abbrev Nu:=List Nm
def iH (ν:Nu):SV D->Value->Prop
 | .undef,v=>v=Go.undef
 | .opq,_=>True
 | .int k n,v=>v= .int k n
 | .bool b,v=>v= .bool b
 | .str s,v=>v= .string s
 | .nilS,v=>v= .slice none 0 0
 | .nilP,v=>v= .pointer none
 | .nilM,v=>v= .map none
 | .nilF,v=>v= .nilFunc
 | .sl nm,v=> ∃ x,ν[nm]? =some x/\v= .slice x.a x.n x.c
 | .sw nm lo hi,v=> ∃ x,ν[nm]? =some x/\(0<=lo/\lo<=hi/\hi<=x.n)/\v= .slice (resl x.a x.c x.sz lo) (hi.toNat - lo.toNat) (x.c - lo.toNat)
 | .sf nm lo hi,v=> ∃ x,ν[nm]? =some x/\(0<=lo/\lo<=hi/\hi<=x.n)/\v= .slice (resl x.a hi.toNat x.sz lo) (hi.toNat - lo.toNat) (hi.toNat - lo.toNat)
 | .ad nm off,v=> ∃ x,ν[nm]? =some x/\v= .pointer (some (x.p.add off))
 | .vs nm off k n lo hi,v=> ∃ x,ν[nm]? =some x/\(0<=lo/\lo<=hi/\hi<=n)/\v= .slice (resl (some (x.p.add off)) n 1 lo) (hi.toNat - lo.toNat) (n - lo.toNat)
 | .el nm _ i off t _,v=> ∃ x q,ν[nm]? =some x/\EAdr x.a (D.r t).n i q/\v= .pointer (some (q.add off))
 | .ve nm _ off _ _ i _,v=> ∃ x q,ν[nm]? =some x/\VAdr x.p off i q/\v= .pointer (some q)
 | .ob p,v=>v= .pointer p
 | .oa nm off,v=> ∃ x,ν[nm]? =some x/\v= .pointer (some (x.p.add off))
 | .map nm,v=> ∃ x,ν[nm]? =some x/\v= .map x.m
 | .fn f cs,v=> ∃ xs:List Nm,cs.map (fun nm=>ν[nm]?)=xs.map some/\v= .func (.func f) #[] (xs.map fun x=>Value.pointer (some x.p)).toArray
 | _,_=>False
def CR (ν:Nu):SV D->List Value->Prop
 | .vec k n v,vs=>vs=lumpV k n v.toList
 | .undef,_=>False
 | .opq,_=>False
 | s,vs=> ∃ v,iH ν s v/\vs=[v]
def CRL (ν:Nu):List (SV D)->List Value->Prop
 | [],vs=>vs=[]
 | s::l,vs=> ∃ u w,vs=u++w/\CR ν s u/\CRL ν l w
def BU (ν:Nu):SV D->Value->Prop
 | .agg l,v=> ∃ vs,CRL ν l vs/\v= .agg vs.toArray
 | .vec k n x,v=>v= .agg (lumpV k n x.toList).toArray
 | s,v=>iH ν s v
def VL (ν:Nu):List (SV D)->List Value->Prop
 | [],vs=>vs=[]
 | s::l,vs=> ∃ u w,vs=u::w/\BU ν s u/\VL ν l w
def VR (ν:Nu):SV D->Value->Prop
 | .tup l,v=> ∃ vs,VL ν l vs/\v= .tuple vs.toArray
 | s,v=>BU ν s v
abbrev NLe (ν ν':Nu):Prop:= ∀ (i:Nat) x,ν[i]? =some x->ν'[i]? =some x
theorem NLe.refl (ν:Nu):NLe ν ν:=fun _ _ h=>h
theorem NLe.trans {a b c:Nu} (h1:NLe a b) (h2:NLe b c):NLe a c:=fun i x h=>h2 i x (h1 i x h)
theorem NLe.app (ν:Nu) (l:List Nm):NLe ν (ν++l):=fun i x h=>by have:=(List.getElem?_eq_some_iff.1 h).1;rw [List.getElem?_append_left this]; exact h
theorem iH.mono {ν ν':Nu} (hL:NLe ν ν'): ∀ {s:SV D} {v:Value},iH ν s v->iH ν' s v:=by
 intro s v h
 cases s <;> simp only [iH] at h |- <;> first
  | exact h
  | (obtain ⟨x,h1,h2⟩:=h; exact ⟨x,hL _ _ h1,h2⟩)
  | (obtain ⟨x,q,h1,h2⟩:=h; exact ⟨x,q,hL _ _ h1,h2⟩)
  | skip
 obtain ⟨xs,h1,h2⟩:=h;refine ⟨xs, ?_,h2⟩;rename_i f cs;clear h2
 induction cs generalizing xs with
 | nil=>exact h1
 | cons c cs ih=>
  cases xs with
  | nil=>simp at h1
  | cons x xs=>
   simp only [List.map_cons,List.cons.injEq] at h1 |-
   exact ⟨hL _ _ h1.1,ih _ h1.2⟩
theorem CR.mono {ν ν':Nu} (hL:NLe ν ν'): ∀ {s:SV D} {vs:List Value},CR ν s vs->CR ν' s vs:=by
 intro s vs h
 cases s <;> simp only [CR] at h |- <;> first
  | exact h
  | (obtain ⟨v,h1,h2⟩:=h; exact ⟨v,h1.mono hL,h2⟩)
theorem CRL.mono {ν ν':Nu} (hL:NLe ν ν'): ∀ {l:List (SV D)} {vs:List Value},CRL ν l vs->CRL ν' l vs
 | [],_,h=>h
 | _::_,_,⟨u,w,e,h1,h2⟩=>⟨u,w,e,h1.mono hL,CRL.mono hL h2⟩
theorem BU.mono {ν ν':Nu} (hL:NLe ν ν'): ∀ {s:SV D} {v:Value},BU ν s v->BU ν' s v:=by
 intro s v h
 cases s <;> simp only [BU] at h |- <;> first
  | exact iH.mono hL h
  | exact h
  | (obtain ⟨x,h1,h2⟩:=h; exact ⟨x,h1.mono hL,h2⟩)
theorem VL.mono {ν ν':Nu} (hL:NLe ν ν'): ∀ {l:List (SV D)} {vs:List Value},VL ν l vs->VL ν' l vs
 | [],_,h=>h
 | _::_,_,⟨u,w,e,h1,h2⟩=>⟨u,w,e,h1.mono hL,VL.mono hL h2⟩
theorem VR.mono {ν ν':Nu} (hL:NLe ν ν'): ∀ {s:SV D} {v:Value},VR ν s v->VR ν' s v:=by
 intro s v h
 cases s <;> simp only [VR] at h |- <;> first
  | exact BU.mono hL h
  | (obtain ⟨x,h1,h2⟩:=h; exact ⟨x,h1.mono hL,h2⟩)
theorem CRL.append {ν:Nu}: ∀ {l m:List (SV D)} {vs ws:List Value},CRL ν l vs->CRL ν m ws->CRL ν (l++m) (vs++ws)
 | [],_,_,_,h,h'=>by have h:_=[]:=h; subst h; exact h'
 | s::l,m,vs,ws,⟨u,w,e,h1,h2⟩,h'=>⟨u,w++ws,by rw [e,List.append_assoc],h1,CRL.append h2 h'⟩
theorem CRL.split {ν:Nu}: ∀ {l m:List (SV D)} {vs:List Value},CRL ν (l++m) vs-> ∃ u w,vs=u++w/\CRL ν l u/\CRL ν m w
 | [],m,vs,h=>⟨[],vs,rfl,rfl,h⟩
 | s::l,m,vs,⟨u,w,e,h1,h2⟩=>by obtain ⟨u',w',e',h3,h4⟩:=CRL.split h2;exact ⟨u++u',w',by rw [e,e',List.append_assoc],⟨u,u',rfl,h1,h3⟩,h4⟩
def SV.size:SV D->Nat
 | .vec _ n _=>n
 | _=>1
def sizeL:List (SV D)->Nat
 | []=>0
 | s::l=>s.size+sizeL l
theorem CR.len {ν:Nu} {s:SV D} {vs:List Value} (h:CR ν s vs):vs.length=s.size:=by
 cases s <;> simp only [CR] at h <;> first
  | (subst h; exact cm _ _ _)
  | exact h.elim
  | (obtain ⟨v,_,rfl⟩:=h; rfl)
theorem CRL.len {ν:Nu}: ∀ {l:List (SV D)} {vs:List Value},CRL ν l vs->vs.length=sizeL l
 | [],vs,h=>by have h:vs=[]:=h; subst h; rfl
 | s::l,vs,⟨u,w,e,h1,h2⟩=>by rw [e,List.length_append,h1.len,CRL.len h2]; rfl
theorem iH.one {ν:Nu} {s:SV D} {v:Value} (h:iH ν s v) (hu:s ≠ .undef) (hq:s ≠ .opq):v.oneCell'=true:=by
 cases s <;> simp only [iH] at h <;> first
  | exact absurd rfl hu
  | exact absurd rfl hq
  | exact h.elim
  | (subst h; rfl)
  | (obtain ⟨_,_,rfl⟩:=h; rfl)
  | (obtain ⟨_,_,_,rfl⟩:=h; rfl)
  | (obtain ⟨_,_,_,_,rfl⟩:=h; rfl)
theorem CR.one {ν:Nu} {s:SV D} {vs:List Value} (h:CR ν s vs): ∀ v ∈ vs,v.oneCell'=true:=by
 cases s <;> simp only [CR] at h <;> first
  | exact h.elim
  | (subst h; exact dz (dN _ _ _))
  | (obtain ⟨v,h1,rfl⟩:=h; intro u hu; simp only [List.mem_singleton] at hu; subst hu; exact h1.one (by simp) (by simp))
theorem CRL.one {ν:Nu}: ∀ {l:List (SV D)} {vs:List Value},CRL ν l vs-> ∀ v ∈ vs,v.oneCell'=true
 | [],vs,h,v,hv=>by have h:vs=[]:=h; subst h; cases hv
 | s::l,vs,⟨u,w,e,h1,h2⟩,v,hv=>by subst e;exact (List.mem_append.1 hv).elim (h1.one v) (CRL.one h2 v)
def SG (ν:Nu):SV D->Seg->Prop
 | .vec k n v,g=>g= .vec k n v
 | .undef,_=>False
 | .opq,_=>False
 | s,g=> ∃ v,iH ν s v/\g= .one v
def SGL (ν:Nu):List (SV D)->List Seg->Prop
 | [],gs=>gs=[]
 | s::l,gs=> ∃ g r,gs=g::r/\SG ν s g/\SGL ν l r
theorem SG.mono {ν ν':Nu} (hL:NLe ν ν'): ∀ {s:SV D} {g:Seg},SG ν s g->SG ν' s g:=by
 intro s vs h
 cases s <;> simp only [SG] at h |- <;> first
  | exact h
  | (obtain ⟨v,h1,h2⟩:=h; exact ⟨v,h1.mono hL,h2⟩)
theorem SGL.mono {ν ν':Nu} (hL:NLe ν ν'): ∀ {l:List (SV D)} {gs:List Seg},SGL ν l gs->SGL ν' l gs
 | [],_,h=>h
 | _::_,_,⟨u,w,e,h1,h2⟩=>⟨u,w,e,h1.mono hL,SGL.mono hL h2⟩
theorem SG.cells {ν:Nu} {s:SV D} {g:Seg} (h:SG ν s g):CR ν s g.cells:=by
 cases s <;> simp only [SG,CR] at h |- <;> first
  | exact h
  | (subst h; rfl)
  | (obtain ⟨v,h1,rfl⟩:=h; exact ⟨v,h1,rfl⟩)
theorem SGL.cells {ν:Nu}: ∀ {l:List (SV D)} {gs:List Seg},SGL ν l gs->CRL ν l (segs gs)
 | [],gs,h=>by have h:gs=[]:=h; subst h; rfl
 | _::_,_,⟨u,w,e,h1,h2⟩=>⟨u.cells,segs w,by rw [e]; rfl,h1.cells,SGL.cells h2⟩
theorem CR.seg {ν:Nu} {s:SV D} {vs:List Value} (h:CR ν s vs): ∃ g,SG ν s g/\vs=g.cells:=by
 cases s <;> simp only [CR,SG] at h |- <;> first
  | exact h.elim
  | (subst h; exact ⟨_,rfl,rfl⟩)
  | (obtain ⟨v,h1,rfl⟩:=h; exact ⟨.one v,⟨v,h1,rfl⟩,rfl⟩)
theorem CRL.segs {ν:Nu}: ∀ {l:List (SV D)} {vs:List Value},CRL ν l vs-> ∃ gs,SGL ν l gs/\vs=Pu.segs gs
 | [],vs,h=>by have h:vs=[]:=h; subst h; exact ⟨[],rfl,rfl⟩
 | _::_,_,⟨u,w,e,h1,h2⟩=>by obtain ⟨g,k1,k2⟩:=h1.seg;obtain ⟨gs,k3,k4⟩:=CRL.segs h2;exact ⟨g::gs,⟨g,gs,rfl,k1,k3⟩,by rw [e,k2,k4]; rfl⟩
def SO.sem (D:Tabs) (X:At) (ν:Nu) (x:Nm) (g:Gm):SO D->At
 | .own t l=>factA (x.sz=(D.r t).n) (ownS (D.r t) x.a x.n x.c l)
 | .ro t l=>factA (x.sz=(D.r t).n) (roS (D.r t) x.a x.n x.c l)
 | .rd t l=>factA (x.sz=(D.r t).n/\Rd (D.r t) X x.a x.n x.c l) emp
 | .blk T ss=>exA fun gs=>factA (SGL ν ss gs) (Pu.blk x.p T gs)
 | .map k t ag L=>mapX (kI k) (D.r t) ag x.m g L
 | .adr p=>factA (x.a=some p) emp
 | .away t=>factA (x.sz=(D.r t).n) emp
 | .gone=>emp
def semL (D:Tabs) (X:At) (ν:Nu):List (SO D × Nat)->List Nm->List Gm->List At
 | (o,_)::r,x::xs,g::gs=>o.sem D X ν x g::semL D X ν r xs gs
 | _,_,_=>[]
end Go.Ex
namespace Go.Ex
open Go Go.Wc Go.Pu
variable {D:Tabs} {X:At} {ν ν':Nu} {h h':Hp} {A B:List At}
def ImpL:List At->List At->Prop
 | [],[]=>True
 | a::A,b::B=>(∀ h F M,a.P h F M->b.P h F M)/\ImpL A B
 | _,_=>False
theorem ImpL.refl: ∀ A:List At,ImpL A A
 | []=>trivial
 | _::A=>⟨fun _ _ _ h=>h,ImpL.refl A⟩
theorem ImpL.append: ∀ {A A' B B':List At},ImpL A A'->ImpL B B'->ImpL (A++B) (A'++B')
 | [],[],_,_,_,h=>h
 | _::_,_::_,_,_,⟨h1,h2⟩,h=>⟨h1,ImpL.append h2 h⟩
theorem Fits.imp {M:List Nat}: ∀ {A B:List At} {Fs:List (List Nat)},ImpL A B->Fits h M A Fs->Fits h M B Fs
 | [],[],[],_,_=>trivial
 | _::_,_::_,_::_,⟨h1,h2⟩,⟨h3,h4⟩=>⟨h1 _ _ _ h3,Fits.imp h2 h4⟩
 | [],[],_::_,_,h=>h.elim
 | _::_,_::_,[],_,h=>h.elim
theorem Inv.imp (H:ImpL A B) (I:Inv h A):Inv h B:=by obtain ⟨Fs,h1,h2⟩:=I;exact ⟨Fs,Fits.imp H h1,h2⟩
theorem rU {M:List Nat} {a:At}: ∀ {As:List At} {Fs:List (List Nat)},a ∈ As->Fits h M As Fs-> ∃ F',a.P h F' M
 | _::_,F::Fs,ha,H=>by
  rcases List.mem_cons.1 ha with rfl | ha
  ·exact ⟨_,H.1⟩
  ·exact rU ha H.2
 | _::_,[],_,H=>H.elim
theorem gP {As:List At} {a:At} {F M:List Nat} (ha:a ∈ As) (H:(bigA As).P h F M): ∃ F',a.P h F' M:=by obtain ⟨Fs,_,H⟩:=H;exact rU ha H
theorem MZ {Y:Type} {E:Rp Y} {a':At} {p:Option Addr} {n c:Nat} {l:List Y} {As:List At} (H:Rd E a' p n c l) (ha:a' ∈ As):Rd E (bigA As) p n c l:=fun hP=>by obtain ⟨F',h1⟩:=gP ha hP;exact H h1
theorem SO.imp (hL:NLe ν ν') (x:Nm) (g:Gm) (o:SO D): ∀ h F M,(o.sem D X ν x g).P h F M->(o.sem D X ν' x g).P h F M:=by
 intro h F M H
 cases o with
 | blk T ss=>obtain ⟨gs,h1,h3⟩:=H; exact ⟨gs,h1.mono hL,h3⟩
 | _=>exact H
theorem ya (hL:NLe ν ν'): ∀ (l:List (SO D × Nat)) (xs:List Nm) (gs:List Gm),ImpL (semL D X ν l xs gs) (semL D X ν' l xs gs)
 | (o,_)::r,x::xs,g::gs=>⟨SO.imp hL x g o,ya hL r xs gs⟩
 | [],_,_=>trivial
 | _::_,[],_=>trivial
 | _::_,_::_,[]=>trivial
theorem iI: ∀ {l m:List (SO D × Nat)} {xs ys:List Nm} {gs ks:List Gm},l.length=xs.length->l.length=gs.length->semL D X ν (l++m) (xs++ys) (gs++ks)=semL D X ν l xs gs++semL D X ν m ys ks
 | [],m,[],ys,[],ks,_,_=>rfl
 | (o,v)::l,m,x::xs,ys,g::gs,ks,h1,h2=>by
  simp only [List.cons_append,semL]
  rw [iI (by simpa using h1) (by simpa using h2)]
 | [],_,_::_,_,_,_,h,_=>by simp at h
 | [],_,[],_,_::_,_,_,h=>by simp at h
 | _::_,_,[],_,_,_,h,_=>by simp at h
 | _::_,_,_::_,_,[],_,_,h=>by simp at h
def sgA (D:Tabs):Option (St D.O)->At
 | none=>emp
 | some σ=>hpA D.ob σ
abbrev SH.get (H:SH D) (i:Nat):Option (SO D):=(H.at_[i]?).map (·.1)
abbrev SH.ver (H:SH D) (i:Nat):Nat:=((H.at_[i]?).map (·.2)).getD 0
abbrev SH.new (H:SH D) (o:SO D):SH D:=match H with
 | ⟨l,σ⟩=>⟨l++[(o,0)],σ⟩
abbrev SH.nx (H:SH D):Nat:=H.at_.length
abbrev SH.set (H:SH D) (i:Nat) (o:SO D):SH D:=match H with
 | ⟨l,σ⟩=>⟨l.set i (o,SH.ver ⟨l,σ⟩ i+1),σ⟩
structure HR (X:At) (ν:Nu) (ω:List Gm) (H:SH D) (h:Hp) (A:List At):Prop where
 l1:H.at_.length=ν.length
 l2:H.at_.length=ω.length
 inv:Inv h ((X::sgA D H.sg::semL D X ν H.at_ ν ω)++A)
variable {ω:List Gm} {H H':SH D}
def SLe (H:SH D) (ν:Nu) (ω:List Gm) (H':SH D) (ν':Nu) (ω':List Gm):Prop:=
 NLe ν ν'/\ ∀ (i:Nat) o v,H.at_[i]? =some (o,v)-> ∃ o' v',H'.at_[i]? =some (o',v')/\v<=v'/\(v'=v->o'=o/\ω'[i]? =ω[i]?)
theorem SLe.refl (H:SH D) (ν:Nu) (ω:List Gm):SLe H ν ω H ν ω:=⟨NLe.refl ν,fun i o v hi=>⟨o,v,hi,Nat.le_refl _,fun _=>⟨rfl,rfl⟩⟩⟩
theorem SLe.trans {H1 H2 H3:SH D} {ν1 ν2 ν3:Nu} {ω1 ω2 ω3:List Gm} (a:SLe H1 ν1 ω1 H2 ν2 ω2) (b:SLe H2 ν2 ω2 H3 ν3 ω3):SLe H1 ν1 ω1 H3 ν3 ω3:=by
 refine ⟨a.1.trans b.1,fun i o v hi=> ?_⟩;obtain ⟨o',v',h1,h2,h3⟩:=a.2 i o v hi;obtain ⟨o'',v'',k1,k2,k3⟩:=b.2 i o' v' h1;refine ⟨o'',v'',k1,Nat.le_trans h2 k2,fun e=> ?_⟩;have e1:v'=v:=by omega
 subst e1;obtain ⟨q1,q2⟩:=h3 rfl;obtain ⟨q3,q4⟩:=k3 (by omega);exact ⟨by rw [q3,q1],by rw [q4,q2]⟩
theorem get_at {i:Nat} {o:SO D} (h:H.get i=some o):H.at_[i]? =some (o,H.ver i):=by
 unfold SH.get at h; unfold SH.ver
 cases hq:H.at_[i]? with
 | none=>rw [hq] at h; cases h
 | some p=>rw [hq] at h; simp at h; subst h; simp
theorem gQ {α:Type} {l:List α} {i:Nat} {x:α} (h:l[i]? =some x):l=l.take i++x::l.drop (i+1):=by obtain ⟨h1,h2⟩:=List.getElem?_eq_some_iff.1 h;subst h2;rw [<- List.drop_eq_getElem_cons h1,List.take_append_drop]
theorem gB {α:Type} {l:List α} {i:Nat} {x:α} (h:i<l.length):l.set i x=l.take i++x::l.drop (i+1):=by rw [List.set_eq_take_append_cons_drop,if_pos h]
theorem vK {i:Nat} {o:SO D} (hi:i<H.at_.length) (ω':List Gm) (hω: ∀ j,j ≠ i->ω'[j]? =ω[j]?) (sg:Option (St D.O)):SLe H ν ω ⟨(H.set i o).at_,sg⟩ ν ω':=by
 refine ⟨NLe.refl ν,fun j p v hj=> ?_⟩
 by_cases e:i=j
 ·subst e
  refine ⟨o,v+1, ?_,by omega,fun e=>by omega⟩;simp only [SH.set,List.getElem?_set_self hi];simp [SH.ver,hj]
 ·refine ⟨p,v, ?_,Nat.le_refl _,fun _=>⟨rfl,hω j fun e'=>e e'.symm⟩⟩
  simp only [SH.set]; rw [List.getElem?_set_ne e]; exact hj
theorem dL {o:SO D} (h1:H.at_.length=ω.length) (x:Nm) (g:Gm):SLe H ν ω (H.new o) (ν++[x]) (ω++[g]):=by
 refine ⟨NLe.app _ _,fun j p v hj=>⟨p,v, ?_,Nat.le_refl _,fun _=>⟨rfl, ?_⟩⟩⟩
 ·have:=(List.getElem?_eq_some_iff.1 hj).1
  simp only [SH.new]; rw [List.getElem?_append_left this]; exact hj
 ·have:=(List.getElem?_eq_some_iff.1 hj).1
  rw [List.getElem?_append_left (by omega)]
theorem HR.at (R:HR X ν ω H h A) {i:Nat} {o:SO D} (hi:H.get i=some o): ∃ x g L,ν[i]? =some x/\ω[i]? =some g/\Inv h [o.sem D X ν x g,bigA L]/\X ∈ L/\
  (∀ j o' y k,j ≠ i->H.get j=some o'->ν[j]? =some y->ω[j]? =some k->o'.sem D X ν y k ∈ L)/\
  (∀ h' o' g',Inv h' [o'.sem D X ν x g',bigA L]->HR X ν (ω.set i g') (H.set i o') h' A/\SLe H ν ω (H.set i o') ν (ω.set i g')):=by
 have ha:=get_at hi;have hil:=(List.getElem?_eq_some_iff.1 ha).1
 obtain ⟨x,hx⟩: ∃ x,ν[i]? =some x:=⟨_,List.getElem?_eq_getElem (by rw [<- R.l1]; exact hil)⟩
 obtain ⟨g,hg⟩: ∃ g,ω[i]? =some g:=⟨_,List.getElem?_eq_getElem (by rw [<- R.l2]; exact hil)⟩
 have t1:(H.at_.take i).length=(ν.take i).length:=by rw [List.length_take,List.length_take,R.l1]
 have t2:(H.at_.take i).length=(ω.take i).length:=by rw [List.length_take,List.length_take,R.l2]
 have key: ∀ (o':SO D) (v':Nat) (g':Gm),semL D X ν (H.at_.take i++(o',v')::H.at_.drop (i+1)) ν (ω.take i++g'::ω.drop (i+1))=
   semL D X ν (H.at_.take i) (ν.take i) (ω.take i)++o'.sem D X ν x g'::semL D X ν (H.at_.drop (i+1)) (ν.drop (i+1)) (ω.drop (i+1)):=by
  intro o' v' g';have:=iI (D:=D) (X:=X) (ν:=ν) (m:=(o',v')::H.at_.drop (i+1)) (ys:=x::ν.drop (i+1)) (ks:=g'::ω.drop (i+1)) t1 t2;rw [<- gQ hx] at this;rw [this]; rfl
 have e0:=key o (H.ver i) g;rw [<- gQ ha,<- gQ hg] at e0
 let L:=(X::sgA D H.sg::semL D X ν (H.at_.take i) (ν.take i) (ω.take i))++(semL D X ν (H.at_.drop (i+1)) (ν.drop (i+1)) (ω.drop (i+1))++A)
 refine ⟨x,g,L,hx,hg, ?_,by simp [L], ?_, ?_⟩
 ·have I:=R.inv
  rw [e0] at I
  have I2:Inv h ((X::sgA D H.sg::semL D X ν (H.at_.take i) (ν.take i) (ω.take i))++o.sem D X ν x g::(semL D X ν (H.at_.drop (i+1)) (ν.drop (i+1)) (ω.drop (i+1))++A)):=by simpa only [List.append_assoc,List.cons_append] using I
  have I3:=I2.mid;refine Inv.under (B:=[bigA L]) I3 fun J=> ?_;have J2:Inv h (L++[o.sem D X ν x g]):=J;exact J2.bigI
 ·intro j o' y k hj ho hy hk
  have aux: ∀ (l:List (SO D × Nat)) (xs:List Nm) (gs:List Gm) (j:Nat) (v:Nat),l[j]? =some (o',v)->xs[j]? =some y->gs[j]? =some k->o'.sem D X ν y k ∈ semL D X ν l xs gs:=by
   intro l
   induction l with
   | nil=>intro _ _ j _ h1; simp at h1
   | cons p l ih=>
    intro xs gs j v h1 h2 h3
    cases xs with
    | nil=>simp at h2
    | cons x xs=>cases gs with
     | nil=>simp at h3
     | cons g gs=>
      obtain ⟨o1,v1⟩:=p
      cases j with
      | zero=>simp at h1 h2 h3; obtain ⟨rfl,rfl⟩:=h1; subst h2 h3; exact List.mem_cons_self
      | succ j=>exact List.mem_cons_of_mem _ (ih xs gs j v (by simpa using h1) (by simpa using h2) (by simpa using h3))
  have hj':=get_at ho;rcases Nat.lt_or_ge j i with hlt | hge
  ·have q1:(H.at_.take i)[j]? =some (o',H.ver j):=by rw [List.getElem?_take_of_lt hlt]; exact hj'
   have q2:(ν.take i)[j]? =some y:=by rw [List.getElem?_take_of_lt hlt]; exact hy
   have q3:(ω.take i)[j]? =some k:=by rw [List.getElem?_take_of_lt hlt]; exact hk
   have:=aux _ _ _ j _ q1 q2 q3;simp only [L,List.mem_append,List.mem_cons]; exact .inl (.inr (.inr this))
  ·obtain ⟨d,rfl⟩: ∃ d,j=i+1+d:=⟨j - (i+1),by omega⟩
   have q1:(H.at_.drop (i+1))[d]? =some (o',H.ver (i+1+d)):=by rw [List.getElem?_drop]; exact hj'
   have q2:(ν.drop (i+1))[d]? =some y:=by rw [List.getElem?_drop]; exact hy
   have q3:(ω.drop (i+1))[d]? =some k:=by rw [List.getElem?_drop]; exact hk
   have:=aux _ _ _ d _ q1 q2 q3;simp only [L,List.mem_append,List.mem_cons]; exact .inr (.inl this)
 ·intro h' o' g' I
  refine ⟨⟨by simp [SH.set,R.l1],by simp [SH.set,R.l2], ?_⟩, ?_⟩
  ·have e1:=key o' (H.ver i+1) g'
   rw [<- gB hil,<- gB (by rw [<- R.l2]; exact hil)] at e1;show Inv h' ((X::sgA D H.sg::semL D X ν (H.at_.set i (o',H.ver i+1)) ν (ω.set i g'))++A);rw [e1]
   have I2:Inv h' (o'.sem D X ν x g'::L):=by have:=I.rot;exact (Inv.bigE (A:=[o'.sem D X ν x g']) this).rot'
   have I3:=Inv.mid' (X:=X::sgA D H.sg::semL D X ν (H.at_.take i) (ν.take i) (ω.take i)) I2;simpa only [List.append_assoc,List.cons_append] using I3
  ·exact vK hil _ (fun j hj=>List.getElem?_set_ne (fun e=>hj e.symm)) H.sg
theorem HR.push {a:At} (R:HR X ν ω H h (a::A)) (o:SO D) (x:Nm) (g:Gm) (ha: ∀ h F M,a.P h F M->(o.sem D X (ν++[x]) x g).P h F M):HR X (ν++[x]) (ω++[g]) (H.new o) h A:=by refine ⟨by simp [SH.new,R.l1],by simp [SH.new,R.l2], ?_⟩;simp only [SH.new];rw [iI R.l1 R.l2];have:=R.inv;refine Inv.imp ?_ (B:=(X::sgA D H.sg::(semL D X (ν++[x]) H.at_ ν ω++semL D X (ν++[x]) [(o,0)] [x] [g]))++A) (A:=((X::sgA D H.sg::semL D X ν H.at_ ν ω)++[a])++A) (by simpa using this);refine ImpL.append ?_ (ImpL.refl A);refine ⟨fun _ _ _ h=>h,fun _ _ _ h=>h, ?_⟩;exact ImpL.append (ya (NLe.app _ _) _ _ _) ⟨ha,trivial⟩
theorem HR.front (R:HR X ν ω H h A):Inv h (A++[bigA (X::sgA D H.sg::semL D X ν H.at_ ν ω)]):=by have:=R.inv;exact (Inv.bigI (As:=X::sgA D H.sg::semL D X ν H.at_ ν ω) (A:=A) this).rot
theorem HR.back (R:HR X ν ω H h A) (I:Inv h' (B++[bigA (X::sgA D H.sg::semL D X ν H.at_ ν ω)])):HR X ν ω H h' B:=
 ⟨R.l1,R.l2,(Inv.rot' I).bigE⟩
end Go.Ex
namespace Go.Ex
open Go Go.Wc Go.Pu
variable {D:Tabs} {X:At} {ν ν':Nu} {h h':Hp} {A B:List At} {ω:List Gm} {H H':SH D}
def posP:List (SV D)->Nat->Option Nat
 | _,0=>some 0
 | [],_+1=>none
 | s::l,n+1=>bif Nat.ble s.size (n+1) then (match posP l (n+1 - s.size) with
  | some i=>some (i+1)
  | none=>none) else none
def getP (l:List (SV D)) (off size:Nat):Option (List (SV D)):=
 match posP l off with
 | some i=>match posP (l.drop i) size with
  | some m=>some ((l.drop i).take m)
  | none=>none
 | none=>none
def setP (l:List (SV D)) (off:Nat) (new:List (SV D)):Option (List (SV D)):=
 match posP l off with
 | some i=>match posP (l.drop i) (sizeL new) with
  | some m=>some (l.take i++(new++(l.drop i).drop m))
  | none=>none
 | none=>none
theorem kf: ∀ {l:List (SV D)} {n i:Nat},posP l n=some i->sizeL (l.take i)=n/\i<=l.length
 | l,0,i,h=>by
  have:i=0:=by cases l <;> simp [posP] at h <;> exact h.symm
  subst this; simp [sizeL]
 | [],n+1,i,h=>by simp [posP] at h
 | s::l,n+1,i,h=>by
  simp only [posP] at h
  cases hb:Nat.ble s.size (n+1) with
  | false=>rw [hb] at h; cases h
  | true=>
   rw [hb] at h; simp only [cond_true] at h;split at h
   ·rename_i j hj
    cases h;obtain ⟨h1,h2⟩:=kf hj;rw [Nat.ble_eq] at hb;simp only [List.take_succ_cons,sizeL,List.length_cons];omega
   ·cases h
theorem CRL.part {l:List (SV D)} {vs:List Value} {off size:Nat} {p:List (SV D)} (h:CRL ν l vs) (hp:getP l off size=some p):CRL ν p ((vs.drop off).take size)/\off+size<=vs.length:=by
 unfold getP at hp;split at hp
 case h_2=>cases hp
 rename_i i hi;split at hp
 case h_2=>cases hp
 rename_i m hm;cases hp;obtain ⟨h1,h2⟩:=kf hi;obtain ⟨h3,h4⟩:=kf hm;rw [<- List.take_append_drop i l,<- List.take_append_drop m (l.drop i)] at h;obtain ⟨u,w,rfl,g1,g2⟩:=h.split;obtain ⟨w1,w2,rfl,g3,g4⟩:=g2.split;have e1:u.length=off:=by rw [g1.len,h1]
 have e2:w1.length=size:=by rw [g3.len,h3]
 subst e1 e2;exact ⟨by rw [List.drop_left,List.take_left]; exact g3,by simp⟩
theorem CRL.put {l:List (SV D)} {vs ws:List Value} {off:Nat} {new p:List (SV D)} (h:CRL ν l vs) (hn:CRL ν new ws) (hp:setP l off new=some p):
  CRL ν p (vs.take off++(ws++vs.drop (off+ws.length)))/\off+ws.length<=vs.length:=by
 unfold setP at hp;split at hp
 case h_2=>cases hp
 rename_i i hi;split at hp
 case h_2=>cases hp
 rename_i m hm;cases hp;obtain ⟨h1,h2⟩:=kf hi;obtain ⟨h3,h4⟩:=kf hm;rw [<- List.take_append_drop i l,<- List.take_append_drop m (l.drop i)] at h;obtain ⟨u,w,rfl,g1,g2⟩:=h.split;obtain ⟨w1,w2,rfl,g3,g4⟩:=g2.split;have e1:u.length=off:=by rw [g1.len,h1]
 have e2:w1.length=ws.length:=by rw [g3.len,h3,<- hn.len]
 subst e1;refine ⟨?_,by simp; omega⟩;rw [List.take_left,<- List.drop_drop,List.drop_left,<- e2,List.drop_left];exact g1.append (hn.append g4)
theorem SGL.take {l:List (SV D)}: ∀ {gs:List Seg} (i:Nat),SGL ν l gs->SGL ν (l.take i) (gs.take i)/\SGL ν (l.drop i) (gs.drop i):=by
 induction l with
 | nil=>intro gs i h; have h:gs=[]:=h; subst h; cases i <;> exact ⟨rfl,rfl⟩
 | cons s l ih=>
  rintro gs i ⟨g,r,rfl,h1,h2⟩
  cases i with
  | zero=>exact ⟨rfl,g,r,rfl,h1,h2⟩
  | succ i=> obtain ⟨k1,k2⟩:=ih i h2;exact ⟨⟨g,_,rfl,h1,k1⟩,k2⟩
theorem SGL.append: ∀ {l m:List (SV D)} {gs ks:List Seg},SGL ν l gs->SGL ν m ks->SGL ν (l++m) (gs++ks)
 | [],_,_,_,h,h'=>by have h:_=[]:=h; subst h; exact h'
 | _::_,_,_,_,⟨g,r,e,h1,h2⟩,h'=>⟨g,r++_,by rw [e]; rfl,h1,SGL.append h2 h'⟩
theorem SGL.size {l:List (SV D)} {gs:List Seg} (h:SGL ν l gs):segSize gs=sizeL l:=by rw [<- cD,h.cells.len]
def flat:SV D->List (SV D)
 | .agg l=>l
 | s=>[s]
def okC:SV D->Bool
 | .undef=>false
 | .opq=>false
 | .agg _=>false
 | .tup _=>false
 | _=>true
theorem BU.flat {s:SV D} {v:Value} (h:BU ν s v) (ho:(flat s).all okC=true):CRL ν (Ex.flat s) v.cells.toList:=by
  cases s <;> simp only [BU] at h <;> first
    | (simp [Ex.flat,okC] at ho; done)
    | (obtain ⟨vs,h1,rfl⟩:=h; simpa [Ex.flat,Value.cells] using h1)
    | (subst h; exact ⟨_,[],by simp [Value.cells],rfl,rfl⟩)
    | (refine ⟨_,[],(List.append_nil _).symm, ?_,rfl⟩
       simp only [CR];refine ⟨v,h, ?_⟩;simp only [iH] at h
       first
         | (subst h; simp [Value.cells])
         | (obtain ⟨_,_,rfl⟩:=h; simp [Value.cells])
         | (obtain ⟨_,_,_,rfl⟩:=h; simp [Value.cells])
         | (obtain ⟨_,_,_,_,rfl⟩:=h; simp [Value.cells]))
theorem VR.one {s:SV D} {v:Value} (h:VR ν s v) (ho:(flat s).all okC=true):BU ν s v:=by
 cases s <;> first
  | exact h
  | (simp [Ex.flat,okC] at ho; done)
def ofP:Bool->List (SV D)->Option (SV D)
 | true,l=>some (match l with
  | [.vec k n v]=> .vec k n v
  | l=> .agg l)
 | false,l=>match l with
  | [s]=>match s with
   | .vec .. =>none
   | s=>some s
  | _=>none
theorem jJ {l:List (SV D)} {s:SV D} {vs:List Value} (h:ofP true l=some s) (hc:CRL ν l vs):VR ν s (.agg vs.toArray):=by
 simp only [ofP] at h;split at h
 ·cases h
  obtain ⟨u,w,e,h1,h2⟩:=hc;have h2:w=[]:=h2;have h1:u=_:=h1;subst h2 h1;rw [e]; simp [VR,BU]
 ·cases h; exact ⟨vs,hc,rfl⟩
theorem CR.v0 {s:SV D} {u:List Value} (h:CR ν s u) (hs: ∀ k n v,s ≠ .vec k n v): ∃ v,u=[v]/\iH ν s v:=by
 cases s <;> simp only [CR] at h <;> first
  | exact h.elim
  | exact absurd rfl (hs _ _ _)
  | (obtain ⟨v,h1,h2⟩:=h; exact ⟨v,h2,h1⟩)
theorem oM {l:List (SV D)} {s:SV D} {vs:List Value} (h:ofP false l=some s) (hc:CRL ν l vs): ∃ v,vs=[v]/\VR ν s v:=by
 simp only [ofP] at h;split at h
 case h_2=>cases h
 split at h
 ·cases h
 ·rename_i t hne
  obtain ⟨u,w,e,h1,h2⟩:=hc;have h2:w=[]:=h2;subst h2;obtain ⟨v,rfl,h3⟩:=h1.v0 fun k n x e=>hne k n x e;cases h;refine ⟨v,by rw [e]; rfl, ?_⟩
  have h4:BU ν s v:=by
   cases s <;> first
    | exact absurd rfl (hne _ _ _)
    | (simp only [iH] at h3; done)
    | exact h3
    | exact (h3:False).elim
  cases s <;> first
   | exact h4
   | exact (h3:False).elim
def ckB:CK->SV D->Bool
 | .int k, .int k' _=>sameKind k k'
 | .bool, .bool _=>true
 | .str, .str _=>true
 | .ptr, .nilP=>true
 | .ptr, .ad .. =>true
 | .ptr, .el .. =>true
 | .ptr, .ve .. =>true
 | .ptr, .ob _=>true
 | .ptr, .oa .. =>true
 | .sl, .nilS=>true
 | .sl, .sl _=>true
 | .sl, .sw .. =>true
 | .sl, .sf .. =>true
 | .sl, .vs .. =>true
 | .map, .nilM=>true
 | .map, .map _=>true
 | .any, .vec .. =>false
 | .any, .opq=>false
 | .any,_=>true
 | .lump k n, .vec k' n' _=>sameKind k k' && Nat.beq n n'
 | _,_=>false
def cksB:List CK->List (SV D)->Bool
 | [],[]=>true
 | c::cs,s::l=>ckB c s && cksB cs l
 | _,_=>false
theorem rW {c:CK} {s:SV D} {v:Value} {p:Addr} {K:(Hp->Prop)->Value->Prop} (hb:ckB c s=true) (hl: ∀ k n,c ≠ .lump k n) (hv:iH ν s v) (hc:hcell h p=some v)
  (k: ∀ f:Hp->Prop,(∀ h',hcell h' p=some v->f h')->K f v):ldC c h p K:=by
 cases c with
 | lump a b=>exact absurd rfl (hl a b)
 | int kk=>
  cases s <;> simp only [ckB,Bool.false_eq_true] at hb;have:=bH hb; subst this;simp only [iH] at hv; subst hv
  exact ⟨_,hc,k _ fun _ h=>h⟩
 | bool=>
  cases s <;> simp only [ckB,Bool.false_eq_true] at hb;simp only [iH] at hv; subst hv
  exact ⟨_,hc,k _ fun _ h=>h⟩
 | str=>
  cases s <;> simp only [ckB,Bool.false_eq_true] at hb;simp only [iH] at hv; subst hv
  exact ⟨_,hc,k _ fun _ h=>h⟩
 | ptr=>
  have: ∃ q,v= .pointer q:=by
   cases s <;> simp only [ckB,Bool.false_eq_true] at hb <;> simp only [iH] at hv <;> first
    | exact ⟨_,hv⟩
    | (obtain ⟨_,_,h2⟩:=hv; exact ⟨_,h2⟩)
    | (obtain ⟨_,_,_,_,h2⟩:=hv; exact ⟨_,h2⟩)
  obtain ⟨q,rfl⟩:=this
  exact ⟨q,hc,k _ fun _ h=>h⟩
 | sl=>
  have: ∃ a n c,v= .slice a n c:=by
   cases s <;> simp only [ckB,Bool.false_eq_true] at hb <;> simp only [iH] at hv <;> first
    | exact ⟨_,_,_,hv⟩
    | (obtain ⟨_,_,h2⟩:=hv; exact ⟨_,_,_,h2⟩)
    | (obtain ⟨_,_,_,h2⟩:=hv; exact ⟨_,_,_,h2⟩)
  obtain ⟨a,n,c,rfl⟩:=this
  exact ⟨⟨a,n,c⟩,hc,k _ fun _ h=>h⟩
 | map=>
  have: ∃ q,v= .map q:=by
   cases s <;> simp only [ckB,Bool.false_eq_true] at hb <;> simp only [iH] at hv <;> first
    | exact ⟨_,hv⟩
    | (obtain ⟨_,_,h2⟩:=hv; exact ⟨_,h2⟩)
  obtain ⟨q,rfl⟩:=this
  exact ⟨q,hc,k _ fun _ h=>h⟩
 | any=>exact ⟨v,hc,k _ fun _ h=>h⟩
theorem kg: ∀ {cs:List CK} {l:List (SV D)} {vs:List Value} {p:Addr} {i:Nat} {K:(Hp->Prop)->List Value->Prop},cksB cs l=true->CRL ν l vs->
  (∀ j v,vs[j]? =some v->hcell h (p.add (i+j))=some v)->(∀ f:Hp->Prop,(∀ h',(∀ j v,vs[j]? =some v->hcell h' (p.add (i+j))=some v)->f h')->K f vs)->ldCs cs h p i K
 | [],[],vs,p,i,K,_,hc,_,k=>by
  have hc:vs=[]:=hc;subst hc
  exact k _ fun _ _=>trivial
 | c::cs,s::l,vs,p,i,K,hb,⟨u,w,e,h1,h2⟩,hcell',k=>by
  subst e;simp only [cksB,Bool.and_eq_true] at hb
  have single:(∀ k n,c ≠ .lump k n)->ldC c h (p.add i) (fun f v=>ldCs cs h p (i+1) fun g vs=>K (fun h'=>f h'/\g h') (v::vs)):=by
   intro hl
   have hs: ∀ k n v,s ≠ .vec k n v:=by rintro kk n v rfl;cases c <;> simp [ckB] at hb;exact hl _ _ rfl
   obtain ⟨v,rfl,h3⟩:=h1.v0 hs;refine rW hb.1 hl h3 (by have:=hcell' 0 v (by simp); simpa using this) fun f hf=> ?_;refine kg hb.2 h2 (fun j v' hj=> ?_) fun g hg=> ?_
   ·have:=hcell' (j+1) v' (by simpa using hj)
    rwa [show i+(j+1)=i+1+j from by omega] at this
   ·have:=k (fun h'=>f h'/\g h') fun h' hh=>⟨hf h' (by have:=hh 0 v (by simp); simpa using this),hg h' fun j v' hj=>by
     have:=hh (j+1) v' (by simpa using hj)
     rwa [show i+(j+1)=i+1+j from by omega] at this⟩
    exact this
  cases c with
  | lump kk n=>
   cases s <;> simp only [ckB,Bool.and_eq_true,Bool.false_eq_true,false_and] at hb;rename_i k' n' v;obtain ⟨⟨b1,b2⟩,b3⟩:=hb;have e1:=bH b1; have e2:n=n':=by simpa using b2
   subst e1 e2;have h1:u=_:=h1;subst h1;have hl:(lumpV kk n v.toList).length=n:=cm _ _ _;show ldL kk n h (p.add i) _
   have fact: ∀ h',(∀ j v',(lumpV kk n v.toList++w)[j]? =some v'->hcell h' (p.add (i+j))=some v')->lfact kk n v.toList (p.add i) h':=by intro h' hh j hj;rw [add_add];exact hh j _ (by rw [List.getElem?_append_left (by rw [hl]; exact hj),m6 kk n _ j hj])
   refine ⟨v.toList,by simp,fact h hcell', ?_⟩;refine kg b3 h2 (fun j v' hj=> ?_) fun g hg=> ?_
   ·have:=hcell' (n+j) v' (by rw [List.getElem?_append_right (by rw [hl]; omega),hl,Nat.add_sub_cancel_left]; exact hj)
    rwa [<- Nat.add_assoc] at this
   ·have:=k (fun h'=>lfact kk n v.toList (p.add i) h'/\g h') fun h' hh=>⟨fact h' hh,hg h' fun j v' hj=>by
     have:=hh (n+j) v' (by rw [List.getElem?_append_right (by rw [hl]; omega),hl,Nat.add_sub_cancel_left]; exact hj)
     rwa [<- Nat.add_assoc] at this⟩
    exact this
  | _=>exact single (by intros; simp)
 | [],_::_,_,_,_,_,hb,_,_,_=>by simp [cksB] at hb
 | _::_,[],_,_,_,_,hb,_,_,_=>by simp [cksB] at hb
theorem HR.fr {a:At} (R:HR X ν ω H h (a::A)) (f: ∀ C,Inv h (a::C)->Inv h (B++C)):HR X ν ω H h (B++A):=by have I:=R.front;have:=f _ I;refine R.back ?_;rw [List.append_assoc]; exact this
theorem HR.fr1 {a b:At} (R:HR X ν ω H h (a::A)) (f: ∀ C,Inv h (a::C)->Inv h (b::C)):HR X ν ω H h (b::A):=R.fr (B:=[b]) f
theorem HR.JE {a:At} (R:HR X ν ω H h (a::A)):HR X ν ω H h A:=R.fr (B:=[]) fun _ I=>I.dn
theorem HR.conv {a b:At} (R:HR X ν ω H h (a::A)) (f: ∀ F M,a.P h F M->b.P h F M):HR X ν ω H h (b::A):=R.fr1 fun _ I=>I.conv f
theorem HR.exE {α:Type} {f:α->At} (R:HR X ν ω H h (exA f::A)): ∃ x,HR X ν ω H h (f x::A):=by have I:=R.front;obtain ⟨x,I⟩:=Inv.exE I;exact ⟨x,R.back I⟩
theorem HR.exI {α:Type} {f:α->At} (x:α) (R:HR X ν ω H h (f x::A)):HR X ν ω H h (exA f::A):=R.conv fun _ _ h=>⟨x,h⟩
theorem HR.factE {φ:Prop} {a:At} (R:HR X ν ω H h (factA φ a::A)):φ/\HR X ν ω H h (a::A):=by have I:=R.front;obtain ⟨p,I⟩:=Inv.factE I;exact ⟨p,R.back I⟩
theorem HR.factI {φ:Prop} {a:At} (p:φ) (R:HR X ν ω H h (a::A)):HR X ν ω H h (factA φ a::A):=R.conv fun _ _ h=>⟨p,h⟩
theorem HR.sepE {a b:At} (R:HR X ν ω H h (sep a b::A)):HR X ν ω H h (a::b::A):=R.fr (B:=[a,b]) fun _ I=>I.sepE
theorem HR.sepI {a b:At} (R:HR X ν ω H h (a::b::A)):HR X ν ω H h (sep a b::A):=by have I:=R.front;exact R.back (Inv.sepI I)
theorem HR.swap {a b:At} (R:HR X ν ω H h (a::b::A)):HR X ν ω H h (b::a::A):=by have I:=R.front;exact R.back (Inv.swap I)
theorem HR.addP {a:At} (R:HR X ν ω H h A) (f: ∀ M,a.P h [] M):HR X ν ω H h (a::A):=by have I:=R.front;exact R.back (Inv.addP I fun M _=>f M)
theorem Inv.dupM {As:List At} {a b:At} (ha:a ∈ As) (hf: ∀ F M,a.P h F M->b.P h [] M) (I:Inv h As):Inv h (b::As):=by obtain ⟨Fs,h1,h2⟩:=I;obtain ⟨F',h3⟩:=rU ha h1;exact ⟨[]::Fs,⟨by simpa using hf _ _ h3,by simpa using h1⟩,by simpa using h2⟩
theorem ql {o:SO D} {y:Nm} {k:Gm}: ∀ (l:List (SO D × Nat)) (xs:List Nm) (gs:List Gm) (j v:Nat),l[j]? =some (o,v)->xs[j]? =some y->gs[j]? =some k->o.sem D X ν y k ∈ semL D X ν l xs gs:=by
 intro l
 induction l with
 | nil=>intro _ _ j _ h1; simp at h1
 | cons p l ih=>
  intro xs gs j v h1 h2 h3
  cases xs with
  | nil=>simp at h2
  | cons x xs=>cases gs with
   | nil=>simp at h3
   | cons g gs=>
    obtain ⟨o1,v1⟩:=p
    cases j with
    | zero=>simp at h1 h2 h3; obtain ⟨rfl,rfl⟩:=h1; subst h2 h3; exact List.mem_cons_self
    | succ j=>exact List.mem_cons_of_mem _ (ih xs gs j v (by simpa using h1) (by simpa using h2) (by simpa using h3))
theorem HR.dup (R:HR X ν ω H h A) {i:Nat} {o:SO D} (hi:H.get i=some o): ∃ x g,ν[i]? =some x/\ω[i]? =some g/\
  ∀ b:At,(∀ F M,(o.sem D X ν x g).P h F M->b.P h [] M)->HR X ν ω H h (b::A):=by
 have ha:=get_at hi;have hil:=(List.getElem?_eq_some_iff.1 ha).1
 obtain ⟨x,hx⟩: ∃ x,ν[i]? =some x:=⟨_,List.getElem?_eq_getElem (by rw [<- R.l1]; exact hil)⟩
 obtain ⟨g,hg⟩: ∃ g,ω[i]? =some g:=⟨_,List.getElem?_eq_getElem (by rw [<- R.l2]; exact hil)⟩
 refine ⟨x,g,hx,hg,fun b hf=>⟨R.l1,R.l2, ?_⟩⟩
 have hm:o.sem D X ν x g ∈ (X::sgA D H.sg::semL D X ν H.at_ ν ω)++A:=by have:=ql (D:=D) (X:=X) (ν:=ν) _ _ _ i _ ha hx hg;simp only [List.mem_append,List.mem_cons]; exact .inl (.inr (.inr this))
 exact Inv.mid' (Inv.dupM hm hf R.inv)
abbrev leavesOf (D:Tabs):Ty->List Ty
 | .st i=>D.leaves i
 | t=>[t]
abbrev tupOf:(t:Ty)->D.d t->Tup D.toTab (leavesOf D t)
 | .st i,x=>D.get i x
 | .int _,x=>(x,())
 | .bool,x=>(x,())
 | .str,x=>(x,())
 | .ptr,x=>(x,())
 | .vec _ _,x=>(x,())
 | .list _,x=>(x,())
abbrev unTup:(t:Ty)->Tup D.toTab (leavesOf D t)->D.d t
 | .st i,x=>D.put i x
 | .int _,x=>x.1
 | .bool,x=>x.1
 | .str,x=>x.1
 | .ptr,x=>x.1
 | .vec _ _,x=>x.1
 | .list _,x=>x.1
theorem ES {t:Ty} {M:List Nat} {vs:List Value} {x:D.d t} (hn:t.isSt=false):(TupP D.toTab h M [t] vs (x,())↔(D.r t).P h M vs x):=by
 constructor
 ·rintro ⟨u,w,e,h1,h2⟩
  have h2:w=[]:=h2;subst h2 e; simpa using h1
 ·intro h1; exact ⟨vs,[],by simp,h1,rfl⟩
theorem Rv {t:Ty} {M:List Nat} {vs:List Value} {x:D.d t}:(D.r t).P h M vs x↔TupP D.toTab h M (leavesOf D t) vs (tupOf t x):=by
 cases t with
 | st i=>exact D.rep i h M vs x
 | _=>exact (ES rfl).symm
theorem BV {t:Ty} {M:List Nat} {vs:List Value} {x:Tup D.toTab (leavesOf D t)} (H:TupP D.toTab h M (leavesOf D t) vs x):(D.r t).P h M vs (unTup t x):=by
 cases t with
 | st i=>exact (D.rep i h M vs _).2 (Eq.mpr (congrArg (fun z=>TupP D.toTab h M (D.leaves i) vs z) (D.BT i x)) H)
 | _=>exact (ES (t:=_) rfl).1 H
theorem yb (t:Ty):(leavesOf D t).all (fun t=> !t.isSt)=true:=by
 cases t with
 | st i=>exact D.flat i
 | _=>rfl
abbrev decT:(t:Ty)->D.d t->SH D->SV D × SH D
 | .int k,n,H=>(.int k n,H)
 | .bool,b,H=>(.bool b,H)
 | .str,b,H=>(.str b,H)
 | .ptr,p,H=>(.ob p,H)
 | .vec k n,v,H=>(.vec k n v,H)
 | .st _,_,H=>(.undef,H)
 | .list t,l,H=>(.sl H.nx,H.new (.ro t l))
abbrev decL:(ts:List Ty)->Tup D.toTab ts->SH D->List (SV D) × SH D
 | [],_,H=>([],H)
 | t::ts,x,H=>((decT t x.1 H).1::(decL ts x.2 (decT t x.1 H).2).1,(decL ts x.2 (decT t x.1 H).2).2)
abbrev dec (t:Ty) (x:D.d t) (H:SH D):List (SV D) × SH D:=decL (leavesOf D t) (tupOf t x) H
def tupA (D:Tabs) (ts:List Ty) (vs:List Value) (x:Tup D.toTab ts):At:=repA (RpT D.toTab ts id) vs x
theorem gv (R:HR X ν ω H h A) (x:Nm):(ν++[x])[H.nx]? =some x:=by rw [SH.nx,R.l1]; simp
theorem JF {t:Ty} {x:D.d t} {vs:List Value} (hn:t.isSt=false) (R:HR X ν ω H h (repA (D.r t) vs x::A)):
  ∃ ν' ω',HR X ν' ω' (decT t x H).2 h A/\CR ν' (decT t x H).1 vs/\SLe H ν ω (decT t x H).2 ν' ω':=by
 have val: ∀ {v:Value} {s:SV D},(∀ F M,(repA (D.r t) vs x).P h F M->vs=[v])->iH ν s v->(∀ k n w,s ≠ .vec k n w)->s ≠ .undef->s ≠ .opq->HR X ν ω H h A/\CR ν s vs/\SLe H ν ω H ν ω:=by
  intro v s hp hv hs hu hq;obtain ⟨F,M,h1⟩:=Inv.get R.front;have e:=hp F M h1;subst e;refine ⟨R.JE, ?_,SLe.refl _ _ _⟩
  cases s <;> first
   | exact absurd rfl (hs _ _ _)
   | exact absurd rfl hu
   | exact absurd rfl hq
   | exact ⟨_,hv,rfl⟩
   | exact hv.elim
 cases t with
 | st i=>simp [Ty.isSt] at hn
 | int k=>exact ⟨ν,ω,val (v:= .int k x) (s:= .int k x) (fun F M h=>h.2) (by simp only [iH]) (by simp) (by simp) (by simp)⟩
 | bool=>exact ⟨ν,ω,val (v:= .bool x) (s:= .bool x) (fun F M h=>h.2) (by simp only [iH]) (by simp) (by simp) (by simp)⟩
 | str=>exact ⟨ν,ω,val (v:= .string x) (s:= .str x) (fun F M h=>h.2) (by simp only [iH]) (by simp) (by simp) (by simp)⟩
 | ptr=>exact ⟨ν,ω,val (v:= .pointer x) (s:= .ob x) (fun F M h=>h.2) (by simp only [iH]) (by simp) (by simp) (by simp)⟩
 | vec k n=>
  obtain ⟨F,M,h1⟩:=Inv.get R.front
  exact ⟨ν,ω,R.JE,h1.2,SLe.refl _ _ _⟩
 | list t=> obtain ⟨a,c,e,I⟩:=Inv.repS R.front;subst e;have R2:HR X ν ω H h (roS (D.r t) a x.length c x::A):=R.back I;refine ⟨_,_,R2.push (.ro t x) ⟨a,x.length,c,(D.r t).n,none⟩ none (fun h F M hP=>⟨rfl,hP⟩), ?_,dL R.l2 _ _⟩;exact ⟨_,⟨_,gv R _,rfl⟩,rfl⟩
theorem BW: ∀ {ts:List Ty} {x:Tup D.toTab ts} {vs:List Value} {ν:Nu} {ω:List Gm} {H:SH D},ts.all (fun t=> !t.isSt)=true->HR X ν ω H h (tupA D ts vs x::A)->
  ∃ ν' ω',HR X ν' ω' (decL ts x H).2 h A/\CRL ν' (decL ts x H).1 vs/\SLe H ν ω (decL ts x H).2 ν' ω'
 | [],x,vs,ν,ω,H,_,R=>by
  obtain ⟨F,M,h1⟩:=Inv.get R.front
  exact ⟨ν,ω,R.JE,h1.2,SLe.refl _ _ _⟩
 | t::ts,x,vs,ν,ω,H,hn,R=>by
  simp only [List.all_cons,Bool.and_eq_true,Bool.not_eq_true'] at hn;obtain ⟨F,M,hF,u,w,e,h1,h2⟩:=Inv.get R.front
  have R2:HR X ν ω H h (repA (D.r t) u x.1::tupA D ts w x.2::A):=by
   refine R.fr (B:=[repA (D.r t) u x.1,tupA D ts w x.2]) fun C I=> ?_;refine Inv.sepE (I.conv fun F M ⟨e1,hT⟩=>⟨[],[],by simpa using e1, ?_⟩);obtain ⟨u',w',e',k1,k2⟩:=hT;have hl:u.length=u'.length:=by rw [(D.r t).len h1,(D.r t).len k1]
   rw [e] at e';obtain ⟨rfl,rfl⟩:=List.append_inj e' hl;exact ⟨⟨rfl,k1⟩,rfl,k2⟩
  obtain ⟨ν1,ω1,R3,c1,s1⟩:=JF hn.1 R2;obtain ⟨ν2,ω2,R4,c2,s2⟩:=BW hn.2 R3;exact ⟨ν2,ω2,R4,⟨u,w,e,c1.mono s2.1,c2⟩,s1.trans s2⟩
theorem AB {t:Ty} {x:D.d t} {vs:List Value} (R:HR X ν ω H h (repA (D.r t) vs x::A)):
  ∃ ν' ω',HR X ν' ω' (dec t x H).2 h A/\CRL ν' (dec t x H).1 vs/\SLe H ν ω (dec t x H).2 ν' ω':=
 BW (yb t) (R.conv fun F M ⟨e,h1⟩=>⟨e,Rv.1 h1⟩)
abbrev castL (t t':Ty) (l:List (D.d t)):Option (List (D.d t')):=if e:t=t' then some (e ▸ l) else none
theorem dG {t t':Ty} {l:List (D.d t)} {l':List (D.d t')} (h:castL t t' l=some l'): ∃ e:t=t',e ▸ l=l':=by
 unfold castL at h;split at h
 ·rename_i e; cases h; exact ⟨e,rfl⟩
 ·cases h
abbrev frz (t:Ty) (nm:Nat) (H:SH D):Option (List (D.d t) × SH D):=
 match H.get nm with
 | some (.ro t' l)=>match castL t' t l with
  | some l=>some (l,H)
  | none=>none
 | some (.own t' l)=>match castL t' t l with
  | some l=>some (l,H.set nm (.ro t l))
  | none=>none
 | _=>none
abbrev encT:(t:Ty)->SV D->SH D->Option (D.d t × SH D)
 | .int k, .int k' n,H=>bif sameKind k k' then some (n,H) else none
 | .bool, .bool b,H=>some (b,H)
 | .str, .str b,H=>some (b,H)
 | .ptr, .ob p,H=>some (p,H)
 | .ptr, .nilP,H=>some ((none:Option Addr),H)
 | .ptr, .oa nm off,H=>match off,H.get nm with
  | 0,some (.adr p)=>some (some p,H)
  | _,_=>none
 | .vec k n, .vec k' n' v,H=>if e:n'=n then (bif sameKind k k' then some (e ▸ v,H) else none) else none
 | .list _, .nilS,H=>some ([],H)
 | .list t, .sl nm,H=>frz t nm H
 | .list t, .sw nm lo hi,H=>match frz t nm H with
  | some (l,H')=>some (sub l lo hi,H')
  | none=>none
 | _,_,_=>none
abbrev encL:(ts:List Ty)->List (SV D)->SH D->Option (Tup D.toTab ts × SH D)
 | [],[],H=>some ((),H)
 | t::ts,s::l,H=>match encT t s H with
  | some (x,H')=>match encL ts l H' with
   | some (r,H'')=>some ((x,r),H'')
   | none=>none
  | none=>none
 | _,_,_=>none
abbrev enc (t:Ty) (l:List (SV D)) (H:SH D):Option (D.d t × SH D):=
 match encL (leavesOf D t) l H with
 | some (x,H')=>some (unTup t x,H')
 | none=>none
theorem ET {t:Ty} {nm:Nat} {l:List (D.d t)} (R:HR X ν ω H h A) (hf:frz t nm H=some (l,H')):
  ∃ ω' x,HR X ν ω' H' h (roS (D.r t) x.a x.n x.c l::A)/\SLe H ν ω H' ν ω'/\ν[nm]? =some x/\x.sz=(D.r t).n/\x.n=l.length:=by
 have fin: ∀ {H:SH D} {ω:List Gm} {l:List (D.d t)},HR X ν ω H h A->H.get nm=some (.ro t l)->
   ∃ x,HR X ν ω H h (roS (D.r t) x.a x.n x.c l::A)/\ν[nm]? =some x/\x.sz=(D.r t).n/\x.n=l.length:=by
  intro H ω l R hg;obtain ⟨x,g,hx,_,k⟩:=R.dup hg
  have R2:=k (factA (x.sz=(D.r t).n) (roS (D.r t) x.a x.n x.c l)) fun F M hP=>⟨hP.1,rfl,hP.2.2⟩
  obtain ⟨e1,R3⟩:=R2.factE;exact ⟨x,R3,hx,e1,D2 R3.front⟩
 unfold frz at hf;split at hf
 case h_3=>cases hf
 ·rename_i t' l' hg
  split at hf
  case h_2=>cases hf
  rename_i l'' hc;obtain ⟨e,e2⟩:=dG hc;subst e; subst e2;cases hf;obtain ⟨x,h1,h2⟩:=fin R hg;exact ⟨ω,x,h1,SLe.refl _ _ _,h2⟩
 ·rename_i t' l' hg
  split at hf
  case h_2=>cases hf
  rename_i l'' hc;obtain ⟨e,e2⟩:=dG hc;subst e; subst e2;cases hf;obtain ⟨x,g,L,hx,hgg,I,_,_,k⟩:=R.at hg;have hil:=(List.getElem?_eq_some_iff.1 (get_at hg)).1
  have I2:Inv h [(SO.ro t' l').sem D X ν x g,bigA L]:=by obtain ⟨e1,I⟩:=Inv.factE I;exact Inv.factI e1 I.freeze
  obtain ⟨R2,s2⟩:=k h (.ro t' l') g I2;obtain ⟨y,h1,h2⟩:=fin (l:=l') R2 (by simp [SH.get,SH.set,List.getElem?_set_self hil]);exact ⟨_,y,h1,s2,h2⟩
theorem JG {t:Ty} {s:SV D} {x:D.d t} {vs:List Value} (R:HR X ν ω H h A) (hc:CR ν s vs) (he:encT t s H=some (x,H')):
  ∃ ω',HR X ν ω' H' h (repA (D.r t) vs x::A)/\SLe H ν ω H' ν ω':=by
 unfold encT at he;split at he
 case h_11=>cases he
 ·rename_i k k' n
  cases hk:sameKind k k' with
  | false=>rw [hk] at he; cases he
  | true=> rw [hk] at he;have:=bH hk; subst this;cases he;obtain ⟨v,h1,rfl⟩:=hc;have h1:v=_:=h1;subst h1;exact ⟨ω,R.addP fun M=>⟨rfl,rfl⟩,SLe.refl _ _ _⟩
 ·cases he
  obtain ⟨v,h1,rfl⟩:=hc;have h1:v=_:=h1;subst h1;exact ⟨ω,R.addP fun M=>⟨rfl,rfl⟩,SLe.refl _ _ _⟩
 ·cases he
  obtain ⟨v,h1,rfl⟩:=hc;have h1:v=_:=h1;subst h1;exact ⟨ω,R.addP fun M=>⟨rfl,rfl⟩,SLe.refl _ _ _⟩
 ·cases he
  obtain ⟨v,h1,rfl⟩:=hc;have h1:v=_:=h1;subst h1;exact ⟨ω,R.addP fun M=>⟨rfl,rfl⟩,SLe.refl _ _ _⟩
 ·cases he
  obtain ⟨v,h1,rfl⟩:=hc;have h1:v=_:=h1;subst h1;exact ⟨ω,R.addP fun M=>⟨rfl,rfl⟩,SLe.refl _ _ _⟩
 ·rename_i nm off
  split at he
  case h_2=>cases he
  rename_i p hg;cases he;obtain ⟨v,⟨y,h1,h2⟩,rfl⟩:=hc;subst h2;obtain ⟨x',g,hx,_,k⟩:=R.dup hg
  have R2:=k (factA (x'.a=some p) emp) fun F M hP=>⟨hP.1,rfl⟩
  obtain ⟨e1,_⟩:=R2.factE;have e2:y=x':=by rw [hx] at h1; exact (Option.some.inj h1).symm
  subst e2;refine ⟨ω,R.addP fun M=>⟨rfl, ?_⟩,SLe.refl _ _ _⟩;show [Value.pointer (some (y.p.add 0))]=[Value.pointer (some p)]
  simp [Addr.add,Nm.p,e1]
 ·rename_i k n k' n' v
  split at he
  case isFalse=>cases he
  rename_i e;subst e
  cases hk:sameKind k k' with
  | false=>rw [hk] at he; cases he
  | true=> rw [hk] at he;have:=bH hk; subst this;cases he;have hc:vs=_:=hc;subst hc;exact ⟨ω,R.addP fun M=>⟨rfl,rfl⟩,SLe.refl _ _ _⟩
 ·cases he
  obtain ⟨v,h1,rfl⟩:=hc;have h1:v=_:=h1;subst h1;exact ⟨ω,R.addP fun M=>⟨rfl,none,0,rfl,qd⟩,SLe.refl _ _ _⟩
 ·rename_i t nm
  obtain ⟨ω',y,R2,s2,hx,_,e3⟩:=ET R he;obtain ⟨v,⟨z,h1,h2⟩,rfl⟩:=hc;rw [hx] at h1; cases h1;subst h2;refine ⟨ω',R2.conv fun F M ⟨q1,q2,q3⟩=>⟨q1,y.a,y.c,by rw [e3],q3⟩,s2⟩
 ·rename_i t nm lo hi
  split at he
  case h_2=>cases he
  rename_i l H1 hf;cases he;obtain ⟨ω',y,R2,s2,hx,e2,e3⟩:=ET R hf;obtain ⟨v,⟨z,h1,h0,h2⟩,rfl⟩:=hc;rw [hx] at h1; cases h1;subst h2
  have hb:SlOk l lo hi:=⟨h0.1,h0.2.1,by rw [<- e3]; exact h0.2.2⟩
  refine ⟨ω',R2.conv fun F M ⟨q1,q2,q3⟩=>⟨q1,resl y.a y.c y.sz lo,y.c - lo.toNat,by rw [cg hb], ?_⟩,s2⟩;rw [e2];exact Bu q3 hb
theorem BX: ∀ {ts:List Ty} {l:List (SV D)} {x:Tup D.toTab ts} {vs:List Value} {H:SH D} {ω:List Gm} {A:List At},HR X ν ω H h A->CRL ν l vs->encL ts l H=some (x,H')->
  ∃ ω',HR X ν ω' H' h (tupA D ts vs x::A)/\SLe H ν ω H' ν ω'
 | [],[],x,vs,H,ω,A,R,hc,he=>by
  simp only [encL,Option.some.injEq,Prod.mk.injEq] at he;obtain ⟨_,rfl⟩:=he;have hc:vs=[]:=hc;subst hc
  exact ⟨ω,R.addP fun M=>⟨rfl,rfl⟩,SLe.refl _ _ _⟩
 | t::ts,s::l,x,vs,H,ω,A,R,⟨u,w,e,h1,h2⟩,he=>by
  simp only [encL] at he;split at he
  case h_2=>cases he
  rename_i y H1 hy;split at he
  case h_2=>cases he
  rename_i r H2 hr;cases he;obtain ⟨ω1,R1,s1⟩:=JG R h1 hy;obtain ⟨ω2,R2,s2⟩:=BX R1 h2 hr;subst e
  exact ⟨ω2,R2.sepI.conv fun F M ⟨F1,F2,q1,q2,q3⟩=>⟨by rw [q1,q2.1,q3.1]; rfl,u,w,rfl,q3.2,q2.2⟩,s1.trans s2⟩
 | [],_::_,_,_,_,_,_,_,_,he=>by simp [encL] at he
 | _::_,[],_,_,_,_,_,_,_,he=>by simp [encL] at he
theorem vL {t:Ty} {l:List (SV D)} {x:D.d t} {vs:List Value} (R:HR X ν ω H h A) (hc:CRL ν l vs) (he:enc t l H=some (x,H')):
  ∃ ω',HR X ν ω' H' h (repA (D.r t) vs x::A)/\SLe H ν ω H' ν ω':=by
 unfold enc at he;split at he
 case h_2=>cases he
 rename_i y H1 hy;cases he;obtain ⟨ω1,R1,s1⟩:=BX R hc hy;exact ⟨ω1,R1.conv fun F M ⟨q1,q2⟩=>⟨q1,BV q2⟩,s1⟩
end Go.Ex
namespace Go.Ex
open Go Go.Wc Go.Pu
variable {D:Tabs} {X:At} {ν ν':Nu} {h h':Hp} {A B B':List At} {ω:List Gm} {H H':SH D}
theorem BY {P Q B A:List At} {s:At}:((P++s::Q)++(B++A)).Perm (s::(B++(P++(Q++A)))):=by
 have e1:((P++s::Q)++(B++A))=P++s::(Q++(B++A)):=by simp
 rw [e1];refine List.perm_middle.trans (List.Perm.cons _ ?_);have e2:P++(Q++(B++A))=(P++Q)++(B++A):=by simp
 have e3:B++(P++(Q++A))=B++((P++Q)++A):=by simp
 rw [e2,e3,<- List.append_assoc,<- List.append_assoc];exact List.perm_append_comm.append_right A
theorem Inv.prm {A B:List At} (p:A.Perm B) (I:Inv h A):Inv h B:=by have:=Inv.perm p [] (by simpa using I);simpa using this
theorem HR.exch (R:HR X ν ω H h (B++A)) {i:Nat} {o:SO D} (hi:H.get i=some o): ∃ x g,ν[i]? =some x/\ω[i]? =some g/\
  ∀ h' o' g',(∀ C,Inv h (o.sem D X ν x g::(B++C))->Inv h' (o'.sem D X ν x g'::(B'++C)))->HR X ν (ω.set i g') (H.set i o') h' (B'++A)/\SLe H ν ω (H.set i o') ν (ω.set i g'):=by
 have ha:=get_at hi;have hil:=(List.getElem?_eq_some_iff.1 ha).1
 obtain ⟨x,hx⟩: ∃ x,ν[i]? =some x:=⟨_,List.getElem?_eq_getElem (by rw [<- R.l1]; exact hil)⟩
 obtain ⟨g,hg⟩: ∃ g,ω[i]? =some g:=⟨_,List.getElem?_eq_getElem (by rw [<- R.l2]; exact hil)⟩
 have t1:(H.at_.take i).length=(ν.take i).length:=by rw [List.length_take,List.length_take,R.l1]
 have t2:(H.at_.take i).length=(ω.take i).length:=by rw [List.length_take,List.length_take,R.l2]
 have key: ∀ (o':SO D) (v':Nat) (g':Gm),semL D X ν (H.at_.take i++(o',v')::H.at_.drop (i+1)) ν (ω.take i++g'::ω.drop (i+1))=
   semL D X ν (H.at_.take i) (ν.take i) (ω.take i)++o'.sem D X ν x g'::semL D X ν (H.at_.drop (i+1)) (ν.drop (i+1)) (ω.drop (i+1)):=by
  intro o' v' g';have:=iI (D:=D) (X:=X) (ν:=ν) (m:=(o',v')::H.at_.drop (i+1)) (ys:=x::ν.drop (i+1)) (ks:=g'::ω.drop (i+1)) t1 t2;rw [<- gQ hx] at this;rw [this]; rfl
 have e0:=key o (H.ver i) g;rw [<- gQ ha,<- gQ hg] at e0;refine ⟨x,g,hx,hg,fun h' o' g' f=>⟨⟨by simp [SH.set,R.l1],by simp [SH.set,R.l2], ?_⟩,vK hil _ (fun j hj=>List.getElem?_set_ne (fun e=>hj e.symm)) H.sg⟩⟩;have I:=R.inv;rw [e0,<- List.cons_append,<- List.cons_append] at I;have I3:=f _ (Inv.prm BY I);have e1:=key o' (H.ver i+1) g';rw [<- gB hil,<- gB (by rw [<- R.l2]; exact hil)] at e1;show Inv h' ((X::sgA D H.sg::semL D X ν (H.at_.set i (o',H.ver i+1)) ν (ω.set i g'))++(B'++A));rw [e1,<- List.cons_append,<- List.cons_append];exact Inv.prm BY.symm I3
theorem HR.take (R:HR X ν ω H h A) {i:Nat} {o:SO D} (hi:H.get i=some o): ∃ x g,ν[i]? =some x/\HR X ν (ω.set i none) (H.set i .gone) h (o.sem D X ν x g::A)/\SLe H ν ω (H.set i .gone) ν (ω.set i none):=by
 obtain ⟨x,g,hx,hg,k⟩:=HR.exch (B:=[]) (B':=[(o.sem D X ν (ν[i]?.getD ⟨none,0,0,0,none⟩) (ω[i]?.getD none))]) R hi;refine ⟨x,g,hx, ?_⟩
 have:=k h .gone none fun C I=>by rw [hx,hg];exact Inv.dV I
 rw [hx,hg] at this;exact this
theorem HR.takeS (R:HR X ν ω H h A) {i:Nat} {t:Ty} {l:List (D.d t)} (hi:H.get i=some (.own t l)): ∃ x,ν[i]? =some x/\x.sz=(D.r t).n/\HR X ν (ω.set i none) (H.set i (.away t)) h (ownS (D.r t) x.a x.n x.c l::A)/\SLe H ν ω (H.set i (.away t)) ν (ω.set i none):=by
 obtain ⟨x0,g0,LF,hg0,_⟩:=HR.exch (B:=[]) (B':=[]) R hi;obtain ⟨x,g,hx,hg,k⟩:=HR.exch (B:=[]) (B':=[ownS (D.r t) x0.a x0.n x0.c l]) R hi;rw [hx] at LF; cases LF
 have:=k h (.away t) none fun C I=>by obtain ⟨e,I⟩:=Inv.factE I;exact Inv.factI e (Inv.dV I)
 obtain ⟨x1,g1,AD,_,k1⟩:=R.dup hi;have e1:x1=x0:=by rw [hx] at AD; exact (Option.some.inj AD).symm
 subst e1
 have R2:=k1 (factA (x1.sz=(D.r t).n) emp) fun F M hP=>⟨hP.1,rfl⟩
 obtain ⟨e,_⟩:=HR.factE R2;exact ⟨x1,hx,e,this.1,this.2⟩
theorem HR.give {a:At} (R:HR X ν ω H h (a::A)) {i:Nat} {o:SO D} (hi:H.get i=some o) (o':SO D) (g':Gm) (ha: ∀ x,ν[i]? =some x-> ∀ F M,a.P h F M->(o'.sem D X ν x g').P h F M):
  HR X ν (ω.set i g') (H.set i o') h A/\SLe H ν ω (H.set i o') ν (ω.set i g'):=by
 obtain ⟨x,g,hx,hg,k⟩:=HR.exch (B:=[a]) (B':=[]) R hi;exact k h o' g' fun C I=>(Inv.dn I).conv (ha x hx)
inductive Cd where
 | v (t:Ty)
 | own (t:Ty)
 | map (k:IntKind) (t:Ty) (agg:Bool)
@[reducible] def Cd.den (D:Tabs):Cd->Type
 | .v t=>D.d t
 | .own t=>List (D.d t)
 | .map _ t _=>Option (List (Int × D.d t))
@[reducible] def TupC (D:Tabs):List Cd->Type
 | []=>Unit
 | c::cs=>c.den D × TupC D cs
inductive Ds where
 | val (t:Ty)
 | own (t:Ty)
 | rd (t:Ty)
 | map (k:IntKind) (t:Ty) (agg:Bool)
 | blk (T:Nat) (cs:List Cd)
 | fn (f:Nat) (bs:List (Nat × List Cd))
 | al (f:Nat) (js:List Nat)
@[reducible] def TupB (D:Tabs):List (Nat × List Cd)->Type
 | []=>Unit
 | b::bs=>TupC D b.2 × TupB D bs
@[reducible] def Ds.den (D:Tabs):Ds->Type
 | .val t=>D.d t
 | .own t=>List (D.d t)
 | .rd t=>List (D.d t)
 | .map _ t _=>Option (List (Int × D.d t))
 | .blk _ cs=>TupC D cs
 | .fn _ bs=>TupB D bs
 | .al _ _=>Unit
@[reducible] def TupD (D:Tabs):List Ds->Type
 | []=>Unit
 | d::ds=>d.den D × TupD D ds
def aggT:Ty->Bool
 | .st _=>true
 | .vec .. =>true
 | _=>false
def cdA (D:Tabs):(c:Cd)->c.den D->List Value->At
 | .v t,x,u=>repA (D.r t) u x
 | .own t,l,u=>exA fun a=>exA fun c=>factA (u=[.slice a l.length c]) (ownS (D.r t) a l.length c l)
 | .map k t g,L,u=>exA fun m=>exA fun o=>factA (u=[.map m]) (mapX (kI k) (D.r t) g m o L)
def tcA (D:Tabs):(cs:List Cd)->TupC D cs->List Value->At
 | [],_,vs=>factA (vs=[]) emp
 | c::cs,x,vs=>exA fun u=>exA fun w=>factA (vs=u++w) (sep (cdA D c x.1 u) (tcA D cs x.2 w))
def blkA (p:Addr) (T:Nat) (vs:List Value):At:=exA fun gs=>factA (vs=segs gs) (Pu.blk p T gs)
def bsA (D:Tabs):(bs:List (Nat × List Cd))->TupB D bs->List Addr->At
 | [],_,ps=>factA (ps=[]) emp
 | b::bs,x,ps=>exA fun p=>exA fun r=>exA fun vs=>factA (ps=p::r) (sep (sep (blkA p b.1 vs) (tcA D b.2 x.1 vs)) (bsA D bs x.2 r))
def dsA (D:Tabs) (X:At):(d:Ds)->d.den D->Value->At
 | .val t,x,v=>exA fun vs=>factA (v=vOf (aggT t) vs) (repA (D.r t) vs x)
 | .own t,l,v=>exA fun a=>exA fun c=>factA (v= .slice a l.length c) (ownS (D.r t) a l.length c l)
 | .rd t,l,v=>exA fun a=>exA fun c=>factA (v= .slice a l.length c/\Rd (D.r t) X a l.length c l) emp
 | .map k t g,L,v=>exA fun m=>exA fun o=>factA (v= .map m) (mapX (kI k) (D.r t) g m o L)
 | .blk T cs,x,v=>exA fun p=>exA fun vs=>factA (v= .pointer (some p)) (sep (blkA p T vs) (tcA D cs x vs))
 | .fn f bs,x,v=>exA fun ps=>factA (v= .func (.func f) #[] (ps.map fun p=>Value.pointer (some p)).toArray) (bsA D bs x ps)
 | .al _ _,_,_=>emp
def dsL (D:Tabs) (X:At):(ds:List Ds)->TupD D ds->List Value->At
 | [],_,vs=>factA (vs=[]) emp
 | d::ds,x,vs=>exA fun v=>exA fun w=>factA (vs=v::w) (sep (dsA D X d x.1 v) (dsL D X ds x.2 w))
abbrev unC:(c:Cd)->c.den D->SH D->List (SV D) × SH D
 | .v t,x,H=>dec t x H
 | .own t,l,H=>([.sl H.nx],H.new (.own t l))
 | .map k t g,L,H=>([.map H.nx],H.new (.map k t g L))
abbrev unCs:(cs:List Cd)->TupC D cs->SH D->List (SV D) × SH D
 | [],_,H=>([],H)
 | c::cs,x,H=>((unC c x.1 H).1++(unCs cs x.2 (unC c x.1 H).2).1,(unCs cs x.2 (unC c x.1 H).2).2)
abbrev unB:(bs:List (Nat × List Cd))->TupB D bs->SH D->List Nat × SH D
 | [],_,H=>([],H)
 | b::bs,x,H=>
  let r:=unCs b.2 x.1 H
  let q:=unB bs x.2 (r.2.new (.blk b.1 r.1))
  (r.2.nx::q.1,q.2)
abbrev unD:(d:Ds)->d.den D->SH D->SV D × SH D
 | .val t,x,H=>(((ofP (aggT t) (dec t x H).1).getD .undef),(dec t x H).2)
 | .own t,l,H=>(.sl H.nx,H.new (.own t l))
 | .rd t,l,H=>(.sl H.nx,H.new (.rd t l))
 | .map k t g,L,H=>(.map H.nx,H.new (.map k t g L))
 | .blk T cs,x,H=>(.ad (unCs cs x H).2.nx 0,(unCs cs x H).2.new (.blk T (unCs cs x H).1))
 | .fn f bs,x,H=>(.fn f (unB bs x H).1,(unB bs x H).2)
 | .al _ _,_,H=>(.opq,H)
abbrev unL:(ds:List Ds)->TupD D ds->SH D->List (SV D) × SH D
 | [],_,H=>([],H)
 | d::ds,x,H=>((unD d x.1 H).1::(unL ds x.2 (unD d x.1 H).2).1,(unL ds x.2 (unD d x.1 H).2).2)
theorem M3 {c:Cd} {x:c.den D} {vs:List Value} (R:HR X ν ω H h (cdA D c x vs::A)):
  ∃ ν' ω',HR X ν' ω' (unC c x H).2 h A/\CRL ν' (unC c x H).1 vs/\SLe H ν ω (unC c x H).2 ν' ω':=by
 cases c with
 | v t=>exact AB R
 | own t=>
  replace R:=HR.exE R;obtain ⟨a,R⟩:=R;replace R:=HR.exE R;obtain ⟨c,R⟩:=R;replace R:=HR.factE R;obtain ⟨e,R⟩:=R;subst e;refine ⟨_,_,R.push (.own t x) ⟨a,x.length,c,(D.r t).n,none⟩ none (fun h F M hP=>⟨rfl,hP⟩), ?_,dL R.l2 _ _⟩
  exact ⟨[_],[],rfl,⟨_,⟨_,gv R _,rfl⟩,rfl⟩,rfl⟩
 | map k t g=> replace R:=HR.exE R;obtain ⟨m,R⟩:=R;replace R:=HR.exE R;obtain ⟨o,R⟩:=R;replace R:=HR.factE R;obtain ⟨e,R⟩:=R;subst e;refine ⟨_,_,R.push (.map k t g x) ⟨none,0,0,0,m⟩ o (fun h F M hP=>hP), ?_,dL R.l2 _ _⟩;exact ⟨[_],[],rfl,⟨_,⟨_,gv R _,rfl⟩,rfl⟩,rfl⟩
theorem qm: ∀ {cs:List Cd} {x:TupC D cs} {vs:List Value} {ν:Nu} {ω:List Gm} {H:SH D} {A:List At},HR X ν ω H h (tcA D cs x vs::A)->
  ∃ ν' ω',HR X ν' ω' (unCs cs x H).2 h A/\CRL ν' (unCs cs x H).1 vs/\SLe H ν ω (unCs cs x H).2 ν' ω'
 | [],x,vs,ν,ω,H,A,R=>by
  replace R:=HR.factE R;obtain ⟨e,R⟩:=R
  exact ⟨ν,ω,R.JE,e,SLe.refl _ _ _⟩
 | c::cs,x,vs,ν,ω,H,A,R=>by replace R:=HR.exE R;obtain ⟨u,R⟩:=R;replace R:=HR.exE R;obtain ⟨w,R⟩:=R;replace R:=HR.factE R;obtain ⟨e,R⟩:=R;obtain ⟨ν1,ω1,R1,c1,s1⟩:=M3 R.sepE;obtain ⟨ν2,ω2,R2,c2,s2⟩:=qm R1;subst e;exact ⟨ν2,ω2,R2,(c1.mono s2.1).append c2,s1.trans s2⟩
theorem BZ {p:Addr} {T:Nat} {vs:List Value} {ss:List (SV D)} (R:HR X ν ω H h (blkA p T vs::A)) (hc:CRL ν ss vs):
  HR X (ν++[⟨some p,0,0,0,none⟩]) (ω++[none]) (H.new (.blk T ss)) h A:=by
 obtain ⟨gs,h1,h2⟩:=hc.segs;refine R.push (.blk T ss) ⟨some p,0,0,0,none⟩ none fun h F M hP=> ?_;obtain ⟨gs',e,hP⟩:=hP;refine ⟨gs,h1.mono (NLe.app _ _), ?_⟩;obtain ⟨q1,q2,q3,q4⟩:=hP;exact ⟨q1,q2,q3,by rw [<- h2,e]; exact q4⟩
theorem EU: ∀ {bs:List (Nat × List Cd)} {x:TupB D bs} {ps:List Addr} {ν:Nu} {ω:List Gm} {H:SH D} {A:List At},HR X ν ω H h (bsA D bs x ps::A)->
  ∃ ν' ω',HR X ν' ω' (unB bs x H).2 h A/\(∃ xs:List Nm,(unB bs x H).1.map (fun nm=>ν'[nm]?)=xs.map some/\ps=xs.map Nm.p)/\SLe H ν ω (unB bs x H).2 ν' ω'
 | [],x,ps,ν,ω,H,A,R=>by
  replace R:=HR.factE R;obtain ⟨e,R⟩:=R
  exact ⟨ν,ω,R.JE,⟨[],rfl,e⟩,SLe.refl _ _ _⟩
 | b::bs,x,ps,ν,ω,H,A,R=>by
  replace R:=HR.exE R;obtain ⟨p,R⟩:=R;replace R:=HR.exE R;obtain ⟨r,R⟩:=R;replace R:=HR.exE R;obtain ⟨vs,R⟩:=R;replace R:=HR.factE R;obtain ⟨e,R⟩:=R;obtain ⟨ν1,ω1,R1,c1,s1⟩:=qm (HR.swap (HR.sepE R.sepE));have R2:=BZ R1 c1;obtain ⟨ν2,ω2,R3,⟨xs,k1,k2⟩,s2⟩:=EU R2;refine ⟨ν2,ω2,R3,⟨⟨some p,0,0,0,none⟩::xs, ?_, ?_⟩,s1.trans ((dL R1.l2 _ _).trans s2)⟩
  ·show List.map _ ((unCs b.2 x.1 H).2.nx::_)=_
   simp only [List.map_cons];rw [k1,s2.1 _ _ (gv R1 _)]
  ·rw [e,k2]; rfl
theorem JH {t:Ty} {x:D.d t} {vs:List Value} (hc:CRL ν (dec t x H).1 vs):VR ν ((ofP (aggT t) (dec t x H).1).getD .undef) (vOf (aggT t) vs):=by
 cases t with
 | st i=>
  show VR ν ((ofP true _).getD .undef) (.agg vs.toArray)
  cases he:ofP true (dec (.st i) x H).1 with
  | none=>simp [ofP] at he
  | some s=>exact jJ he hc
 | vec k n=>
  show VR ν ((ofP true _).getD .undef) (.agg vs.toArray)
  cases he:ofP true (dec (.vec k n) x H).1 with
  | none=>simp [ofP] at he
  | some s=>exact jJ he hc
 | _=> obtain ⟨v,e,hv⟩:=oM (l:=(dec _ x H).1) (s:=(decT _ x H).1) rfl hc;subst e; exact hv
theorem M4 {d:Ds} {x:d.den D} {v:Value} (R:HR X ν ω H h (dsA D X d x v::A)):
  ∃ ν' ω',HR X ν' ω' (unD d x H).2 h A/\VR ν' (unD d x H).1 v/\SLe H ν ω (unD d x H).2 ν' ω':=by
 cases d with
 | val t=>
  replace R:=HR.exE R;obtain ⟨vs,R⟩:=R;replace R:=HR.factE R;obtain ⟨e,R⟩:=R;subst e;obtain ⟨ν1,ω1,R1,c1,s1⟩:=AB R
  exact ⟨ν1,ω1,R1,JH c1,s1⟩
 | own t=>
  replace R:=HR.exE R;obtain ⟨a,R⟩:=R;replace R:=HR.exE R;obtain ⟨c,R⟩:=R;replace R:=HR.factE R;obtain ⟨e,R⟩:=R;subst e
  exact ⟨_,_,R.push (.own t x) ⟨a,x.length,c,(D.r t).n,none⟩ none (fun h F M hP=>⟨rfl,hP⟩),⟨_,gv R _,rfl⟩,dL R.l2 _ _⟩
 | rd t=>
  replace R:=HR.exE R;obtain ⟨a,R⟩:=R;replace R:=HR.exE R;obtain ⟨c,R⟩:=R;replace R:=HR.factE R;obtain ⟨e,R⟩:=R;obtain ⟨e,e2⟩:=e;subst e
  exact ⟨_,_,R.push (.rd t x) ⟨a,x.length,c,(D.r t).n,none⟩ none (fun h F M hP=>⟨⟨rfl,e2⟩,hP⟩),⟨_,gv R _,rfl⟩,dL R.l2 _ _⟩
 | map k t g=>
  replace R:=HR.exE R;obtain ⟨m,R⟩:=R;replace R:=HR.exE R;obtain ⟨o,R⟩:=R;replace R:=HR.factE R;obtain ⟨e,R⟩:=R;subst e
  exact ⟨_,_,R.push (.map k t g x) ⟨none,0,0,0,m⟩ o (fun h F M hP=>hP),⟨_,gv R _,rfl⟩,dL R.l2 _ _⟩
 | blk T cs=>
  replace R:=HR.exE R;obtain ⟨p,R⟩:=R;replace R:=HR.exE R;obtain ⟨vs,R⟩:=R;replace R:=HR.factE R;obtain ⟨e,R⟩:=R;subst e;obtain ⟨ν1,ω1,R1,c1,s1⟩:=qm (HR.swap R.sepE);have R2:=BZ R1 c1
  exact ⟨_,_,R2,⟨_,gv R1 _,by simp [Nm.p,Addr.add]⟩,s1.trans (dL R1.l2 _ _)⟩
 | fn f bs=>
  replace R:=HR.exE R;obtain ⟨ps,R⟩:=R;replace R:=HR.factE R;obtain ⟨e,R⟩:=R;subst e;obtain ⟨ν1,ω1,R1,⟨xs,k1,k2⟩,s1⟩:=EU R;refine ⟨ν1,ω1,R1,⟨xs,k1, ?_⟩,s1⟩
  rw [k2,List.map_map]; rfl
 | al f js=>exact ⟨ν,ω,R.JE,trivial,SLe.refl _ _ _⟩
theorem rX: ∀ {ds:List Ds} {x:TupD D ds} {vs:List Value} {ν:Nu} {ω:List Gm} {H:SH D} {A:List At},HR X ν ω H h (dsL D X ds x vs::A)->
  ∃ ν' ω',HR X ν' ω' (unL ds x H).2 h A/\dA (VR ν') (unL ds x H).1 vs/\SLe H ν ω (unL ds x H).2 ν' ω'
 | [],x,vs,ν,ω,H,A,R=>by
  replace R:=HR.factE R;obtain ⟨e,R⟩:=R;subst e
  exact ⟨ν,ω,R.JE, .nil,SLe.refl _ _ _⟩
 | d::ds,x,vs,ν,ω,H,A,R=>by replace R:=HR.exE R;obtain ⟨v,R⟩:=R;replace R:=HR.exE R;obtain ⟨w,R⟩:=R;replace R:=HR.factE R;obtain ⟨e,R⟩:=R;obtain ⟨ν1,ω1,R1,c1,s1⟩:=M4 R.sepE;obtain ⟨ν2,ω2,R2,c2,s2⟩:=rX R1;subst e;exact ⟨ν2,ω2,R2, .cons (c1.mono s2.1) c2,s1.trans s2⟩
abbrev listN (t:Ty) (nm:Nat) (H:SH D):Option (List (D.d t)):=
 match H.get nm with
 | some (.own t' l)=>castL t' t l
 | some (.ro t' l)=>castL t' t l
 | some (.rd t' l)=>castL t' t l
 | _=>none
abbrev vecAt (ss:List (SV D)) (off:Nat) (k:IntKind) (n:Nat):Option (Vector Int n):=
 match getP ss off n with
 | some [.vec k' n' v]=>if e:n'=n then (bif sameKind k k' then some (e ▸ v) else none) else none
 | _=>none
abbrev listS (t:Ty) (H:SH D):SV D->Option (List (D.d t))
 | .nilS=>some []
 | .sl nm=>listN t nm H
 | .sw nm lo hi=>match listN t nm H with
  | some l=>some (sub l lo hi)
  | none=>none
 | .vs nm off k n lo hi=>match H.get nm with
  | some (.blk _ ss)=>match vecAt ss off k n with
   | some v=>castL (.int k) t (subA n v.toList lo hi)
   | none=>none
  | _=>none
 | _=>none
def baseS:SV D->Option Nat
 | .sl nm=>some nm
 | .sw nm _ _=>some nm
 | .vs nm _ _ _ _ _=>some nm
 | _=>none
theorem EV {Y:Type} {E:Rp Y} {a:At}:Rd E a none 0 0 []:=fun _=>⟨rfl,[],SlV.nil _ _,Nat.le_refl _,rfl⟩
theorem EW {ss:List (SV D)}: ∀ {gs:List Seg} {off acc i:Nat} {s:SV D} {r:List (SV D)},SGL ν ss gs->posP ss off=some i->ss.drop i=s::r-> ∃ g,segAt gs i acc=some (acc+off,g)/\SG ν s g:=by
 induction ss with
 | nil=>intro gs off acc i s r h hp hd; simp at hd
 | cons s0 ss ih=>
  rintro gs off acc i s r ⟨g,r',rfl,h1,h2⟩ hp hd
  cases off with
  | zero=>
   simp only [posP,Option.some.injEq] at hp;subst hp;simp only [List.drop_zero,List.cons.injEq] at hd;obtain ⟨rfl,rfl⟩:=hd
   exact ⟨g,rfl,h1⟩
  | succ off=>
   simp only [posP] at hp
   cases hb:Nat.ble s0.size (off+1) with
   | false=>rw [hb] at hp; cases hp
   | true=>
    rw [hb] at hp; simp only [cond_true] at hp;split at hp
    case h_2=>cases hp
    rename_i j hj;cases hp;rw [Nat.ble_eq] at hb;obtain ⟨g',k1,k2⟩:=ih (acc:=acc+g.size) h2 hj (by simpa using hd);refine ⟨g', ?_,k2⟩;have hs:g.size=s0.size:=by rw [<- Seg.nh,h1.cells.len]
    simp only [segAt];rw [k1,hs];congr 2; omega
theorem jK {ss:List (SV D)} {gs:List Seg} {off n:Nat} {k:IntKind} {v:Vector Int n} (hs:SGL ν ss gs) (hv:vecAt ss off k n=some v): ∃ j,segAt gs j 0=some (off, .vec k n v)/\posP ss off=some j:=by
 unfold vecAt at hv;split at hv
 case h_2=>cases hv
 rename_i k' n' w hg;split at hv
 case isFalse=>cases hv
 rename_i e;subst e
 cases hk:sameKind k k' with
 | false=>rw [hk] at hv; cases hv
 | true=>
  rw [hk] at hv;have:=bH hk; subst this;cases hv;unfold getP at hg;split at hg
  case h_2=>cases hg
  rename_i i hi;split at hg
  case h_2=>cases hg
  rename_i m hm;have hg:=Option.some.inj hg
  have hd: ∃ r,ss.drop i= .vec k n' w::r:=by
   cases hdd:ss.drop i with
   | nil=>rw [hdd] at hg; simp at hg
   | cons s r=>
    rw [hdd] at hg
    cases m with
    | zero=>simp at hg
    | succ m=>simp at hg; exact ⟨r,by rw [hg.1]⟩
  obtain ⟨r,hd⟩:=hd;obtain ⟨g,k1,k2⟩:=EW (acc:=0) hs hi hd;rw [Nat.zero_add] at k1;have k2:g=_:=k2;subst k2;exact ⟨i,k1,hi⟩
structure In (X:At) (ν:Nu) (ω:List Gm) (H:SH D) (s:SV D) (L:List At):Prop where
 x:X ∈ L
 at_: ∀ nm o y g,baseS s=some nm->H.get nm=some o->ν[nm]? =some y->ω[nm]? =some g->o.sem D X ν y g ∈ L
theorem nK (R:HR X ν ω H h A) {nm:Nat} {o:SO D} (hg:H.get nm=some o): ∃ y g,ν[nm]? =some y/\ω[nm]? =some g:=by have hil:=(List.getElem?_eq_some_iff.1 (get_at hg)).1;exact ⟨_,_,List.getElem?_eq_getElem (by rw [<- R.l1]; exact hil),List.getElem?_eq_getElem (by rw [<- R.l2]; exact hil)⟩
theorem jL {t:Ty} {nm:Nat} {l:List (D.d t)} {L:List At} {x:Nm} {g:Gm} (hl:listN t nm H=some l) (hx:ν[nm]? =some x) (hg:ω[nm]? =some g)
  (hL: ∀ o,H.get nm=some o->o.sem D X ν x g ∈ L) (hX:X ∈ L):Rd (D.r t) (bigA L) x.a x.n x.c l/\(∀ h F M,(bigA L).P h F M->x.sz=(D.r t).n):=by
 unfold listN at hl;split at hl
 case h_4=>cases hl
 ·rename_i t' l' ho
  obtain ⟨e,e2⟩:=dG hl;subst e; subst e2;have hm:=hL _ ho
  exact ⟨fun hP=>by
   obtain ⟨F',h1⟩:=gP hm hP
   exact vn h1.2,fun h F M hP=>by
   obtain ⟨F',h1⟩:=gP hm hP
   exact h1.1⟩
 ·rename_i t' l' ho
  obtain ⟨e,e2⟩:=dG hl;subst e; subst e2;have hm:=hL _ ho
  exact ⟨fun hP=>by
   obtain ⟨F',h1⟩:=gP hm hP
   exact wT h1.2,fun h F M hP=>by
   obtain ⟨F',h1⟩:=gP hm hP
   exact h1.1⟩
 ·rename_i t' l' ho
  obtain ⟨e,e2⟩:=dG hl;subst e; subst e2;have hm:=hL _ ho
  exact ⟨fun hP=>by
   obtain ⟨F',h1⟩:=gP hm hP;obtain ⟨F'',h2⟩:=gP hX hP
   exact h1.1.2 h2,fun h F M hP=>by
   obtain ⟨F',h1⟩:=gP hm hP
   exact h1.1.1⟩
theorem k9 {t:Ty} {s:SV D} {v:Value} {l:List (D.d t)} {L:List At} (R:HR X ν ω H h A) (hv:iH ν s v) (hl:listS t H s=some l) (hL:In X ν ω H s L) (hP: ∃ h F M,(bigA L).P h F M):
  ∃ a n c,v= .slice a n c/\Rd (D.r t) (bigA L) a n c l:=by
 unfold listS at hl;split at hl
 case h_5=>cases hl
 ·cases hl
  have hv:v=_:=hv;subst hv;exact ⟨_,_,_,rfl,EV⟩
 ·rename_i nm
  obtain ⟨x,hx,rfl⟩:=hv
  obtain ⟨o,ho⟩: ∃ o,H.get nm=some o:=by
   unfold listN at hl
   cases hq:H.get nm with
   | none=>rw [hq] at hl; cases hl
   | some o=>exact ⟨o,rfl⟩
  obtain ⟨y,g,hy,hg⟩:=nK R ho;rw [hx] at hy; cases hy;exact ⟨_,_,_,rfl,(jL hl hx hg (fun o ho=>hL.at_ nm o x g rfl ho hx hg) hL.x).1⟩
 ·rename_i nm lo hi
  split at hl
  case h_2=>cases hl
  rename_i l0 Iq;cases hl;obtain ⟨x,hx,h0,rfl⟩:=hv
  obtain ⟨o,ho⟩: ∃ o,H.get nm=some o:=by
   unfold listN at Iq
   cases hq:H.get nm with
   | none=>rw [hq] at Iq; cases Iq
   | some o=>exact ⟨o,rfl⟩
  obtain ⟨y,g,hy,hg⟩:=nK R ho;rw [hx] at hy; cases hy;obtain ⟨k1,k2⟩:=jL Iq hx hg (fun o ho=>hL.at_ nm o x g rfl ho hx hg) hL.x;obtain ⟨h,F,M,hP⟩:=hP;have e:=k2 _ _ _ hP;have hn:=(k1 hP).1
  have hb:SlOk l0 lo hi:=⟨h0.1,h0.2.1,by rw [<- hn]; exact h0.2.2⟩
  refine ⟨_,_,_,rfl, ?_⟩;rw [e];exact mF k1 hb (cg hb).symm
 ·rename_i nm off k n lo hi
  split at hl
  case h_2=>cases hl
  rename_i T ss ho;split at hl
  case h_2=>cases hl
  rename_i w hw;rw [iS] at hl;obtain ⟨e,e2⟩:=dG hl;subst e; subst e2;obtain ⟨x,hx,h0,rfl⟩:=hv;obtain ⟨y,g,hy,hg⟩:=nK R ho;rw [hx] at hy; cases hy;have hm:=hL.at_ nm _ x g rfl ho hx hg
  have hb:SlOk w.toList lo hi:=⟨h0.1,h0.2.1,by rw [Vector.length_toList]; exact h0.2.2⟩
  refine ⟨_,_,_,rfl,fun hP=> ?_⟩;obtain ⟨F',gs,h1,h3⟩:=gP hm hP;obtain ⟨j,hj,_⟩:=jK h1 hw;exact mF (D6 (p:=x.p) (T:=T) hj) hb (cg hb).symm h3
abbrev giv (t:Ty) (s:SV D) (H:SH D):Option (List (D.d t) × SH D):=
 match s with
 | .nilS=>some ([],H)
 | .sl nm=>match H.get nm with
  | some (.own t' l)=>match castL t' t l with
   | some l=>some (l,H.set nm (.away t'))
   | none=>none
  | _=>none
 | .sw nm lo hi=>match H.get nm with
  | some (.own t' l)=>match castL t' t l with
   | some l=>some (sub l lo hi,H.set nm (.away t'))
   | none=>none
  | _=>none
 | _=>none
theorem JI {Y:Type} {E:Rp Y} {a:Option Addr} {nl c:Nat} {l:List Y} {lo hi:Int} (I:Inv h (ownS E a nl c l::A)) (H:SlOk l lo hi):
  Inv h (ownS E (resl a c E.n lo) (sub l lo hi).length (c - lo.toNat) (sub l lo hi)::A):=by
 refine I.conv fun F M ⟨_,T,vs,g1,g2⟩=>⟨rfl, ?_⟩
 have hsl:=cg H;obtain ⟨h0,h1,h2⟩:=H;have key:=IF (K:=fun s=>s=⟨resl a c E.n lo,hi.toNat - lo.toNat,c - lo.toNat⟩->Own h s T E.n ((vs.take (hi.toNat*E.n)).drop (lo.toNat*E.n)) F) g1 h0 h1 h2 (fun s hs _ _ e=>hs);exact ⟨T,_,by rw [hsl]; exact key.2.2 rfl,g2.sub (by omega) (by omega)⟩
theorem AE {t:Ty} {s:SV D} {v:Value} {l:List (D.d t)} (R:HR X ν ω H h A) (hv:iH ν s v) (hl:giv t s H=some (l,H')):
  ∃ ω',HR X ν ω' H' h (dsA D X (.own t) l v::A)/\SLe H ν ω H' ν ω':=by
 unfold giv at hl;split at hl
 case h_4=>cases hl
 ·cases hl
  have hv:v=_:=hv;subst hv;refine ⟨ω,HR.exI none (HR.exI 0 (HR.factI rfl ?_)),SLe.refl _ _ _⟩;exact R.back (Inv.nilO (D.r t) R.front)
 ·rename_i nm
  split at hl
  case h_2=>cases hl
  rename_i t' l' ho;split at hl
  case h_2=>cases hl
  rename_i l'' hc;obtain ⟨e,e2⟩:=dG hc;subst e; subst e2;cases hl;obtain ⟨x,hx,_,R3,s2⟩:=R.takeS ho;obtain ⟨y,hy,rfl⟩:=hv;rw [hx] at hy; cases hy;have en:=fF R3.front;refine ⟨_,HR.exI x.a (HR.exI x.c (HR.factI (by rw [en]) ?_)),s2⟩;exact R3.conv fun F M hP=>by rw [<- en]; exact hP
 ·rename_i nm lo hi
  split at hl
  case h_2=>cases hl
  rename_i t' l' ho;split at hl
  case h_2=>cases hl
  rename_i l'' hc;obtain ⟨e,e2⟩:=dG hc;subst e; subst e2;cases hl;obtain ⟨x,hx,esz,R3,s2⟩:=R.takeS ho;obtain ⟨y,hy,h0,rfl⟩:=hv;rw [hx] at hy; cases hy;have en:=fF R3.front
  have hb:SlOk l' lo hi:=⟨h0.1,h0.2.1,by rw [<- en]; exact h0.2.2⟩
  refine ⟨_,HR.exI (resl x.a x.c (D.r t').n lo) (HR.exI (x.c - lo.toNat) (HR.factI (by rw [cg hb,esz]) ?_)),s2⟩;exact R3.back (JI R3.front hb)
abbrev rdC (t:Ty) (s:SV D) (H:SH D):Option (List (D.d t)):=
 match s with
 | .nilS=>some []
 | .sl nm=>match H.get nm with
  | some (.rd t' l)=>castL t' t l
  | _=>none
 | .sw nm lo hi=>match H.get nm with
  | some (.rd t' l)=>match castL t' t l with
   | some l=>some (sub l lo hi)
   | none=>none
  | _=>none
 | _=>none
theorem M5 {t:Ty} {s:SV D} {v:Value} {l:List (D.d t)} (R:HR X ν ω H h A) (hv:iH ν s v) (hl:rdC t s H=some l): ∃ a c,v= .slice a l.length c/\Rd (D.r t) X a l.length c l:=by
 have hX: ∃ F M,X.P h F M:=by have I:=R.inv;exact Inv.get I
 obtain ⟨F0,M0,hX⟩:=hX;unfold rdC at hl;split at hl
 case h_4=>cases hl
 ·cases hl
  have hv:v=_:=hv;subst hv;exact ⟨_,_,rfl,EV⟩
 ·rename_i nm
  split at hl
  case h_2=>cases hl
  rename_i t' l' ho;obtain ⟨e,e2⟩:=dG hl;subst e; subst e2;obtain ⟨x,g,hx,_,k⟩:=R.dup ho;obtain ⟨y,hy,rfl⟩:=hv;have ey:y=x:=by rw [hx] at hy; exact (Option.some.inj hy).symm
  subst y
  have R2:=k (factA (Rd (D.r t') X x.a x.n x.c l') emp) fun F M hP=>⟨hP.1.2,rfl⟩
  obtain ⟨hr,_⟩:=HR.factE R2;have en:x.n=l'.length:=(hr hX).1;exact ⟨x.a,x.c,by rw [en],by rw [<- en]; exact hr⟩
 ·rename_i nm lo hi
  split at hl
  case h_2=>cases hl
  rename_i t' l' ho;split at hl
  case h_2=>cases hl
  rename_i l'' hc;obtain ⟨e,e2⟩:=dG hc;subst e; subst e2;cases hl;obtain ⟨x,g,hx,_,k⟩:=R.dup ho;obtain ⟨y,hy,h0,rfl⟩:=hv;have ey:y=x:=by rw [hx] at hy; exact (Option.some.inj hy).symm
  subst y
  have R2:=k (factA (x.sz=(D.r t').n/\Rd (D.r t') X x.a x.n x.c l') emp) fun F M hP=>⟨hP.1,rfl⟩
  obtain ⟨⟨esz,hr⟩,_⟩:=HR.factE R2;have en:x.n=l'.length:=(hr hX).1
  have hb:SlOk l' lo hi:=⟨h0.1,h0.2.1,by rw [<- en]; exact h0.2.2⟩
  refine ⟨resl x.a x.c (D.r t').n lo,x.c - lo.toNat,by rw [cg hb,esz], ?_⟩;exact mF hr hb rfl
abbrev givM (k:IntKind) (t:Ty) (g:Bool) (s:SV D) (H:SH D):Option (Option (List (Int × D.d t)) × SH D):=
 match s with
 | .nilM=>some (none,H)
 | .map nm=>match H.get nm with
  | some (.map k' t' g' L)=>if e:t'=t then (bif sameKind k k' && (g==g') then some (e ▸ L,H.set nm .gone) else none) else none
  | _=>none
 | _=>none
theorem B0 {k:IntKind} {t:Ty} {g:Bool} {s:SV D} {v:Value} {L:Option (List (Int × D.d t))} (R:HR X ν ω H h A) (hv:iH ν s v) (hl:givM k t g s H=some (L,H')):
  ∃ ω',HR X ν ω' H' h (dsA D X (.map k t g) L v::A)/\SLe H ν ω H' ν ω':=by
 unfold givM at hl;split at hl
 case h_3=>cases hl
 ·cases hl
  have hv:v=_:=hv;subst hv;refine ⟨ω,HR.exI none (HR.exI none (HR.factI rfl ?_)),SLe.refl _ _ _⟩;exact R.back (Inv.nilM (kI k) (D.r t) g R.front)
 ·rename_i nm
  split at hl
  case h_2=>cases hl
  rename_i k' t' g' L' ho;split at hl
  case isFalse=>cases hl
  rename_i e;subst e
  cases hk:(sameKind k k' && (g==g')) with
  | false=>rw [hk] at hl; cases hl
  | true=> rw [hk] at hl;simp only [Bool.and_eq_true,beq_iff_eq] at hk;have:=bH hk.1; subst this;have:=hk.2; subst this;cases hl;obtain ⟨x,gm,hx,R2,s2⟩:=R.take ho;obtain ⟨y,hy,rfl⟩:=hv;rw [hx] at hy; cases hy;exact ⟨_,HR.exI x.m (HR.exI gm (HR.factI rfl R2)),s2⟩
abbrev pkC:(c:Cd)->List (SV D)->SH D->Option (c.den D × List (SV D) × SH D)
 | .v t,l,H=>match enc t (l.take (leavesOf D t).length) H with
  | some (x,H')=>some (x,l.drop (leavesOf D t).length,H')
  | none=>none
 | .own t,s::l,H=>match giv t s H with
  | some (x,H')=>some (x,l,H')
  | none=>none
 | .map k t g,s::l,H=>match givM k t g s H with
  | some (x,H')=>some (x,l,H')
  | none=>none
 | _,_,_=>none
abbrev pkCs:(cs:List Cd)->List (SV D)->SH D->Option (TupC D cs × SH D)
 | [],[],H=>some ((),H)
 | c::cs,l,H=>match pkC c l H with
  | some (x,l',H')=>match pkCs cs l' H' with
   | some (r,H'')=>some ((x,r),H'')
   | none=>none
  | none=>none
 | _,_,_=>none
abbrev pkBl (T:Nat) (cs:List Cd) (nm:Nat) (H:SH D):Option (TupC D cs × SH D):=
 match H.get nm with
 | some (.blk T' ss)=>bif Nat.beq T T' then pkCs cs ss (H.set nm .gone) else none
 | _=>none
abbrev pkB:(bs:List (Nat × List Cd))->List Nat->SH D->Option (TupB D bs × SH D)
 | [],[],H=>some ((),H)
 | b::bs,nm::ns,H=>match pkBl b.1 b.2 nm H with
  | some (x,H')=>match pkB bs ns H' with
   | some (r,H'')=>some ((x,r),H'')
   | none=>none
  | none=>none
 | _,_,_=>none
def shB:Bool->SV D->Bool
 | b, .agg _=>b
 | b, .vec .. =>b
 | _, .tup _=>false
 | b,_=> !b
theorem EX {b:Bool} {s:SV D} {v:Value} (h:VR ν s v) (ho:(flat s).all okC=true) (hb:shB b s=true):v=vOf b v.cells.toList:=by
  have h1:=h.one ho
  cases s <;> simp only [shB,Bool.not_eq_true',Bool.false_eq_true] at hb <;> subst hb <;> simp only [BU] at h1 <;> first
    | (obtain ⟨vs,_,rfl⟩:=h1; simp [vOf,Value.cells]; done)
    | (subst h1; simp [vOf,Value.cells]; done)
    | (simp [Ex.flat,okC] at ho; done)
    | (simp only [iH] at h1
       first
         | (subst h1; simp [vOf,Value.cells]; done)
         | (obtain ⟨_,_,rfl⟩:=h1; simp [vOf,Value.cells]; done)
         | (obtain ⟨_,_,_,rfl⟩:=h1; simp [vOf,Value.cells]; done)
         | (obtain ⟨_,_,_,_,rfl⟩:=h1; simp [vOf,Value.cells]; done))
abbrev pkD:(d:Ds)->SV D->SH D->Option (d.den D × SH D)
 | .val t,s,H=>bif (flat s).all okC && shB (aggT t) s then enc t (flat s) H else none
 | .own t,s,H=>giv t s H
 | .rd t,s,H=>match rdC t s H with
  | some l=>some (l,H)
  | none=>none
 | .map k t g,s,H=>givM k t g s H
 | .blk T cs, .ad nm off,H=>match off with
  | 0=>pkBl T cs nm H
  | _=>none
 | .fn f bs, .fn f' ns,H=>bif Nat.beq f f' then pkB bs ns H else none
 | .al _ _,_,H=>some ((),H)
 | _,_,_=>none
abbrev pkL:(ds:List Ds)->List (SV D)->SH D->Option (TupD D ds × SH D)
 | [],[],H=>some ((),H)
 | d::ds,s::l,H=>match pkD d s H with
  | some (x,H')=>match pkL ds l H' with
   | some (r,H'')=>some ((x,r),H'')
   | none=>none
  | none=>none
 | _,_,_=>none
theorem CR.v0' {s:SV D} {u:List Value} (h:CR ν s u) (hs: ∀ k n w,s ≠ .vec k n w): ∃ v,u=[v]/\iH ν s v:=h.v0 hs
theorem M6 {t:Ty} {s:SV D} {l:List (D.d t)} (h:giv t s H=some (l,H')): ∀ k n w,s ≠ .vec k n w:=by rintro k n w rfl;simp [giv] at h
theorem JJ {k:IntKind} {t:Ty} {g:Bool} {s:SV D} {l:Option (List (Int × D.d t))} (h:givM k t g s H=some (l,H')): ∀ k n w,s ≠ .vec k n w:=by rintro k n w rfl;simp [givM] at h
theorem M7 {c:Cd} {l l':List (SV D)} {x:c.den D} {vs:List Value} (R:HR X ν ω H h A) (hc:CRL ν l vs) (hp:pkC c l H=some (x,l',H')):
  ∃ ω' u w,HR X ν ω' H' h (cdA D c x u::A)/\SLe H ν ω H' ν ω'/\vs=u++w/\CRL ν l' w:=by
 cases c with
 | v t=>
  simp only [pkC] at hp;split at hp
  case h_2=>cases hp
  rename_i y H1 he;cases hp;rw [<- List.take_append_drop (leavesOf D t).length l] at hc;obtain ⟨u,w,e,c1,c2⟩:=hc.split;obtain ⟨ω',R2,s2⟩:=vL R c1 he
  exact ⟨ω',u,w,R2,s2,e,c2⟩
 | own t=>
  cases l with
  | nil=>simp [pkC] at hp
  | cons s l=>
   simp only [pkC] at hp;split at hp
   case h_2=>cases hp
   rename_i y H1 he;cases hp;obtain ⟨u,w,e,c1,c2⟩:=hc;obtain ⟨v,rfl,hv⟩:=c1.v0' (M6 he);obtain ⟨ω',R2,s2⟩:=AE R hv he
   refine ⟨ω',[v],w,R2.conv fun F M ⟨a,c,e,hP⟩=>⟨a,c,by rw [e],hP⟩,s2,e,c2⟩
 | map k t g=>
  cases l with
  | nil=>simp [pkC] at hp
  | cons s l=>
   simp only [pkC] at hp;split at hp
   case h_2=>cases hp
   rename_i y H1 he;cases hp;obtain ⟨u,w,e,c1,c2⟩:=hc;obtain ⟨v,rfl,hv⟩:=c1.v0' (JJ he);obtain ⟨ω',R2,s2⟩:=B0 R hv he;refine ⟨ω',[v],w,R2.conv fun F M ⟨a,c,e,hP⟩=>⟨a,c,by rw [e],hP⟩,s2,e,c2⟩
theorem B6: ∀ {cs:List Cd} {l:List (SV D)} {x:TupC D cs} {vs:List Value} {H:SH D} {ω:List Gm} {A:List At},HR X ν ω H h A->CRL ν l vs->pkCs cs l H=some (x,H')->
  ∃ ω',HR X ν ω' H' h (tcA D cs x vs::A)/\SLe H ν ω H' ν ω'
 | [],[],x,vs,H,ω,A,R,hc,hp=>by
  simp only [pkCs,Option.some.injEq,Prod.mk.injEq] at hp;obtain ⟨_,rfl⟩:=hp;have hc:vs=[]:=hc
  exact ⟨ω,R.addP fun M=>⟨hc,rfl⟩,SLe.refl _ _ _⟩
 | [],_::_,_,_,_,_,_,_,_,hp=>by simp [pkCs] at hp
 | c::cs,l,x,vs,H,ω,A,R,hc,hp=>by
  simp only [pkCs] at hp;split at hp
  case h_2=>cases hp
  rename_i y l' H1 h1;split at hp
  case h_2=>cases hp
  rename_i r H2 h2;cases hp;obtain ⟨ω1,u,w,R1,s1,e,c2⟩:=M7 R hc h1;obtain ⟨ω2,R2,s2⟩:=B6 R1 c2 h2;exact ⟨ω2,HR.exI u (HR.exI w (HR.factI e (HR.sepI R2.swap))),s1.trans s2⟩
theorem B9 {T nm:Nat} {cs:List Cd} {x:TupC D cs} {y:Nm} (R:HR X ν ω H h A) (hy:ν[nm]? =some y) (hp:pkBl T cs nm H=some (x,H')):
  ∃ ω' vs,HR X ν ω' H' h (sep (blkA y.p T vs) (tcA D cs x vs)::A)/\SLe H ν ω H' ν ω':=by
 unfold pkBl at hp;split at hp
 case h_2=>cases hp
 rename_i T' ss ho
 cases hT:Nat.beq T T' with
 | false=>rw [hT] at hp; cases hp
 | true=>
  rw [hT] at hp;have:T=T':=by simpa using hT
  subst this;obtain ⟨x',g,hx,R2,s2⟩:=R.take ho;have e0:x'=y:=by rw [hx] at hy; exact Option.some.inj hy
  subst e0;replace R2:=HR.exE R2;obtain ⟨gs,R2⟩:=R2;replace R2:=HR.factE R2;obtain ⟨h1,R2⟩:=R2;obtain ⟨ω3,R3,s3⟩:=B6 R2 h1.cells hp;refine ⟨ω3,segs gs,HR.sepI (R3.swap.conv fun F M hP=>⟨gs,rfl,hP⟩),s2.trans s3⟩
theorem EY: ∀ {bs:List (Nat × List Cd)} {ns:List Nat} {x:TupB D bs} {ys:List Nm} {H:SH D} {ω:List Gm} {A:List At},HR X ν ω H h A->ns.map (fun nm=>ν[nm]?)=ys.map some->pkB bs ns H=some (x,H')->
  ∃ ω',HR X ν ω' H' h (bsA D bs x (ys.map Nm.p)::A)/\SLe H ν ω H' ν ω'
 | [],[],x,ys,H,ω,A,R,hy,hp=>by
  simp only [pkB,Option.some.injEq,Prod.mk.injEq] at hp;obtain ⟨_,rfl⟩:=hp
  have:ys=[]:=by cases ys with
   | nil=>rfl
   | cons a b=>simp at hy
  subst this
  exact ⟨ω,R.addP fun M=>⟨rfl,rfl⟩,SLe.refl _ _ _⟩
 | b::bs,nm::ns,x,ys,H,ω,A,R,hy,hp=>by
  cases ys with
  | nil=>simp at hy
  | cons y ys=>
   simp only [List.map_cons,List.cons.injEq] at hy;simp only [pkB] at hp;split at hp
   case h_2=>cases hp
   rename_i z H1 h1;split at hp
   case h_2=>cases hp
   rename_i r H2 h2;cases hp;obtain ⟨ω1,vs,R1,s1⟩:=B9 R hy.1 h1;obtain ⟨ω2,R2,s2⟩:=EY R1 hy.2 h2
   exact ⟨ω2,HR.exI y.p (HR.exI (ys.map Nm.p) (HR.exI vs (HR.factI rfl (HR.sepI R2.swap)))),s1.trans s2⟩
 | [],_::_,_,_,_,_,_,_,_,hp=>by simp [pkB] at hp
 | _::_,[],_,_,_,_,_,_,_,hp=>by simp [pkB] at hp
theorem AF {d:Ds} {s:SV D} {x:d.den D} {v:Value} (R:HR X ν ω H h A) (hv:VR ν s v) (hp:pkD d s H=some (x,H')):
  ∃ ω',HR X ν ω' H' h (dsA D X d x v::A)/\SLe H ν ω H' ν ω':=by
 have v0:(∀ l,s ≠ .agg l)->(∀ l,s ≠ .tup l)->(∀ k n w,s ≠ .vec k n w)->iH ν s v:=by
  intro h1 h2 h3
  cases s <;> first
   | exact absurd rfl (h1 _)
   | exact absurd rfl (h2 _)
   | exact absurd rfl (h3 _ _ _)
   | exact hv
 cases d with
 | val t=>
  simp only [pkD] at hp
  cases hb:((flat s).all okC && shB (aggT t) s) with
  | false=>rw [hb] at hp; cases hp
  | true=>
   rw [hb] at hp;simp only [Bool.and_eq_true] at hb;obtain ⟨ω1,R1,s1⟩:=vL R ((hv.one hb.1).flat hb.1) hp
   exact ⟨ω1,HR.exI _ (HR.factI (EX hv hb.1 hb.2) R1),s1⟩
 | own t=>
  simp only [pkD] at hp
  refine AE R (v0 ?_ ?_ ?_) hp <;> (intros; rintro rfl; simp [giv] at hp)
 | rd t=>
  simp only [pkD] at hp;split at hp
  case h_2=>cases hp
  rename_i l hl;cases hp;obtain ⟨a,c,e,hr⟩:=M5 R (v0 (by rintro l rfl; simp [rdC] at hl) (by rintro l rfl; simp [rdC] at hl) (by rintro k n w rfl; simp [rdC] at hl)) hl
  exact ⟨ω,R.addP fun M=>⟨a,c,⟨e,hr⟩,rfl⟩,SLe.refl _ _ _⟩
 | map k t g=>
  simp only [pkD] at hp
  refine B0 R (v0 ?_ ?_ ?_) hp <;> (intros; rintro rfl; simp [givM] at hp)
 | blk T cs=>
  cases s with
  | ad nm off=>
   simp only [pkD] at hp;split at hp
   case h_2=>cases hp
   obtain ⟨y,hy,rfl⟩:=hv;obtain ⟨ω1,vs,R1,s1⟩:=B9 R hy hp
   exact ⟨ω1,HR.exI y.p (HR.exI vs (HR.factI (by simp [Addr.add]) R1)),s1⟩
  | _=>simp [pkD] at hp
 | fn f bs=>
  cases s with
  | fn f' ns=>
   simp only [pkD] at hp
   cases hf:Nat.beq f f' with
   | false=>rw [hf] at hp; cases hp
   | true=>
    rw [hf] at hp;have:f=f':=by simpa using hf
    subst this;obtain ⟨ys,h1,rfl⟩:=hv;obtain ⟨ω1,R1,s1⟩:=EY R h1 hp
    exact ⟨ω1,HR.exI (ys.map Nm.p) (HR.factI (by rw [List.map_map]; rfl) R1),s1⟩
  | _=>simp [pkD] at hp
 | al f js=>
  have hp:some ((),H)=some (x,H'):=by cases s <;> exact hp
  cases hp;exact ⟨ω,R.addP fun M=>rfl,SLe.refl _ _ _⟩
theorem AG: ∀ {ds:List Ds} {l:List (SV D)} {x:TupD D ds} {vs:List Value} {H:SH D} {ω:List Gm} {A:List At},HR X ν ω H h A->dA (VR ν) l vs->pkL ds l H=some (x,H')->
  ∃ ω',HR X ν ω' H' h (dsL D X ds x vs::A)/\SLe H ν ω H' ν ω'
 | [],[],x,_,H,ω,A,R,hc,hp=>by
  simp only [pkL,Option.some.injEq,Prod.mk.injEq] at hp;obtain ⟨_,rfl⟩:=hp;cases hc
  exact ⟨ω,R.addP fun M=>⟨rfl,rfl⟩,SLe.refl _ _ _⟩
 | d::ds,s::l,x,_,H,ω,A,R, .cons hv hc,hp=>by
  simp only [pkL] at hp;split at hp
  case h_2=>cases hp
  rename_i y H1 h1;split at hp
  case h_2=>cases hp
  rename_i r H2 h2;cases hp;obtain ⟨ω1,R1,s1⟩:=AF R hv h1;obtain ⟨ω2,R2,s2⟩:=AG R1 hc h2
  exact ⟨ω2,HR.exI _ (HR.exI _ (HR.factI rfl (HR.sepI R2.swap))),s1.trans s2⟩
 | [],_::_,_,_,_,_,_,_,_,hp=>by simp [pkL] at hp
 | _::_,[],_,_,_,_,_,_,_,hp=>by simp [pkL] at hp
end Go.Ex
namespace Go.Ex
open Go Go.Wc Go.Pu
variable {D:Tabs}
abbrev EnvS (D:Tabs):=List (Nat × SV D)
abbrev findS:EnvS D->Nat->Option (SV D)
 | [],_=>none
 | (k,v)::r,n=>cnd (Nat.beq k n) (some v) (findS r n)
abbrev KS (D:Tabs):=(SH D->Bool)->SV D->SH D->Prop
abbrev tt:SH D->Bool:=fun _=>true
def rY:Value->SV D
 | .int k n=> .int k n
 | .bool b=> .bool b
 | .string s=> .str s
 | .pointer none=> .nilP
 | .slice none 0 0=> .nilS
 | .map none=> .nilM
 | .nilFunc=> .nilF
 | _=> .opq
def ofC:Value->SV D
 | .agg cs=> .agg (cs.toList.map rY)
 | v=>rY v
abbrev evS (Γ:EnvS D):Operand->SV D
 | .tmp t=>(findS Γ t).getD .undef
 | .const v=>ofC v
 | .global _=> .opq
 | .func f=> .fn f []
abbrev presentS (Γ:EnvS D):Operand->Bool
 | .tmp t=>(findS Γ t).isSome
 | _=>true
def stillB:SV D->Bool
 | .el .. =>false
 | .ve .. =>false
 | _=>true
def takeInts (k:IntKind):Nat->List (SV D)->Option (List Int × List (SV D))
 | 0,l=>some ([],l)
 | n+1, .int k' x::l=>bif sameKind k k' then (match takeInts k n l with
  | some (xs,r)=>some (x::xs,r)
  | none=>none) else none
 | _+1,_=>none
def shapeL:List CK->List (SV D)->Option (List (SV D))
 | [],[]=>some []
 | c::cs,l=>match c,l with
  | .lump _ _, .vec k' n' v::r=>match shapeL cs r with
   | some r=>some (.vec k' n' v::r)
   | none=>none
  | .lump k n,l=>match takeInts k n l with
   | some (xs,r)=>match shapeL cs r with
    | some r=>some (.vec k n (toV n xs)::r)
    | none=>none
   | none=>none
  | _,s::r=>match shapeL cs r with
   | some r=>some (s::r)
   | none=>none
  | _,[]=>none
 | _,_=>none
def Ca:CK->Option (SV D)
 | .int k=>some (.int k 0)
 | .bool=>some (.bool false)
 | .str=>some (.str ⟨⟨[]⟩⟩)
 | .ptr=>some .nilP
 | .sl=>some .nilS
 | .map=>some .nilM
 | .lump k n=>some (.vec k n (Vector.replicate n 0))
 | .any=>none
def zeroP:List CK->Option (List (SV D))
 | []=>some []
 | c::r=>match Ca c,zeroP r with
  | some s,some l=>some (s::l)
  | _,_=>none
def isZ:Int->Bool
 | .ofNat n=>Nat.beq n 0
 | _=>false
def zInts (k:IntKind):Nat->List Value->Option (List Value)
 | 0,l=>some l
 | n+1, .int k' x::l=>bif sameKind k k' && isZ x then zInts k n l else none
 | _+1,_=>none
def PD:CK->Value->Bool
 | .int k, .int k' x=>sameKind k k' && isZ x
 | .bool, .bool b=> !b
 | .str, .string s=>match s with
  | ⟨⟨[]⟩⟩=>true
  | _=>false
 | .ptr, .pointer none=>true
 | .sl, .slice none 0 0=>true
 | .map, .map none=>true
 | _,_=>false
def zOkB:List CK->List Value->Bool
 | [],[]=>true
 | .lump k n::cs,l=>match zInts k n l with
  | some r=>zOkB cs r
  | none=>false
 | c::cs,v::l=>PD c v && zOkB cs l
 | _,_=>false
def zeroV (ti:TI):Option (List (SV D)):=bif zOkB ti.gC ti.zero.cells.toList then zeroP ti.gC else none
def plainV:SV D->Option Value
 | .int k n=>some (.int k n)
 | .bool b=>some (.bool b)
 | .str s=>some (.string s)
 | _=>none
def ofV:Value->Option (SV D)
 | .int k n=>some (.int k n)
 | .bool b=>some (.bool b)
 | .string s=>some (.str s)
 | _=>none
abbrev kV (K:SV D->Prop) (v:Value):Prop:=match (ofV v:Option (SV D)) with
 | some s=>K s
 | none=>False
abbrev intS (op:BinOp) (k:IntKind) (x y:Int) (K:SV D->Prop):Prop:=
 match op with
 | .quo=>nzW y fun _=>K (.int k (k.wrap (x.tdiv y)))
 | .rem=>nzW y fun _=>K (.int k (x.tmod y))
 | op=>intB op k x y (kV K)
abbrev shS (op:BinOp) (k:IntKind) (x y:Int) (K:SV D->Prop):Prop:=
 match op with
 | .shl=>jn y fun _=>K (.int k (k.wrap (x*2 ^ (min y.toNat k.bits))))
 | .shr=>jn y fun _=>K (.int k (x.fdiv (2 ^ (min y.toNat k.bits))))
 | _=>False
abbrev eqFsS (τ:Tys) (eq:Nat->List (SV D)->List (SV D)->(Bool->Prop)->Prop) (xs ys:List (SV D)):List (Nat × Nat)->(Bool->Prop)->Prop
 | [],K=>K true
 | (ft,off)::fs,K=>match τ.get ft with
  | none=>False
  | some tf=>match getP xs off tf.size,getP ys off tf.size with
   | some u,some v=>eq ft u v fun b=>eqFsS τ eq xs ys fs fun c=>K (b && c)
   | _,_=>False
abbrev eqS (τ:Tys):Nat->Nat->List (SV D)->List (SV D)->(Bool->Prop)->Prop
 | 0,_,_,_,_=>False
 | d+1,t,x,y,K=>match τ.get t with
  | none=>False
  | some ti=>match ti.kd,x,y with
   | .bool,[.bool a],[.bool b]=>K (a==b)
   | .int _,[.int k a],[.int k' b]=>cnd (sameKind k k') (K (a==b)) False
   | .str,[.str a],[.str b]=>K (a==b)
   | .struct fs,xs,ys=>cnd ti.eq (eqFsS τ (eqS τ d) xs ys fs K) False
   | .arr n e,[.vec k m v],[.vec k' m' w]=>match τ.get e with
    | some te=>match te.kd with
     | .int k0=>cnd (Nat.beq te.size 1 && sameKind k0 k && sameKind k0 k' && Nat.beq n m && Nat.beq n m') (K (v.toList==w.toList)) False
     | _=>False
    | none=>False
   | _,_,_=>False
abbrev eqT (τ:Tys) (t:Nat) (x y:SV D) (H:SH D) (K:Bool->Prop):Prop:=match τ.get t with
 | none=>False
 | some ti=>match ti.kd with
  | .struct _=>match shapeL ti.gC (flat x),shapeL ti.gC (flat y) with
   | some xs,some ys=>cnd (ti.eq && (flat x).all okC && (flat y).all okC && shB true x && shB true y) (eqS τ 6 t xs ys K) False
   | _,_=>False
  | .arr _ _=>match shapeL ti.gC (flat x),shapeL ti.gC (flat y) with
   | some xs,some ys=>cnd (ti.eq && (flat x).all okC && (flat y).all okC && shB true x && shB true y) (eqS τ 6 t xs ys K) False
   | _,_=>False
  | .bool=>match x,y with
   | .bool a, .bool b=>K (a==b)
   | _,_=>False
  | .ptr _=>match x,y with
   | .ob p, .nilP=>K p.isNone
   | .nilP, .ob p=>K p.isNone
   | .nilP, .nilP=>K true
   | .ad .., .nilP=>K false
   | .oa .., .nilP=>K false
   | .nilP, .ad .. =>K false
   | .nilP, .oa .. =>K false
   | _,_=>False
  | .slice _=>match x,y with
   | .nilS, .nilS=>K true
   | _,_=>False
  | .map _ _=>match x,y with
   | .nilM, .nilM=>K true
   | .map nm, .nilM=>match H.get nm with
    | some (.map _ _ _ L)=>K L.isNone
    | _=>False
   | _,_=>False
  | .func=>match x,y with
   | .nilF, .nilF=>K true
   | .fn .., .nilF=>K false
   | _,_=>False
  | _=>False
abbrev binS (τ:Tys) (op:BinOp) (t:Nat) (x y:SV D) (H:SH D) (K:SV D->Prop):Prop:=
 match x,y with
 | .int k a, .int k' b=>match op with
  | .shl=>shS .shl k a b K
  | .shr=>shS .shr k a b K
  | op=>cnd (sameKind k k') (intS op k a b K) False
 | .str a, .str b=>strB op a b (kV K)
 | x,y=>match op with
  | .eql=>eqT τ t x y H fun b=>K (.bool b)
  | .neq=>eqT τ t x y H fun b=>K (.bool !b)
  | _=>False
abbrev verB (nm ver:Nat):SH D->Bool:=fun H=>Nat.beq (H.ver nm) ver
abbrev partS (ti:TI) (p:List (SV D)) (K:SV D->Prop):Prop:=
 cnd (cksB ti.gC p && Nat.beq (ckns ti.gC) ti.size) (match ofP (Wc.isAgg ti.kd) p with
  | some s=>cnd (stillB s) (K s) False
  | none=>False) False
def ki:Ty->Bool
 | .st _=>false
 | .list _=>false
 | _=>true
def plainT (D:Tabs):Ty->Bool
 | .st i=>(D.leaves i).all ki
 | .list _=>false
 | _=>true
abbrev loadS (τ:Tys) (t:Nat) (a:SV D) (H:SH D) (K:KS D):Prop:=
 match τ.get t with
 | none=>False
 | some ti=>match a with
  | .ad nm off=>match H.get nm with
   | some (.blk _ ss)=>match getP ss off ti.size with
    | some p=>partS ti p fun s=>K (verB nm (H.ver nm)) s H
    | none=>False
   | _=>False
  | .el nm ver i off t' x=>cnd (Nat.beq (H.ver nm) ver) (match getP (dec t' x H).1 off ti.size with
    | some p=>partS ti p fun s=>K (cnd (plainT D t') (verB nm ver) fun _=>false) s (dec t' x H).2
    | none=>False) False
  | .ve nm ver off k n i x=>cnd (Nat.beq (H.ver nm) ver) (match ti.gC with
    | [.int k']=>cnd (sameKind k k' && !(Wc.isAgg ti.kd)) (K (verB nm ver) (.int k x) H) False
    | _=>False) False
  | _=>False
abbrev storeS (τ:Tys) (t:Nat) (a x:SV D) (H:SH D) (K:KS D):Prop:=
 match τ.get t with
 | none=>False
 | some ti=>match shapeL ti.gC (flat x) with
  | none=>False
  | some new=>cnd (new.all okC && new.all stillB && Nat.beq (sizeL new) ti.size) (match a with
   | .ad nm off=>match H.get nm with
    | some (.blk T ss)=>match setP ss off new with
     | some ss'=>K tt .undef (H.set nm (.blk T ss'))
     | none=>False
    | _=>False
   | .el nm ver i off t' _=>cnd (Nat.beq (H.ver nm) ver && Nat.beq off 0 && Nat.beq (sizeL new) (D.r t').n) (match enc t' new H with
    | some (y,H')=>match H'.get nm with
     | some (.own t2 l)=>match castL t2 t' l with
      | some l=>K tt .undef (H'.set nm (.own t' (l.set i.toNat y)))
      | none=>False
     | _=>False
    | none=>False) False
   | .ve nm ver off k n i _=>cnd (Nat.beq (H.ver nm) ver) (match H.get nm,new with
    | some (.blk T ss),[.int k' y]=>cnd (sameKind k k') (match vecAt ss off k n with
     | some w=>match setP ss off [.vec k n (w.setIfInBounds i.toNat y)] with
      | some ss'=>K tt .undef (H.set nm (.blk T ss'))
      | none=>False
     | none=>False) False
    | _,_=>False) False
   | _=>False) False
def lstO:SO D->Option ((t:Ty) × List (D.d t))
 | .own t l=>some ⟨t,l⟩
 | .ro t l=>some ⟨t,l⟩
 | .rd t l=>some ⟨t,l⟩
 | _=>none
def lstN (H:SH D) (nm:Nat):Option ((t:Ty) × List (D.d t)):=match H.get nm with
 | some o=>lstO o
 | none=>none
abbrev indexS (τ:Tys) (t:Nat) (x i:SV D) (H:SH D) (K:KS D):Prop:=
 match τ.get t with
 | none=>False
 | some ti=>match ti.kd,i with
  | .slice e, .int _ j=>match τ.get e with
   | none=>False
   | some te=>match x with
    | .sl nm=>match lstN H nm with
     | some ⟨t,l⟩=>cnd (Nat.beq te.size (D.r t).n && !Nat.beq te.size 0) (ixP l j fun x=>K tt (.el nm (H.ver nm) j 0 t x) H) False
     | none=>False
    | .sw nm lo hi=>match lstN H nm with
     | some ⟨t,l⟩=>cnd (Nat.beq te.size (D.r t).n && !Nat.beq te.size 0) (ixP (sub l lo hi) j fun x=>K tt (.el nm (H.ver nm) (lo+j) 0 t x) H) False
     | none=>False
    | .vs nm off k n lo hi=>match H.get nm with
     | some (.blk _ ss)=>match vecAt ss off k n with
      | some w=>cnd (Nat.beq te.size 1) (ixP (subA n w.toList lo hi) j fun x=>K tt (.ve nm (H.ver nm) off k n (lo+j) x) H) False
      | none=>False
     | _=>False
    | _=>False
  | .arr n e, .int _ j=>match τ.get e with
   | none=>False
   | some te=>match te.kd,x with
    | .int k, .ad nm off=>match H.get nm with
     | some (.blk _ ss)=>match vecAt ss off k n with
      | some w=>cnd (Nat.beq te.size 1) (ixP w.toList j fun x=>K tt (.ve nm (H.ver nm) off k n j x) H) False
      | none=>False
     | _=>False
    | _,_=>False
  | _,_=>False
abbrev lenS (τ:Tys) (t:Nat) (x:SV D) (H:SH D) (K:KS D):Prop:=match τ.get t with
 | none=>False
 | some ti=>match ti.kd with
  | .str=>match x with
   | .str s=>K tt (.int .i64 s.size) H
   | _=>False
  | .slice _=>match x with
   | .nilS=>K tt (.int .i64 ((0:Nat):Int)) H
   | .sl nm=>match lstN H nm with
    | some ⟨_,l⟩=>K tt (.int .i64 (l.length:Int)) H
    | none=>False
   | .sw nm lo hi=>match lstN H nm with
    | some ⟨_,l⟩=>K tt (.int .i64 ((sub l lo hi).length:Int)) H
    | none=>False
   | .vs nm off k n lo hi=>match H.get nm with
    | some (.blk _ ss)=>match vecAt ss off k n with
     | some w=>K tt (.int .i64 ((subA n w.toList lo hi).length:Int)) H
     | none=>False
    | _=>False
   | _=>False
  | .map _ _=>match x with
   | .nilM=>K tt (.int .i64 0) H
   | .map nm=>match H.get nm with
    | some (.map _ _ _ L)=>K (verB nm (H.ver nm)) (.int .i64 ((L.getD []).length:Int)) H
    | _=>False
   | _=>False
  | .arr n _=>K tt (.int .i64 (n:Int)) H
  | _=>False
abbrev loE (lo:Option (SV D)):SV D:=match lo with
 | some y=>y
 | none=> .int .i64 0
abbrev subS (nm:Nat) (t:Ty) (l:List (D.d t)) (i j:Int) (H:SH D) (K:KS D):Prop:=
 match H.get nm with
 | some (.own _ _)=>K tt (.sw nm i j) H
 | some (.ro _ _)=>K tt (.sl H.nx) (H.new (.ro t (sub l i j)))
 | some (.rd _ _)=>K tt (.sl H.nx) (H.new (.rd t (sub l i j)))
 | _=>False
abbrev sliceS (τ:Tys) (t:Nat) (x:SV D) (lo:Option (SV D)) (hi:Option (SV D)) (H:SH D) (K:KS D):Prop:=
 match τ.get t with
 | none=>False
 | some ti=>match ti.kd,loE lo with
  | .slice e, .int _ i=>match τ.get e with
   | none=>False
   | some te=>match x with
    | .sl nm=>match hi with
     | none=>match lstN H nm with
      | some ⟨t,l⟩=>cnd (Nat.beq te.size (D.r t).n) (SlOk l i l.length/\subS nm t l i l.length H K) False
      | none=>False
     | some (.int _ j)=>match lstN H nm with
      | some ⟨t,l⟩=>cnd (Nat.beq te.size (D.r t).n) (SlOk l i j/\subS nm t l i j H K) False
      | none=>False
     | _=>False
    | .nilS=>match i,hi with
     | .ofNat 0,none=>K tt .nilS H
     | .ofNat 0,some (.int _ (.ofNat 0))=>K tt .nilS H
     | _,_=>False
    | _=>False
  | .str, .int _ i=>match x,hi with
   | .str s,none=>stW s i s.size fun s=>K tt (.str s) H
   | .str s,some (.int _ j)=>stW s i j fun s=>K tt (.str s) H
   | _,_=>False
  | .arr n e, .int _ i=>match τ.get e with
   | none=>False
   | some te=>match te.kd,x with
    | .int k, .ad nm off=>match H.get nm with
     | some (.blk _ ss)=>match vecAt ss off k n with
      | some w=>cnd (Nat.beq te.size 1) (match lo,hi with
       | none,none=>K tt (.vs nm off k n 0 n) H
       | _,none=>SlOk w.toList i ((n:Nat):Int)/\K tt (.vs nm off k n i n) H
       | _,some (.int _ j)=>SlOk w.toList i j/\K tt (.vs nm off k n i j) H
       | _,_=>False) False
      | none=>False
     | _=>False
    | _,_=>False
  | _,_=>False
abbrev sliceX (τ:Tys) (t:Nat) (x:SV D) (lo:Option (SV D)) (y z:SV D) (H:SH D) (K:KS D):Prop:=
 match τ.get t with
 | none=>False
 | some ti=>match ti.kd,loE lo,y,z with
  | .slice e, .int _ i, .int _ j, .int _ m=>match τ.get e with
   | none=>False
   | some te=>match x with
    | .sl nm=>match lstN H nm with
     | some ⟨t,l⟩=>cnd (Nat.beq te.size (D.r t).n) (SlOk l i j/\j=m/\K tt (.sf nm i j) H) False
     | none=>False
    | _=>False
  | _,_,_,_=>False
structure Ctr (D:Tabs) where
 ps:List Ds
 rs:List Ds
 bk:List (Nat × Ds)
 sg:Bool
 P:TupD D ps->Option (St D.O)->(TupD D rs->TupD D (bk.map (·.2))->Option (St D.O)->Prop)->Prop
abbrev Ctrs (D:Tabs):=List (Nat × Ctr D)
abbrev pkA:(ds:List Ds)->List (SV D)->SH D->Option (TupD D ds × SH D × List (Nat × Nat))
 | [],[],H=>some ((),H,[])
 | d::ds,s::l,H=>match d with
  | .rd t=>match listS t H s with
   | some x=>match pkA ds l H with
    | some (r,H',c)=>some ((x,r),H',(match baseS s with
     | some nm=>(nm,H.ver nm)::c
     | none=>c))
    | none=>none
   | none=>none
  | d=>match pkD d s H with
   | some (x,H')=>match pkA ds l H' with
    | some (r,H'',c)=>some ((x,r),H'',c)
    | none=>none
   | none=>none
 | _,_,_=>none
abbrev bkS:(d:Ds)->d.den D->SV D->SH D->Option (SH D)
 | .own t,l, .sl nm,H=>match H.get nm with
  | some (.away t')=>if t'=t then some (H.set nm (.own t l)) else none
  | _=>none
 | .own _,_, .nilS,H=>some H
 | .blk T cs,x, .ad nm 0,H=>match (unCs cs x H).2.get nm with
  | some .gone=>some ((unCs cs x H).2.set nm (.blk T (unCs cs x H).1))
  | _=>none
 | _,_,_,_=>none
abbrev bkL:(bk:List (Nat × Ds))->TupD D (bk.map (·.2))->List (SV D)->SH D->Option (SH D)
 | [],_,_,H=>some H
 | b::bk,z,args,H=>match args[b.1]? with
  | some s=>match bkS b.2 z.1 s H with
   | some H'=>bkL bk z.2 args H'
   | none=>none
  | none=>none
abbrev resS:List (SV D)->SV D
 | [s]=>s
 | l=> .tup l
def fnOk:List Ds->List (SV D)->Bool
 | .fn g _::ds, .fn g' _::l=>Nat.beq g g' && fnOk ds l
 | .fn _ _::_,_=>false
 | _::ds,_::l=>fnOk ds l
 | _,_=>true
def noRd:List Ds->Bool
 | []=>true
 | .rd _::_=>false
 | _::r=>noRd r
abbrev pickC (f:Nat) (args:List (SV D)):Ctrs D->Option (Ctr D)
 | []=>none
 | (g,c)::r=>bif Nat.beq g f && fnOk c.ps args then some c else pickC f args r
abbrev callS (C:Ctrs D) (f:Nat) (args:List (SV D)) (H:SH D) (K:KS D):Prop:=
 match pickC f args C with
 | none=>False
 | some c=>match pkA c.ps args H with
  | none=>False
  | some (x,H1,chk)=>cnd (chk.all (fun p=>Nat.beq (H1.ver p.1) p.2) && noRd c.rs) (c.P x (cnd c.sg H1.sg none) fun y z σ=>
    match bkL c.bk z args ⟨H1.at_,cnd c.sg σ H1.sg⟩ with
    | none=>False
    | some H2=>K tt (resS (unL c.rs y H2).1) (unL c.rs y H2).2) False
abbrev buildP (τ:Tys) (place:Nat->Option (Nat × TI)):List (Nat × SV D)->List (SV D)->(List (SV D)->Prop)->Prop
  | [],cs,K=>K cs
  | (i, s) :: r, cs, K => match place i with
    | none=>False
    | some (off,ti)=>match shapeL ti.gC (flat s) with
      | none=>False
      | some new=>cnd (new.all okC && new.all stillB && Nat.beq (sizeL new) ti.size) (match setP cs off new with
        | some cs'=>buildP τ place r cs' K
        | none=>False) False
abbrev fieldPl (τ:Tys) (fs:List (Nat × Nat)) (i:Nat):Option (Nat × TI):=match fs[i]? with
 | some (t,off)=>match τ.get t with
  | some ti=>some (off,ti)
  | none=>none
 | none=>none
def lits (t:Ty) (gC:List CK):List (Nat × SV D)->Nat->SH D->Option (List (D.d t) × SH D)
  | [],_,H=>some ([],H)
  | (j, s) :: r, i, H => bif Nat.beq j i then (match shapeL gC (flat s) with
    | none=>none
    | some q=>match bif q.all okC then enc t q H else none with
      | none=>none
      | some (x,H')=>match lits t gC r (i+1) H' with
        | some (l,H'')=>some (x::l,H'')
        | none=>none) else none
abbrev zOf (t:Ty) (te:TI):Option (D.d t):=match (zeroV te:Option (List (SV D))) with
 | some z=>match enc t z (⟨[],none⟩:SH D) with
  | some (x,_)=>some x
  | none=>none
 | none=>none
def intsOf (k:IntKind):List (SV D)->Option (List Int)
 | []=>some []
 | .int k' n::r=>bif sameKind k k' then (match intsOf k r with
  | some l=>some (n::l)
  | none=>none) else none
 | _=>none
def expV:List (SV D)->List (SV D)
 | []=>[]
 | .vec k _ v::r=>v.toList.map (fun x=> .int k x)++expV r
 | s::r=>s::expV r
def fillA (k:IntKind):List Int->Nat->List (Nat × SV D)->Option (List Int)
 | zs,_,[]=>some zs
 | [],_,_=>none
 | z::zs,i,(j,s)::r=>bif Nat.beq j i then (match s with
   | .int k' x=>bif sameKind k k' then (match fillA k zs (i+1) r with
    | some l=>some (x::l)
    | none=>none) else none
   | _=>none) else (match fillA k zs (i+1) ((j,s)::r) with
    | some l=>some (z::l)
    | none=>none)
def fillT (te:TI) (z:List (SV D)) (ps:List (Nat × SV D)):Option (IntKind × List Int):=match te.kd with
 | .int k=>bif Nat.beq te.size 1 then (match intsOf k z with
  | some zs=>match fillA k zs 0 ps with
   | some l=>some (k,l)
   | none=>none
  | none=>none) else none
 | _=>none
def asVec (τ:Tys) (t:Nat):SV D->SV D
 | .agg l=>match τ.get t with
  | some ti=>match ti.kd with
   | .arr n e=>match τ.get e with
    | some te=>match te.kd with
     | .int k=>match intsOf k l with
      | some is=>if h:is.toArray.size=n then .vec k n ⟨is.toArray,h⟩ else .agg l
      | none=> .agg l
     | _=> .agg l
    | none=> .agg l
   | _=> .agg l
  | none=> .agg l
 | s=>s
def isaB (ti:TI) (s:SV D):Bool:=match Wc.isAgg ti.kd,ti.gC with
 | true,cs=>match shapeL cs (flat s) with
  | some l=>cksB cs l && l.all okC && shB true s
  | none=>false
 | false, .lump _ _::_=>false
 | false,c::_=>ckB c s
 | false,[]=>false
abbrev opRS (τ:Tys) (ty:Nat->Option Ty) (rt:Nat) (o:Op) (Γ:EnvS D) (H:SH D) (K:KS D):Prop:=
 match o with
 | .move x=>K tt (asVec τ rt (evS Γ x)) H
 | .assign x=>K tt (asVec τ rt (evS Γ x)) H
 | .pick c a b=>match evS Γ c with
  | .bool t=>brA t (K tt (evS Γ a) H) (K tt (evS Γ b) H)
  | _=>False
 | .build t ps=>match τ.get t with
  | none=>False
  | some ti=>match (zeroV ti:Option (List (SV D))) with
   | none=>False
   | some z=>(match ti.kd with
    | .struct fs=>cnd (fs.all (fun f=>(τ.get f.1).isSome)) (buildP τ (fieldPl τ fs) (ps.toList.map fun p=>(p.1,evS Γ p.2)) z fun cs=>match ofP true cs with
     | some s=>K tt s H
     | none=>False) False
    | .arr n e=>match τ.get e with
     | some te=>match fillT te (expV z) (ps.toList.map fun p=>(p.1,evS Γ p.2)) with
      | some (k,is)=>if hn:is.toArray.size=n then K tt (.vec k n ⟨is.toArray,hn⟩) H else False
      | none=>buildP τ (fun i=>some (i*te.size,te)) (ps.toList.map fun p=>(p.1,evS Γ p.2)) (expV z) fun cs=>match ofP true cs with
       | some s=>K tt (asVec τ t s) H
       | none=>False
     | none=>False
    | _=>False)
 | .load t a=>loadS τ t (evS Γ a) H K
 | .nilCheck x=>match evS Γ x with
  | .ad nm o=>K tt (.ad nm o) H
  | .oa nm o=>K tt (.oa nm o) H
  | .fn f cs=>K tt (.fn f cs) H
  | .ob p=>nilW p fun a=>K tt (.oa H.nx 0) (H.new (.adr a))
  | _=>False
 | .binOp op t x y _=>binS τ op t (evS Γ x) (evS Γ y) H fun s=>K tt s H
 | .unOp op _ x=>match plainV (evS Γ x) with
  | some v=>unW op v (kV fun s=>K tt s H)
  | none=>False
 | .convert s d x=>match τ.get s,τ.get d with
  | some ts,some td=>match ts.kd,td.kd,evS Γ x with
   | .int _, .int k, .int _ n=>K tt (.int k (k.wrap n)) H
   | .str, .str, .str b=>K tt (.str b) H
   | .slice e, .str,y=>match τ.get e with
    | some te=>match te.kd with
     | .int .u8=>match listS (.int .u8) H y with
      | some l=>P0 l fun b=>K (fun _=>false) (.str b) H
      | none=>False
     | _=>False
    | none=>False
   | _,_,_=>False
  | _,_=>False
 | .makeFunc (.func f) x y=>cnd x.toList.isEmpty (match y.toList.mapM (fun z=>match evS Γ z with
   | .ad nm 0=>some nm
   | _=>none) with
  | some ns=>K tt (.fn f ns) H
  | none=>False) False
 | .slice t x lo hi none=>sliceS τ t (evS Γ x) (lo.map (evS Γ)) (hi.map (evS Γ)) H K
 | .slice t x lo (some y) (some z)=>sliceX τ t (evS Γ x) (lo.map (evS Γ)) (evS Γ y) (evS Γ z) H K
 | .fieldAddr t x i=>match τ.get t with
  | some ti=>match ti.kd with
   | .struct fs=>match fs[i]? with
    | some (ft,off)=>match τ.get ft with
     | some tf=>cnd (Nat.beq tf.size 0) False (match evS Γ x with
      | .ad nm o=>K tt (.ad nm (o+off)) H
      | .oa nm o=>K tt (.oa nm (o+off)) H
      | .el nm ver j o t x=>K tt (.el nm ver j (o+off) t x) H
      | _=>False)
     | none=>False
    | none=>False
   | _=>False
  | none=>False
 | .field t x i=>match τ.get t with
  | some ti=>match ti.kd with
   | .struct fs=>match fs[i]? with
    | some (ft,off)=>match τ.get ft with
     | some tf=>match shapeL ti.gC (flat (evS Γ x)) with
      | some l=>match getP l off tf.size with
       | some p=>match ofP (Wc.isAgg tf.kd) p with
        | some s=>cnd (stillB s && (flat (evS Γ x)).all okC && shB true (evS Γ x)) (K tt s H) False
        | none=>False
       | none=>False
      | none=>False
     | none=>False
    | none=>False
   | _=>False
  | none=>False
 | .indexAddr t x i=>indexS τ t (evS Γ x) (evS Γ i) H K
 | .index t x i=>match τ.get t with
  | some ti=>match ti.kd,evS Γ x,evS Γ i with
   | .str, .str s, .int _ j=>(0<=j/\j<(s.size:Int))/\K tt (.int .u8 (s.data.toList.getD j.toNat 0).toNat) H
   | .arr n e,y, .int _ j=>match shapeL ti.gC (flat y),τ.get e with
    | some [.vec k m v],some te=>match te.kd with
     | .int k'=>cnd (Nat.beq te.size 1 && sameKind k k' && Nat.beq n m && (flat y).all okC && shB true y) ((0<=j/\j<(n:Int))/\K tt (.int k (v.toList.getD j.toNat 0)) H) False
     | _=>False
    | _,_=>False
   | _,_,_=>False
  | none=>False
 | .extract x i=>match evS Γ x with
  | .tup vs=>match vs.drop i with
   | v::_=>cnd (stillB v) (K tt v H) False
   | []=>False
  | _=>False
 | .call {callee:= .builtin b,args,argTypes}=>
  match b,args.toList,argTypes.toList with
  | .len,[x],[t]=>lenS τ t (evS Γ x) H K
  | .min,[x,y],_=>match evS Γ x,evS Γ y with
   | .int k a, .int _ b=>K tt (.int k (if b<a then b else a)) H
   | _,_=>False
  | .max,[x,y],_=>match evS Γ x,evS Γ y with
   | .int k a, .int _ b=>K tt (.int k (if b>a then b else a)) H
   | _,_=>False
  | _,_,_=>False
 | _=>False
abbrev apart (nm:Nat) (s:SV D):Bool:=match baseS s with
 | some n=> !(Nat.beq n nm)
 | none=>true
abbrev atN (hi:Int) (n:Nat):Bool:=match hi with
 | .ofNat h=>Nat.beq h n
 | _=>false
theorem M8 {hi:Int} {n:Nat} (h:atN hi n=true):hi=(n:Int):=by
 unfold atN at h;split at h
 ·rename_i k
  have:k=n:=by simpa using h
  subst this; rfl
 ·cases h
abbrev copyS (t':Ty) (d y:SV D) (m:List (D.d t')) (H:SH D) (K:KS D):Prop:=match d with
       | .sl nm=>match H.get nm with
        | some (.own t2 l)=>match castL t2 t' l with
         | some l=>cnd (apart nm y) (K tt (.int .i64 ((min m.length l.length:Nat):Int)) (H.set nm (.own t' (cpL l m)))) False
         | none=>False
        | _=>False
       | .sw nm lo hi=>match H.get nm with
        | some (.own t2 l)=>match castL t2 t' l with
         | some l=>cnd (apart nm y) (K tt (.int .i64 ((min m.length (sub l lo hi).length:Nat):Int)) (H.set nm (.own t' (cpP l lo.toNat (sub l lo hi).length m)))) False
         | none=>False
        | _=>False
       | .vs nm off k n lo hi=>match H.get nm with
        | some (.blk T ss)=>match vecAt ss off k n,castL t' (.int k) m with
         | some w,some m=>match setP ss off [.vec k n (cpV w lo.toNat m)] with
          | some ss'=>cnd (atN hi n) (K tt (.int .i64 ((min m.length (subA n w.toList lo hi).length:Nat):Int)) (H.set nm (.blk T ss'))) False
          | none=>False
         | _,_=>False
        | _=>False
       | _=>False
def sameO:Operand->Operand->Bool
 | .tmp a, .tmp b=>Nat.beq a b
 | .const (.int _ (.ofNat a)), .const (.int _ (.ofNat b))=>Nat.beq a b
 | _,_=>false
abbrev sameW (l c:Operand) (i j:Int) (P:Prop):Prop:=cnd (sameO l c) P (i=j/\P)
abbrev opCS (τ:Tys) (ty:Nat->Option Ty) (C:Ctrs D) (rt:Nat) (o:Op) (Γ:EnvS D) (H:SH D) (K:KS D):Prop:=
  match o with
  | .alloc e=>match τ.get e with
    | some te=>match (zeroV te:Option (List (SV D))) with
      | some z=>K tt (.ad H.nx 0) (H.new (.blk e z))
      | none=>False
    | none=>False
  | .box e x=>match τ.get e with
    | some te=>match shapeL te.gC (flat (evS Γ x)) with
      | some l=>cnd (l.all okC && l.all stillB) (K tt (.ad H.nx 0) (H.new (.blk e l))) False
      | none=>False
    | none=>False
  | .buildSlice t n ps=>match τ.get t with
    | some ti=>match ti.kd with
      | .slice e=>match τ.get e,ty e with
        | some te,some t'=>match lits t' te.gC (ps.toList.map fun p=>(p.1,evS Γ p.2)) 0 H with
          | some (l,H')=>cnd (Nat.beq ps.toList.length n && Nat.ble (n*te.size) 16777216 && Nat.beq te.size (D.r t').n) (K tt (.sl H'.nx) (H'.new (.own t' l))) False
          | none=>False
        | _,_=>False
      | _=>False
    | none=>False
  | .store t a x=>storeS τ t (evS Γ a) (evS Γ x) H K
  | .convert s d x=>match τ.get s,τ.get d with
    | some ts,some td=>match ts.kd,td.kd,evS Γ x with
      | .str, .slice e, .str b=>match τ.get e with
        | some te=>match te.kd with
          | .int .u8=>K tt (.sl H.nx) (H.new (.own (.int .u8) (bts b)))
          | _=>False
        | none=>False
      | _,_,_=>False
    | _,_=>False
  | .makeMap t x=>cnd (match x with
      | none=>true
      | some y=>match evS Γ y with
        | .int _ _=>true
        | _=>false) (match τ.get t with
    | some ti=>match ti.kd with
      | .map kt e=>match τ.get kt,τ.get e,ty e with
        | some tk,some te,some t'=>match tk.kd with
          | .int k=>K tt (.map H.nx) (H.new (.map k t' (Wc.isAgg te.kd) (some [])))
          | _=>False
        | _,_,_=>False
      | _=>False
    | none=>False) False
  | .makeSlice t l c=>match τ.get t,evS Γ l,evS Γ c with
    | some ti, .int _ i, .int _ j=>match ti.kd with
      | .slice e=>match τ.get e,ty e with
        | some te,some t'=>match (zOf t' te:Option (D.d t')) with
          | some z=>cnd (Nat.ble te.bytes 30000 && Nat.beq te.size (D.r t').n) (sameW l c i j (mkW i fun _=>K tt (.sl H.nx) (H.new (.own t' (List.replicate i.toNat z))))) False
          | none=>False
        | _,_=>False
      | _=>False
    | _,_,_=>False
  | .call { callee := .builtin b, args, argTypes } =>
    match b,args.toList,argTypes.toList with
    | .append,[s,x],[t,u]=>match τ.get t,τ.get u with
      | some ti,some tu=>match ti.kd with
        | .slice e=>match τ.get e,ty e with
          | some te,some t'=>cnd (Nat.beq te.size (D.r t').n && !Nat.beq te.bytes 0 && Nat.ble te.bytes 30000) (match tu.kd,evS Γ s,evS Γ x with
            | .slice _, .sf nm lo hi,y=>match listN t' nm H,listS t' H y with
              | some l,some m=>Bnd ((sub l lo hi).length+m.length)/\(match m with
                | []=>False
                | _::_=>K tt (.sl H.nx) (H.new (.own t' (sub l lo hi++m))))
              | _,_=>False
            | .slice _,s,y=>match giv t' s H with
              | some (l,H')=>match listS t' H' y with
                | some m=>Bnd (l.length+m.length)/\K tt (.sl H'.nx) (H'.new (.own t' (l++m)))
                | none=>False
              | none=>False
            | .str,s, .str y=>match t' with
              | .int .u8=>match giv (.int .u8) s H with
                | some (l,H')=>Bnd (l.length+(bts y).length)/\K tt (.sl H'.nx) (H'.new (.own (.int .u8) (l++bts y)))
                | none=>False
              | _=>False
            | .int _,s, .int _ m=>match giv t' s H,(zOf t' te:Option (D.d t')) with
              | some (l,H'),some z=>0<=m/\Bnd (l.length+m.toNat)/\K tt (.sl H'.nx) (H'.new (.own t' (l++List.replicate m.toNat z)))
              | _,_=>False
            | _,_,_=>False) False
          | _,_=>False
        | _=>False
      | _,_=>False
    | .copy,[d,x],(t::_)=>match τ.get t with
      | some ti=>match ti.kd with
        | .slice e=>match τ.get e,ty e with
          | some te,some t'=>cnd (Nat.beq te.size (D.r t').n) (match listS t' H (evS Γ x) with
            | none=>False
            | some m=>copyS t' (evS Γ d) (evS Γ x) m H K) False
          | _,_=>False
        | _=>False
      | none=>False
    | .clear, [x], (t :: _) => match τ.get t with
      | some ti=>match ti.kd with
        | .slice e=>match τ.get e,ty e,evS Γ x with
          | some te,some t', .sl nm=>match (zOf t' te:Option (D.d t')),H.get nm with
            | some z,some (.own t2 l)=>match castL t2 t' l with
              | some l=>cnd (Nat.beq te.size (D.r t').n) (K tt .undef (H.set nm (.own t' (List.replicate l.length z)))) False
              | none=>False
            | _,_=>False
          | _,_,_=>False
        | _=>False
      | none=>False
    | _,_,_=>False
  | .call {callee:= .value (.func f),args,argTypes:=_}=>callS C f (args.toList.map (evS Γ)) H K
  | .call {callee:= .value x,args,argTypes:=_}=>match evS Γ x,τ.get rt with
    | .fn f cs,some ti=>callS C f (args.toList.map (evS Γ)++cs.map fun nm=> .ad nm 0) H fun g s H'=>cnd (isaB ti s) (K g s H') False
    | _,_=>False
  | _=>False
abbrev putS (dst:Option Nat) (v:SV D) (Γ:EnvS D):EnvS D:=
 match dst with
 | some d=>(d,v)::Γ
 | none=>Γ
abbrev dstS (pr:List Nat) (n:Nat) (d:Option Nat):Bool:=dstOk n d && (match d with
 | some d=> !memN d pr
 | none=>true)
def cstB (D:Tabs):Operand->Bool
 | .const (.agg cs)=>(cs.toList.map (fun v=>(rY v:SV D))).all okC
 | _=>true
abbrev opsOkS (pr:List Nat) (n:Nat) (Γ:EnvS D) (o:Oper):Bool:=dstS pr n o.dst && o.op.operands.toList.all (fun x=>presentS Γ x && cstB D x)
abbrev gdS (ops:List Oper) (o:Oper) (Γ:EnvS D) (exec skip:EnvS D->Prop):Prop:=
 match o.guard with
 | none=>exec Γ
 | some (j,want)=>match ops[j]? with
  | none=>False
  | some g=>match g.dst with
   | none=>False
   | some d=>match findS Γ d with
    | some (.bool b)=>brA b (cnd (want) (exec ((d, .bool true)::Γ)) (skip ((d, .bool true)::Γ))) (cnd (want) (skip ((d, .bool false)::Γ)) (exec ((d, .bool false)::Γ)))
    | some .undef=>skip Γ
    | _=>False
abbrev livesS (live:List Nat) (Γ:EnvS D):List (SV D):=live.map fun s=>(findS Γ s).getD .undef
abbrev OpS (D:Tabs):=Nat->Op->EnvS D->SH D->KS D->Prop
abbrev KontS (D:Tabs):=Exit->EnvS D->SH D->Prop
structure Ops (D:Tabs) where
 r:OpS D
 c:OpS D
 isr:Op->Bool
abbrev nilG (o:Oper) (v:SV D) (Γ:EnvS D):EnvS D:=match o.op with
 | .nilCheck (.tmp t)=>match v with
  | .oa nm off=>(t, .oa nm off)::Γ
  | _=>Γ
 | _=>Γ
abbrev stepS (op:Ops D) (pr:List Nat) (n:Nat) (o:Oper) (Γ:EnvS D) (H:SH D) (K:(SH D->Bool)->EnvS D->SH D->Prop):Prop:=
 cnd (opsOkS pr n Γ o) (cnd (op.isr o.op) (op.r o.type o.op Γ H fun f v H'=>K f (nilG o v (putS o.dst v Γ)) H') (op.c o.type o.op Γ H fun f v H'=>K f (putS o.dst v Γ) H')) False
abbrev WSeqS (op:Ops D) (pr:List Nat) (n:Nat) (ops:List Oper):List Oper->EnvS D->SH D->(EnvS D->SH D->Prop)->Prop
 | [],Γ,H,K=>K Γ H
 | o::r,Γ,H,K=>gdS ops o Γ (fun Γ=>stepS op pr n o Γ H fun _ Γ' H'=>WSeqS op pr n ops r Γ' H' K)
   (fun Γ=>cnd (dstS pr n o.dst) (WSeqS op pr n ops r (putS o.dst .undef Γ) H K) False)
abbrev FactS (D:Tabs):=List (List Nat × (SH D->Bool))
abbrev keepS (j:Nat):FactS D->FactS D
 | []=>[]
 | (D,f)::r=>cnd (memN j D) (keepS j r) ((D,f)::keepS j r)
abbrev allS:FactS D->SH D->Bool
 | [],_=>true
 | (_,f)::r,H=>f H && allS r H
abbrev WPlS (op:Ops D) (pr:List Nat) (n:Nat) (ops:List Oper):Plan->EnvS D->SH D->FactS D->(EnvS D->SH D->Prop)->Prop
 | .done,Γ,H,_,K=>K Γ H
 | .take i D p,Γ,H,F,K=>match ops[i]? with
  | none=>False
  | some o=>gdS ops o Γ (fun Γ=>cnd (opsOkS pr n Γ o && op.isr o.op) (op.r o.type o.op Γ H fun f v H'=>cnd (looks o.op) (WPlS op pr n ops p (nilG o v (putS o.dst v Γ)) H' ((D,f)::F) K) (WPlS op pr n ops p (nilG o v (putS o.dst v Γ)) H' F K)) False)
    (fun Γ=>cnd (dstS pr n o.dst) (WPlS op pr n ops p (putS o.dst .undef Γ) H F K) False)
 | .all r,Γ,H,F,K=>WPlS op pr n ops r Γ H F K
 | .alt i p r,Γ,H,F,K=>
  let X:=match ops[i]? with
   | none=>False
   | some o=>gdS ops o Γ (fun Γ=>stepS op pr n o Γ H fun _ Γ' H'=>cnd (allS (keepS i F) H') (WPlS op pr n ops p Γ' H' (keepS i F) K) False)
     (fun Γ=>cnd (dstS pr n o.dst) (WPlS op pr n ops p (putS o.dst .undef Γ) H (keepS i F) K) False)
  match r with
  | .nil=>X
  | _=>X/\WPlS op pr n ops r Γ H F K
 | .nil,_,_,_,_=>True
abbrev thenS (next:EnvS D->SH D->Prop) (K:KontS D):KontS D:=fun e Γ H=>match e with
 | .normal=>next Γ H
 | e=>K e Γ H
abbrev blockS' (id:Nat) (K:KontS D):KontS D:=fun e Γ H=>match e with
 | .exit id'=>cnd (Nat.beq id' id) (K .normal Γ H) (K (.exit id') Γ H)
 | e=>K e Γ H
structure Pts (D:Tabs) where
 V:Type
 pd:Nat->List Ds
 up: ∀ k,V->TupD D (pd k)->V
 ls: ∀ k,V->TupD D (pd k)
 ok: ∀ k b t,ls k (up k b t)=t
 src:Nat->List (V->Option (St D.O)->Prop)->V->Option (St D.O)->Prop
 lp:Nat->List (V->Option (St D.O)->Prop)->V->Option (St D.O)->Prop
 JK: ∀ k Ss v o,lp k Ss v o->Lf (fun S p=>src k ((fun v o=>S (v,o))::Ss) p.1 p.2) (v,o)
variable (pt:Pts D)
abbrev nmAt (all:List (SV D)) (j:Nat):Option Nat:=match all[j]? with
 | some (.ad nm 0)=>some nm
 | _=>none
abbrev nmsAt (all:List (SV D)):List Nat->Option (List Nat)
 | []=>some []
 | j::js=>match nmAt all j with
  | some nm=>match nmsAt all js with
   | some r=>some (nm::r)
   | none=>none
  | none=>none
abbrev eqNs:List Nat->List Nat->Bool
 | [],[]=>true
 | a::l,b::m=>Nat.beq a b && eqNs l m
 | _,_=>false
abbrev chkA (all:List (SV D)):List Ds->List (SV D)->Bool
 | .al f js::ds,s::l=>(match s with
  | .fn f' ns=>match nmsAt all js with
   | some ms=>Nat.beq f f' && eqNs ms ns
   | none=>false
  | _=>false) && chkA all ds l
 | _::ds,_::l=>chkA all ds l
 | _,_=>true
abbrev fixA (all:List (SV D)):List Ds->List (SV D)->List (SV D)
 | .al f js::ds,s::l=>(match nmsAt all js with
  | some ms=> .fn f ms
  | none=>s)::fixA all ds l
 | _::ds,s::l=>s::fixA all ds l
 | _,l=>l
abbrev jumpS (pr:List Nat) (base:pt.V) (k:Nat) (live:List Nat) (Γ:EnvS D) (H:SH D) (R:pt.V->Option (St D.O)->Prop):Prop:=
 cnd (live.all (fun s=>(findS Γ s).isSome) && pr.all (fun t=>memN t live) && chkA (livesS live Γ) (pt.pd k) (livesS live Γ)) (match pkL (pt.pd k) (livesS live Γ) H with
  | some (t,H')=>R (pt.up k base t) H'.sg
  | none=>False) False
abbrev WS (op:Ops D) (pr:List Nat) (n:Nat) (base:pt.V):Code->Ann->List (pt.V->Option (St D.O)->Prop)->EnvS D->SH D->KontS D->Prop
 | .skip,_,_,Γ,H,K=>K .normal Γ H
 | .region _ ops draw,A,_,Γ,H,K=>match draw,A with
  | false,_=>WSeqS op pr n ops.toList ops.toList Γ H fun Γ' H'=>K .normal Γ' H'
  | true, .plan p=>cnd (Region.noSelect ops && shutP p && planOk ops p ops.size (Array.replicate ops.size false) []) (WPlS op pr n ops.toList p Γ H [] fun Γ' H'=>K .normal Γ' H') False
  | _,_=>False
 | .seq a b,A,Ss,Γ,H,K=>match A with
  | .seq A B=>WS op pr n base a A Ss Γ H (thenS (fun Γ' H'=>WS op pr n base b B Ss Γ' H' K) K)
  | .join k live A _=>WS op pr n base a A Ss Γ H (thenS (fun Γ' H'=>jumpS pt pr base k live Γ' H' (pt.src k Ss)) K)
  | _=>False
 | .cond c x y,A,Ss,Γ,H,K=>match A with
  | .cond A B=>cnd (presentS Γ c) ((match evS Γ c with
    | .bool b=>brA b (WS op pr n base x A Ss Γ H K) (WS op pr n base y B Ss Γ H K)
    | _=>False)) False
  | _=>False
 | .block id c,A,Ss,Γ,H,K=>match A with
  | .block A=>WS op pr n base c A Ss Γ H (blockS' id K)
  | _=>False
 | .loop _,A,Ss,Γ,H,_=>match A with
  | .loop k live _=>jumpS pt pr base k live Γ H (pt.lp k Ss)
  | _=>False
 | .exit id,_,_,Γ,H,K=>K (.exit id) Γ H
 | .ret,_,_,Γ,H,K=>K .ret Γ H
 | _,_,_,_,_,_=>False
abbrev ptS (op:Ops D) (pr:List Nat) (n:Nat) (base:pt.V) (k:Nat) (svs:List (SV D)) (H:SH D):Code->Ann->List (pt.V->Option (St D.O)->Prop)->List (pt.V->Option (St D.O)->Prop)->KontS D->Prop
 | .seq a b,A,Ss,inner,K=>match A with
  | .seq A B=>cnd (memN k (pts A)) (ptS op pr n base k svs H a A Ss inner (thenS (fun Γ' H'=>WS pt op pr n base b B Ss Γ' H' K) K)) (ptS op pr n base k svs H b B Ss inner K)
  | .join k0 live A B=>cnd (Nat.beq k0 k) (WS pt op pr n base b B Ss (live.zip svs) H K) (cnd (memN k (pts A)) (ptS op pr n base k svs H a A Ss inner (thenS (fun Γ' H'=>jumpS pt pr base k0 live Γ' H' (pt.src k0 Ss)) K)) (ptS op pr n base k svs H b B Ss inner K))
  | _=>False
 | .cond _ x y,A,Ss,inner,K=>match A with
  | .cond A B=>cnd (memN k (pts A)) (ptS op pr n base k svs H x A Ss inner K) (ptS op pr n base k svs H y B Ss inner K)
  | _=>False
 | .block id c,A,Ss,inner,K=>match A with
  | .block A=>ptS op pr n base k svs H c A Ss inner (blockS' id K)
  | _=>False
 | .loop body,A,Ss,inner,K=>match A,inner with
  | .loop k0 live B,S::inner=>cnd (Nat.beq k0 k) (WS pt op pr n base body B (S::Ss) (live.zip svs) H (thenS (fun Γ' H'=>jumpS pt pr base k0 live Γ' H' S) K)) (ptS op pr n base k svs H body B (S::Ss) inner (thenS (fun Γ' H'=>jumpS pt pr base k0 live Γ' H' S) K))
  | _,_=>False
 | _,_,_,_,_=>False
abbrev argS:Nat->List (SV D)->EnvS D
 | _,[]=>[]
 | i,s::l=>(i,s)::argS (i+1) l
abbrev resV (τ:Tys) (Γ:EnvS D) (H:SH D):List ResultVar->(List (SV D)->SH D->Prop)->Prop
 | [],K=>K [] H
 | .tmp t::r,K=>match findS Γ t with
  | some s=>resV τ Γ H r fun l H'=>K (s::l) H'
  | none=>False
 | .cell a t::r,K=>match findS Γ a with
  | some s=>loadS τ t s H fun _ u H'=>resV τ Γ H' r fun l H''=>K (u::l) H''
  | none=>False
abbrev pkK:(bk:List (Nat × Ds))->EnvS D->SH D->Option (TupD D (bk.map (·.2)) × SH D)
 | [],_,H=>some ((),H)
 | b::bk,Γ,H=>match findS Γ b.1 with
  | none=>none
  | some s=>match pkD b.2 s H with
   | some (x,H')=>match pkK bk Γ H' with
    | some (r,H'')=>some ((x,r),H'')
    | none=>none
   | none=>none
abbrev retS (τ:Tys) (c:Ctr D) (rs:Array ResultVar) (Q:TupD D c.rs->TupD D (c.bk.map (·.2))->Option (St D.O)->Prop):KontS D:=fun e Γ H=>
  let R := resV τ Γ H rs.toList fun l H' => match pkL c.rs l H' with
    | none=>False
    | some (y,H1)=>match pkK c.bk Γ H1 with
      | none=>False
      | some (z,H2)=>Q y z H2.sg
  match e with
  | .ret=>R
  | .normal=>R
  | _=>False
end Go.Ex
namespace Go.Ex
open Go Go.Wc Go.Pu
variable {D:Tabs} {X:At} {ν ν':Nu} {h h':Hp} {A B B':List At} {ω ω':List Gm} {H H':SH D}
def Cur (H:SH D):SV D->Prop
 | .el nm ver i _ t x=>nm<H.at_.length/\ver<=H.ver nm/\0<=i/\(H.ver nm=ver-> ∃ l,lstN H nm=some ⟨t,l⟩/\l[i.toNat]? =some x)
 | .ve nm ver off k n i x=>nm<H.at_.length/\ver<=H.ver nm/\0<=i/\(H.ver nm=ver-> ∃ T ss w,H.get nm=some (.blk T ss)/\vecAt ss off k n=some w/\w.toList[i.toNat]? =some x)
 | _=>True
theorem Cur.of {s:SV D} (h:stillB s=true):Cur H s:=by
 cases s <;> first
  | trivial
  | simp [stillB] at h
theorem lW {i:Nat} (S:SLe H ν ω H' ν' ω') (hi:i<H.at_.length):H.ver i<=H'.ver i/\i<H'.at_.length/\(H'.ver i=H.ver i->H'.get i=H.get i):=by
 obtain ⟨p,hp⟩: ∃ p,H.at_[i]? =some p:=⟨_,List.getElem?_eq_getElem hi⟩
 obtain ⟨o',v',h1,h2,h3⟩:=S.2 i p.1 p.2 hp;have e1:H.ver i=p.2:=by simp [SH.ver,hp]
 have e2:H'.ver i=v':=by simp [SH.ver,h1]
 refine ⟨by omega,(List.getElem?_eq_some_iff.1 h1).1,fun e=> ?_⟩;simp only [SH.get,h1,hp,Option.map_some];rw [(h3 (by omega)).1]
theorem Cur.mono {s:SV D} (S:SLe H ν ω H' ν' ω') (h:Cur H s):Cur H' s:=by
  cases s <;> first
    | trivial
    | (obtain ⟨h1,h2,h3,h4⟩:=h
       obtain ⟨g1,g2,g3⟩:=lW S h1;refine ⟨g2,by omega,h3,fun e=> ?_⟩;have e2:=g3 (by omega);obtain r:=h4 (by omega)
       first
         | (obtain ⟨l,k1,k2⟩:=r; exact ⟨l,by unfold lstN at k1 |-; rw [e2]; exact k1,k2⟩)
         | (obtain ⟨T,ss,w,k1,k2⟩:=r; exact ⟨T,ss,w,by rw [e2]; exact k1,k2⟩))
def EnvR (ν:Nu) (H:SH D) (Γ:EnvS D) (Γr:Env):Prop:= ∀ t s,findS Γ t=some s-> ∃ v,Env.find Γr t=some v/\VR ν s v/\Cur H s
theorem EnvR.mono {Γ:EnvS D} {Γr:Env} (S:SLe H ν ω H' ν' ω') (E:EnvR ν H Γ Γr):EnvR ν' H' Γ Γr:=fun t s hs=>by obtain ⟨v,h1,h2,h3⟩:=E t s hs;exact ⟨v,h1,h2.mono S.1,h3.mono S⟩
theorem vM (v:Value):iH ν (rY v:SV D) v:=by unfold rY; split <;> simp only [iH]
theorem AH (v:Value):stillB (rY v:SV D)=true:=by unfold rY; split <;> rfl
theorem iH.to1 {s:SV D} {v:Value} (h:iH ν s v) (hv: ∀ k n w,s ≠ .vec k n w):VR ν s v:=by
 cases s <;> first
  | exact absurd rfl (hv _ _ _)
  | exact h
  | exact h.elim
theorem yc (v:Value): ∀ k n w,(rY v:SV D) ≠ .vec k n w:=by intro k n w; unfold rY; split <;> simp
theorem M9 (v:Value) (ho:(flat (ofC v:SV D)).all okC=true):VR ν (ofC v:SV D) v:=by
 unfold ofC at ho |-
 split
 ·rename_i cs
  refine ⟨cs.toList, ?_,rfl⟩;simp only [Ex.flat] at ho;generalize cs.toList=l at ho
  induction l with
  | nil=>rfl
  | cons v l ih=>
   simp only [List.map_cons,List.all_cons,Bool.and_eq_true] at ho;refine ⟨[v],l,rfl, ?_,ih ho.2⟩;have:=vM (D:=D) (ν:=ν) v
   cases hs:(rY v:SV D) <;> rw [hs] at this ho <;> first
    | (simp [okC] at ho; done)
    | exact ⟨v,this,rfl⟩
    | exact this.elim
 ·exact (vM v).to1 (yc v)
theorem JL (v:Value) (hv: ∀ cs,v ≠ .agg cs):VR ν (ofC v:SV D) v:=by
 unfold ofC;split
 ·exact absurd rfl (hv _)
 ·exact (vM v).to1 (yc v)
theorem Dm (v:Value):stillB (ofC v:SV D)=true:=by
 unfold ofC;split
 ·rfl
 ·exact AH v
theorem iO {Γ:EnvS D} {Γr:Env} (E:EnvR ν H Γ Γr) {x:Operand} (hp:presentS Γ x=true) (hc:cstB D x=true):VR ν (evS Γ x) (ev Γr x)/\Cur H (evS Γ x):=by
 cases x with
 | tmp t=>
  simp only [presentS] at hp;obtain ⟨s,hs⟩:=Option.isSome_iff_exists.1 hp;obtain ⟨v,h1,h2,h3⟩:=E t s hs;simp only [evS,ev,hs,h1,Option.getD_some]
  exact ⟨h2,h3⟩
 | const v=>
  refine ⟨?_,Cur.of (Dm v)⟩
  by_cases hv: ∃ cs,v= .agg cs
  ·obtain ⟨cs,rfl⟩:=hv
   exact M9 _ (by simpa [cstB,ofC,Ex.flat] using hc)
  ·exact JL _ fun cs e=>hv ⟨cs,e⟩
 | global g=>exact ⟨trivial,trivial⟩
 | func f=>exact ⟨⟨[],rfl,rfl⟩,trivial⟩
theorem iH.uni {s:SV D} {v w:Value} (ho:okC s=true) (h:iH ν s v) (h':iH ν s w):v=w:=by
 cases s <;> simp only [okC,Bool.false_eq_true] at ho <;> simp only [iH] at h h' <;> first
  | (rw [h,h']; done)
  | (obtain ⟨x,h1,rfl⟩:=h; obtain ⟨y,h2,rfl⟩:=h'; rw [h1] at h2; cases h2; rfl)
  | (obtain ⟨x,h1,_,rfl⟩:=h; obtain ⟨y,h2,_,rfl⟩:=h'; rw [h1] at h2; cases h2; rfl)
  | (obtain ⟨x,q,h1,⟨a,e1,e2⟩,rfl⟩:=h; obtain ⟨y,r,h2,⟨b,e3,e4⟩,rfl⟩:=h'; rw [h1] at h2; cases h2; rw [e1] at e3; cases e3; rw [e2,e4]; done)
  | (obtain ⟨x,q,h1,e1,rfl⟩:=h; obtain ⟨y,r,h2,e2,rfl⟩:=h'; rw [h1] at h2; cases h2; unfold VAdr at e1 e2; rw [e1,e2]; done)
  | exact h.elim
  | skip
 obtain ⟨xs,h1,rfl⟩:=h;obtain ⟨ys,h2,rfl⟩:=h'
 have:xs=ys:=by
  rw [h1] at h2;clear h1
  induction xs generalizing ys with
  | nil=>cases ys <;> simp at h2 |-
  | cons a xs ih=>cases ys with
   | nil=>simp at h2
   | cons b ys=>simp at h2; rw [h2.1,ih ys (by simpa using h2.2)]
 rw [this]
theorem SG.ok {s:SV D} {g:Seg} (h:SG ν s g):okC s=true:=by
 cases s <;> simp only [SG] at h <;> first
  | rfl
  | exact h.elim
  | (obtain ⟨v,h1,_⟩:=h; exact h1.elim)
theorem SG.uni {s:SV D} {g g':Seg} (h:SG ν s g) (h':SG ν s g'):g=g':=by
 have ho:=h.ok
 cases s <;> simp only [SG] at h h' <;> first
  | (rw [h,h']; done)
  | exact h.elim
  | (obtain ⟨v,h1,rfl⟩:=h; obtain ⟨w,h2,rfl⟩:=h'; rw [h1.uni ho h2])
theorem SGL.uni: ∀ {l:List (SV D)} {gs gs':List Seg},SGL ν l gs->SGL ν l gs'->gs=gs'
 | [],_,_,h,h'=>by have h:_=[]:=h; have h':_=[]:=h'; rw [h,h']
 | _::_,_,_,⟨u,w,e,h1,h2⟩,⟨u',w',e',h1',h2'⟩=>by rw [e,e',h1.uni h1',SGL.uni h2 h2']
def PR (K:KS D) (X:At) (ν:Nu) (ω:List Gm) (H:SH D) (h:Hp) (f:Hp->Prop) (v:Value):Prop:=
 ∃ g s H' ν' ω',K g s H'/\VR ν' s v/\Cur H' s/\SLe H ν ω H' ν' ω'/\HR X ν' ω' H' h []/\(∀ H2 ν2 ω2 h2,SLe H' ν' ω' H2 ν2 ω2->HR X ν2 ω2 H2 h2 []->g H2=true->f h2)
def PC (K:KS D) (X:At) (ν:Nu) (ω:List Gm) (H:SH D) (v:Value) (h':Hp):Prop:=
 ∃ g s H' ν' ω',K g s H'/\VR ν' s v/\Cur H' s/\SLe H ν ω H' ν' ω'/\HR X ν' ω' H' h' []
variable {K:KS D}
theorem PR.mk (R:HR X ν ω H h []) {s:SV D} {v:Value} {g:SH D->Bool} (hK:K g s H) (hv:VR ν s v) (hc:Cur H s):PR K X ν ω H h (fun _=>True) v:=
 ⟨g,s,H,ν,ω,hK,hv,hc,SLe.refl _ _ _,R,fun _ _ _ _ _ _ _=>trivial⟩
abbrev LL (X:At) (ν:Nu) (ω:List Gm) (H:SH D):List At:=X::sgA D H.sg::semL D X ν H.at_ ν ω
theorem HR.all (R:HR X ν ω H h []):Inv h [bigA (LL X ν ω H)]:=by have:=R.inv;exact Inv.bigI (A:=[]) this
theorem HR.in (R:HR X ν ω H h []) (s:SV D):In X ν ω H s (LL X ν ω H):=⟨by simp,fun nm o y g _ ho hy hg=>by
 have:=ql (D:=D) (X:=X) (ν:=ν) _ _ _ nm _ (get_at ho) hy hg
 simp only [LL,List.mem_cons]; exact .inr (.inr this)⟩
theorem HR.ofAll (R:HR X ν ω H h []) (I:Inv h' (A++[bigA (LL X ν ω H)])):HR X ν ω H h' A:=R.back I
theorem HR.getP (R:HR X ν ω H h []): ∃ h F M,(bigA (LL X ν ω H)).P h F M:=by obtain ⟨F,M,h1⟩:=Inv.get R.all;exact ⟨_,F,M,h1⟩
theorem HR.cells (R:HR X ν ω H h []) {nm T:Nat} {ss:List (SV D)} {x:Nm} (ho:H.get nm=some (.blk T ss)) (hx:ν[nm]? =some x):
  ∃ gs,SGL ν ss gs/\ ∀ off j,hcell h ((x.p.add off).add j)=(segs gs)[off+j]? :=by
 obtain ⟨y,g,hy,hg⟩:=nK R ho;rw [hx] at hy; cases hy;have hm:=(R.in (.sl nm)).at_ nm _ x g rfl ho hx hg;obtain ⟨F,M,hP⟩:=Inv.get R.all;obtain ⟨F',gs,h1,h3,h4,h5,h6⟩:=gP hm hP;refine ⟨gs,h1,fun off j=> ?_⟩;rw [add_add,add_eq h4 h5,dQ h6];simp
theorem ye {t:Nat} {ti:TI} {τ:Tys} {p:List (SV D)} {vs:List Value} {q:Addr} {Ks:SV D->Prop} {Kr:(Hp->Prop)->Value->Prop} (ht:τ.get t=some ti) (hp:partS ti p Ks) (hc:CRL ν p vs)
  (hh: ∀ j v,vs[j]? =some v->hcell h (q.add j)=some v) (k: ∀ s v f,Ks s->stillB s=true->VR ν s v->(∀ h',(∀ j v,vs[j]? =some v->hcell h' (q.add j)=some v)->f h')->Kr f v):
  (cnd (Wc.isAgg ti.kd) ((cnd (Nat.beq (ckns ti.gC) ti.size) (ldCs ti.gC h q 0 fun f vs=>Kr f (.agg vs.toArray)) (False))) (match ti.gC with
     | [c]=>ldC c h q Kr
     | _=>False)):=by
 unfold partS at hp
 cases hb:(cksB ti.gC p && Nat.beq (ckns ti.gC) ti.size) with
 | false=>rw [hb] at hp; exact hp.elim
 | true=>
  rw [hb] at hp;simp only [cnd] at hp;simp only [Bool.and_eq_true] at hb;split at hp
  case h_2=>exact hp.elim
  rename_i s hs
  cases hst:stillB s with
  | false=>rw [hst] at hp; exact hp.elim
  | true=>
   rw [hst] at hp;simp only [cnd] at hp
   cases ha:Wc.isAgg ti.kd with
   | true=>
    rw [ha] at hs;simp only [cnd,hb.2];refine kg hb.1 hc (fun j v hj=>by rw [Nat.zero_add]; exact hh j v hj) fun f hf=> ?_
    exact k s _ f hp hst (jJ hs hc) fun h' hh'=>hf h' fun j v hj=>by rw [Nat.zero_add]; exact hh' j v hj
   | false=>
    rw [ha] at hs;simp only [cnd];obtain ⟨v,e,hv⟩:=oM hs hc;subst e
    have hpl:p=[s]:=by
     simp only [ofP] at hs;split at hs
     case h_2=>cases hs
     split at hs
     ·cases hs
     ·cases hs; rfl
    subst hpl
    have D8:iH ν s v:=by
     obtain ⟨u,w,e,h1,h2⟩:=hc;have h2:w=[]:=h2;subst h2
     obtain ⟨v',rfl,h3⟩:=h1.v0 (by
      rintro kk n x rfl
      simp [ofP] at hs)
     simp at e; subst e; exact h3
    have uG:=hb.1
    cases hck:ti.gC with
    | nil=>rw [hck] at uG; simp [cksB] at uG
    | cons c cs=>
     cases cs with
     | cons c2 cs=>rw [hck] at uG; simp [cksB] at uG
     | nil=>
      rw [hck] at uG;simp only [cksB,Bool.and_true] at uG
      have hnl: ∀ kk n,c ≠ .lump kk n:=by rintro kk n rfl;cases s <;> simp [ckB] at uG;simp [ofP] at hs
      refine rW uG hnl D8 (by have:=hh 0 v rfl; rwa [show q.add 0=q from by simp [Addr.add]] at this) fun f hf=> ?_;refine k s v f hp hst hv fun h' hh'=>hf h' ?_;have:=hh' 0 v rfl
      rwa [show q.add 0=q from by simp [Addr.add]] at this
theorem oN {nm:Nat} {t:Ty} {l:List (D.d t)} (h:lstN H nm=some ⟨t,l⟩):listN t nm H=some l:=by
 have cast:castL t t l=some l:=by unfold castL; rw [dif_pos rfl]
 unfold lstN at h; unfold listN
 cases ho:H.get nm with
 | none=>rw [ho] at h; cases h
 | some o=>
  rw [ho] at h
  cases o <;> simp only [lstO,Option.some.injEq,reduceCtorEq,Sigma.mk.injEq] at h <;> (obtain ⟨rfl,h⟩:=h; cases h; exact cast)
abbrev loadW (τ:Tys) (t:Nat) (v:Value) (h:Hp) (Kr:(Hp->Prop)->Value->Prop):Prop:=match v with
  | .pointer (some p)=>match τ.get t with
   | some ti=>cnd (Wc.isAgg ti.kd) ((cnd (Nat.beq (ckns ti.gC) ti.size) (ldCs ti.gC h p 0 fun f vs=>Kr f (.agg vs.toArray)) (False))) (match ti.gC with
     | [c]=>ldC c h p Kr
     | _=>False)
   | none=>False
  | _=>False
theorem rZ {t:Ty} (ht:ki t=true) {h h':Hp} {M M':List Nat} {u u':List Value} {x:D.d t} (h1:(D.r t).P h M u x) (h2:(D.r t).P h' M' u' x):u=u':=by
 cases t <;> simp only [ki,Bool.false_eq_true] at ht <;> first
  | (have h1:u=_:=h1; have h2:u'=_:=h2; rw [h1,h2]; done)
theorem Cb: ∀ {ts:List Ty},ts.all ki=true-> ∀ {h h':Hp} {M M':List Nat} {u u':List Value} {x:Tup D.toTab ts},TupP D.toTab h M ts u x->TupP D.toTab h' M' ts u' x->u=u'
 | [],_,_,_,_,_,_,_,_,h1,h2=>by have h1:_=[]:=h1; have h2:_=[]:=h2; rw [h1,h2]
 | t::ts,ht,_,_,_,_,_,_,_,⟨u,w,e,k1,k2⟩,⟨u',w',e',k1',k2'⟩=>by simp only [List.all_cons,Bool.and_eq_true] at ht;rw [e,e',rZ ht.1 k1 k1',Cb ht.2 k2 k2']
theorem Dn {t:Ty} (ht:plainT D t=true) {h h':Hp} {M M':List Nat} {u u':List Value} {x:D.d t} (h1:(D.r t).P h M u x) (h2:(D.r t).P h' M' u' x):u=u':=by
 by_cases hs: ∃ i,t= .st i
 ·obtain ⟨i,rfl⟩:=hs
  exact Cb ht ((D.rep i _ _ _ _).1 h1) ((D.rep i _ _ _ _).1 h2)
 ·refine rZ (t:=t) ?_ h1 h2
  cases t <;> first
   | rfl
   | exact absurd ⟨_,rfl⟩ hs
   | (simp [plainT] at ht; done)
theorem EZ (R:HR X ν ω H h []) {nm:Nat} {t':Ty} {l:List (D.d t')} {x:D.d t'} {y:Nm} {b:Addr} {i:Int} (hl:lstN H nm=some ⟨t',l⟩) (hy:ν[nm]? =some y) (hlx:l[i.toNat]? =some x) (uG:y.a=some b):
  ∃ u,(∀ j v,u[j]? =some v->hcell h ((b.add (i.toNat*(D.r t').n)).add j)=some v)/\HR X ν ω H h [repA (D.r t') u x]:=by
 obtain ⟨o,ho⟩: ∃ o,H.get nm=some o:=by
  unfold lstN at hl
  cases hq:H.get nm with
  | none=>rw [hq] at hl; cases hl
  | some o=>exact ⟨o,rfl⟩
 obtain ⟨y',g,hy',hg⟩:=nK R ho;rw [hy] at hy'; cases hy';obtain ⟨hrd,_⟩:=jL (t:=t') (l:=l) (L:=LL X ν ω H) (oN hl) hy hg (fun o ho=>(R.in (.sl nm)).at_ nm o y g rfl ho hy hg) (by simp);obtain ⟨F,M,hP,hFM,hnd,hlt,HH⟩:=Inv.turn R.all;obtain ⟨_,vs,h1,h2,h3⟩:=hrd hP;obtain ⟨u,hu,hcells⟩:=h3.get hlx;refine ⟨u,fun j v hj=>qK h1 uG (by rw [hcells j (by rw [List.getElem?_eq_some_iff] at hj; exact hj.1)]; exact hj),R.ofAll ?_⟩
 refine HH h [repA (D.r t') u x,bigA (LL X ν ω H)] [[],F] (Keep.refl _ _) (fun b hb=> .inl (by simpa using hb)) (by simpa using hnd) fun M' hL _ _=>⟨⟨rfl,(D.r t').mono hL hu⟩,(bigA (LL X ν ω H)).mono (fun _ _=>rfl) hL hP,trivial⟩
theorem JM {t:Ty} (ht:plainT D t=true) {ν ν':Nu} {ω ω':List Gm} {H H':SH D} {h h':Hp} {u u':List Value} {x:D.d t} (R:HR X ν ω H h [repA (D.r t) u x]) (R':HR X ν' ω' H' h' [repA (D.r t) u' x]):u=u':=by obtain ⟨F,M,h1⟩:=Inv.get R.front;obtain ⟨F',M',h2⟩:=Inv.get R'.front;exact Dn ht h1.2 h2.2
theorem ld {τ:Tys} {t:Nat} {a:SV D} {v:Value} (R:HR X ν ω H h []) (hv:VR ν a v) (hcur:Cur H a) (HL:loadS τ t a H K):loadW τ t v h (PR K X ν ω H h):=by
 unfold loadS at HL
 cases ht:τ.get t with
 | none=>rw [ht] at HL; exact HL.elim
 | some ti=>
  rw [ht] at HL;simp only at HL;split at HL
  case h_4=>exact HL.elim
  ·rename_i nm off
   split at HL
   case h_2=>exact HL.elim
   rename_i T ss ho;split at HL
   case h_2=>exact HL.elim
   rename_i p hp;obtain ⟨x,hx,rfl⟩:=hv;obtain ⟨gs,h1,h2⟩:=R.cells ho hx;have hc:=h1.cells.part hp;unfold loadW;simp only [ht];refine ye ht HL hc.1 (fun j v hj=> ?_) fun s v f hs hst hv hf=> ?_
   ·rw [h2]
    rw [List.getElem?_take] at hj;split at hj
    ·rw [List.getElem?_drop] at hj; exact hj
    ·cases hj
   ·refine ⟨_,s,H,ν,ω,hs,hv,Cur.of hst,SLe.refl _ _ _,R,fun H2 ν2 ω2 h2' S2 R2 hg=>hf h2' fun j v hj=> ?_⟩
    have hil:=(List.getElem?_eq_some_iff.1 (get_at ho)).1;obtain ⟨_,_,g3⟩:=lW S2 hil;have wO:H2.ver nm=H.ver nm:=by simpa [verB] using hg
    have JN:=g3 wO;rw [ho] at JN;obtain ⟨gs2,k1,k2⟩:=R2.cells JN (S2.1 _ _ hx);rw [k2,<- (h1.mono S2.1).uni k1];rw [List.getElem?_take] at hj;split at hj
    ·rw [List.getElem?_drop] at hj; exact hj
    ·cases hj
  ·rename_i nm ver i off t' x
   cases hb:Nat.beq (H.ver nm) ver with
   | false=>rw [hb] at HL; exact HL.elim
   | true=>
    rw [hb] at HL;simp only [cnd] at HL;have hver:H.ver nm=ver:=by simpa using hb
    obtain ⟨c1,c2,c3,c4⟩:=hcur;obtain ⟨l,hl,hlx⟩:=c4 hver;obtain ⟨y,q,hy,⟨b,uG,rfl⟩,rfl⟩:=hv;split at HL
    case h_2=>exact HL.elim
    rename_i p hp
    obtain ⟨o,ho⟩: ∃ o,H.get nm=some o:=by
     unfold lstN at hl
     cases hq:H.get nm with
     | none=>rw [hq] at hl; cases hl
     | some o=>exact ⟨o,rfl⟩
    obtain ⟨y',g,hy',hg⟩:=nK R ho;rw [hy] at hy'; cases hy';obtain ⟨hrd,_⟩:=jL (t:=t') (l:=l) (L:=LL X ν ω H) (oN hl) hy hg (fun o ho=>(R.in (.sl nm)).at_ nm o y g rfl ho hy hg) (by simp)
    have key: ∃ u,(∀ j v,u[j]? =some v->hcell h ((b.add (i.toNat*(D.r t').n)).add j)=some v)/\HR X ν ω H h [repA (D.r t') u x]:=by
     obtain ⟨F,M,hP,hFM,hnd,hlt,HH⟩:=Inv.turn R.all;obtain ⟨_,vs,h1,h2,h3⟩:=hrd hP;obtain ⟨u,hu,hcells⟩:=h3.get hlx;refine ⟨u,fun j v hj=>qK h1 uG (by rw [hcells j (by rw [List.getElem?_eq_some_iff] at hj; exact hj.1)]; exact hj),R.ofAll ?_⟩
     refine HH h [repA (D.r t') u x,bigA (LL X ν ω H)] [[],F] (Keep.refl _ _) (fun b hb=> .inl (by simpa using hb)) (by simpa using hnd) fun M' hL _ _=>⟨⟨rfl,(D.r t').mono hL hu⟩,(bigA (LL X ν ω H)).mono (fun _ _=>rfl) hL hP,trivial⟩
    obtain ⟨u,hcell',R2⟩:=key;obtain ⟨ν3,ω3,R3,k1,S3⟩:=AB R2;have hc:=k1.part hp;unfold loadW;simp only [ht];refine ye ht HL hc.1 (fun j v hj=> ?_) fun s v f hs hst hv hf=> ?_
    ·rw [add_add]
     refine hcell' _ _ ?_;rw [List.getElem?_take] at hj;split at hj
     ·rw [List.getElem?_drop] at hj; exact hj
     ·cases hj
    ·refine ⟨_,s,_,ν3,ω3,hs,hv,Cur.of hst,S3,R3,fun H2 ν2 ω2 h2' S2 R2' hg=> ?_⟩
     cases hpl:plainT D t' with
     | false=>rw [hpl] at hg; simp at hg
     | true=>
      rw [hpl] at hg;have wO:H2.ver nm=ver:=by simpa [verB] using hg
      have JN:=(lW (S3.trans S2) c1).2.2 (by rw [wO,hver]);have Bw:lstN H2 nm=some ⟨t',l⟩:=by unfold lstN at hl |-; rw [JN]; exact hl
      obtain ⟨u2,k2,R4⟩:=EZ R2' Bw ((S3.trans S2).1 _ _ hy) hlx uG;have:=JM hpl R2 R4;subst this;refine hf h2' fun j v hj=> ?_;rw [add_add];refine k2 _ _ ?_;rw [List.getElem?_take] at hj;split at hj
      ·rw [List.getElem?_drop] at hj; exact hj
      ·cases hj
  ·rename_i nm ver off k n i x
   cases hb:Nat.beq (H.ver nm) ver with
   | false=>rw [hb] at HL; exact HL.elim
   | true=>
    rw [hb] at HL;simp only [cnd] at HL;have hver:H.ver nm=ver:=by simpa using hb
    obtain ⟨c1,c2,c3,c4⟩:=hcur;obtain ⟨T,ss,w,ho,hw,hwx⟩:=c4 hver;obtain ⟨y,q,hy,hq,rfl⟩:=hv;split at HL
    case h_2=>exact HL.elim
    rename_i k' hck
    cases m7:(sameKind k k' && !(Wc.isAgg ti.kd)) with
    | false=>rw [m7] at HL; exact HL.elim
    | true=>
     rw [m7] at HL;simp only [Bool.and_eq_true,Bool.not_eq_true'] at m7;have:=bH m7.1; subst this
     have cell: ∀ {H2:SH D} {ν2:Nu} {ω2:List Gm} {h2:Hp},HR X ν2 ω2 H2 h2 []->H2.get nm=some (.blk T ss)->ν2[nm]? =some y->hcell h2 q=some (.int k x):=by
      intro H2 ν2 ω2 h2 R2 JN Ik;obtain ⟨gs,k1,k2⟩:=R2.cells JN Ik;obtain ⟨j,hj,_⟩:=jK k1 hw;unfold VAdr at hq;rw [hq,k2,Nat.mul_one];obtain ⟨e1,e2⟩:=dr hj;rw [Nat.zero_add] at e2
      have hi:i.toNat<n:=by have:=(List.getElem?_eq_some_iff.1 hwx).1;simpa using this
      rw [e1,cv,e2,List.getElem?_append_right (by rw [cD]; omega),cD,Nat.add_sub_cancel_left];simp only [segs,Seg.cells];rw [List.getElem?_append_left (by rw [cm]; exact hi),dZ,List.getElem?_map,hwx];rfl
     unfold loadW;simp only [ht];rw [m7.2,hck];refine ⟨x,cell R ho hy, ?_⟩;refine ⟨_,_,H,ν,ω,HL,rfl,trivial,SLe.refl _ _ _,R,fun H2 ν2 ω2 h2' S2 R2 hg=> ?_⟩;obtain ⟨_,_,g3⟩:=lW S2 c1
     have wO:H2.ver nm=H.ver nm:=by
      have:H2.ver nm=ver:=by simpa [verB] using hg
      omega
     exact cell R2 (by rw [g3 wO]; exact ho) (S2.1 _ _ hy)
end Go.Ex
namespace Go.Ex
open Go Go.Wc Go.Pu
variable {D:Tabs} {X:At} {ν ν':Nu} {h h':Hp} {A B B':List At} {ω ω':List Gm} {H H':SH D} {K:KS D} {τ:Tys}
theorem jM {op:BinOp} {k:IntKind} {a b:Int} {K K':Value->Prop} (hk: ∀ u,K u->K' u) (H:intB op k a b K):intB op k a b K':=by cases op <;> simp only [intB] at H |- <;> first | exact hk _ H | exact ⟨H.1,hk _ H.2⟩ | exact H
theorem lX {op:BinOp} {a b:ByteArray} {K K':Value->Prop} (hk: ∀ u,K u->K' u) (H:strB op a b K):strB op a b K':=by cases op <;> simp only [strB] at H |- <;> first | exact hk _ H | exact ⟨H.1,hk _ H.2⟩ | exact H
def Pl (ν:Nu) (Kb:SV D->Prop) (u:Value):Prop:= ∃ s,Kb s/\VR ν s u/\stillB s=true
theorem kj {v:Value} {s:SV D} (h:ofV v=some s):VR ν s v/\stillB s=true:=by cases v <;> simp only [ofV,Option.some.injEq,reduceCtorEq] at h <;> subst h <;> exact ⟨rfl,rfl⟩
theorem E0 {Kb:SV D->Prop} {v:Value} (h:kV Kb v):Pl ν Kb v:=by
 unfold kV at h;split at h
 ·rename_i s hs; exact ⟨s,h,kj hs⟩
 ·exact h.elim
theorem Dp {s:SV D} {u v:Value} (h:plainV s=some u) (hv:VR ν s v):v=u:=by cases s <;> simp only [plainV,Option.some.injEq,reduceCtorEq] at h <;> subst h <;> exact hv
theorem vN {op:BinOp} {k:IntKind} {a b:Int} {Kb:SV D->Prop} (H:intS op k a b Kb):intB op k a b (Pl ν Kb):=by
 unfold intS at H;split at H
 ·obtain ⟨h1,h2⟩:=KX (P:=fun _=>_) H
  exact ⟨h1,_,h2,rfl,rfl⟩
 ·obtain ⟨h1,h2⟩:=KX (P:=fun _=>_) H
  exact ⟨h1,_,h2,rfl,rfl⟩
 ·exact jM (fun u hu=>E0 hu) H
theorem pR {k:IntKind}: ∀ {n:Nat} {l r:List (SV D)} {xs:List Int} {vs:List Value},takeInts k n l=some (xs,r)->CRL ν l vs-> ∃ w,vs=xs.map (Value.int k)++w/\CRL ν r w/\xs.length=n
 | 0,l,r,xs,vs,h,hc=>by
  simp only [takeInts,Option.some.injEq,Prod.mk.injEq] at h;obtain ⟨rfl,rfl⟩:=h
  exact ⟨vs,rfl,hc,rfl⟩
 | n+1,[],r,xs,vs,h,hc=>by simp [takeInts] at h
 | n+1,s::l,r,xs,vs,h,hc=>by
  cases s <;> simp only [takeInts,reduceCtorEq] at h;rename_i k' x
  cases hk:sameKind k k' with
  | false=>rw [hk] at h; cases h
  | true=>
   rw [hk] at h;have:=bH hk; subst this;simp only [cond_true] at h;split at h
   case h_2=>cases h
   rename_i ys r' hr;cases h;obtain ⟨u,w,e,⟨v,h1,e2⟩,h2⟩:=hc;have h1:v=_:=h1;subst h1 e2;obtain ⟨w',e3,h3,h4⟩:=pR hr h2;exact ⟨w',by rw [e,e3]; rfl,h3,by simp [h4]⟩
theorem oO: ∀ {cs:List CK} {l p:List (SV D)} {vs:List Value},shapeL cs l=some p->CRL ν l vs->CRL ν p vs
 | [],[],p,vs,h,hc=>by simp only [shapeL,Option.some.injEq] at h; subst h; exact hc
 | [],_::_,p,vs,h,hc=>by simp [shapeL] at h
 | c::cs,l,p,vs,h,hc=>by
  have one: ∀ {s r},l=s::r->(match shapeL cs r with
   | some r=>some (s::r)
   | none=>none)=some p->CRL ν p vs:=by
   rintro s r rfl h;split at h
   case h_2=>cases h
   rename_i r' hr;cases h;obtain ⟨u,w,e,h1,h2⟩:=hc;exact ⟨u,w,e,h1,oO hr h2⟩
  have lmp: ∀ {k n},(match takeInts k n l with
   | some (xs,r)=>match shapeL cs r with
    | some r=>some (.vec k n (toV n xs)::r)
    | none=>none
   | none=>none)=some p->CRL ν p vs:=by
   intro k n h;split at h
   case h_2=>cases h
   rename_i xs r hx;split at h
   case h_2=>cases h
   rename_i r' hr;cases h;obtain ⟨w,e,h2,h3⟩:=pR hx hc;refine ⟨lumpV k n (toV n xs).toList,w, ?_,rfl,oO hr h2⟩;rw [e,dZ,zL h3]
  simp only [shapeL] at h;split at h
  ·exact one rfl h
  ·exact lmp h
  ·exact one rfl h
  ·cases h
theorem CRL.AI {s:SV D} {vs:List Value} (h:CRL ν [s] vs) (hs: ∀ k n w,s ≠ .vec k n w): ∃ v,vs=[v]/\iH ν s v:=by obtain ⟨u,w,e,h1,h2⟩:=h;have h2:w=[]:=h2;subst h2;obtain ⟨v,rfl,h3⟩:=h1.v0 hs;exact ⟨v,by simpa using e,h3⟩
theorem CRL.Na {k:IntKind} {n:Nat} {v:Vector Int n} {vs:List Value} (h:CRL (D:=D) ν [.vec k n v] vs):vs=lumpV k n v.toList:=by obtain ⟨u,w,e,h1,h2⟩:=h;have h2:w=[]:=h2;have h1:u=_:=h1;subst h2 h1;simpa using e
theorem r8 (k:IntKind): ∀ l:List Int,intsOk k l.length (l.map (Value.int k))=true
 | []=>rfl
 | x::l=>by simp [intsOk,r8 k l]
theorem si (k:IntKind): ∀ l:List Int,unInts (l.map (Value.int k))=l
 | []=>rfl
 | x::l=>by simp [unInts,si k l]
theorem pS (k:IntKind) {n:Nat} (v:Vector Int n):intsOk k n (lumpV k n v.toList)=true:=by have:=r8 k v.toList;rw [Vector.length_toList] at this;rw [dZ]; exact this
theorem pT (k:IntKind) {n:Nat} (v:Vector Int n):unInts (lumpV k n v.toList)=v.toList:=by rw [dZ,si]
def vT (ti:TI) (vs:List Value):Value:=if Wc.isAgg ti.kd then .agg vs.toArray else vs.headD Go.undef
theorem yf {eqs:Nat->List (SV D)->List (SV D)->(Bool->Prop)->Prop} {eq:Nat->Value->Value->(Bool->Prop)->Prop} {xs ys:List (SV D)} {vs ws:List Value} (hx:CRL ν xs vs) (hy:CRL ν ys ws)
  (he: ∀ t ti u v us us' (Kb Kr:Bool->Prop),(∀ b,Kb b->Kr b)->τ.get t=some ti->CRL ν u us->CRL ν v us'->eqs t u v Kb->eq t (vT ti us) (vT ti us') Kr/\(Wc.isAgg ti.kd=false->(∃ a,us=[a])/\ ∃ a,us'=[a])):
  ∀ {fs:List (Nat × Nat)} {Kb Kr:Bool->Prop},(∀ b,Kb b->Kr b)->eqFsS τ eqs xs ys fs Kb->eqFs τ eq vs ws fs Kr
 | [],Kb,Kr,hk,HE=>hk _ HE
 | (ft,off)::fs,Kb,Kr,hk,HE=>by
  simp only [eqFsS] at HE;simp only [eqFs];split at HE
  ·exact HE.elim
  rename_i tf htf;rw [htf];simp only;split at HE
  case h_2=>exact HE.elim
  rename_i u v hu hv;obtain ⟨c1,l1⟩:=hx.part hu;obtain ⟨c2,l2⟩:=hy.part hv;obtain ⟨h3,h2⟩:=he ft tf u v _ _ _ (fun b=>eqFs τ eq vs ws fs fun c=>Kr (b && c)) (fun b hb=>yf hx hy he (fun c hc=>hk _ hc) hb) htf c1 c2 HE;unfold partW
  cases ha:Wc.isAgg tf.kd with
  | true=>
   simp only [cnd,vT,ha,if_true] at h3 |-
   exact h3
  | false=>
   obtain ⟨⟨a,ea⟩,b,eb⟩:=h2 ha
   have d1: ∃ r,vs.drop off=a::r:=by
    cases hd:vs.drop off with
    | nil=>rw [hd] at ea; simp at ea
    | cons y r=>
     rw [hd] at ea
     cases hs:tf.size with
     | zero=>rw [hs] at ea; simp at ea
     | succ n=>rw [hs] at ea; simp at ea; exact ⟨r,by rw [ea.1]⟩
   have d2: ∃ r,ws.drop off=b::r:=by
    cases hd:ws.drop off with
    | nil=>rw [hd] at eb; simp at eb
    | cons y r=>
     rw [hd] at eb
     cases hs:tf.size with
     | zero=>rw [hs] at eb; simp at eb
     | succ n=>rw [hs] at eb; simp at eb; exact ⟨r,by rw [eb.1]⟩
   obtain ⟨r1,d1⟩:=d1;obtain ⟨r2,d2⟩:=d2;simp only [cnd,d1,d2];simp only [vT,ha,ea,eb] at h3;exact h3
theorem E2: ∀ (d t:Nat) (ti:TI) (xs ys:List (SV D)) (vs ws:List Value) (Kb Kr:Bool->Prop),(∀ b,Kb b->Kr b)->τ.get t=some ti->CRL ν xs vs->CRL ν ys ws->eqS τ d t xs ys Kb->
  eqW τ d t (vT ti vs) (vT ti ws) Kr/\(Wc.isAgg ti.kd=false->(∃ a,vs=[a])/\ ∃ a,ws=[a])
 | 0,_,_,_,_,_,_,_,_,_,_,_,_,HE=>HE.elim
 | d+1,t,ti,xs,ys,vs,ws,Kb,Kr,hk,ht,hx,hy,HE=>by
  simp only [eqS,ht] at HE;simp only [eqW,ht];split at HE
  case h_6=>exact HE.elim
  ·rename_i a b e
   obtain ⟨v,e1,h1⟩:=hx.AI (by simp);obtain ⟨w,e2,h2⟩:=hy.AI (by simp);have h1:v=_:=h1;have h2:w=_:=h2;subst e1 e2 h1 h2;simp only [vT,e,Wc.isAgg,Bool.false_eq_true,if_false,List.headD_cons];exact ⟨hk _ HE,fun _=>⟨⟨_,rfl⟩,_,rfl⟩⟩
  ·rename_i k0 k a k' b e
   obtain ⟨v,e1,h1⟩:=hx.AI (by simp);obtain ⟨w,e2,h2⟩:=hy.AI (by simp);have h1:v=_:=h1;have h2:w=_:=h2;subst e1 e2 h1 h2;simp only [vT,e,Wc.isAgg,Bool.false_eq_true,if_false,List.headD_cons]
   cases hs:sameKind k k' with
   | false=>rw [hs] at HE; exact HE.elim
   | true=> rw [hs] at HE;have:=bH hs; subst this;simp only [decide_true,cnd];exact ⟨hk _ HE,fun _=>⟨⟨_,rfl⟩,_,rfl⟩⟩
  ·rename_i a b e
   obtain ⟨v,e1,h1⟩:=hx.AI (by simp);obtain ⟨w,e2,h2⟩:=hy.AI (by simp);have h1:v=_:=h1;have h2:w=_:=h2;subst e1 e2 h1 h2;simp only [vT,e,Wc.isAgg,Bool.false_eq_true,if_false,List.headD_cons];exact ⟨hk _ HE,fun _=>⟨⟨_,rfl⟩,_,rfl⟩⟩
  ·rename_i fs e
   simp only [vT,e,Wc.isAgg,if_true]
   cases hq:ti.eq with
   | false=>rw [hq] at HE; exact HE.elim
   | true=>
    rw [hq] at HE;simp only [cnd] at HE |-
    refine ⟨yf hx hy (fun t ti u v us us' Kb Kr hk ht h1 h2 h3=>E2 d t ti u v us us' Kb Kr hk ht h1 h2 h3) hk HE,fun h=>by simp at h⟩
  ·rename_i n e k m v k' m' w ek
   split at HE
   case h_2=>exact HE.elim
   rename_i te hte;split at HE
   case h_2=>exact HE.elim
   rename_i k0 IA
   cases hb:(Nat.beq te.size 1 && sameKind k0 k && sameKind k0 k' && Nat.beq n m && Nat.beq n m') with
   | false=>rw [hb] at HE; exact HE.elim
   | true=>
    rw [hb] at HE;simp only [Bool.and_eq_true] at hb;obtain ⟨⟨⟨⟨b1,b2⟩,b3⟩,b4⟩,b5⟩:=hb;have:=bH b2; subst this;have:=bH b3; subst this;have e4:n=m:=by simpa using b4
    have e5:n=m':=by simpa using b5
    subst e4 e5;have e1:=hx.Na; have e2:=hy.Na;subst e1 e2;simp only [vT,ek,Wc.isAgg,if_true,hte,IA,b1,pS,pT,Bool.and_self,cnd];exact ⟨hk _ HE,fun h=>by simp at h⟩
theorem aggV {s:SV D} {v:Value} {cs:List CK} {p:List (SV D)} (hv:VR ν s v) (hs:shapeL cs (flat s)=some p) (ho:(flat s).all okC=true):CRL ν p v.cells.toList:=oO hs ((hv.one ho).flat ho)
theorem nL {s:SV D} {v:Value} (hv:VR ν s v) (hs:shB true s=true) (ho:(flat s).all okC=true):v= .agg v.cells.toList.toArray:=by have:=EX hv ho hs;simpa [vOf] using this
theorem E3 {t:Nat} {x y:SV D} {v w:Value} {Kb:Bool->Prop} (R:HR X ν ω H h []) (hv:VR ν x v) (hw:VR ν y w) (HE:eqT τ t x y H Kb):
    (∀ K':Value->Prop,(∀ b,Kb b->K' (.bool b))->binW τ .eql t v w K')/\(∀ K':Value->Prop,(∀ b,Kb b->K' (.bool !b))->binW τ .neq t v w K'):=by
  unfold eqT at HE
  cases ht:τ.get t with
  | none=>rw [ht] at HE; exact HE.elim
  | some ti=>
    rw [ht] at HE;simp only at HE
    have agg:Wc.isAgg ti.kd=true->(match shapeL ti.gC (flat x),shapeL ti.gC (flat y) with
      | some xs,some ys=>cnd (ti.eq && (flat x).all okC && (flat y).all okC && shB true x && shB true y) (eqS τ 6 t xs ys Kb) False
      | _,_=>False)-> ∃ a b,v= .agg a/\w= .agg b/\ti.eq=true/\ ∀ Kr:Bool->Prop,(∀ b,Kb b->Kr b)->eqW τ 6 t (.agg a) (.agg b) Kr:=by
      intro ha HE;split at HE
      case h_2=>exact HE.elim
      rename_i xs ys hxs hys
      cases hb:(ti.eq && (flat x).all okC && (flat y).all okC && shB true x && shB true y) with
      | false=>rw [hb] at HE; exact HE.elim
      | true=> rw [hb] at HE;simp only [Bool.and_eq_true] at hb;obtain ⟨⟨⟨⟨b1,b2⟩,b3⟩,b4⟩,b5⟩:=hb;refine ⟨_,_,nL hv b4 b2,nL hw b5 b3,b1,fun Kr hk=> ?_⟩;have:=(E2 6 t ti xs ys _ _ Kb Kr hk ht (aggV hv hxs b2) (aggV hw hys b3) HE).1;simpa only [vT,ha,if_true] using this
    split at HE
    . rename_i fs ek;obtain ⟨a,b,rfl,rfl,hq,k⟩:=agg (by rw [ek]; rfl) HE;constructor
      . intro K' hk;simp only [binW,ht,eqB,ek,hq,cnd];exact k _ hk
      . intro K' hk;simp only [binW,ht,eqB,ek,hq,cnd];exact k _ hk
    . rename_i n e ek;obtain ⟨a,b,rfl,rfl,hq,k⟩:=agg (by rw [ek]; rfl) HE;constructor
      . intro K' hk;simp only [binW,ht,eqB,ek,hq,cnd];exact k _ hk
      . intro K' hk;simp only [binW,ht,eqB,ek,hq,cnd];exact k _ hk
    . rename_i ek;split at HE
      case h_2=>exact HE.elim
      have hv:v=_:=hv;have hw:w=_:=hw;subst hv hw
      constructor <;> (intro K' hk; simp only [binW,ht,eqB,ek]; exact hk _ HE)
    . rename_i e ek;split at HE
      case h_8=>exact HE.elim
      case h_2=>
        rename_i p;have hv:v=_:=hv;have hw:w=_:=hw;subst hv hw
        cases p <;> (constructor <;> (intro K' hk; simp only [binW,ht,eqB,ek]; exact hk _ HE))
      all_goals first
        | (have hv:v=_:=hv
           have hw:w=_:=hw;subst hv hw
           constructor <;> (intro K' hk; simp only [binW,ht,eqB,ek]; exact hk _ HE))
        | (obtain ⟨q,_,rfl⟩:=hv
           have hw:w=_:=hw;subst hw
           constructor <;> (intro K' hk; simp only [binW,ht,eqB,ek]; exact hk _ HE))
        | (obtain ⟨q,_,rfl⟩:=hw
           have hv:v=_:=hv;subst hv
           constructor <;> (intro K' hk; simp only [binW,ht,eqB,ek]; exact hk _ HE))
    . rename_i e ek;split at HE
      case h_2=>exact HE.elim
      have hv:v=_:=hv;have hw:w=_:=hw;subst hv hw
      constructor <;> (intro K' hk; simp only [binW,ht,eqB,ek]; exact hk _ HE)
    . rename_i k e ek;split at HE
      case h_3=>exact HE.elim
      . have hv:v=_:=hv;have hw:w=_:=hw;subst hv hw
        constructor <;> (intro K' hk; simp only [binW,ht,eqB,ek]; exact hk _ HE)
      . rename_i nm;split at HE
        case h_2=>exact HE.elim
        rename_i k' t' g L ho;obtain ⟨y',hy,rfl⟩:=hv;have hw:w=_:=hw;subst hw;obtain ⟨y2,gm,Ik,hg⟩:=nK R ho;rw [hy] at Ik; cases Ik;have hm:=(R.in (.sl nm)).at_ nm _ y' gm rfl ho hy hg;obtain ⟨F,M,hP⟩:=Inv.get R.all;obtain ⟨F',h1⟩:=gP hm hP
        have e0:y'.m.isNone=L.isNone:=by have h1:(mapX (kI k') (D.r t') g y'.m gm L).P h F' M:=h1;generalize y'.m=m at h1;cases m <;> cases gm <;> cases L <;> first | rfl | exact (h1:False).elim
        constructor <;> (intro K' hk; simp only [binW,ht,eqB,ek]; rw [e0]; exact hk _ HE)
    . rename_i ek;split at HE
      case h_3=>exact HE.elim
      . have hv:v=_:=hv;have hw:w=_:=hw;subst hv hw
        constructor <;> (intro K' hk; simp only [binW,ht,eqB,ek]; exact hk _ HE)
      . obtain ⟨xs,_,rfl⟩:=hv;have hw:w=_:=hw;subst hw
        constructor <;> (intro K' hk; simp only [binW,ht,eqB,ek]; exact hk _ HE)
    . exact HE.elim
theorem vO {op:BinOp} {t:Nat} {x y:SV D} {v w:Value} {Kb:SV D->Prop} (R:HR X ν ω H h []) (hv:VR ν x v) (hw:VR ν y w) (HB:binS τ op t x y H Kb):binW τ op t v w (Pl ν Kb):=by
  unfold binS at HB;split at HB
  . rename_i k a k' b;have hv:v=_:=hv;have hw:w=_:=hw;subst hv hw;split at HB
    . obtain ⟨h1,h2⟩:=Ed (P:=fun _=>Kb _) HB;exact ⟨h1,_,h2,rfl,rfl⟩
    . obtain ⟨h1,h2⟩:=Ed (P:=fun _=>Kb _) HB;exact ⟨h1,_,h2,rfl,rfl⟩
    . rename_i h1 h2
      cases hk:sameKind k k' with
      | false=>rw [hk] at HB; exact HB.elim
      | true=>
        rw [hk] at HB;have:=bH hk; subst this;have:=vN (ν:=ν) HB;unfold binW;simp only
        first
          | (split
             . exact absurd rfl h1
             . exact absurd rfl h2
             . simpa only [decide_true,cnd] using this)
          | simpa only [decide_true,cnd] using this
  . have hv:v=_:=hv;have hw:w=_:=hw;subst hv hw;exact lX (fun u hu=>E0 hu) HB
  . split at HB
    case h_3=>exact HB.elim
    . exact (E3 R hv hw HB).1 _ fun b hb=>⟨_,hb,rfl,rfl⟩
    . exact (E3 R hv hw HB).2 _ fun b hb=>⟨_,hb,rfl,rfl⟩
theorem nM {k:IntKind}: ∀ {n:Nat} {l r:List (SV D)} {xs:List Int},takeInts k n l=some (xs,r)->r.all okC=true->l.all okC=true
 | 0,l,r,xs,h,hr=>by simp only [takeInts,Option.some.injEq,Prod.mk.injEq] at h; rw [h.2]; exact hr
 | n+1,[],r,xs,h,hr=>by simp [takeInts] at h
 | n+1,s::l,r,xs,h,hr=>by
  cases s <;> simp only [takeInts,reduceCtorEq] at h;rename_i k' x
  cases hk:sameKind k k' with
  | false=>rw [hk] at h; cases h
  | true=>
   rw [hk] at h;simp only [cond_true] at h;split at h
   case h_2=>cases h
   rename_i ys r' hy;cases h;simp only [List.all_cons,okC,Bool.true_and];exact nM hy hr
theorem kn: ∀ {cs:List CK} {l p:List (SV D)},shapeL cs l=some p->p.all okC=true->l.all okC=true
 | [],[],p,h,hp=>rfl
 | [],_::_,p,h,hp=>by simp [shapeL] at h
 | c::cs,l,p,h,hp=>by
  have one: ∀ {s r},l=s::r->(match shapeL cs r with
   | some r=>some (s::r)
   | none=>none)=some p->l.all okC=true:=by
   rintro s r rfl h;split at h
   case h_2=>cases h
   rename_i r' hr;cases h;simp only [List.all_cons,Bool.and_eq_true] at hp |-
   exact ⟨hp.1,kn hr hp.2⟩
  have lmp: ∀ {k n},(match takeInts k n l with
   | some (xs,r)=>match shapeL cs r with
    | some r=>some (.vec k n (toV n xs)::r)
    | none=>none
   | none=>none)=some p->l.all okC=true:=by
   intro k n h;split at h
   case h_2=>cases h
   rename_i xs r hx;split at h
   case h_2=>cases h
   rename_i r' hr;cases h;simp only [List.all_cons,Bool.and_eq_true] at hp;exact nM hx (kn hr hp.2)
  simp only [shapeL] at h;split at h
  ·exact one rfl h
  ·exact lmp h
  ·exact one rfl h
  ·cases h
theorem lg {s:SV D} {v:Value} {cs:List CK} {p:List (SV D)} (hv:VR ν s v) (hs:shapeL cs (flat s)=some p) (ho:p.all okC=true):CRL ν p v.cells.toList:=aggV hv hs (kn hs ho)
theorem E4 {x:Int} (h:isZ x=true):x=0:=by cases x <;> simp [isZ] at h |-; exact h
theorem yg {k:IntKind}: ∀ {n:Nat} {l r:List Value},zInts k n l=some r->l=(List.replicate n 0).map (Value.int k)++r
 | 0,l,r,h=>by simp only [zInts,Option.some.injEq] at h; simp [h]
 | n+1,[],r,h=>by simp [zInts] at h
 | n+1,v::l,r,h=>by
  cases v <;> simp only [zInts,reduceCtorEq] at h;rename_i k' x
  cases hk:(sameKind k k' && isZ x) with
  | false=>rw [hk] at h; cases h
  | true=> rw [hk] at h;simp only [Bool.and_eq_true] at hk;have:=bH hk.1; subst this;have:=E4 hk.2; subst this;rw [yg h];rfl
theorem E5 {c:CK} {v:Value} {s:SV D} (h:PD c v=true) (hs:Ca c=some s) (hl: ∀ k n,c ≠ .lump k n):CR ν s [v]/\okC s=true/\stillB s=true:=by
 cases c <;> simp only [Ca,Option.some.injEq,reduceCtorEq] at hs
 case lump k n=>exact absurd rfl (hl k n)
 all_goals
  subst hs;cases v <;> simp only [PD,Bool.false_eq_true] at h
 case int.int k k' x=>
  simp only [Bool.and_eq_true] at h;have:=bH h.1; subst this;have:=E4 h.2; subst this;exact ⟨⟨_,rfl,rfl⟩,rfl,rfl⟩
 case bool.bool b=>cases b <;> simp at h; exact ⟨⟨_,rfl,rfl⟩,rfl,rfl⟩
 case str.string s=>
  split at h
  ·exact ⟨⟨_,rfl,rfl⟩,rfl,rfl⟩
  ·cases h
 case ptr.pointer p=>cases p <;> simp [PD] at h; exact ⟨⟨_,rfl,rfl⟩,rfl,rfl⟩
 case sl.slice a n c=>
  cases a with
  | some a=>simp at h
  | none=>cases n with
   | succ n=>simp at h
   | zero=>cases c with
    | succ c=>simp at h
    | zero=>exact ⟨⟨_,rfl,rfl⟩,rfl,rfl⟩
 case map.map m=>cases m <;> simp [PD] at h; exact ⟨⟨_,rfl,rfl⟩,rfl,rfl⟩
theorem vP: ∀ {cs:List CK} {l:List Value} {z:List (SV D)},zOkB cs l=true->zeroP cs=some z->CRL ν z l/\z.all okC=true/\z.all stillB=true
 | [],[],z,h,hz=>by simp only [zeroP,Option.some.injEq] at hz; subst hz; exact ⟨rfl,rfl,rfl⟩
 | [],_::_,z,h,hz=>by simp [zOkB] at h
 | c::cs,l,z,h,hz=>by
  simp only [zeroP] at hz;split at hz
  case h_2=>cases hz
  rename_i s r hs hr;cases hz
  by_cases hl: ∃ k n,c= .lump k n
  ·obtain ⟨k,n,rfl⟩:=hl
   simp only [zOkB] at h;split at h
   case h_2=>cases h
   rename_i w hw;obtain ⟨h1,h2,h3⟩:=vP h hr;simp only [Ca,Option.some.injEq] at hs;subst hs;refine ⟨⟨lumpV k n (Vector.replicate n 0).toList,w, ?_,rfl,h1⟩,by simp [okC,h2],by simp [stillB,h3]⟩;rw [yg hw,dZ];simp
  ·have Bw: ∀ k n,c ≠ .lump k n:=fun k n e=>hl ⟨k,n,e⟩
   cases l with
   | nil=>cases c <;> simp [zOkB] at h; exact absurd rfl (Bw _ _)
   | cons v l=>
    have h:PD c v=true/\zOkB cs l=true:=by
     cases c <;> first
      | exact absurd rfl (Bw _ _)
      | simpa [zOkB] using h
    obtain ⟨h1,h2,h3⟩:=vP h.2 hr;obtain ⟨k1,k2,k3⟩:=E5 h.1 hs Bw;exact ⟨⟨[v],l,rfl,k1,h1⟩,by simp [k2,h2],by simp [k3,h3]⟩
theorem sj {ti:TI} {z:List (SV D)} (h:zeroV ti=some z):CRL ν z ti.zero.cells.toList/\z.all okC=true/\z.all stillB=true:=by
 unfold zeroV at h
 cases hb:zOkB ti.gC ti.zero.cells.toList with
 | false=>rw [hb] at h; cases h
 | true=>rw [hb] at h; exact vP hb h
theorem nN {nm:Nat} {t:Ty} {l:List (D.d t)} (h:lstN H nm=some ⟨t,l⟩): ∃ o,H.get nm=some o/\lstO o=some ⟨t,l⟩:=by
 unfold lstN at h
 cases ho:H.get nm with
 | none=>rw [ho] at h; cases h
 | some o=>rw [ho] at h; exact ⟨o,rfl,h⟩
theorem HR.rd (R:HR X ν ω H h []) {nm:Nat} {t:Ty} {l:List (D.d t)} {x:Nm} (hl:lstN H nm=some ⟨t,l⟩) (hx:ν[nm]? =some x):
  Rd (D.r t) (bigA (LL X ν ω H)) x.a x.n x.c l/\x.sz=(D.r t).n/\x.n=l.length:=by
 obtain ⟨o,ho,_⟩:=nN hl;obtain ⟨y,g,hy,hg⟩:=nK R ho;rw [hx] at hy; cases hy;obtain ⟨k1,k2⟩:=jL (t:=t) (l:=l) (L:=LL X ν ω H) (oN hl) hx hg (fun o ho=>(R.in (.sl nm)).at_ nm o x g rfl ho hx hg) (by simp);obtain ⟨h0,F,M,hP⟩:=R.getP;exact ⟨k1,k2 _ _ _ hP,(k1 hP).1⟩
theorem jN {place:Nat->Option (Nat × TI)} {pl':Nat->Option (Nat × Nat)} (hpl: ∀ i off ti,place i=some (off,ti)->pl' i=some (off,ti.size)): ∀ {ps:List (Nat × SV D)} {vs:List (Nat × Value)} {cs:List (SV D)} {ws:List Value} {Ks:List (SV D)->Prop} {Kr:List Value->Prop},
    dA (fun p q=>p.1=q.1/\VR ν p.2 q.2) ps vs->CRL ν cs ws->cs.all okC=true/\cs.all stillB=true->buildP τ place ps cs Ks->(∀ l us,Ks l->CRL ν l us->l.all okC=true->l.all stillB=true->Kr us)->fillL pl' vs ws Kr
  | _,_,cs,ws,Ks,Kr, .nil,hc,ho,HB,k=>k _ _ HB hc ho.1 ho.2
  | (i, s) :: ps, (j, v) :: vs, cs, ws, Ks, Kr, .cons ⟨e, hv⟩ hr, hc, ho, HB, k => by
    simp only at e hv;subst e;simp only [buildP] at HB;simp only [fillL];split at HB
    . exact HB.elim
    rename_i off ti hp;split at HB
    . exact HB.elim
    rename_i new hn;rw [hpl _ _ _ hp];simp only
    cases hb:(new.all okC && new.all stillB && Nat.beq (sizeL new) ti.size) with
    | false=>rw [hb] at HB; exact HB.elim
    | true=>
      rw [hb] at HB;simp only [Bool.and_eq_true,Nat.beq_eq] at hb;simp only [cnd] at HB;split at HB
      case h_2=>exact HB.elim
      rename_i cs' hs;have c1:=lg hv hn hb.1.1;obtain ⟨c2,c3⟩:=hc.put c1 hs;have hl:v.cells.toList.length=ti.size:=by rw [c1.len,hb.2]
      rw [show Nat.beq v.cells.toList.length ti.size=true by rw [hl]; simp,show Nat.ble (off+ti.size) ws.length=true by rw [Nat.ble_eq]; omega];simp only [Bool.and_self,cnd];refine jN hpl hr ?_ ?_ HB k
      . rw [vQ _ _ _ c3]; exact c2
      . unfold setP at hs;split at hs
        case h_2=>cases hs
        split at hs
        case h_2=>cases hs
        cases hs
        have key: ∀ (f:SV D->Bool) (a b c d:List (SV D)),cs.all f=true->new.all f=true->(∀ x ∈ a,x ∈ cs)->(∀ x ∈ b,x ∈ cs)->(a++(new++b)).all f=true:=by
          intro f a b c d h1 h2 h3 h4;simp only [List.all_append,Bool.and_eq_true,List.all_eq_true] at*
          exact ⟨fun x hx=>h1 x (h3 x hx),h2,fun x hx=>h1 x (h4 x hx)⟩
        exact ⟨key _ _ _ [] [] ho.1 hb.1.1 (fun x hx=>List.mem_of_mem_take hx) (fun x hx=>List.mem_of_mem_drop (List.mem_of_mem_drop hx)),key _ _ _ [] [] ho.2 hb.1.2 (fun x hx=>List.mem_of_mem_take hx) (fun x hx=>List.mem_of_mem_drop (List.mem_of_mem_drop hx))⟩
where
 vQ: ∀ (ws:List Value) (i:Nat) (cs:List Value),i+ws.length<=cs.length->setL cs i ws=cs.take i++(ws++cs.drop (i+ws.length))
  | [],i,cs,h=>by simp [setL]
  | v::ws,i,cs,h=>by
   simp only [List.length_cons] at h;rw [setL,vQ ws (i+1) (cs.set i v) (by simp; omega)];rw [List.set_eq_take_append_cons_drop,if_pos (by omega)]
   have e1:(List.take i cs++v::List.drop (i+1) cs).take (i+1)=cs.take i++[v]:=by rw [List.take_append,List.length_take,Nat.min_eq_left (by omega),List.take_of_length_le (by simp; omega),show i+1 - i=1 by omega];rfl
   have e2:(List.take i cs++v::List.drop (i+1) cs).drop (i+1+ws.length)=cs.drop (i+(v::ws).length):=by
    rw [List.drop_append,List.drop_eq_nil_of_le (by simp; omega)];have:i+1+ws.length - (cs.take i).length=ws.length+1:=by simp; omega
    rw [this];simp;congr 1; omega
   rw [e1,e2];simp
theorem vR {op:UnOp} {x:SV D} {v u:Value} {Kb:SV D->Prop} (hv:VR ν x v) (hp:plainV x=some u) (HB:unW op u (kV Kb)):unW op v (Pl ν Kb):=by
 have e:=Dp hp hv;subst e;unfold unW at HB |-
 split at HB <;> first
  | exact HB.elim
  | exact E0 HB
abbrev indexW (τ:Tys) (t:Nat) (v w:Value) (Kr:(Hp->Prop)->Value->Prop):Prop:=match τ.get t with
  | some ti=>match ti.kd,v,w with
   | .slice e, .slice a n _, .int _ j=>match τ.get e with
    | some te=>ixW a n j te.size fun p=>Kr (fun _=>True) (.pointer (some p))
    | none=>False
   | .arr n e, .pointer (some a), .int _ j=>match τ.get e with
    | some te=>ixW (some a) n j te.size fun p=>Kr (fun _=>True) (.pointer (some p))
    | none=>False
   | _,_,_=>False
  | none=>False
theorem sn {t:Nat} {x i:SV D} {v w:Value} (R:HR X ν ω H h []) (hv:VR ν x v) (hw:VR ν i w) (HI:indexS τ t x i H K):indexW τ t v w (PR K X ν ω H h):=by
 unfold indexW;unfold indexS at HI
 cases ht:τ.get t with
 | none=>rw [ht] at HI; exact HI.elim
 | some ti=>
  rw [ht] at HI;simp only at HI |-
  split at HI
  case h_3=>exact HI.elim
  ·rename_i e k j ek
   have hw:w=_:=hw;subst hw;rw [ek];split at HI
   ·exact HI.elim
   rename_i te hte;split at HI
   case h_4=>exact HI.elim
   ·rename_i nm
    split at HI
    case h_2=>exact HI.elim
    rename_i t' l hl;obtain ⟨y,hy,rfl⟩:=hv;simp only [hte];obtain ⟨k1,k2,k3⟩:=R.rd hl hy
    cases hb:(Nat.beq te.size (D.r t').n && !Nat.beq te.size 0) with
    | false=>rw [hb] at HI; exact HI.elim
    | true=>
     rw [hb] at HI;simp only [Bool.and_eq_true,Nat.beq_eq,Bool.not_eq_true',cnd] at hb HI
     have hn:(D.r t').n ≠ 0:=by rw [<- hb.1]; intro e0; rw [e0] at hb; simp at hb
     rw [hb.1];obtain ⟨o,ho,_⟩:=nN hl;have hil:=(List.getElem?_eq_some_iff.1 (get_at ho)).1;refine PT k1 R.all hn (dw HI) fun p us x he hx hc I hK=> ?_;refine PR.mk R hK.2 ⟨y,p,hy,he,by simp [Addr.add]⟩ ⟨hil,Nat.le_refl _,HI.1,fun _=>⟨l,hl,hx⟩⟩
   ·rename_i nm lo hi
    split at HI
    case h_2=>exact HI.elim
    rename_i t' l hl;obtain ⟨y,hy,h0,rfl⟩:=hv;simp only [hte];obtain ⟨k1,k2,k3⟩:=R.rd hl hy
    cases hb:(Nat.beq te.size (D.r t').n && !Nat.beq te.size 0) with
    | false=>rw [hb] at HI; exact HI.elim
    | true=>
     rw [hb] at HI;simp only [Bool.and_eq_true,Nat.beq_eq,Bool.not_eq_true',cnd] at hb HI
     have hn:(D.r t').n ≠ 0:=by rw [<- hb.1]; intro e0; rw [e0] at hb; simp at hb
     rw [hb.1];obtain ⟨o,ho,_⟩:=nN hl;have hil:=(List.getElem?_eq_some_iff.1 (get_at ho)).1
     have hs:SlOk l lo hi:=⟨h0.1,h0.2.1,by rw [<- k3]; exact h0.2.2⟩
     have k4:Rd (D.r t') (bigA (LL X ν ω H)) (resl y.a y.c (D.r t').n lo) (hi.toNat - lo.toNat) (y.c - lo.toNat) (sub l lo hi):=mF k1 hs (cg hs).symm;have hlt:=qJ HI;rw [cg hs] at hlt;obtain ⟨hP0,F0,M0,hP⟩:=R.getP
     have hcap:y.n<=y.c:=by obtain ⟨_,_,_,h3,_⟩:=k1 hP;omega
     rw [k2];refine PT k4 R.all hn (dw HI) fun p us x he hx hc I hK=> ?_;refine PR.mk R hK.2 ⟨y,p,hy, ?_,by simp [Addr.add]⟩ ⟨hil,Nat.le_refl _,by omega,fun _=>⟨l,hl, ?_⟩⟩
     ·obtain ⟨q,hq,rfl⟩:=he
      unfold resl at hq;rw [if_neg (by omega)] at hq
      cases hya:y.a with
      | none=>rw [hya] at hq; cases hq
      | some z=> rw [hya] at hq;simp only [Option.map_some,Option.some.injEq] at hq;subst hq;refine ⟨z,rfl, ?_⟩;rw [add_add,<- Nat.add_mul];congr 2; omega
     ·have e0:(lo+j).toNat=lo.toNat+j.toNat:=by omega
      rw [e0];unfold sub at hx;rw [List.getElem?_drop,List.getElem?_take] at hx;split at hx
      ·exact hx
      ·cases hx
   ·rename_i nm off k n lo hi
    split at HI
    case h_2=>exact HI.elim
    rename_i T ss ho;split at HI
    case h_2=>exact HI.elim
    rename_i vw hvw;obtain ⟨y,hy,h0,rfl⟩:=hv;simp only [hte]
    cases hb:Nat.beq te.size 1 with
    | false=>rw [hb] at HI; exact HI.elim
    | true=>
     rw [hb] at HI;simp only [cnd] at HI;rw [show te.size=1 by simpa using hb];have hil:=(List.getElem?_eq_some_iff.1 (get_at ho)).1
     have hs:SlOk vw.toList lo hi:=⟨h0.1,h0.2.1,by rw [Vector.length_toList]; exact h0.2.2⟩
     rw [iS] at HI;have hlt:=qJ HI;rw [cg hs] at hlt;obtain ⟨_,x,hx,hK⟩:=HI;refine ⟨(y.p.add off).add (lo.toNat*1), ?_,by omega, ?_⟩
     ·unfold resl; rw [if_neg (by omega)]; rfl
     ·have e0:(lo+j).toNat=lo.toNat+j.toNat:=by omega
      refine PR.mk R hK ⟨y,_,hy,rfl, ?_⟩ ⟨hil,Nat.le_refl _,by omega,fun _=>⟨T,ss,vw,ho,hvw, ?_⟩⟩
      ·rw [add_add,e0]; congr 3; omega
      ·rw [e0]
       unfold sub at hx;rw [List.getElem?_drop,List.getElem?_take] at hx;split at hx
       ·exact hx
       ·cases hx
  ·rename_i n e k j ek
   have hw:w=_:=hw;subst hw;rw [ek];split at HI
   ·exact HI.elim
   rename_i te hte;split at HI
   case h_2=>exact HI.elim
   rename_i k' nm off hk';split at HI
   case h_2=>exact HI.elim
   rename_i T ss ho;split at HI
   case h_2=>exact HI.elim
   rename_i vw hvw;obtain ⟨y,hy,rfl⟩:=hv;simp only [hte]
   cases hb:Nat.beq te.size 1 with
   | false=>rw [hb] at HI; exact HI.elim
   | true=> rw [hb] at HI;simp only [cnd] at HI;rw [show te.size=1 by simpa using hb];have hil:=(List.getElem?_eq_some_iff.1 (get_at ho)).1;have hlt:=qJ HI;rw [Vector.length_toList] at hlt;obtain ⟨h0,x,hx,hK⟩:=HI;refine ⟨_,rfl,hlt, ?_⟩;exact PR.mk R hK ⟨y,_,hy,rfl,rfl⟩ ⟨hil,Nat.le_refl _,h0,fun _=>⟨T,ss,vw,ho,hvw,hx⟩⟩
theorem HR.newro (R:HR X ν ω H h []) {nm:Nat} {t:Ty} {l:List (D.d t)} {x:Nm} {lo hi:Int} (ho:H.get nm=some (.ro t l)) (hx:ν[nm]? =some x) (hs:SlOk l lo hi):
  HR X (ν++[⟨resl x.a x.c (D.r t).n lo,(sub l lo hi).length,x.c - lo.toNat,(D.r t).n,none⟩]) (ω++[none]) (H.new (.ro t (sub l lo hi))) h []:=by
 obtain ⟨x',g,hx',_,k⟩:=R.dup ho;rw [hx] at hx'; cases hx'
 have R2:=k (roS (D.r t) (resl x.a x.c (D.r t).n lo) (sub l lo hi).length (x.c - lo.toNat) (sub l lo hi)) fun F M hP=>⟨rfl,rfl,Bu hP.2.2.2 hs⟩
 exact R2.push _ _ _ fun h F M hP=>⟨rfl,hP⟩
theorem HR.newrd (R:HR X ν ω H h []) {nm:Nat} {t:Ty} {l:List (D.d t)} {x:Nm} {lo hi:Int} (ho:H.get nm=some (.rd t l)) (hx:ν[nm]? =some x) (hs:SlOk l lo hi):
  HR X (ν++[⟨resl x.a x.c (D.r t).n lo,(sub l lo hi).length,x.c - lo.toNat,(D.r t).n,none⟩]) (ω++[none]) (H.new (.rd t (sub l lo hi))) h []:=by
 obtain ⟨x',g,hx',_,k⟩:=R.dup ho;rw [hx] at hx'; cases hx'
 have R2:=k (factA (Rd (D.r t) X x.a x.n x.c l) emp) fun F M hP=>⟨hP.1.2,rfl⟩
 refine R2.push _ _ _ fun h F M hP=>⟨⟨rfl, ?_⟩,hP.2⟩
 exact mF hP.1 hs rfl
theorem E6 {nm:Nat} {t:Ty} {l:List (D.d t)} {x:Nm} {i j:Int} {sz:Nat} (R:HR X ν ω H h []) (hl:lstN H nm=some ⟨t,l⟩) (hx:ν[nm]? =some x) (hsz:sz=(D.r t).n) (hs:SlOk l i j) (HS:subS nm t l i j H K):
  slW ⟨x.a,x.n,x.c⟩ i j sz fun s=>PR K X ν ω H h (fun _=>True) (.slice s.a s.len s.cap):=by
 obtain ⟨k1,k2,k3⟩:=R.rd hl hx;obtain ⟨hP0,F0,M0,hP⟩:=R.getP
 have hcap:l.length<=x.c:=by obtain ⟨_,_,_,h3,_⟩:=k1 hP;exact h3
 subst hsz;rw [k3];refine IG hs hcap ?_;obtain ⟨o,ho,hlo⟩:=nN hl;unfold subS at HS;rw [ho] at HS;cases o <;> simp only [lstO,Option.some.injEq,reduceCtorEq,Sigma.mk.injEq] at hlo
 ·obtain ⟨rfl,hlo⟩:=hlo
  cases hlo;refine PR.mk R HS ⟨x,hx,⟨hs.1,hs.2.1,by rw [k3]; exact hs.2.2⟩, ?_⟩ trivial;rw [cg hs,k2]
 ·obtain ⟨rfl,hlo⟩:=hlo
  cases hlo;exact ⟨tt,_,_,_,_,HS,⟨_,gv R _,rfl⟩,trivial,dL R.l2 _ _,R.newro ho hx hs,fun _ _ _ _ _ _ _=>trivial⟩
 ·obtain ⟨rfl,hlo⟩:=hlo
  cases hlo;exact ⟨tt,_,_,_,_,HS,⟨_,gv R _,rfl⟩,trivial,dL R.l2 _ _,R.newrd ho hx hs,fun _ _ _ _ _ _ _=>trivial⟩
abbrev loV (Γ:Env) (lo:Option Operand):Value:=match lo with
 | some y=>ev Γ y
 | none=> .int .i64 0
abbrev sliceW (τ:Tys) (t:Nat) (v l:Value) (hi:Option Value) (Kr:(Hp->Prop)->Value->Prop):Prop:=
 match τ.get t with
  | some ti=>match ti.kd,v,l with
   | .slice e, .slice a n c, .int _ i=>match τ.get e with
    | some te=>match hi with
     | none=>slW ⟨a,n,c⟩ i n te.size fun s=>Kr (fun _=>True) (.slice s.a s.len s.cap)
     | some y=>match y with
      | .int _ j=>slW ⟨a,n,c⟩ i j te.size fun s=>Kr (fun _=>True) (.slice s.a s.len s.cap)
      | _=>False
    | none=>False
   | .str, .string s, .int _ i=>match hi with
    | none=>stW s i s.size fun s=>Kr (fun _=>True) (.string s)
    | some y=>match y with
     | .int _ j=>stW s i j fun s=>Kr (fun _=>True) (.string s)
     | _=>False
   | .arr n e, .pointer (some p), .int _ i=>match τ.get e with
    | some te=>match hi with
     | none=>slW ⟨some p,n,n⟩ i n te.size fun s=>Kr (fun _=>True) (.slice s.a s.len s.cap)
     | some y=>match y with
      | .int _ j=>slW ⟨some p,n,n⟩ i j te.size fun s=>Kr (fun _=>True) (.slice s.a s.len s.cap)
      | _=>False
    | none=>False
   | _,_,_=>False
  | none=>False
theorem uL {t:Nat} {x:Operand} {lo hi:Option Operand} {Γ:Env} {Kr:(Hp->Prop)->Value->Prop}:
  opR τ (.slice t x lo hi none) Γ h Kr=sliceW τ t (ev Γ x) (loV Γ lo) (hi.map (ev Γ)) Kr:=by
 cases hi <;> cases lo <;> rfl
theorem E7 {nm off n:Nat} {k:IntKind} {x:Nm} {w:Vector Int n} {i j:Int} {g:SH D->Bool} (R:HR X ν ω H h []) (hx:ν[nm]? =some x) (hs:SlOk w.toList i j) (hK:K tt (.vs nm off k n i j) H):
  slW ⟨some (x.p.add off),n,n⟩ i j 1 fun s=>PR K X ν ω H h (fun _=>True) (.slice s.a s.len s.cap):=by
 have h2:=hs.2.2;rw [Vector.length_toList] at h2;refine ⟨⟨by have:=hs.1; have:=hs.2.1; omega,h2⟩,⟨hs.1,hs.2.1⟩, ?_⟩;exact PR.mk R hK ⟨x,hx,⟨hs.1,hs.2.1,h2⟩,rfl⟩ trivial
theorem oQ {t:Nat} {x:SV D} {lo hi:Option (SV D)} {v l:Value} {hv':Option Value} (R:HR X ν ω H h []) (hv:VR ν x v) (hl:VR ν (loE lo) l)
  (hlo:lo=none->l= .int .i64 0) (hh:(hi=none/\hv'=none)\/ ∃ s w,hi=some s/\hv'=some w/\VR ν s w) (HS:sliceS τ t x lo hi H K):sliceW τ t v l hv' (PR K X ν ω H h):=by
 unfold sliceS at HS;unfold sliceW
 cases ht:τ.get t with
 | none=>rw [ht] at HS; exact HS.elim
 | some ti=>
  rw [ht] at HS;simp only at HS |-
  split at HS
  case h_4=>exact HS.elim
  ·rename_i e k i ek el
   rw [el] at hl;have hl:l=_:=hl;subst hl;rw [ek];split at HS
   ·exact HS.elim
   rename_i te hte;split at HS
   case h_3=>exact HS.elim
   ·rename_i nm
    obtain ⟨y,hy,rfl⟩:=hv;simp only [hte];split at HS
    case h_3=>exact HS.elim
    ·obtain ⟨_,rfl⟩ | ⟨_,_,e1,_⟩:=hh
     case inr=>cases e1
     split at HS
     case h_2=>exact HS.elim
     rename_i t' l hl
     cases hb:Nat.beq te.size (D.r t').n with
     | false=>rw [hb] at HS; exact HS.elim
     | true=>
      rw [hb] at HS;simp only [cnd] at HS |-
      have:=E6 R hl hy (by simpa using hb) HS.1 HS.2
      rwa [(R.rd hl hy).2.2] at this |-
    ·rename_i k2 j
     obtain ⟨e1,_⟩ | ⟨s,w,e1,rfl,hw⟩:=hh
     ·cases e1
     cases e1;have hw:w=_:=hw;subst hw;split at HS
     case h_2=>exact HS.elim
     rename_i t' l hl
     cases hb:Nat.beq te.size (D.r t').n with
     | false=>rw [hb] at HS; exact HS.elim
     | true=>
      rw [hb] at HS;simp only [cnd] at HS |-
      exact E6 R hl hy (by simpa using hb) HS.1 HS.2
   ·have hv:v=_:=hv
    subst hv;simp only [hte];split at HS
    case h_3=>exact HS.elim
    ·obtain ⟨_,rfl⟩ | ⟨_,_,e1,_⟩:=hh
     case inr=>cases e1
     simp only;refine ⟨⟨by simp,by simp⟩,⟨by simp,by simp⟩, ?_⟩;exact PR.mk R HS rfl trivial
    ·obtain ⟨e1,_⟩ | ⟨s,w,e1,rfl,hw⟩:=hh
     ·cases e1
     cases e1;have hw:w=_:=hw;subst hw;simp only;refine ⟨⟨by simp,by simp⟩,⟨by simp,by simp⟩, ?_⟩;exact PR.mk R HS rfl trivial
  ·rename_i k i ek el
   rw [el] at hl;have hl:l=_:=hl;subst hl;rw [ek];split at HS
   case h_3=>exact HS.elim
   ·rename_i s
    have hv:v=_:=hv;subst hv;obtain ⟨_,rfl⟩ | ⟨_,_,e1,_⟩:=hh
    case inr=>cases e1
    exact Bv HS fun x hx=>PR.mk R hx rfl trivial
   ·rename_i s k2 j
    have hv:v=_:=hv;subst hv;obtain ⟨e1,_⟩ | ⟨s,w,e1,rfl,hw⟩:=hh
    ·cases e1
    cases e1;have hw:w=_:=hw;subst hw;exact Bv HS fun x hx=>PR.mk R hx rfl trivial
  ·rename_i n e k i ek el
   rw [el] at hl;have hl:l=_:=hl;subst hl;rw [ek];split at HS
   ·exact HS.elim
   rename_i te hte;split at HS
   case h_2=>exact HS.elim
   rename_i k' nm off hk';split at HS
   case h_2=>exact HS.elim
   rename_i T ss ho;split at HS
   case h_2=>exact HS.elim
   rename_i w hw;obtain ⟨y,hy,rfl⟩:=hv;simp only [hte]
   cases hb:Nat.beq te.size 1 with
   | false=>rw [hb] at HS; exact HS.elim
   | true=>
    rw [hb] at HS;simp only [cnd] at HS;rw [show te.size=1 by simpa using hb];split at HS
    case h_4=>exact HS.elim
    ·obtain ⟨_,rfl⟩ | ⟨_,_,e1,_⟩:=hh
     case inr=>cases e1
     have e2:=hlo rfl;cases e2;exact E7 (g:=tt) R hy (w:=w) ⟨by omega,by omega,by simp⟩ HS
    ·rename_i e1 e2
     obtain ⟨_,rfl⟩ | ⟨_,_,e1,_⟩:=hh
     case inr=>cases e1
     exact E7 (g:=tt) R hy HS.1 HS.2
    ·rename_i k2 j
     obtain ⟨e1,_⟩ | ⟨s,w,e1,rfl,hw⟩:=hh
     ·cases e1
     cases e1;have hw:w=_:=hw;subst hw;exact E7 (g:=tt) R hy HS.1 HS.2
abbrev sliceXW (τ:Tys) (t:Nat) (v l u w:Value) (Kr:(Hp->Prop)->Value->Prop):Prop:=match τ.get t with
  | some ti=>match ti.kd,v,l,u,w with
   | .slice e, .slice a n c, .int _ i, .int _ j, .int _ m=>match τ.get e with
    | some te=>slX ⟨a,n,c⟩ i j m te.size fun s=>Kr (fun _=>True) (.slice s.a s.len s.cap)
    | none=>False
   | _,_,_,_,_=>False
  | none=>False
theorem Dq {t:Nat} {x y z:SV D} {lo:Option (SV D)} {v l u w:Value} (R:HR X ν ω H h []) (hv:VR ν x v) (hl:VR ν (loE lo) l)
  (hy:VR ν y u) (hz:VR ν z w) (HS:sliceX τ t x lo y z H K):sliceXW τ t v l u w (PR K X ν ω H h):=by
 unfold sliceXW;unfold sliceX at HS
 cases ht:τ.get t with
 | none=>rw [ht] at HS; exact HS.elim
 | some ti=>
  rw [ht] at HS;simp only at HS |-
  split at HS
  case h_2=>exact HS.elim
  rename_i e k i k2 j k3 m ek el;rw [el] at hl;have hl:l=_:=hl;have hy:u=_:=hy;have hz:w=_:=hz;subst hl hy hz;rw [ek];split at HS
  ·exact HS.elim
  rename_i te hte;split at HS
  case h_2=>exact HS.elim
  rename_i nm;split at HS
  case h_2=>exact HS.elim
  rename_i t' l hl;obtain ⟨y,hy,rfl⟩:=hv;simp only [hte]
  cases hb:Nat.beq te.size (D.r t').n with
  | false=>rw [hb] at HS; exact HS.elim
  | true=>
   rw [hb] at HS;simp only [cnd] at HS;obtain ⟨hs,rfl,HK⟩:=HS;obtain ⟨k1,k2,k3⟩:=R.rd hl hy;obtain ⟨hP0,F0,M0,hP⟩:=R.getP
   have hcap:l.length<=y.c:=by obtain ⟨_,_,_,h3,_⟩:=k1 hP;exact h3
   rw [show te.size=(D.r t').n by simpa using hb];have h3:=hs.2.2;refine ⟨⟨by have:=hs.1; have:=hs.2.1; omega,by simp only; omega⟩,⟨by have:=hs.1; have:=hs.2.1; omega,Int.le_refl _⟩,⟨hs.1,hs.2.1⟩, ?_⟩;refine PR.mk R HK ⟨y,hy,⟨hs.1,hs.2.1,by rw [k3]; exact hs.2.2⟩, ?_⟩ trivial;rw [k2]
abbrev lenW (τ:Tys) (t:Nat) (v:Value) (h:Hp) (Kr:(Hp->Prop)->Value->Prop):Prop:=match τ.get t with
   | some ti=>match ti.kd,v with
    | .str, .string s=>Kr (fun _=>True) (.int .i64 s.size)
    | .slice _, .slice _ n _=>Kr (fun _=>True) (.int .i64 n)
    | .map _ _, .map m=>lnM h m fun f n=>Kr f (.int .i64 n)
    | .arr n _,_=>Kr (fun _=>True) (.int .i64 n)
    | _,_=>False
   | none=>False
theorem JO {t:Nat} {x:SV D} {v:Value} (R:HR X ν ω H h []) (hv:VR ν x v) (HS:lenS τ t x H K):lenW τ t v h (PR K X ν ω H h):=by
 unfold lenW;unfold lenS at HS
 cases ht:τ.get t with
 | none=>rw [ht] at HS; exact HS.elim
 | some ti=>
  rw [ht] at HS;simp only at HS |-
  split at HS
  case h_5=>exact HS.elim
  ·rename_i ek
   rw [ek];split at HS
   case h_2=>exact HS.elim
   have hv:v=_:=hv;subst hv;exact PR.mk R HS rfl trivial
  ·rename_i e ek
   rw [ek];split at HS
   case h_5=>exact HS.elim
   ·have hv:v=_:=hv
    subst hv;exact PR.mk R HS rfl trivial
   ·rename_i nm
    split at HS
    case h_2=>exact HS.elim
    rename_i t' l hl;obtain ⟨y,hy,rfl⟩:=hv;exact PR.mk R HS (by show _=_; rw [(R.rd hl hy).2.2]) trivial
   ·rename_i nm lo hi
    split at HS
    case h_2=>exact HS.elim
    rename_i t' l hl;obtain ⟨y,hy,h0,rfl⟩:=hv;obtain ⟨_,_,k3⟩:=R.rd hl hy
    have hs:SlOk l lo hi:=⟨h0.1,h0.2.1,by rw [<- k3]; exact h0.2.2⟩
    exact PR.mk R HS (by show _=_; rw [cg hs]) trivial
   ·rename_i nm off k n lo hi
    split at HS
    case h_2=>exact HS.elim
    rename_i T ss ho;split at HS
    case h_2=>exact HS.elim
    rename_i w hw;obtain ⟨y,hy,h0,rfl⟩:=hv
    have hs:SlOk w.toList lo hi:=⟨h0.1,h0.2.1,by rw [Vector.length_toList]; exact h0.2.2⟩
    rw [iS] at HS;exact PR.mk R HS (by show _=_; rw [cg hs]) trivial
  ·rename_i k e ek
   rw [ek];split at HS
   case h_3=>exact HS.elim
   ·have hv:v=_:=hv
    subst hv;exact PR.mk R HS rfl trivial
   ·rename_i nm
    split at HS
    case h_2=>exact HS.elim
    rename_i k' t' ag L ho;obtain ⟨y,hy,rfl⟩:=hv;simp only;obtain ⟨x',g,L0,hx',hg,I,_,_,_⟩:=R.at ho;rw [hy] at hx'; cases hx';have I:Inv h (mapX (kI k') (D.r t') ag y.m g L::[bigA L0]):=I;refine Wg I fun f hf=> ?_;refine ⟨_,_,H,ν,ω,HS,rfl,trivial,SLe.refl _ _ _,R,fun H2 ν2 ω2 h2 S2 R2 wO=> ?_⟩;have hil:=(List.getElem?_eq_some_iff.1 (get_at ho)).1;obtain ⟨o',v',q1,q2,q3⟩:=S2.2 nm _ _ (get_at ho);have Rw:H2.ver nm=H.ver nm:=by simpa [verB] using wO
    have e2:v'=H.ver nm:=by rw [<- Rw]; simp [SH.ver,q1]
    obtain ⟨e3,e4⟩:=q3 e2;have JN:H2.get nm=some (.map k' t' ag L):=by simp [SH.get,q1,e3]
    obtain ⟨x2,g2,L2,Ac,Rx,I2,_,_,_⟩:=R2.at JN;rw [S2.1 _ _ hy] at Ac; cases Ac;rw [e4,hg] at Rx; cases Rx;exact hf (A':=[bigA L2]) I2
  ·rename_i n e ek
   rw [ek];exact PR.mk R HS rfl trivial
end Go.Ex
namespace Go.Ex
open Go Go.Wc Go.Pu
variable {D:Tabs} {X:At} {ν ν':Nu} {h h':Hp} {A B B':List At} {ω ω':List Gm} {H H':SH D} {K:KS D} {τ:Tys} {Γ:EnvS D} {Γr:Env}
theorem PR.pl (R:HR X ν ω H h []) {v:Value} (hp:Pl ν (fun s=>K tt s H) v):PR K X ν ω H h (fun _=>True) v:=by obtain ⟨s,h1,h2,h3⟩:=hp;exact PR.mk R h1 h2 (Cur.of h3)
theorem mP {op:BinOp} {t:Nat} {x y:Value} {K K':Value->Prop} (hk: ∀ u,K u->K' u) (HB:binW τ op t x y K):binW τ op t x y K':=by
 unfold binW at HB |-
 split at HB
 ·rename_i k a k' b
  split at HB
  ·exact ⟨HB.1,hk _ HB.2⟩
  ·exact ⟨HB.1,hk _ HB.2⟩
  ·rename_i h1 h2
   cases hd:decide (k=k') with
   | true=>rw [hd] at HB; exact jM hk HB
   | false=>rw [hd] at HB; exact HB.elim
 ·exact lX hk HB
 ·cases ht:τ.get t with
  | none=>rw [ht] at HB; exact HB.elim
  | some ti=>
   rw [ht] at HB;simp only at HB |-
   split at HB
   ·exact uM (fun b hb=>hk _ hb) HB
   ·exact uM (fun b hb=>hk _ hb) HB
   ·exact HB.elim
where
 hU {ti:TI} {cs:List Value} {off:Nat} {K K':Value->Prop} (hk: ∀ u,K u->K' u) (H:partW ti cs off K):partW ti cs off K':=by
  unfold partW at H |-
  cases hq:Wc.isAgg ti.kd with
  | true=>rw [hq] at H; exact hk _ H
  | false=>
   rw [hq] at H;simp only [cnd] at H |-
   cases hl:List.drop off cs with
   | cons v l=>rw [hl] at H; exact hk _ H
   | nil=>rw [hl] at H; exact H.elim
 jO {eq:Nat->Value->Value->(Bool->Prop)->Prop} (he: ∀ t x y (K K':Bool->Prop),(∀ b,K b->K' b)->eq t x y K->eq t x y K') {xs ys:List Value}:
   ∀ {fs:List (Nat × Nat)} {K K':Bool->Prop},(∀ b,K b->K' b)->eqFs τ eq xs ys fs K->eqFs τ eq xs ys fs K'
  | [],K,K',hk,H=>hk _ H
  | (ft,off)::fs,K,K',hk,H=>by
   simp only [eqFs] at H |-
   split at H
   ·exact H.elim
   ·rename_i tf e
    try rw [e]
    exact hU (fun u H=>hU (fun v H=>he _ _ _ _ _ (fun b H=>jO he (fun c H=>hk _ H) H) H) H) H
 jh: ∀ (d t:Nat) (x y:Value) (K K':Bool->Prop),(∀ b,K b->K' b)->eqW τ d t x y K->eqW τ d t x y K'
  | 0,_,_,_,_,_,_,H=>H
  | d+1,t,x,y,K,K',hk,H=>by
   simp only [eqW] at H |-
   cases ht:τ.get t with
   | none=>rw [ht] at H; exact H
   | some ti=>
    rw [ht] at H;simp only at H |-
    split at H
    ·exact hk _ H
    ·rename_i k a k' b e
     cases hd:decide (k=k') with
     | true=>rw [hd] at H; exact hk _ H
     | false=>rw [hd] at H; exact H.elim
    ·exact hk _ H
    ·rename_i fs xs ys e
     cases hq:ti.eq with
     | true=>rw [hq] at H; exact jO (jh d) hk H
     | false=>rw [hq] at H; exact H.elim
    ·rename_i n e xs ys ek
     split at H
     ·rename_i te hte
      split at H
      ·rename_i k hk'
       cases hq:(Nat.beq te.size 1 && intsOk k n xs.toList && intsOk k n ys.toList) with
       | true=>rw [hq] at H; exact hk _ H
       | false=>rw [hq] at H; exact H.elim
      ·exact H
     ·exact H
    ·exact H
 uM {t:Nat} {ti:TI} {x y:Value} {K K':Bool->Prop} (hk: ∀ u,K u->K' u) (H:eqB τ t ti x y K):eqB τ t ti x y K':=by
  unfold eqB at H |-
  split at H
  ·cases hq:ti.eq with
   | true=>rw [hq] at H; exact jh _ _ _ _ _ _ hk H
   | false=>rw [hq] at H; exact H.elim
  ·cases hq:ti.eq with
   | true=>rw [hq] at H; exact jh _ _ _ _ _ _ hk H
   | false=>rw [hq] at H; exact H.elim
  all_goals first | exact hk _ H | exact H.elim
theorem nO {op:UnOp} {v:Value} {K K':Value->Prop} (hk: ∀ u,K u->K' u) (HB:unW op v K):unW op v K':=by
 unfold unW at HB |-
 split at HB <;> first | exact HB.elim | exact hk _ HB
def EvR (ν:Nu) (H:SH D) (Γ:EnvS D) (Γr:Env) (x:Operand):Prop:=VR ν (evS Γ x) (ev Γr x)/\Cur H (evS Γ x)
theorem lq {α β γ:Type} {S:β->γ->Prop} {f:α->β} {g:α->γ}: ∀ {l:List α},(∀ x ∈ l,S (f x) (g x))->dA S (l.map f) (l.map g)
 | [],_=> .nil
 | x::l,h=> .cons (h x (by simp)) (lq fun y hy=>h y (by simp [hy]))
theorem AJ {ys:List Operand} {ns:List Nat} (hv: ∀ y ∈ ys,VR ν (evS Γ y) (ev Γr y)) (hm:ys.mapM (fun z=>match evS Γ z with
   | .ad nm 0=>some nm
   | _=>none)=some ns): ∃ xs:List Nm,ns.map (fun nm=>ν[nm]?)=xs.map some/\ys.map (ev Γr)=xs.map fun x=>Value.pointer (some x.p):=by
 induction ys generalizing ns with
 | nil=>simp at hm; subst hm; exact ⟨[],rfl,rfl⟩
 | cons y ys ih=>
  rw [List.mapM_cons] at hm;simp only [Option.bind_eq_bind,Option.bind_eq_some_iff] at hm;obtain ⟨nm,h1,ms,h2,h3⟩:=hm;simp only [Option.pure_def,Option.some.injEq] at h3;subst h3;obtain ⟨xs,k1,k2⟩:=ih (fun y hy=>hv y (by simp [hy])) h2;have h0:=hv y (by simp);split at h1
  case h_2=>cases h1
  rename_i nm' e;cases h1;rw [e] at h0;obtain ⟨x,hx,he⟩:=h0;exact ⟨x::xs,by simp [hx,k1],by simp [he,k2,Addr.add]⟩
theorem ia {k:IntKind}: ∀ {l:List (SV D)} {is:List Int} {vs:List Value},intsOf k l=some is->CRL ν l vs->vs=is.map (Value.int k)
 | [],is,vs,h,hc=>by
  simp only [intsOf,Option.some.injEq] at h;subst h
  exact hc
 | s::l,is,vs,h,⟨u,w,e,h1,h2⟩=>by
  cases s <;> simp only [intsOf,reduceCtorEq] at h;rename_i k' n
  cases hk:sameKind k k' with
  | false=>rw [hk] at h; cases h
  | true=>
   rw [hk] at h;simp only [cond_true] at h;split at h
   case h_2=>cases h
   rename_i l' hl';cases h;have:=bH hk; subst this;obtain ⟨v,h3,rfl⟩:=h1;have h3:v= .int k n:=h3;rw [e,h3,ia hl' h2];rfl
theorem yh {k:IntKind}: ∀ (is:List Int),CRL ν (is.map (fun x=>(.int k x:SV D))) (is.map (Value.int k))
 | []=>rfl
 | x::r=>⟨[.int k x],r.map (Value.int k),rfl,⟨_,rfl,rfl⟩,yh r⟩
theorem qn: ∀ {l:List (SV D)} {vs:List Value},CRL ν l vs->CRL ν (expV l) vs
 | [],_,h=>h
 | s::r,vs,⟨u,w,e,h1,h2⟩=>by
  by_cases hv: ∃ k n v,s= .vec k n v
  ·obtain ⟨k,n,v,rfl⟩:=hv
   have h1:u=lumpV k n v.toList:=h1;rw [e,h1,dZ];exact (yh v.toList).append (qn h2)
  ·have e2:expV (s::r)=s::expV r:=by
    cases s <;> first
     | rfl
     | exact absurd ⟨_,_,_,rfl⟩ hv
   rw [e2];exact ⟨u,w,e,h1,qn h2⟩
theorem nP {f:SV D->Bool}: ∀ {l:List (SV D)},l.all f=true->(∀ k x,f (.int k x)=true)->(expV l).all f=true
 | [],_,_=>rfl
 | s::r,h,hi=>by
  simp only [List.all_cons,Bool.and_eq_true] at h
  by_cases hv: ∃ k n v,s= .vec k n v
  ·obtain ⟨k,n,v,rfl⟩:=hv
   simp only [expV,List.all_append,Bool.and_eq_true];refine ⟨?_,nP h.2 hi⟩;rw [List.all_map];exact List.all_eq_true.2 fun x _=>hi k x
  ·have e2:expV (s::r)=s::expV r:=by
    cases s <;> first
     | rfl
     | exact absurd ⟨_,_,_,rfl⟩ hv
   rw [e2];simp only [List.all_cons,Bool.and_eq_true];exact ⟨h.1,nP h.2 hi⟩
theorem sq {te:TI} {k:IntKind} (hs:te.size=1): ∀ {zs:List Int} {i:Nat} {ps:List (Nat × SV D)} {vs:List (Nat × Value)} {l:List Int} {pre:List Value} {Kr:List Value->Prop},fillA k zs i ps=some l->
  dA (fun (p:Nat × SV D) (q:Nat × Value)=>p.1=q.1/\VR ν p.2 q.2) ps vs->pre.length=i->Kr (pre++l.map (Value.int k))->fillL (fun i=>some (i*te.size,te.size)) vs (pre++zs.map (Value.int k)) Kr
 | zs,i,[],[],l,pre,Kr,hf, .nil,hp,hk=>by
  simp only [fillA,Option.some.injEq] at hf;subst hf
  exact hk
 | [],i,_::_,_,l,pre,Kr,hf,_,hp,hk=>by simp [fillA] at hf
 | z::zs,i,(j,s)::r,(j',v)::vs,l,pre,Kr,hf, .cons ⟨e,hv⟩ hr,hp,hk=>by
  simp only at e hv;subst e;simp only [fillA] at hf
  cases hb:Nat.beq j i with
  | true=>
   rw [hb] at hf;simp only [cond_true] at hf;have:j=i:=by simpa using hb
   subst this;split at hf
   case h_2=>cases hf
   rename_i k' x
   cases hkk:sameKind k k' with
   | false=>rw [hkk] at hf; cases hf
   | true=>
    rw [hkk] at hf;simp only [cond_true] at hf;have:=bH hkk; subst this;split at hf
    case h_2=>cases hf
    rename_i l' hl';cases hf;have hv:v= .int k x:=hv;subst hv;simp only [fillL];rw [hs];have h1:(Value.int k x).cells.toList=[.int k x]:=rfl;rw [h1]
    have h2:(Nat.beq [Value.int k x].length 1 && Nat.ble (j*1+1) (pre++List.map (Value.int k) (z::zs)).length)=true:=by simp [hp]
    rw [h2];simp only [cnd]
    have h3:setL (pre++List.map (Value.int k) (z::zs)) (j*1) [Value.int k x]=(pre++[Value.int k x])++zs.map (Value.int k):=by simp only [setL,Nat.mul_one,List.map_cons];rw [<- hp,List.set_append_right _ _ (Nat.le_refl _)];simp
    rw [h3];have key:=sq (pre:=pre++[Value.int k x]) (Kr:=Kr) hs hl' hr (by simp [hp]) (by simpa using hk);rw [hs] at key
    exact key
  | false=>
   rw [hb] at hf;simp only [cond_false] at hf;split at hf
   case h_2=>cases hf
   rename_i l' hl';cases hf;have key:=sq (pre:=pre++[Value.int k z]) (Kr:=Kr) (vs:=(j,v)::vs) hs hl' (.cons ⟨rfl,hv⟩ hr) (by simp [hp]) (by simpa using hk);have h3:pre++List.map (Value.int k) (z::zs)=(pre++[Value.int k z])++zs.map (Value.int k):=by simp
   rw [h3];exact key
theorem lu {t:Nat} {s:SV D} {v:Value} (h:VR ν s v) (hc:Cur H s):VR ν (asVec τ t s) v/\Cur H (asVec τ t s):=by
 unfold asVec;split
 case h_2=>exact ⟨h,hc⟩
 rename_i l;split
 case h_2=>exact ⟨h,hc⟩
 split
 case h_2=>exact ⟨h,hc⟩
 split
 case h_2=>exact ⟨h,hc⟩
 split
 case h_2=>exact ⟨h,hc⟩
 rename_i k _;split
 case h_2=>exact ⟨h,hc⟩
 rename_i is hi;split
 case isFalse=>exact ⟨h,hc⟩
 rename_i hn;refine ⟨?_,trivial⟩;obtain ⟨vs,h1,h2⟩:=h;have e:=ia hi h1;show v= .agg (lumpV k _ (Vector.mk is.toArray hn).toList).toArray;rw [dZ,h2,e];rfl
theorem qo {ty:Nat->Option Ty} {rt:Nat} {o:Op} (R:HR X ν ω H h []) (hv: ∀ x ∈ o.operands.toList,EvR ν H Γ Γr x) (HS:opRS τ ty rt o Γ H K):opR τ o Γr h (PR K X ν ω H h):=by
 cases o with
 | move x=>exact PR.mk R HS (lu (hv x (by simp [Op.operands])).1 (hv x (by simp [Op.operands])).2).1 (lu (hv x (by simp [Op.operands])).1 (hv x (by simp [Op.operands])).2).2
 | assign x=>exact PR.mk R HS (lu (hv x (by simp [Op.operands])).1 (hv x (by simp [Op.operands])).2).1 (lu (hv x (by simp [Op.operands])).1 (hv x (by simp [Op.operands])).2).2
 | pick c a b=>
  simp only [opRS] at HS;simp only [opR];have hc:=hv c (by simp [Op.operands]);split at HS
  case h_2=>exact HS.elim
  rename_i t et;rw [show ev Γr c= .bool t by have:=hc.1; rw [et] at this; exact this];simp only
  cases t with
  | true=>exact PR.mk R HS (hv a (by simp [Op.operands])).1 (hv a (by simp [Op.operands])).2
  | false=>exact PR.mk R HS (hv b (by simp [Op.operands])).1 (hv b (by simp [Op.operands])).2
 | build t ps=>
  simp only [opRS] at HS;simp only [opR,buildW];split at HS
  ·exact HS.elim
  rename_i ti ht;rw [ht];simp only;split at HS
  ·exact HS.elim
  rename_i z hz;obtain ⟨z1,z2,z3⟩:=sj (ν:=ν) hz
  have hps:dA (fun (p:Nat × SV D) (q:Nat × Value)=>p.1=q.1/\VR ν p.2 q.2) (ps.toList.map fun p=>(p.1,evS Γ p.2)) (ps.toList.map fun p=>(p.1,ev Γr p.2)):=
   lq fun p hp=>⟨rfl,(hv p.2 (by simp only [Op.operands]; exact List.mem_map.2 ⟨p,hp,rfl⟩)).1⟩
  have fin: ∀ l us,(match (ofP true l:Option (SV D)) with
      | some s=>K tt s H
      | none=>False)->CRL ν l us->l.all okC=true->l.all stillB=true->PR K X ν ω H h (fun _=>True) (.agg us.toArray):=by
   intro l us hl hc _ hst;split at hl
   case h_2=>exact hl.elim
   rename_i s hs;refine PR.mk R hl (jJ hs hc) (Cur.of ?_);simp only [ofP] at hs
   split at hs <;> (cases hs; rfl)
  split at HS
  case h_3=>exact HS.elim
  ·rename_i fs ek
   rw [ek]
   cases hb:fs.all (fun f=>(τ.get f.1).isSome) with
   | false=>rw [hb] at HS; exact HS.elim
   | true=>
    rw [hb] at HS;simp only [hb,cnd] at HS |-
    refine jN ?_ hps z1 ⟨z2,z3⟩ HS fin;intro i off ti hp;unfold fieldPl at hp;show Go.Wc.fieldPlace τ fs i=_
    rw [show Go.Wc.fieldPlace τ fs i=(match fs[i]? with
     | some (t,off)=>match τ.get t with
      | some ti=>some (off,ti.size)
      | none=>none
     | none=>none) from rfl]
    split at hp
    case h_2=>cases hp
    rename_i t' off' he
    try rw [he]
    split at hp
    case h_2=>cases hp
    rename_i ti' ht';cases hp;simp [ht']
  ·rename_i n e ek
   rw [ek];split at HS
   case h_2=>exact HS.elim
   rename_i te hte;simp only [hte];split at HS
   ·rename_i k is hf
    split at HS
    case isFalse=>exact HS.elim
    rename_i hn;unfold fillT at hf;split at hf
    case h_2=>cases hf
    rename_i k' hk
    cases hsz:Nat.beq te.size 1 with
    | false=>rw [hsz] at hf; cases hf
    | true=>
     rw [hsz] at hf;simp only [cond_true] at hf;split at hf
     case h_2=>cases hf
     rename_i zs hzs;split at hf
     case h_2=>cases hf
     rename_i l hl;cases hf;have e1:te.size=1:=by simpa using hsz
     have e2:=ia hzs (qn z1);rw [e2];refine sq (pre:=[]) e1 hl hps rfl ?_;refine PR.mk R HS ?_ trivial;show _=Value.agg (lumpV k n (Vector.mk is.toArray hn).toList).toArray;rw [dZ];rfl
   have WY: ∀ l us,(match (ofP true l:Option (SV D)) with
      | some s=>K tt (asVec τ t s) H
      | none=>False)->CRL ν l us->l.all okC=true->l.all stillB=true->PR K X ν ω H h (fun _=>True) (.agg us.toArray):=by
    intro l us hl hc _ hst;split at hl
    case h_2=>exact hl.elim
    rename_i s hs
    have hcur:Cur H s:=Cur.of (by
     simp only [ofP] at hs
     split at hs <;> (cases hs; rfl))
    have q:=lu (τ:=τ) (t:=t) (jJ hs hc) hcur;exact PR.mk R hl q.1 q.2
   refine jN ?_ hps (qn z1) ⟨nP z2 (fun _ _=>rfl),nP z3 (fun _ _=>rfl)⟩ HS WY;intro i off ti hp
   cases hp; rfl
 | load t a=>exact ld R (hv a (by simp [Op.operands])).1 (hv a (by simp [Op.operands])).2 HS
 | nilCheck x=>
  have hx:=(hv x (by simp [Op.operands])).1;simp only [opRS] at HS;simp only [opR];split at HS
  case h_5=>exact HS.elim
  ·rename_i nm o e
   rw [e] at hx;obtain ⟨y,hy,e2⟩:=hx;rw [e2];exact PR.mk R HS ⟨y,hy,rfl⟩ trivial
  ·rename_i nm o e
   rw [e] at hx;obtain ⟨y,hy,e2⟩:=hx;rw [e2];exact PR.mk R HS ⟨y,hy,rfl⟩ trivial
  ·rename_i f cs e
   rw [e] at hx;obtain ⟨y,hy,e2⟩:=hx;rw [e2];exact PR.mk R HS ⟨y,hy,rfl⟩ trivial
  ·rename_i p e
   rw [e] at hx;have e2:ev Γr x= .pointer p:=hx;rw [e2]
   cases p with
   | none=>exact HS.elim
   | some a=>
    have R2:HR X ν ω H h [emp]:=R.addP fun M=>rfl
    exact ⟨tt,_,_,_,_,HS,⟨_,gv R _,by simp [Nm.p,Addr.add]⟩,trivial,dL R.l2 _ _,R2.push (.adr a) ⟨some a,0,0,0,none⟩ none fun h F M hP=>⟨rfl,hP⟩,fun _ _ _ _ _ _ _=>trivial⟩
 | binOp op t x y u=>exact mP (fun u hu=>PR.pl R hu) (vO R (hv x (by simp [Op.operands])).1 (hv y (by simp [Op.operands])).1 HS)
 | unOp op t x=>
  simp only [opRS] at HS;split at HS
  case h_2=>exact HS.elim
  rename_i u hu
  exact nO (fun u hu=>PR.pl R hu) (vR (hv x (by simp [Op.operands])).1 hu HS)
 | convert s d x=>
  have hx:=hv x (by simp [Op.operands]);simp only [opRS] at HS;simp only [opR];split at HS
  case h_2=>exact HS.elim
  rename_i ts td hs hd;rw [hs,hd];simp only;split at HS
  case h_4=>exact HS.elim
  ·rename_i k0 k k1 n e1 e2 e3
   have AD:=hx.1;rw [e3] at AD;rw [e1,e2,show ev Γr x=_ from AD];exact PR.mk R HS rfl trivial
  ·rename_i b e1 e2 e3
   have AD:=hx.1;rw [e3] at AD;rw [e1,e2,show ev Γr x=_ from AD];exact PR.mk R HS rfl trivial
  ·rename_i e e1 e2
   rw [e1,e2];split at HS
   case h_2=>exact HS.elim
   rename_i te hte;split at HS
   case h_2=>exact HS.elim
   rename_i hk;split at HS
   case h_2=>exact HS.elim
   rename_i l hl
   have D8:iH ν (evS Γ x) (ev Γr x):=by
    have:=hx.1
    cases hq:evS Γ x <;> rw [hq] at hl this <;> first
     | exact this
     | (simp [listS] at hl; done)
   obtain ⟨a,n,c,e3,hr⟩:=k9 R D8 hl (R.in _) R.getP;rw [e3];simp only [hte,hk];refine P1 hr R.all HS fun f b hb=> ?_
   exact ⟨_,_,H,ν,ω,hb,rfl,trivial,SLe.refl _ _ _,R,fun _ _ _ _ _ _ hg=>by cases hg⟩
 | makeFunc f x y=>
  simp only [opRS] at HS
  cases f with
  | func f=>
   simp only at HS
   cases hb:x.toList.isEmpty with
   | false=>rw [hb] at HS; exact HS.elim
   | true=>
    rw [hb] at HS;simp only [cnd] at HS;split at HS
    case h_2=>exact HS.elim
    rename_i ns hn;obtain ⟨xs,h1,h2⟩:=AJ (Γr:=Γr) (ν:=ν) (fun z hz=>(hv z (by simp only [Op.operands,Array.toList_append]; exact List.mem_append_right _ hz)).1) hn;simp only [opR];rw [h2,show x.toList=[] from by simpa using hb]
    exact PR.mk R HS ⟨xs,h1,rfl⟩ trivial
  | _=>exact HS.elim
 | slice t x lo hi mx=>
  have hx:=hv x (by simp [Op.operands])
  have hl:VR ν (loE (lo.map (evS Γ))) (loV Γr lo):=by
   cases lo with
   | none=>rfl
   | some y=>exact (hv y (by simp [Op.operands])).1
  cases mx with
  | none=>
   rw [uL];have HS:sliceS τ t (evS Γ x) (lo.map (evS Γ)) (hi.map (evS Γ)) H K:=by cases hi <;> exact HS
   refine oQ R hx.1 hl (fun e=> ?_) ?_ HS
   ·cases lo with
    | none=>rfl
    | some y=>cases e
   ·cases hi with
    | none=>exact .inl ⟨rfl,rfl⟩
    | some y=>exact .inr ⟨_,_,rfl,rfl,(hv y (by simp [Op.operands])).1⟩
  | some z=>
   cases hi with
   | none=>exact HS.elim
   | some y=>
    have:=Dq R hx.1 hl (hv y (by simp [Op.operands])).1 (hv z (by simp [Op.operands])).1 HS
    cases lo <;> exact this
 | fieldAddr t x i=>
  have hx:=hv x (by simp [Op.operands]);simp only [opRS] at HS;simp only [opR];split at HS
  case h_2=>exact HS.elim
  rename_i ti ht;rw [ht];simp only;split at HS
  case h_2=>exact HS.elim
  rename_i fs ek;rw [ek];split at HS
  case h_2=>exact HS.elim
  rename_i ft off hf;split at HS
  case h_2=>exact HS.elim
  rename_i tf htf
  cases hb:Nat.beq tf.size 0 with
  | true=>rw [hb] at HS; exact HS.elim
  | false=>
   rw [hb] at HS;simp only [cnd] at HS;have AD:=hx.1;have Ac:=hx.2;split at HS
   case h_4=>exact HS.elim
   ·rename_i nm o e
    rw [e] at AD;obtain ⟨y,hy,e2⟩:=AD;rw [e2];simp only [hf,htf,hb,cnd];exact PR.mk R HS ⟨y,hy,by rw [add_add]⟩ trivial
   ·rename_i nm o e
    rw [e] at AD;obtain ⟨y,hy,e2⟩:=AD;rw [e2];simp only [hf,htf,hb,cnd];exact PR.mk R HS ⟨y,hy,by rw [add_add]⟩ trivial
   ·rename_i nm ver j o t x e
    rw [e] at AD Ac;obtain ⟨y,q,hy,he,e2⟩:=AD;rw [e2];simp only [hf,htf,hb,cnd]
    exact PR.mk R HS ⟨y,q,hy,he,by rw [add_add]⟩ Ac
 | field t x i=>
  have hx:=hv x (by simp [Op.operands]);simp only [opRS] at HS;simp only [opR];split at HS
  case h_2=>exact HS.elim
  rename_i ti ht;rw [ht];simp only;split at HS
  case h_2=>exact HS.elim
  rename_i fs ek;rw [ek];split at HS
  case h_2=>exact HS.elim
  rename_i ft off hf;split at HS
  case h_2=>exact HS.elim
  rename_i tf htf;split at HS
  case h_2=>exact HS.elim
  rename_i l hl;split at HS
  case h_2=>exact HS.elim
  rename_i p hp;split at HS
  case h_2=>exact HS.elim
  rename_i s hs
  cases hb:(stillB s && (flat (evS Γ x)).all okC && shB true (evS Γ x)) with
  | false=>rw [hb] at HS; exact HS.elim
  | true=>
   rw [hb] at HS;simp only [Bool.and_eq_true,cnd] at hb HS;obtain ⟨⟨b1,b2⟩,b3⟩:=hb;rw [nL hx.1 b3 b2];simp only [hf,htf];obtain ⟨c1,c2⟩:=(aggV hx.1 hl b2).part hp
   cases ha:Wc.isAgg tf.kd with
   | true=>
    rw [ha] at hs;show partW tf _ off _;unfold partW;rw [ha]
    exact PR.mk R HS (jJ hs c1) (Cur.of b1)
   | false=>
    rw [ha] at hs;show partW tf _ off _;unfold partW;rw [ha];simp only [cnd];obtain ⟨v,e,Rw⟩:=oM hs c1
    have d1: ∃ r,(ev Γr x).cells.toList.drop off=v::r:=by
     cases hd:(ev Γr x).cells.toList.drop off with
     | nil=>rw [hd] at e; simp at e
     | cons y r=>
      rw [hd] at e
      cases hs:tf.size with
      | zero=>rw [hs] at e; simp at e
      | succ n=>rw [hs] at e; simp at e; exact ⟨r,by rw [e.1]⟩
    obtain ⟨r,d1⟩:=d1;rw [d1]
    exact PR.mk R HS Rw (Cur.of b1)
 | indexAddr t x i=>exact sn R (hv x (by simp [Op.operands])).1 (hv i (by simp [Op.operands])).1 HS
 | index t x i=>
  have hx:=hv x (by simp [Op.operands]);have hi:=hv i (by simp [Op.operands]);simp only [opRS] at HS;simp only [opR];split at HS
  case h_2=>exact HS.elim
  rename_i ti ht;rw [ht];simp only;split at HS
  case h_3=>exact HS.elim
  ·rename_i s k j ek e1 e2
   have h1:=hx.1; have h2:=hi.1;rw [e1] at h1; rw [e2] at h2;rw [ek,show ev Γr x=_ from h1,show ev Γr i=_ from h2];exact ⟨HS.1,PR.mk R HS.2 rfl trivial⟩
  ·rename_i n e k j ek e2
   have h2:=hi.1;rw [e2] at h2;split at HS
   case h_2=>exact HS.elim
   rename_i k2 m v te hsh hte;split at HS
   case h_2=>exact HS.elim
   rename_i k' hk'
   cases hb:(Nat.beq te.size 1 && sameKind k2 k' && Nat.beq n m && (flat (evS Γ x)).all okC && shB true (evS Γ x)) with
   | false=>rw [hb] at HS; exact HS.elim
   | true=>
    rw [hb] at HS;simp only [Bool.and_eq_true,cnd] at hb HS;obtain ⟨⟨⟨⟨b1,b2⟩,b3⟩,b4⟩,b5⟩:=hb;have:=bH b2; subst this;have en:n=m:=by simpa using b3
    subst en;have c1:=aggV hx.1 hsh b4;have c2:=c1.Na;rw [nL hx.1 b5 b4,ek,show ev Γr i=_ from h2];simp only [hte,hk',c2,b1,pS,pT,Bool.and_self,cnd]
    exact ⟨HS.1,PR.mk R HS.2 rfl trivial⟩
 | extract x i=>
  have hx:=(hv x (by simp [Op.operands])).1;simp only [opRS] at HS;simp only [opR];split at HS
  case h_2=>exact HS.elim
  rename_i vs e;rw [e] at hx;obtain ⟨us,hu,e2⟩:=hx;rw [e2];simp only
  have drp: ∀ (i:Nat) {l:List (SV D)} {us:List Value},VL ν l us->VL ν (l.drop i) (us.drop i):=by
   intro i
   induction i with
   | zero=>intro l us h; exact h
   | succ i ih=>
    intro l us h
    cases l with
    | nil=>have h:us=[]:=h; subst h; exact rfl
    | cons s l=> obtain ⟨u,w,rfl,h1,h2⟩:=h;exact ih h2
  have hd:=drp i hu;split at HS
  case h_2=>exact HS.elim
  rename_i s r es;rw [es] at hd;obtain ⟨u,w,e3,h1,h2⟩:=hd
  cases hb:stillB s with
  | false=>rw [hb] at HS; exact HS.elim
  | true=>
   rw [hb] at HS;rw [e3];refine PR.mk R HS ?_ (Cur.of hb)
   cases s <;> first
    | exact h1
    | exact (h1:False).elim
 | lookup t x i ok=>exact HS.elim
 | call c=>
  obtain ⟨callee,args,ats⟩:=c
  cases callee with
  | builtin b=>
   have hv': ∀ p ∈ args.toList,EvR ν H Γ Γr p:=fun p hp=>hv p (by simp [Op.operands,Call.operands]; simpa using hp);simp only [opRS] at HS;simp only [opR];split at HS
   case h_4=>exact HS.elim
   ·rename_i x t e1 e2
    rw [e1,e2];exact JO R (hv' x (by rw [e1]; simp)).1 HS
   ·rename_i ts x y e1
    split at HS
    case h_2=>exact HS.elim
    rename_i k a k2 b ea eb;have h1:=(hv' x (by rw [e1]; simp)).1;have h2:=(hv' y (by rw [e1]; simp)).1;rw [ea] at h1; rw [eb] at h2;rw [e1];simp only [show ev Γr x=_ from h1,show ev Γr y=_ from h2];exact PR.mk R HS rfl trivial
   ·rename_i ts x y e1
    split at HS
    case h_2=>exact HS.elim
    rename_i k a k2 b ea eb;have h1:=(hv' x (by rw [e1]; simp)).1;have h2:=(hv' y (by rw [e1]; simp)).1;rw [ea] at h1; rw [eb] at h2;rw [e1];simp only [show ev Γr x=_ from h1,show ev Γr y=_ from h2]
    exact PR.mk R HS rfl trivial
  | value f=>exact HS.elim
  | invoke r m=>exact HS.elim
 | _=>exact HS.elim
theorem HR.openB (R:HR X ν ω H h (B++A)) {i:Nat} {o:SO D} (hi:H.get i=some o): ∃ x g C,ν[i]? =some x/\ω[i]? =some g/\Inv h (o.sem D X ν x g::(B++C))/\
  ∀ h' o' g' B',Inv h' (o'.sem D X ν x g'::(B'++C))->HR X ν (ω.set i g') (H.set i o') h' (B'++A)/\SLe H ν ω (H.set i o') ν (ω.set i g'):=by
 have ha:=get_at hi;have hil:=(List.getElem?_eq_some_iff.1 ha).1
 obtain ⟨x,hx⟩: ∃ x,ν[i]? =some x:=⟨_,List.getElem?_eq_getElem (by rw [<- R.l1]; exact hil)⟩
 obtain ⟨g,hg⟩: ∃ g,ω[i]? =some g:=⟨_,List.getElem?_eq_getElem (by rw [<- R.l2]; exact hil)⟩
 have t1:(H.at_.take i).length=(ν.take i).length:=by rw [List.length_take,List.length_take,R.l1]
 have t2:(H.at_.take i).length=(ω.take i).length:=by rw [List.length_take,List.length_take,R.l2]
 have key: ∀ (o':SO D) (v':Nat) (g':Gm),semL D X ν (H.at_.take i++(o',v')::H.at_.drop (i+1)) ν (ω.take i++g'::ω.drop (i+1))=
   semL D X ν (H.at_.take i) (ν.take i) (ω.take i)++o'.sem D X ν x g'::semL D X ν (H.at_.drop (i+1)) (ν.drop (i+1)) (ω.drop (i+1)):=by
  intro o' v' g';have:=iI (D:=D) (X:=X) (ν:=ν) (m:=(o',v')::H.at_.drop (i+1)) (ys:=x::ν.drop (i+1)) (ks:=g'::ω.drop (i+1)) t1 t2;rw [<- gQ hx] at this;rw [this]; rfl
 have e0:=key o (H.ver i) g;rw [<- gQ ha,<- gQ hg] at e0;have I:=R.inv;rw [e0,<- List.cons_append,<- List.cons_append] at I;refine ⟨x,g,_,hx,hg,Inv.prm BY I,fun h' o' g' B' I3=>⟨⟨by simp [SH.set,R.l1],by simp [SH.set,R.l2], ?_⟩,vK hil _ (fun j hj=>List.getElem?_set_ne (fun e=>hj e.symm)) H.sg⟩⟩;have e1:=key o' (H.ver i+1) g';rw [<- gB hil,<- gB (by rw [<- R.l2]; exact hil)] at e1;show Inv h' ((X::sgA D H.sg::semL D X ν (H.at_.set i (o',H.ver i+1)) ν (ω.set i g'))++(B'++A));rw [e1,<- List.cons_append,<- List.cons_append];exact Inv.prm BY.symm I3
theorem E8 (R:HR X ν ω H h []) {z:List (SV D)} {vs:List Value} (hc:CRL ν z vs) (T:Nat):
  HR X (ν++[⟨some ⟨h.size,0,none⟩,0,0,0,none⟩]) (ω++[none]) (H.new (.blk T z)) (h.push (.cells vs.toArray T (0,0))) []:=by
 obtain ⟨gs,h1,h2⟩:=hc.segs;have key:alW h T vs fun p h'=>HR X ν ω H h' [Pu.blk p T gs]:=ni gs h2 R.all fun p h' I=>R.back (B:=[Pu.blk p T gs]) I;have key:HR X ν ω H (h.push (.cells vs.toArray T (0,0))) [Pu.blk ⟨h.size,0,none⟩ T gs]:=key
 exact key.push (.blk T z) ⟨some ⟨h.size,0,none⟩,0,0,0,none⟩ none fun h F M hP=>⟨gs,h1.mono (NLe.app _ _),hP⟩
theorem vm {t:Ty} {l:List (D.d t)} {a:Option Addr} {c:Nat} (R:HR X ν ω H h (ownS (D.r t) a l.length c l::A)):
  HR X (ν++[⟨a,l.length,c,(D.r t).n,none⟩]) (ω++[none]) (H.new (.own t l)) h A:=
 R.push _ _ _ fun h F M hP=>⟨rfl,hP⟩
theorem PC.own (R:HR X ν ω H h []) {t:Ty} {l:List (D.d t)} {H1:SH D} {ω1:List Gm} {h1:Hp} {a:Option Addr} {c:Nat} (S:SLe H ν ω H1 ν ω1) (R1:HR X ν ω1 H1 h1 [ownS (D.r t) a l.length c l])
  (hK:K tt (.sl H1.nx) (H1.new (.own t l))):PC K X ν ω H (.slice a l.length c) h1:=
 ⟨tt,_,_,_,_,hK,⟨_,gv R1 _,rfl⟩,trivial,S.trans (dL R1.l2 _ _),vm R1⟩
theorem Cc {t:Ty} {gC:List CK} {te:TI} (hsz:te.size=(D.r t).n): ∀ {ps:List (Nat × SV D)} {qs:List (Nat × Value)} {i:Nat} {l:List (D.d t)} {H:SH D} {ω:List Gm} {A:List At},dA (fun p q=>p.1=q.1/\VR ν p.2 q.2) ps qs->HR X ν ω H h A->lits t gC ps i H=some (l,H')->
    ∃ ω' vs,HR X ν ω' H' h (litA (D.r t) vs l::A)/\SLe H ν ω H' ν ω'/\l.length=ps.length/\
      ∀ (pre post:List Value) (Kr:List Value->Prop),pre.length=i*te.size->post.length=ps.length*te.size->Kr (pre++vs)->fillL (fun i=>some (i*te.size,te.size)) qs (pre++post) Kr
  | _,_,i,l,H,ω,A, .nil,R,hl=>by
    simp only [lits,Option.some.injEq,Prod.mk.injEq] at hl;obtain ⟨rfl,rfl⟩:=hl;refine ⟨ω,[],R.addP fun M=>⟨rfl,rfl⟩,SLe.refl _ _ _,rfl,fun pre post Kr _ hp hk=> ?_⟩;have:post=[]:=List.length_eq_zero_iff.1 (by simpa using hp);subst this
    exact hk
  | (j, s) :: ps, (j', v) :: qs, i, l, H, ω, A, .cons ⟨e, hv⟩ hr, R, hl => by
    simp only at e hv;subst e;simp only [lits] at hl
    cases hb:Nat.beq j i with
    | false=>rw [hb] at hl; cases hl
    | true=>
      rw [hb] at hl;have:j=i:=by simpa using hb
      subst this;simp only [cond_true] at hl;split at hl
      . cases hl
      rename_i q hq
      cases ho:q.all okC with
      | false=>rw [ho] at hl; cases hl
      | true=>
        rw [ho] at hl;simp only [cond_true] at hl;split at hl
        . cases hl
        rename_i x H1 hx;split at hl
        case h_2=>cases hl
        rename_i l2 H2 Bw;cases hl;obtain ⟨ω1,R1,s1⟩:=vL R (lg hv hq ho) hx;obtain ⟨ω2,vs,R2,s2,hn,k⟩:=Cc hsz hr R1 Bw
        have hlen:v.cells.toList.length=te.size:=by obtain ⟨F,M,hP⟩:=Inv.get R1.front;rw [hsz]; exact (D.r t).len hP.2
        have ux:v.cells.size=te.size:=by simpa using hlen
        refine ⟨ω2,v.cells.toList++vs, ?_,s1.trans s2,by simp [hn],fun pre post Kr hpre hpost hk=> ?_⟩
        . have I:=R2.front;exact R2.back (Inv.litC (Inv.swap I))
        . simp only [fillL];simp only [List.length_cons,Nat.add_mul,Nat.one_mul] at hpost;rw [show Nat.beq v.cells.toList.length te.size=true by rw [hlen]; simp,show Nat.ble (j*te.size+te.size) (pre++post).length=true by rw [Nat.ble_eq]; simp; omega];simp only [Bool.and_self,cnd];rw [jN.vQ _ _ _ (by simp; omega),<- hpre,List.take_left,List.drop_append,List.drop_eq_nil_of_le (by omega),List.nil_append,show pre.length+v.cells.toList.length - pre.length=v.cells.toList.length by omega,<- List.append_assoc];refine k _ _ Kr ?_ ?_ ?_
          . simp only [List.length_append,hpre,hlen,Nat.add_mul,Nat.one_mul]
          . simp; omega
          . rw [List.append_assoc]; exact hk
theorem Ry {t:Ty} {s:SV D} {x:D.d t} {vs:List Value} {H H':SH D} (hH:H.at_=[]) (hc:CR ν s vs) (he:encT t s H=some (x,H')):H'=H/\ ∀ h M,(D.r t).P h M vs x:=by
 unfold encT at he;split at he
 case h_11=>cases he
 case h_6=>
  split at he
  ·rename_i hg; simp [SH.get,hH] at hg
  ·cases he
 case h_7=>
  rename_i k n k' n' v;split at he
  case isFalse=>cases he
  rename_i e;subst e
  cases hk:sameKind k k' with
  | false=>rw [hk] at he; cases he
  | true=> rw [hk] at he;have:=bH hk; subst this;cases he;have hc:vs=_:=hc;subst hc;exact ⟨rfl,fun _ _=>rfl⟩
 case h_1=>
  rename_i k k' n
  cases hk:sameKind k k' with
  | false=>rw [hk] at he; cases he
  | true=> rw [hk] at he;have:=bH hk; subst this;cases he;obtain ⟨v,h1,rfl⟩:=hc;have h1:v=_:=h1;subst h1;exact ⟨rfl,fun _ _=>rfl⟩
 case h_8=>
  cases he;obtain ⟨v,h1,rfl⟩:=hc;have h1:v=_:=h1;subst h1;exact ⟨rfl,fun _ _=>⟨none,0,rfl,qd⟩⟩
 case h_9=>simp [frz,SH.get,hH] at he
 case h_10=>simp [frz,SH.get,hH] at he
 all_goals
  cases he;obtain ⟨v,h1,rfl⟩:=hc;have h1:v=_:=h1;subst h1;exact ⟨rfl,fun _ _=>rfl⟩
theorem LG: ∀ {ts:List Ty} {l:List (SV D)} {x:Tup D.toTab ts} {vs:List Value} {H H':SH D},H.at_=[]->CRL ν l vs->encL ts l H=some (x,H')->H'=H/\ ∀ h M,TupP D.toTab h M ts vs x
 | [],[],x,vs,H,H',hH,hc,he=>by
  simp only [encL,Option.some.injEq,Prod.mk.injEq] at he
  exact ⟨he.2.symm,fun _ _=>hc⟩
 | t::ts,s::l,x,vs,H,H',hH,⟨u,w,e,h1,h2⟩,he=>by
  simp only [encL] at he;split at he
  case h_2=>cases he
  rename_i y H1 hy;split at he
  case h_2=>cases he
  rename_i r H2 hr;cases he;obtain ⟨rfl,k1⟩:=Ry hH h1 hy;obtain ⟨rfl,k2⟩:=LG hH h2 hr
  exact ⟨rfl,fun h M=>⟨u,w,e,k1 h M,k2 h M⟩⟩
 | [],_::_,_,_,_,_,_,_,he=>by simp [encL] at he
 | _::_,[],_,_,_,_,_,_,he=>by simp [encL] at he
theorem AK {t:Ty} {te:TI} {z:D.d t} (hz:zOf t te=some z): ∀ h M,(D.r t).P h M te.zero.cells.toList z:=by
 unfold zOf at hz;split at hz
 case h_2=>cases hz
 rename_i l hl;split at hz
 case h_2=>cases hz
 rename_i x H' hx;cases hz;unfold enc at hx;split at hx
 case h_2=>cases hx
 rename_i y H1 hy;cases hx;obtain ⟨c1,_⟩:=sj (ν:=[]) hl;obtain ⟨_,k⟩:=LG rfl c1 hy;exact fun h M=>BV (k h M)
theorem VR.z {s:SV D} {v:Value} (hv:VR ν s v) (h1: ∀ l,s ≠ .agg l) (h2: ∀ l,s ≠ .tup l) (h3: ∀ k n w,s ≠ .vec k n w):iH ν s v:=by
 cases s <;> first
  | exact absurd rfl (h1 _)
  | exact absurd rfl (h2 _)
  | exact absurd rfl (h3 _ _ _)
  | exact hv
theorem nQ {t:Ty} {s:SV D} {v:Value} {l:List (D.d t)} (hv:VR ν s v) (hl:listS t H s=some l):iH ν s v:=
 hv.z (by rintro l rfl; simp [listS] at hl) (by rintro l rfl; simp [listS] at hl) (by rintro k n w rfl; simp [listS] at hl)
theorem Rz {t:Ty} {s:SV D} {v:Value} {l:List (D.d t)} (hv:VR ν s v) (hl:giv t s H=some (l,H')):iH ν s v:=
 hv.z (by rintro l rfl; simp [giv] at hl) (by rintro l rfl; simp [giv] at hl) (by rintro k n w rfl; simp [giv] at hl)
abbrev storeW (τ:Tys) (t:Nat) (v w:Value) (h:Hp) (Kr:Value->Hp->Prop):Prop:=match v with
  | .pointer (some p)=>match τ.get t with
   | some ti=>cnd (Nat.beq w.cells.toList.length ti.size) (stAll h p 0 w.cells.toList fun h'=>Kr undef h') (False)
   | none=>False
  | _=>False
theorem Dr {t:Nat} {a x:SV D} {v w:Value} (R:HR X ν ω H h []) (hv:VR ν a v) (hcur:Cur H a) (hw:VR ν x w) (HS:storeS τ t a x H K):storeW τ t v w h (PC K X ν ω H):=by
 unfold storeS at HS;unfold storeW
 cases ht:τ.get t with
 | none=>rw [ht] at HS; exact HS.elim
 | some ti=>
  rw [ht] at HS;simp only at HS;split at HS
  ·exact HS.elim
  rename_i new hn
  cases hb:(new.all okC && new.all stillB && Nat.beq (sizeL new) ti.size) with
  | false=>rw [hb] at HS; exact HS.elim
  | true=>
   rw [hb] at HS;simp only [Bool.and_eq_true,cnd] at hb HS;have hc:=lg hw hn hb.1.1;have hsz:sizeL new=ti.size:=by simpa using hb.2
   have hlen:Nat.beq w.cells.toList.length ti.size=true:=by rw [hc.len,hsz]; simp
   split at HS
   case h_4=>exact HS.elim
   ·rename_i nm off
    split at HS
    case h_2=>exact HS.elim
    rename_i T ss ho;split at HS
    case h_2=>exact HS.elim
    rename_i ss' hs;obtain ⟨x',g,L,hx,hg,I,_,_,k⟩:=R.at ho;obtain ⟨y,hy,rfl⟩:=hv;rw [hx] at hy; cases hy;simp only [hlen,cnd];replace I:=Inv.exE I;obtain ⟨gs,I⟩:=I;replace I:=Inv.factE I;obtain ⟨h1,I⟩:=I;unfold setP at hs;split at hs
    case h_2=>cases hs
    rename_i i hi;split at hs
    case h_2=>cases hs
    rename_i m hm;cases hs;obtain ⟨p1,p2⟩:=kf hi;obtain ⟨p3,p4⟩:=kf hm;obtain ⟨ns,n1,n2⟩:=hc.segs;have t1:=h1.take i;have t2:=t1.2.take m;refine tX I i m off ns n2 (by rw [t1.1.size,p1]) (by rw [t2.1.size,p3,n1.size]) (by rw [<- n2]; exact hc.one) fun h' I'=> ?_
    have I2:Inv h' [(SO.blk T (ss.take i++(new++(ss.drop i).drop m))).sem D X ν x' none,bigA L]:=
     Inv.exI _ (Inv.factI (t1.1.append (n1.append t2.2)) I')
    obtain ⟨R2,S2⟩:=k h' _ none I2;exact ⟨tt, .undef,_,_,_,HS,rfl,trivial,S2,R2⟩
   ·rename_i nm ver i off t' x0
    cases m7:(Nat.beq (H.ver nm) ver && Nat.beq off 0 && Nat.beq (sizeL new) (D.r t').n) with
    | false=>rw [m7] at HS; exact HS.elim
    | true=>
     rw [m7] at HS;simp only [Bool.and_eq_true] at m7 HS;obtain ⟨⟨b1,b2⟩,b3⟩:=m7;have hoff:off=0:=by simpa using b2
     subst hoff;split at HS
     case h_2=>exact HS.elim
     rename_i y H1 he;split at HS
     case h_2=>exact HS.elim
     rename_i t2 l ho;split at HS
     case h_2=>exact HS.elim
     rename_i l' hcl;obtain ⟨e1,e2⟩:=dG hcl;subst e1; subst e2;obtain ⟨ω1,R1,s1⟩:=vL R hc he;obtain ⟨x',g,C,hx,hg,I,k⟩:=HR.openB (B:=[repA (D.r t2) w.cells.toList y]) R1 ho;obtain ⟨z,q,hy,hq,rfl⟩:=hv;rw [hx] at hy; cases hy;simp only [hlen,cnd];obtain ⟨c1,c2,c3,c4⟩:=hcur;have hver:H.ver nm=ver:=by simpa using b1
     obtain ⟨l0,Iq,hlx⟩:=c4 hver;obtain ⟨g1,g2,g3⟩:=lW s1 c1;obtain ⟨e3,I⟩:=Inv.factE I;have I2:Inv h (repA (D.r t2) w.cells.toList y::ownS (D.r t2) x'.a x'.n x'.c l::C):=Inv.swap I
     have ux:i<l.length:=by have q1:x'.n=l.length:=fF I;have q2:=(R.rd Iq hx).2.2;have q3:=(List.getElem?_eq_some_iff.1 hlx).1;omega
     rw [show q.add 0=q by simp [Addr.add]];refine PU I2 hq ⟨c3,ux⟩ fun h' I'=> ?_
     obtain ⟨R2,S2⟩:=k h' (.own t2 (l.set i.toNat y)) g [] (Inv.factI e3 (by
      have:=fF I'
      exact I'))
     exact ⟨tt, .undef,_,_,_,HS,rfl,trivial,s1.trans S2,R2⟩
   ·rename_i nm ver off k n i x0
    cases m7:Nat.beq (H.ver nm) ver with
    | false=>rw [m7] at HS; exact HS.elim
    | true=>
     rw [m7] at HS;simp only at HS;split at HS
     case h_2=>exact HS.elim
     rename_i T ss k' y ho
     cases hk:sameKind k k' with
     | false=>rw [hk] at HS; exact HS.elim
     | true=>
      rw [hk] at HS;have:=bH hk; subst this;simp only at HS;split at HS
      case h_2=>exact HS.elim
      rename_i vw hvw;split at HS
      case h_2=>exact HS.elim
      rename_i ss' hs;obtain ⟨x',g,L,hx,hg,I,_,_,kk⟩:=R.at ho;obtain ⟨z,q,hy,hq,rfl⟩:=hv;rw [hx] at hy; cases hy;simp only [hlen,cnd];replace I:=Inv.exE I;obtain ⟨gs,I⟩:=I;replace I:=Inv.factE I;obtain ⟨h1,I⟩:=I;obtain ⟨j,hj,hpj⟩:=jK h1 hvw;obtain ⟨c1,c2,c3,c4⟩:=hcur;have hver:H.ver nm=ver:=by simpa using m7
      obtain ⟨T2,ss2,w2,JN,VW,hwx⟩:=c4 hver
      have hin:i<n:=by have:=(List.getElem?_eq_some_iff.1 hwx).1;simp at this; omega
      have ew:w.cells.toList=[.int k y]:=by obtain ⟨v,e,h3⟩:=hc.AI (by simp);have h3:v=_:=h3;subst h3; exact e
      rw [ew];show st h (q.add 0) (.int k y) _;refine ou I hj hq ⟨c3,hin⟩ fun h' I'=> ?_
      have hss:ss'=ss.take j++([.vec k n (vw.setIfInBounds i.toNat y)]++(ss.drop j).drop 1):=by
       unfold setP at hs;rw [hpj] at hs;simp only at hs
       have:posP (ss.drop j) (sizeL [SV.vec (D:=D) k n (vw.setIfInBounds i.toNat y)])=some 1:=by
        obtain ⟨r,hr⟩: ∃ r,ss.drop j= .vec k n vw::r:=by
         unfold vecAt at hvw;split at hvw
         case h_2=>cases hvw
         rename_i k2 n2 w3 hgp;split at hvw
         case isFalse=>cases hvw
         rename_i en;subst en
         cases hkk:sameKind k k2 with
         | false=>rw [hkk] at hvw; cases hvw
         | true=>
          rw [hkk] at hvw;have:=bH hkk; subst this;cases hvw;unfold getP at hgp;rw [hpj] at hgp;simp only at hgp;split at hgp
          case h_2=>cases hgp
          rename_i m hm;have hgp:=Option.some.inj hgp
          cases hdd:ss.drop j with
          | nil=>rw [hdd] at hgp; simp at hgp
          | cons s r=>
           rw [hdd] at hgp
           cases m with
           | zero=>simp at hgp
           | succ m=>simp at hgp; exact ⟨r,by rw [hgp.1]⟩
        rw [hr]
        obtain ⟨n',rfl⟩: ∃ n',n=n'+1:=⟨n - 1,by omega⟩
        simp [sizeL,SV.size,posP];rw [show Nat.ble (n'+1) (n'+1)=true by simp]; rfl
       rw [this] at hs;simp only [Option.some.injEq] at hs;exact hs.symm
      have t1:=h1.take j;have t2:=t1.2.take 1;obtain ⟨_,hil⟩:=nj (t:= .vec k n vw) hj rfl
      have e5:gs.set j (.vec k n (vw.setIfInBounds i.toNat y))=gs.take j++([.vec k n (vw.setIfInBounds i.toNat y)]++(gs.drop j).drop 1):=by rw [gB hil,List.drop_drop]; simp
      rw [e5] at I'
      have I2:Inv h' [(SO.blk T ss').sem D X ν x' none,bigA L]:=by rw [hss];exact Inv.exI _ (Inv.factI (t1.1.append (SGL.append (l:=[.vec k n (vw.setIfInBounds i.toNat y)]) ⟨_,[],rfl,rfl,rfl⟩ t2.2)) I')
      obtain ⟨R2,S2⟩:=kk h' _ none I2;exact ⟨tt, .undef,_,_,_,HS,rfl,trivial,S2,R2⟩
theorem WZ {Y:Type} {E:Rp Y} {a':At} {a a2:Option Addr} {c2 T:Nat} {l m:List Y} {bytes nl nm:Nat} {z:Value} {K:Sl->Hp->Prop} (hX:Rd E a' a nl nl l) (hY:Rd E a' a2 nm c2 m) (I:Inv h (a'::A)) (hm:m ≠ []) (hz:z.cells.size=E.n) (hb:bytes ≠ 0) (hbb:bytes<=30000) (hl:Bnd (l.length+m.length))
  (k: ∀ a1 c1 h',Inv h' (ownS E a1 (l++m).length c1 (l++m)::a'::A)->K ⟨a1,(l++m).length,c1⟩ h'):apW T E.n bytes z h ⟨a,nl,nl⟩ ⟨a2,nm,c2⟩ K:=by
 obtain rfl:=fB hX I;obtain rfl:=fB hY I;obtain ⟨F,M,⟨F1,F3,eF,JP,h3⟩,hFM,hnd,hlt,H⟩:=(I.dV).sepI.turn;obtain ⟨_,vs,g1,g2,g3⟩:=hX h3;obtain ⟨_,ws,k1,k2,k3⟩:=hY h3;have hpos:0<m.length:=List.length_pos_iff.2 hm;refine ⟨ws,k1.cellsAt, ?_⟩;unfold apV;rw [if_neg (by simp only; omega)];refine ⟨hb,Nat.le_trans (Nat.mul_le_mul_right _ (nextcap _ _ (by simp only; omega))) (wU hl hbb),vs,g1.cellsAt,fun cc hc=> ?_⟩;have e:(l.length+m.length)=(l++m).length:=by simp
 simp only at hc;have hlen:=g3.len;have ux:=k3.len;have hzl:(zeros z (cc - (l.length+m.length))).length=cc*E.n - (l.length+m.length)*E.n:=by rw [iY,hz,Nat.sub_mul]
 have hmul:(l.length+m.length)*E.n<=cc*E.n:=Nat.mul_le_mul_right _ hc;show K ⟨_,l.length+m.length,cc⟩ _;have JP:F1=[]:=JP;subst JP;simp only [List.nil_append] at eF;subst eF
 have J:=H (h.push (.cells (vs++ws++zeros z (cc - (l.length+m.length))).toArray T (0,0))) [ownS E (some ⟨h.size,0,none⟩) (l++m).length cc (l++m),a'] [[h.size],F] (Keep.push _ _ _)
  (fun b hb=>by
   simp only [List.flatten_cons,List.flatten_nil,List.append_nil,List.mem_append,List.mem_singleton] at hb;rcases hb with rfl | hb
   ·exact .inr (Nat.le_refl _)
   ·exact .inl hb)
  (by
   simp only [List.flatten_cons,List.flatten_nil,List.append_nil];refine List.nodup_append.2 ⟨by simp,hnd,fun x hx y hy e=> ?_⟩;simp at hx; subst hx e;have:=hlt _ (hFM _ hy)
   omega)
  fun M' hL _ _=>⟨⟨rfl,T,vs++ws,⟨?_,by simpa using hc,rfl,rfl,[],zeros z (cc - (l.length+m.length)),(0,0),by simp,rfl, ?_, .inl (Nat.le_refl _)⟩,(g3.mono hL).append (k3.mono hL)⟩,a'.mono (fun b hb=>(Keep.push [] h _).2 b (a'.lt h3 b hb) (by simp)) hL h3,trivial⟩
 ·have:=k _ _ _ J
  rw [e];rw [<- e] at this |-
  exact this
 ·simp [hlen,ux,Nat.add_mul]
 ·simp only [List.length_append,hzl,hlen,ux]
  rw [Nat.add_mul] at hmul |-
  omega
theorem vS {t:Ty} {s:SV D} {v:Value} {l:List (D.d t)} (R:HR X ν ω H h []) (hv:VR ν s v) (hl:giv t s H=some (l,H')):
  ∃ ω' a c,v= .slice a l.length c/\HR X ν ω' H' h [ownS (D.r t) a l.length c l]/\SLe H ν ω H' ν ω':=by
 obtain ⟨ω',R2,S2⟩:=AE R (Rz hv hl) hl;replace R2:=HR.exE R2;obtain ⟨a,R2⟩:=R2;replace R2:=HR.exE R2;obtain ⟨c,R2⟩:=R2;obtain ⟨e,R3⟩:=HR.factE R2;exact ⟨ω',a,c,e,R3,S2⟩
theorem Dt {t':Ty} {te:TI} {e:Nat} {s y:SV D} {v w:Value} {l m:List (D.d t')} (R:HR X ν ω H h []) (hv:VR ν s v) (hw:VR ν y w) (hsz:te.size=(D.r t').n) (hz:te.zero.cells.size=te.size) (hb:te.bytes ≠ 0) (hbb:te.bytes<=30000)
  (hg:giv t' s H=some (l,H')) (hl:listS t' H' y=some m) (hB:Bnd (l.length+m.length)) (hK:K tt (.sl H'.nx) (H'.new (.own t' (l++m)))):
  ∃ a n c b k d,v= .slice a n c/\w= .slice b k d/\apW e te.size te.bytes te.zero h ⟨a,n,c⟩ ⟨b,k,d⟩ fun s h'=>PC K X ν ω H (.slice s.a s.len s.cap) h':=by
 obtain ⟨ω1,a,c,rfl,R1,S1⟩:=vS R hv hg
 obtain ⟨b,k,d,rfl,hr⟩:=k9 (L:=LL X ν ω1 H') R1 (nQ hw hl) hl ⟨by simp,fun nm o y g _ ho hy hg=>by
  have:=ql (D:=D) (X:=X) (ν:=ν) _ _ _ nm _ (get_at ho) hy hg
  simp only [LL,List.mem_cons]; exact .inr (.inr this)⟩ (by
   obtain ⟨F,M,hP⟩:=Inv.get (Inv.swap R1.front)
   exact ⟨_,F,M,hP⟩)
 refine ⟨_,_,_,_,_,_,rfl,rfl, ?_⟩;rw [hsz];refine Mg hr (A:=[]) R1.front (by rw [hz,hsz]) hb hbb hB fun a1 c1 h' I=> ?_;exact PC.own R S1 (R1.back (B:=[_]) I) hK
theorem JQ {Y:Type} {E:Rp Y} {a':At} {a:Option Addr} {n c:Nat} {l:List Y} {lo hi:Int} (k1:Rd E a' a n c l) (hs:SlOk l lo hi) (hcap:l.length<=c):
  Rd E a' (resl a hi.toNat E.n lo) (hi.toNat - lo.toNat) (hi.toNat - lo.toNat) (sub l lo hi):=by
 intro h F M hP;have hsl:=cg hs;have h3:=hs.2.2
 by_cases e:hi.toNat=lo.toNat
 ·have e2:sub l lo hi=[]:=List.length_eq_zero_iff.1 (by omega)
  rw [e2,show hi.toNat - lo.toNat=0 by omega];exact Ec k1 hP
 ·have:Rd E a' (resl a c E.n lo) (hi.toNat - lo.toNat) (c - lo.toNat) (sub l lo hi):=mF k1 hs hsl.symm
  unfold resl at this |-
  rw [if_neg (by omega)] at this;rw [if_neg e];exact Mn this (by omega) hP
theorem Du {t':Ty} {te:TI} {e nm:Nat} {lo hi:Int} {y:SV D} {v w:Value} {l m:List (D.d t')} (R:HR X ν ω H h []) (hv:VR ν (.sf nm lo hi:SV D) v) (hw:VR ν y w) (hsz:te.size=(D.r t').n) (hz:te.zero.cells.size=te.size) (hb:te.bytes ≠ 0) (hbb:te.bytes<=30000)
  (hg:listN t' nm H=some l) (hl:listS t' H y=some m) (hm:m ≠ []) (hB:Bnd ((sub l lo hi).length+m.length)) (hK:K tt (.sl H.nx) (H.new (.own t' (sub l lo hi++m)))):
  ∃ a n c b k d,v= .slice a n c/\w= .slice b k d/\apW e te.size te.bytes te.zero h ⟨a,n,c⟩ ⟨b,k,d⟩ fun s h'=>PC K X ν ω H (.slice s.a s.len s.cap) h':=by
 obtain ⟨x,hx,h0,rfl⟩:=hv;obtain ⟨b,k,d,rfl,hr⟩:=k9 R (nQ hw hl) hl (R.in _) R.getP;refine ⟨_,_,_,_,_,_,rfl,rfl, ?_⟩
 obtain ⟨o,ho⟩: ∃ o,H.get nm=some o:=by
  unfold listN at hg
  cases hq:H.get nm with
  | none=>rw [hq] at hg; cases hg
  | some o=>exact ⟨o,rfl⟩
 obtain ⟨y',g,hy,hgg⟩:=nK R ho;rw [hx] at hy; cases hy;obtain ⟨k1,k2⟩:=jL (L:=LL X ν ω H) hg hx hgg (fun o ho=>(R.in (.sl nm)).at_ nm o x g rfl ho hx hgg) (by simp);obtain ⟨h1,F,M,hP⟩:=R.getP;have en:=(k1 hP).1;have esz:=k2 _ _ _ hP
 have hs:SlOk l lo hi:=⟨h0.1,h0.2.1,by rw [<- en]; exact h0.2.2⟩
 rw [hsz]
 have hcap:l.length<=x.c:=by obtain ⟨_,_,_,h3,_⟩:=k1 hP;exact h3
 rw [esz];refine WZ (JQ k1 hs hcap) hr R.all hm (by rw [hz,hsz]) hb hbb hB fun a1 c1 h' I=> ?_;exact PC.own R (SLe.refl _ _ _) (R.back (B:=[_]) I) hK
end Go.Ex
