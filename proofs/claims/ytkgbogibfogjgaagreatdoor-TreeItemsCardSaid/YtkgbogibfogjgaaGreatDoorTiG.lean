import Derived.Test.YtkgbogibfogjgaaGreatDoorTiA
set_option linter.unusedVariables false
set_option linter.unusedSimpArgs false
set_option maxHeartbeats 4000000
set_option maxRecDepth 100000
namespace Go.Ey
open Go Go.Wc
inductive Tr (α:Type) where
 | e
 | n (l:Tr α) (v:Option α) (r:Tr α)
noncomputable def Tr.get {α:Type}:Tr α->Nat->Option α:=
 Tr.rec (motive:=fun _=>Nat->Option α) (fun _=>none) (fun _ v _ gl gr=>Nat.rec (motive:=fun _=>Option α) v (fun j _=>Bool.rec (motive:=fun _=>Nat->Option α) gr gl (Nat.beq (Nat.mod j 2) 0) (Nat.div j 2)))
noncomputable def setE {α:Type} (v:α):Nat->Nat->Tr α:=
 Nat.rec (motive:=fun _=>Nat->Tr α) (fun _=> .e) (fun _ ih=>Nat.rec (motive:=fun _=>Tr α) (.n .e (some v) .e) (fun j _=>Bool.rec (motive:=fun _=>Tr α) (.n .e none (ih (Nat.div j 2))) (.n (ih (Nat.div j 2)) none .e) (Nat.beq (Nat.mod j 2) 0)))
noncomputable def Tr.set {α:Type} (v:α):Tr α->Nat->Tr α:=
 Tr.rec (motive:=fun _=>Nat->Tr α) (setE v 20) (fun l u r sl sr=>Nat.rec (motive:=fun _=>Tr α) (.n l (some v) r) (fun j _=>Bool.rec (motive:=fun _=>Tr α) (.n l u (sr (Nat.div j 2))) (.n (sl (Nat.div j 2)) u r) (Nat.beq (Nat.mod j 2) 0)))
namespace Tr
variable {α:Type}
@[simp] theorem ae5 (i:Nat):(Tr.e:Tr α).get i=none:=rfl
theorem Hh (l:Tr α) (v:Option α) (r:Tr α):(Tr.n l v r).get 0=v:=rfl
theorem mq (l:Tr α) (v:Option α) (r:Tr α) (j:Nat):(Tr.n l v r).get (j+1)=if j % 2=0 then l.get (j / 2) else r.get (j / 2):=by
 show (Bool.rec (motive:=fun _=>Nat->Option α) r.get l.get (Nat.beq (j % 2) 0)) (j / 2)=_
 cases h:Nat.beq (j % 2) 0 with
 | true=>rw [if_pos (by simpa using h)]
 | false=>rw [if_neg (by intro e; rw [e] at h; cases h)]
theorem O5 (v:α) (l:Tr α) (u:Option α) (r:Tr α):(Tr.n l u r).set v 0= .n l (some v) r:=rfl
theorem LO (v:α) (l:Tr α) (u:Option α) (r:Tr α) (j:Nat):(Tr.n l u r).set v (j+1)=if j % 2=0 then .n (l.set v (j / 2)) u r else .n l u (r.set v (j / 2)):=by
 show (Bool.rec (motive:=fun _=>Tr α) (.n l u (r.set v (j / 2))) (.n (l.set v (j / 2)) u r) (Nat.beq (j % 2) 0))=_
 cases h:Nat.beq (j % 2) 0 with
 | true=>rw [if_pos (by simpa using h)]
 | false=>rw [if_neg (by intro e; rw [e] at h; cases h)]
theorem O6 (v:α) (f:Nat):setE v (f+1) 0= .n .e (some v) .e:=rfl
theorem wk (v:α) (f j:Nat):setE v (f+1) (j+1)=if j % 2=0 then .n (setE v f (j / 2)) none .e else .n .e none (setE v f (j / 2)):=by
 show (Bool.rec (motive:=fun _=>Tr α) (.n .e none (setE v f (j / 2))) (.n (setE v f (j / 2)) none .e) (Nat.beq (j % 2) 0))=_
 cases h:Nat.beq (j % 2) 0 with
 | true=>rw [if_pos (by simpa using h)]
 | false=>rw [if_neg (by intro e; rw [e] at h; cases h)]
theorem sK (v:α): ∀ (f i j:Nat),i+1<2 ^ f->(setE v f i).get j=if i=j then some v else none
 | 0,i,j,h=>by simp at h
 | f+1,0,j,h=>by
  rw [O6]
  cases j with
  | zero=>rfl
  | succ j=>rw [mq]; simp
 | f+1,i+1,j,h=>by
  have h2:i / 2+1<2 ^ f:=by rw [Nat.pow_succ] at h; omega
  rw [wk]
  cases j with
  | zero=>split <;> simp [Hh]
  | succ j=>
   split
   ·rw [mq]
    split
    ·rw [sK v f _ _ h2]
     by_cases hij:i=j
     ·subst hij; simp
     ·rw [if_neg (by omega),if_neg (by omega)]
    ·rw [if_neg (by omega)]; rfl
   ·rw [mq]
    split
    ·rw [if_neg (by omega)]; rfl
    ·rw [sK v f _ _ h2]
     by_cases hij:i=j
     ·subst hij; simp
     ·rw [if_neg (by omega),if_neg (by omega)]
theorem ku (v:α): ∀ (t:Tr α) (i j:Nat),i+1<1048576->(t.set v i).get j=if i=j then some v else t.get j
 | .e,i,j,h=>by
  show (setE v 20 i).get j=_
  rw [sK v 20 i j h]; rfl
 | .n l u r,0,j,h=>by
  rw [O5]
  cases j with
  | zero=>rfl
  | succ j=>rw [mq,mq]; simp
 | .n l u r,i+1,j,h=>by
  rw [LO]
  cases j with
  | zero=>split <;> (rw [Hh,if_neg (by omega)]; rfl)
  | succ j=>
   split
   ·rw [mq,mq]
    split
    ·rw [ku v l _ _ (by omega)]
     by_cases hij:i=j
     ·subst hij; simp
     ·rw [if_neg (by omega),if_neg (by omega)]
    ·rw [if_neg (by omega)]
   ·rw [mq,mq]
    split
    ·rw [if_neg (by omega)]
    ·rw [ku v r _ _ (by omega)]
     by_cases hij:i=j
     ·subst hij; simp
     ·rw [if_neg (by omega),if_neg (by omega)]
end Tr
inductive SV where
 | undef
 | int (k:IntKind) (n:Int)
 | bool (b:Bool)
 | str (s:ByteArray)
 | nilS
 | nilP
 | nilM
 | nilF
 | nilI
 | ad (nm off:Nat)
 | sv (nm off len cap:Nat)
 | so (nm off len sz bo:Nat)
 | map (nm:Nat)
 | fn (f:Nat) (cs:List SV)
 | agg (l:List SV)
 | tup (l:List SV)
 | ifc (t:Nat) (v:SV)
 | opq (v:Value)
 | unk (k:IntKind) (lo hi n:Int)
 | yl (nm:Nat)
abbrev Nu:=Nat->Option (Nat × Nat)
mutual
def VR (ν:Nu):SV->Value->Prop
 | .undef,v=>v=Go.undef
 | .int k n,v=>v= .int k n
 | .bool b,v=>v= .bool b
 | .str s,v=>v= .string s
 | .nilS,v=>v= .slice none 0 0
 | .nilP,v=>v= .pointer none
 | .nilM,v=>v= .map none
 | .nilF,v=>v= .nilFunc
 | .nilI,v=>v= .nilIface
 | .ad nm off,v=> ∃ x,ν nm=some x/\v= .pointer (some ⟨x.1,off,none⟩)
 | .sv nm off len cap,v=> ∃ x,ν nm=some x/\v= .slice (some ⟨x.1,off,none⟩) len cap
 | .so nm off len sz bo,v=> ∃ x,ν nm=some x/\v= .slice (some ⟨x.1,if off<x.2 then off else bo,none⟩) len ((x.2 - off) / sz)
 | .map nm,v=> ∃ x,ν nm=some x/\v= .map (some x.1)
 | .fn f cs,v=> ∃ vs,VRL ν cs vs/\v= .func (.func f) #[] vs.toArray
 | .agg l,v=> ∃ vs,VRL ν l vs/\v= .agg vs.toArray
 | .tup l,v=> ∃ vs,VRL ν l vs/\v= .tuple vs.toArray
 | .ifc t s,v=> ∃ u,VR ν s u/\v= .iface t u
 | .opq u,v=>v=u
 | .unk k lo hi n,v=>v= .int k n/\lo<=n/\n<=hi
 | .yl nm,v=> ∃ x,ν nm=some x/\v= .func (.yield x.1) #[] #[]
def VRL (ν:Nu):List SV->List Value->Prop
 | [],vs=>vs=[]
 | s::l,vs=> ∃ v w,VR ν s v/\VRL ν l w/\vs=v::w
end
def NLe (ν ν':Nu):Prop:= ∀ nm x,ν nm=some x->ν' nm=some x
theorem NLe.refl (ν:Nu):NLe ν ν:=fun _ _ h=>h
theorem NLe.trans {a b c:Nu} (h1:NLe a b) (h2:NLe b c):NLe a c:=fun nm x h=>h2 nm x (h1 nm x h)
mutual
theorem VR.mono {ν ν':Nu} (hL:NLe ν ν'): ∀ (s:SV) {v:Value},VR ν s v->VR ν' s v
 | .undef,_,h=>h
 | .int ..,_,h=>h
 | .bool ..,_,h=>h
 | .str ..,_,h=>h
 | .nilS,_,h=>h
 | .nilP,_,h=>h
 | .nilM,_,h=>h
 | .nilF,_,h=>h
 | .nilI,_,h=>h
 | .ad nm off,v,h=>by simp only [VR] at h |-; obtain ⟨x,h1,h2⟩:=h; exact ⟨x,hL _ _ h1,h2⟩
 | .sv nm off len cap,v,h=>by simp only [VR] at h |-; obtain ⟨x,h1,h2⟩:=h; exact ⟨x,hL _ _ h1,h2⟩
 | .so nm off len sz bo,v,h=>by simp only [VR] at h |-; obtain ⟨x,h1,h2⟩:=h; exact ⟨x,hL _ _ h1,h2⟩
 | .map nm,v,h=>by simp only [VR] at h |-; obtain ⟨x,h1,h2⟩:=h; exact ⟨x,hL _ _ h1,h2⟩
 | .yl nm,v,h=>by simp only [VR] at h |-; obtain ⟨x,h1,h2⟩:=h; exact ⟨x,hL _ _ h1,h2⟩
 | .fn f cs,v,h=>by simp only [VR] at h |-; obtain ⟨x,h1,h2⟩:=h; exact ⟨x,VRL.mono hL cs h1,h2⟩
 | .agg l,v,h=>by simp only [VR] at h |-; obtain ⟨x,h1,h2⟩:=h; exact ⟨x,VRL.mono hL l h1,h2⟩
 | .tup l,v,h=>by simp only [VR] at h |-; obtain ⟨x,h1,h2⟩:=h; exact ⟨x,VRL.mono hL l h1,h2⟩
 | .ifc t s,v,h=>by simp only [VR] at h |-; obtain ⟨x,h1,h2⟩:=h; exact ⟨x,VR.mono hL s h1,h2⟩
 | .opq u,_,h=>h
 | .unk ..,_,h=>h
theorem VRL.mono {ν ν':Nu} (hL:NLe ν ν'): ∀ (l:List SV) {vs:List Value},VRL ν l vs->VRL ν' l vs
 | [],_,h=>h
 | s::l,vs,h=>by
  simp only [VRL] at h |-
  obtain ⟨v,w,h1,h2,h3⟩:=h;exact ⟨v,w,VR.mono hL s h1,VRL.mono hL l h2,h3⟩
end
theorem VRL.len {ν:Nu}: ∀ {l:List SV} {vs:List Value},VRL ν l vs->vs.length=l.length
 | [],_,h=>by simp only [VRL] at h; subst h; rfl
 | s::l,vs,h=>by simp only [VRL] at h;obtain ⟨v,w,h1,h2,rfl⟩:=h;simp [VRL.len h2]
theorem VRL.get {ν:Nu}: ∀ {l:List SV} {vs:List Value} {i:Nat} {s:SV},VRL ν l vs->l[i]? =some s-> ∃ v,vs[i]? =some v/\VR ν s v
 | [],_,i,_,h,hi=>by simp at hi
 | s::l,vs,i,t,h,hi=>by
  simp only [VRL] at h;obtain ⟨v,w,h1,h2,rfl⟩:=h
  cases i with
  | zero=>simp at hi; subst hi; exact ⟨v,by simp,h1⟩
  | succ i=>simp at hi |-; exact VRL.get h2 hi
theorem VRL.append {ν:Nu}: ∀ {l m:List SV} {vs ws:List Value},VRL ν l vs->VRL ν m ws->VRL ν (l++m) (vs++ws)
 | [],_,_,_,h,h'=>by simp only [VRL] at h; subst h; exact h'
 | s::l,m,vs,ws,h,h'=>by simp only [VRL] at h;obtain ⟨v,w,h1,h2,rfl⟩:=h;exact ⟨v,w++ws,h1,VRL.append h2 h',rfl⟩
theorem VRL.drop {ν:Nu}: ∀ {l:List SV} {vs:List Value} (i:Nat),VRL ν l vs->VRL ν (l.drop i) (vs.drop i)
 | l,vs,0,h=>h
 | [],vs,i+1,h=>by simp only [VRL] at h; subst h; rfl
 | s::l,vs,i+1,h=>by simp only [VRL] at h;obtain ⟨v,w,h1,h2,rfl⟩:=h;exact VRL.drop i h2
theorem VRL.cons {ν:Nu} {s:SV} {l:List SV} {v:Value} {w:List Value} (h:VR ν s v) (h':VRL ν l w):VRL ν (s::l) (v::w):=⟨v,w,h,h',rfl⟩
theorem VRL.nil {ν:Nu}:VRL ν [] []:=rfl
def SV.flat:SV->List SV
 | .agg l=>l
 | s=>[s]
def SV.one:SV->Bool
 | .undef=>false
 | .agg _=>false
 | .tup _=>false
 | .opq _=>false
 | _=>true
theorem VR.flat {ν:Nu} {s:SV} {v:Value} (h:VR ν s v) (ho: ∀ u,s ≠ .opq u):VRL ν s.flat v.cells.toList:=by
 cases s with
 | agg l=>simp only [VR] at h; obtain ⟨vs,h1,rfl⟩:=h; simpa [SV.flat,Value.cells] using h1
 | opq u=>exact absurd rfl (ho u)
 | undef=>simp only [VR] at h; subst h; exact ⟨Go.undef,[],by simp only [VR],rfl,by simp [Value.cells,Go.undef]⟩
 | _=>
  have h0:=h;simp only [VR] at h
  first
   | (subst h; exact ⟨_,_,h0,rfl,by simp [Value.cells]⟩)
   | (obtain ⟨x,h1,rfl⟩:=h; exact ⟨_,_,h0,rfl,by simp [Value.cells]⟩)
   | (obtain ⟨rfl,h1⟩:=h; exact ⟨_,_,h0,rfl,by simp [Value.cells]⟩)
theorem VR.one {ν:Nu} {s:SV} {v:Value} (ho:s.one=true) (h:VR ν s v):v.oneCell'=true:=by
 cases s <;> simp only [SV.one,Bool.false_eq_true] at ho <;> simp only [VR] at h <;> first
  | (subst h; rfl)
  | (obtain ⟨x,_,rfl⟩:=h; rfl)
  | (obtain ⟨rfl,_⟩:=h; rfl)
theorem VRL.one {ν:Nu}: ∀ {l:List SV} {vs:List Value},l.all SV.one=true->VRL ν l vs-> ∀ v ∈ vs,v.oneCell'=true
 | [],vs,_,h,v,hv=>by simp only [VRL] at h; subst h; cases hv
 | s::l,vs,ho,h,v,hv=>by
  simp only [List.all_cons,Bool.and_eq_true] at ho;simp only [VRL] at h;obtain ⟨u,w,h1,h2,rfl⟩:=h;rcases List.mem_cons.1 hv with rfl | hv
  ·exact h1.one ho.1
  ·exact VRL.one ho.2 h2 v hv
end Go.Ey
namespace Go.Ey
open Go Go.Wc
inductive SO where
 | blk (T n:Nat) (op:Bool) (d:SV) (c:Tr SV)
 | map (es:List (SV × SV))
 | it (s:ByteArray) (pos:Nat)
 | gone
def SO.live:SO->Bool
 | .gone=>false
 | _=>true
structure SH where
 next:Nat
 t:Tr (SO × Nat)
noncomputable def SH.get (S:SH) (nm:Nat):Option SO:=Option.rec (motive:=fun _=>Option SO) none (fun p=>some p.1) (S.t.get nm)
noncomputable def SH.ver (S:SH) (nm:Nat):Nat:=Option.rec (motive:=fun _=>Nat) 0 (fun p=>p.2) (S.t.get nm)
noncomputable def SH.put (S:SH) (nm:Nat) (o:SO):SH:=⟨S.next,S.t.set (o,S.ver nm+1) nm⟩
noncomputable def SH.new (S:SH) (o:SO):SH:=⟨S.next+1,S.t.set (o,0) S.next⟩
noncomputable def cell (d:SV) (c:Tr SV) (i:Nat):SV:=Option.rec (motive:=fun _=>SV) d (fun s=>s) (c.get i)
def Zok (m:Nat) (z:Nat × Nat):Prop:=z.1=z.2\/m<=z.1
theorem Zok.free {m:Nat} {z:Nat × Nat} (h:Zok m z): ∀ i,i<m->i<z.1\/z.2<=i:=fun i hi=>by unfold Zok at h; omega
def OB (ν:Nu) (m:Nat):SO->Obj->Prop
 | .blk T n op d c,ob=> ∃ (cs:Array Value) (z:Nat × Nat),ob= .cells cs T z/\cs.size=m/\n<=m/\(op=false->m=n)/\Zok m z/\
   (∀ i,i<n-> ∃ v,cs[i]? =some v/\VR ν (cell d c i) v)
 | .map es,ob=> ∃ (a:Array MapEntry) (clock:Nat),ob= .map a clock/\VRL ν (es.map (·.1)) (a.toList.map (·.key))/\VRL ν (es.map (·.2)) (a.toList.map (·.val))
 | .it s pos,ob=>ob= .stringIter s pos
 | .gone,_=>False
theorem OB.mono {ν ν':Nu} (hL:NLe ν ν') {m:Nat}: ∀ {o:SO} {ob:Obj},OB ν m o ob->OB ν' m o ob
 | .blk T n op d c,ob,⟨cs,z,h1,h2,h3,h4,h5,h6⟩=>⟨cs,z,h1,h2,h3,h4,h5,fun i hi=>let ⟨v,a,b⟩:=h6 i hi; ⟨v,a,VR.mono hL _ b⟩⟩
 | .map es,ob,⟨a,k,h1,h2,h3⟩=>⟨a,k,h1,VRL.mono hL _ h2,VRL.mono hL _ h3⟩
 | .it s pos,ob,h=>h
def SLe (S S':SH):Prop:= ∀ nm o v,S.t.get nm=some (o,v)-> ∃ o' v',S'.t.get nm=some (o',v')/\v<=v'/\(v'=v->o'=o)
theorem SLe.refl (S:SH):SLe S S:=fun nm o v h=>⟨o,v,h,Nat.le_refl _,fun _=>rfl⟩
theorem SLe.trans {a b c:SH} (h1:SLe a b) (h2:SLe b c):SLe a c:=fun nm o v h=>by
 obtain ⟨o1,v1,g1,g2,g3⟩:=h1 nm o v h;obtain ⟨o2,v2,k1,k2,k3⟩:=h2 nm o1 v1 g1
 exact ⟨o2,v2,k1,Nat.le_trans g2 k2,fun e=>by
  have e1:v1=v:=by omega
  subst e1
  rw [k3 (by omega),g3 rfl]⟩
abbrev Fr:=Nat->Option Obj
structure Rel (ν:Nu) (S:SH) (F:Fr) (h:Hp):Prop where
 obj: ∀ nm o v,S.t.get nm=some (o,v)->o.live=true-> ∃ x ob,ν nm=some x/\h[x.1]? =some ob/\OB ν x.2 o ob
 lt: ∀ nm x,ν nm=some x->nm<S.next
 y9: ∀ nm x,S.t.get nm=some x->nm<S.next
 sep: ∀ nm nm' o v o' v' x x',S.t.get nm=some (o,v)->o.live=true->S.t.get nm'=some (o',v')->o'.live=true->ν nm=some x->ν nm'=some x'->x.1=x'.1->nm=nm'
 fr: ∀ b ob,F b=some ob->h[b]? =some ob/\ ∀ nm o v x,S.t.get nm=some (o,v)->o.live=true->ν nm=some x->x.1 ≠ b
variable {ν:Nu} {S:SH} {F:Fr} {h:Hp}
theorem oW {nm:Nat} {o:SO} (H:S.get nm=some o): ∃ v,S.t.get nm=some (o,v)/\S.ver nm=v:=by
 unfold SH.get SH.ver at*
 cases hg:S.t.get nm with
 | none=>rw [hg] at H; cases H
 | some p=>rw [hg] at H; simp at H; subst H; exact ⟨p.2,rfl,rfl⟩
theorem jx {nm:Nat} (o:SO) (hn:nm+1<1048576) (j:Nat):(S.put nm o).t.get j=if nm=j then some (o,S.ver nm+1) else S.t.get j:=Tr.ku _ _ _ _ hn
theorem iA (o:SO) (hn:S.next+1<1048576) (j:Nat):(S.new o).t.get j=if S.next=j then some (o,0) else S.t.get j:=Tr.ku _ _ _ _ hn
theorem qu {nm:Nat} (o:SO) (hn:nm+1<1048576):SLe S (S.put nm o):=fun j o' v hj=>by
 by_cases e:nm=j
 ·subst e
  refine ⟨o,v+1, ?_,by omega,fun e=>by omega⟩;rw [jx o hn,if_pos rfl];simp [SH.ver,hj]
 ·exact ⟨o',v,by rw [jx o hn,if_neg e]; exact hj,Nat.le_refl _,fun _=>rfl⟩
theorem Rel.dL (R:Rel ν S F h) (o:SO) (hn:S.next+1<1048576):SLe S (S.new o):=fun j o' v hj=>by have:=R.y9 j _ hj;exact ⟨o',v,by rw [iA o hn,if_neg (by omega)]; exact hj,Nat.le_refl _,fun _=>rfl⟩
def bind (ν:Nu) (nm:Nat) (x:Nat × Nat):Nu:=fun j=>if nm=j then some x else ν j
theorem Kj {nm:Nat} {x:Nat × Nat} (h:ν nm=none):NLe ν (bind ν nm x):=fun j y hj=>by
 unfold bind
 by_cases e:nm=j
 ·subst e; rw [h] at hj; cases hj
 ·rw [if_neg e]; exact hj
theorem Rel.fresh (R:Rel ν S F h):ν S.next=none:=by
 cases hx:ν S.next with
 | none=>rfl
 | some x=>exact absurd (R.lt _ _ hx) (Nat.lt_irrefl _)
theorem Rel.fE (R:Rel ν S F h) (x:Nat × Nat):NLe ν (bind ν S.next x):=Kj R.fresh
theorem Rel.alloc (R:Rel ν S F h) (hn:S.next+1<1048576) {o:SO} {ob:Obj} {m:Nat} (ho:OB (bind ν S.next (h.size,m)) m o ob):
  Rel (bind ν S.next (h.size,m)) (S.new o) F (h.push ob):=by
 have hb:bind ν S.next (h.size,m) S.next=some (h.size,m):=by simp [bind]
 have hne: ∀ j,S.next ≠ j->bind ν S.next (h.size,m) j=ν j:=fun j hj=>by simp [bind,hj]
 have old: ∀ nm o1 v,(S.new o).t.get nm=some (o1,v)->S.next ≠ nm->S.t.get nm=some (o1,v):=by
  intro nm o1 v hg e
  rwa [iA o hn,if_neg e] at hg
 refine ⟨fun nm o' v hg hl=> ?_,fun nm x hx=> ?_,fun nm x hx=> ?_,fun nm nm' o1 v1 o2 v2 x x' g1 l1 g2 l2 e1 e2 e=> ?_,fun b ob' hF=> ?_⟩
 ·by_cases e:S.next=nm
  ·subst e
   rw [iA o hn,if_pos rfl] at hg;cases hg;exact ⟨_,ob,hb,by simp,ho⟩
  ·obtain ⟨x,ob',g1,g2,g3⟩:=R.obj nm o' v (old _ _ _ hg e) hl
   exact ⟨x,ob',by rw [hne _ e]; exact g1,by rw [fI g2],OB.mono (R.fE _) g3⟩
 ·by_cases e:S.next=nm
  ·subst e; exact Nat.lt_succ_self _
  ·rw [hne _ e] at hx; exact Nat.lt_succ_of_lt (R.lt _ _ hx)
 ·by_cases e:S.next=nm
  ·subst e; exact Nat.lt_succ_self _
  ·rw [iA o hn,if_neg e] at hx; exact Nat.lt_succ_of_lt (R.y9 _ _ hx)
 ·have small: ∀ j o v x,S.t.get j=some (o,v)->o.live=true->ν j=some x->x.1<h.size:=fun j o v x hj hl hx=>by
   obtain ⟨x',ob',g1,g2,_⟩:=R.obj j o v hj hl;rw [hx] at g1; cases g1;exact dc g2
  by_cases a:S.next=nm
  ·subst a
   by_cases b:S.next=nm'
   ·exact b
   ·rw [hb] at e1; cases e1
    rw [hne _ b] at e2;have:=small _ _ _ _ (old _ _ _ g2 b) l2 e2;simp only at e; omega
  ·by_cases b:S.next=nm'
   ·subst b
    rw [hb] at e2; cases e2;rw [hne _ a] at e1;have:=small _ _ _ _ (old _ _ _ g1 a) l1 e1;simp only at e; omega
   ·rw [hne _ a] at e1; rw [hne _ b] at e2
    exact R.sep _ _ _ _ _ _ _ _ (old _ _ _ g1 a) l1 (old _ _ _ g2 b) l2 e1 e2 e
 ·obtain ⟨g1,g2⟩:=R.fr b ob' hF
  refine ⟨fI g1,fun nm o1 v1 x hg hl hx=> ?_⟩
  by_cases e:S.next=nm
  ·subst e
   rw [hb] at hx; cases hx;have:=dc g1;simp only; omega
  ·rw [hne _ e] at hx
   exact g2 _ _ _ _ (old _ _ _ hg e) hl hx
theorem Rel.upd (R:Rel ν S F h) {nm:Nat} {o o':SO} {v:Nat} {x:Nat × Nat} {h':Hp} {ob:Obj} (hn:nm+1<1048576) (hg:S.t.get nm=some (o,v)) (hl:o.live=true) (hx:ν nm=some x)
  (hb:h'[x.1]? =some ob) (ho:OB ν x.2 o' ob) (hk: ∀ b,b ≠ x.1->h'[b]? =h[b]?):Rel ν (S.put nm o') F h':=by
 have old: ∀ j p,(S.put nm o').t.get j=some p->nm ≠ j->S.t.get j=some p:=by
  intro j p hg e
  rwa [jx o' hn,if_neg e] at hg
 have live: ∀ j o1 v1,(S.put nm o').t.get j=some (o1,v1)->o1.live=true-> ∃ o2 v2,S.t.get j=some (o2,v2)/\o2.live=true:=by
  intro j o1 v1 hj Cn
  by_cases e:nm=j
  ·subst e; exact ⟨o,v,hg,hl⟩
  ·exact ⟨_,_,old _ _ hj e,Cn⟩
 refine ⟨fun j o1 v1 hj Cn=> ?_,R.lt,fun j p hj=> ?_,fun j j' o1 v1 o2 v2 y y' g1 l1 g2 l2 e1 e2 e=> ?_,fun b ob' hF=> ?_⟩
 ·by_cases e:nm=j
  ·subst e
   rw [jx o' hn,if_pos rfl] at hj;cases hj;exact ⟨x,ob,hx,hb,ho⟩
  ·obtain ⟨y,ob',g1,g2,g3⟩:=R.obj j o1 v1 (old _ _ hj e) Cn
   refine ⟨y,ob',g1, ?_,g3⟩;rw [hk y.1 fun e'=>e (R.sep _ _ _ _ _ _ _ _ hg hl (old _ _ hj e) Cn hx g1 e'.symm)]; exact g2
 ·by_cases e:nm=j
  ·subst e; exact R.y9 _ _ hg
  ·exact R.y9 _ _ (old _ _ hj e)
 ·obtain ⟨a1,a2,a3,a4⟩:=live _ _ _ g1 l1
  obtain ⟨b1,b2,b3,b4⟩:=live _ _ _ g2 l2;exact R.sep _ _ _ _ _ _ _ _ a3 a4 b3 b4 e1 e2 e
 ·obtain ⟨g1,g2⟩:=R.fr b ob' hF
  have hne:x.1 ≠ b:=g2 _ _ _ _ hg hl hx;refine ⟨by rw [hk b fun e=>hne e.symm]; exact g1,fun j o1 v1 y hj Cn hy=> ?_⟩;obtain ⟨a1,a2,a3,a4⟩:=live _ _ _ hj Cn;exact g2 _ _ _ _ a3 a4 hy
theorem Rel.gone (R:Rel ν S F h) {nm:Nat} {o:SO} {v:Nat} (hn:nm+1<1048576) (hg:S.t.get nm=some (o,v)):Rel ν (S.put nm .gone) F h:=by
 have old: ∀ j o1 v1,(S.put nm .gone).t.get j=some (o1,v1)->o1.live=true->S.t.get j=some (o1,v1):=by
  intro j o1 v1 hg hl
  by_cases e:nm=j
  ·subst e; rw [jx _ hn,if_pos rfl] at hg; cases hg; cases hl
  ·rwa [jx _ hn,if_neg e] at hg
 refine ⟨fun j o1 v1 hj Cn=>R.obj _ _ _ (old _ _ _ hj Cn) Cn,R.lt,fun j p hj=> ?_,fun j j' o1 v1 o2 v2 y y' g1 l1 g2 l2=>R.sep _ _ _ _ _ _ _ _ (old _ _ _ g1 l1) l1 (old _ _ _ g2 l2) l2,fun b ob' hF=> ?_⟩
 ·by_cases e:nm=j
  ·subst e; exact R.y9 _ _ hg
  ·rw [jx _ hn,if_neg e] at hj; exact R.y9 _ _ hj
 ·obtain ⟨g1,g2⟩:=R.fr b ob' hF
  exact ⟨g1,fun j o1 v1 y hj Cn hy=>g2 _ _ _ _ (old _ _ _ hj Cn) Cn hy⟩
theorem Rel.name (R:Rel ν S F h) (hn:S.next+1<1048576) {o:SO} {b m:Nat} {ob:Obj} (hb:h[b]? =some ob) (ho:OB (bind ν S.next (b,m)) m o ob)
  (hs: ∀ nm o v x,S.t.get nm=some (o,v)->o.live=true->ν nm=some x->x.1 ≠ b) (hF:F b=none):Rel (bind ν S.next (b,m)) (S.new o) F h:=by
 have hb':bind ν S.next (b,m) S.next=some (b,m):=by simp [bind]
 have hne: ∀ j,S.next ≠ j->bind ν S.next (b,m) j=ν j:=fun j hj=>by simp [bind,hj]
 have old: ∀ nm p,(S.new o).t.get nm=some p->S.next ≠ nm->S.t.get nm=some p:=by
  intro nm p hg e
  rwa [iA o hn,if_neg e] at hg
 refine ⟨fun nm o' v hg hl=> ?_,fun nm x hx=> ?_,fun nm x hx=> ?_,fun nm nm' o1 v1 o2 v2 x x' g1 l1 g2 l2 e1 e2 e=> ?_,fun b' ob' hF'=> ?_⟩
 ·by_cases e:S.next=nm
  ·subst e
   rw [iA o hn,if_pos rfl] at hg;cases hg;exact ⟨_,ob,hb',hb,ho⟩
  ·obtain ⟨x,ob',g1,g2,g3⟩:=R.obj nm o' v (old _ _ hg e) hl
   exact ⟨x,ob',by rw [hne _ e]; exact g1,g2,OB.mono (R.fE _) g3⟩
 ·by_cases e:S.next=nm
  ·subst e; exact Nat.lt_succ_self _
  ·rw [hne _ e] at hx; exact Nat.lt_succ_of_lt (R.lt _ _ hx)
 ·by_cases e:S.next=nm
  ·subst e; exact Nat.lt_succ_self _
  ·exact Nat.lt_succ_of_lt (R.y9 _ _ (old _ _ hx e))
 ·by_cases a:S.next=nm
  ·subst a
   by_cases b2:S.next=nm'
   ·exact b2
   ·rw [hb'] at e1; cases e1
    rw [hne _ b2] at e2;exact absurd e.symm (hs _ _ _ _ (old _ _ g2 b2) l2 e2)
  ·by_cases b2:S.next=nm'
   ·subst b2
    rw [hb'] at e2; cases e2;rw [hne _ a] at e1;exact absurd e (hs _ _ _ _ (old _ _ g1 a) l1 e1)
   ·rw [hne _ a] at e1; rw [hne _ b2] at e2
    exact R.sep _ _ _ _ _ _ _ _ (old _ _ g1 a) l1 (old _ _ g2 b2) l2 e1 e2 e
 ·obtain ⟨g1,g2⟩:=R.fr b' ob' hF'
  refine ⟨g1,fun nm o1 v1 x hg hl hx=> ?_⟩
  by_cases e:S.next=nm
  ·subst e
   rw [hb'] at hx; cases hx;rintro rfl; rw [hF] at hF'; cases hF'
  ·rw [hne _ e] at hx
   exact g2 _ _ _ _ (old _ _ hg e) hl hx
noncomputable def rdC (d:SV) (c:Tr SV):Nat->Nat->List SV:=
 fun n=>Nat.rec (motive:=fun _=>Nat->List SV) (fun _=>[]) (fun _ ih i=>cell d c i::ih (i+1)) n
theorem U3 (d:SV) (c:Tr SV) (n i:Nat):rdC d c (n+1) i=cell d c i::rdC d c n (i+1):=rfl
theorem wm (d:SV) (c:Tr SV): ∀ n i,(rdC d c n i).length=n
 | 0,_=>rfl
 | n+1,i=>by rw [U3,List.length_cons,wm d c n]
noncomputable def wrC (c:Tr SV):List SV->Nat->Tr SV:=
 fun l=>List.rec (motive:=fun _=>Tr SV->Nat->Tr SV) (fun c _=>c) (fun s _ ih c i=>ih (c.set s i) (i+1)) l c
theorem Kk (c:Tr SV) (i:Nat):wrC c [] i=c:=rfl
theorem Hi (c:Tr SV) (s:SV) (l:List SV) (i:Nat):wrC c (s::l) i=wrC (c.set s i) l (i+1):=rfl
theorem Hj (d s:SV) (c:Tr SV) {i:Nat} (hi:i+1<1048576) (j:Nat):cell d (c.set s i) j=if i=j then s else cell d c j:=by unfold cell; rw [Tr.ku _ _ _ _ hi]; split <;> rfl
theorem nX (d:SV): ∀ (l:List SV) (c:Tr SV) (i j:Nat),i+l.length<1048576->cell d (wrC c l i) j=if i<=j/\j<i+l.length then l.getD (j - i) d else cell d c j
 | [],c,i,j,_=>by rw [Kk,if_neg (by simp only [List.length_nil]; omega)]
 | s::l,c,i,j,hi=>by
  simp only [List.length_cons] at hi |-
  rw [Hi,nX d l _ _ _ (by omega),Hj _ _ _ (by omega)]
  by_cases e:i=j
  ·subst e; rw [if_neg (by omega),if_pos rfl,if_pos (by omega)]; simp
  ·by_cases e2:i+1<=j/\j<i+1+l.length
   ·rw [if_pos e2,if_pos (by omega)]
    obtain ⟨k,rfl⟩: ∃ k,j=i+1+k:=⟨j - (i+1),by omega⟩
    rw [show i+1+k - i=k+1 from by omega,show i+1+k - (i+1)=k from by omega];rfl
   ·rw [if_neg e2,if_neg e,if_neg (by omega)]
theorem Rel.blk (R:Rel ν S F h) {nm T n:Nat} {op:Bool} {d:SV} {c:Tr SV} (hg:S.get nm=some (.blk T n op d c)):
  ∃ x cs z,ν nm=some x/\h[x.1]? =some (.cells cs T z)/\cs.size=x.2/\n<=x.2/\(op=false->x.2=n)/\Zok x.2 z/\(∀ i,i<n-> ∃ v,cs[i]? =some v/\VR ν (cell d c i) v):=by
 obtain ⟨v,hg,_⟩:=oW hg;obtain ⟨x,ob,g1,g2,cs,z,rfl,g3,g4,g5,g6,g7⟩:=R.obj _ _ _ hg rfl;exact ⟨x,cs,z,g1,g2,g3,g4,g5,g6,g7⟩
theorem sL {d:SV} {c:Tr SV} {cs:Array Value} {n off k:Nat} (hc: ∀ i,i<n-> ∃ v,cs[i]? =some v/\VR ν (cell d c i) v) (hk:off+k<=n):
  ∃ vs,VRL ν (rdC d c k off) vs/\vs.length=k/\ ∀ i,i<k->cs[off+i]? =vs[i]? :=by
 induction k generalizing off with
 | zero=>exact ⟨[],rfl,rfl,fun i hi=>by omega⟩
 | succ k ih=>
  obtain ⟨v,h1,h2⟩:=hc off (by omega);obtain ⟨vs,g1,g2,g3⟩:=ih (off:=off+1) (by omega);refine ⟨v::vs,VRL.cons h2 g1,by simp [g2],fun i hi=> ?_⟩
  cases i with
  | zero=>simpa using h1
  | succ i=>rw [show off+(i+1)=off+1+i from by omega,g3 i (by omega)]; simp
theorem oX {b T:Nat} {z:Nat × Nat} {K:Hp->Prop}: ∀ (vs:List Value) (h:Hp) (cs:Array Value) (o i:Nat),h[b]? =some (.cells cs T z)->o+i+vs.length<=cs.size->
  (∀ i,i<cs.size->i<z.1\/z.2<=i)->(∀ v ∈ vs,v.oneCell'=true)->
  (∀ (h':Hp) (cs':Array Value),h'[b]? =some (.cells cs' T z)->cs'.size=cs.size->(∀ j,cs'[j]? =if o+i<=j/\j<o+i+vs.length then vs[j - (o+i)]? else cs[j]?)->(∀ b',b' ≠ b->h'[b']? =h[b']?)->K h')->
  stAll h ⟨b,o,none⟩ i vs K
 | [],h,cs,o,i,hb,hs,hz,ho,k=>k h cs hb rfl (fun j=>by rw [if_neg (by simp only [List.length_nil]; omega)]) fun _ _=>rfl
 | v::vs,h,cs,o,i,hb,hs,hz,ho,k=>by
  simp only [List.length_cons] at hs;have hv:=ho v List.mem_cons_self;show stV h _ v _
  have key:st h ((⟨b,o,none⟩:Addr).add i) v fun h'=>stAll h' ⟨b,o,none⟩ (i+1) vs K:=by
   rw [dW];refine KN hb (by omega) (hz _ (by omega)) ?_;refine oX vs _ (cs.setIfInBounds (o+i) v) o (i+1) (wR v hb) (by simp; omega) (by simpa using hz) (fun u hu=>ho u (List.mem_cons_of_mem _ hu)) fun h' cs' g1 g2 g3 g4=> ?_;refine k h' cs' g1 (by simpa using g2) (fun j=> ?_) fun b' hb'=> ?_
   ·rw [g3 j]
    by_cases e:o+i=j
    ·subst e
     rw [if_neg (by omega),if_pos (by simp)];simp [show o+i<cs.size from by omega]
    ·by_cases e2:o+(i+1)<=j/\j<o+(i+1)+vs.length
     ·rw [if_pos e2,if_pos (by simp; omega),show j - (o+i)=(j - (o+(i+1)))+1 from by omega,List.getElem?_cons_succ]
     ·rw [if_neg e2,if_neg (by simp; omega),Array.getElem?_setIfInBounds_ne e]
   ·rw [g4 b' hb']
    simp only [hset,Array.getElem?_modify,if_neg (Ne.symm hb')]
  cases v <;> first | exact key | (simp [Value.oneCell'] at hv)
end Go.Ey
namespace Go.Ey
open Go Go.Wc
mutual
theorem VR.uni {ν:Nu}: ∀ (s:SV) {v w:Value},VR ν s v->VR ν s w->v=w
 | .undef,_,_,h,h'=>by simp only [VR] at h h'; rw [h,h']
 | .int ..,_,_,h,h'=>by simp only [VR] at h h'; rw [h,h']
 | .bool ..,_,_,h,h'=>by simp only [VR] at h h'; rw [h,h']
 | .str ..,_,_,h,h'=>by simp only [VR] at h h'; rw [h,h']
 | .nilS,_,_,h,h'=>by simp only [VR] at h h'; rw [h,h']
 | .nilP,_,_,h,h'=>by simp only [VR] at h h'; rw [h,h']
 | .nilM,_,_,h,h'=>by simp only [VR] at h h'; rw [h,h']
 | .nilF,_,_,h,h'=>by simp only [VR] at h h'; rw [h,h']
 | .nilI,_,_,h,h'=>by simp only [VR] at h h'; rw [h,h']
 | .ad nm off,v,w,h,h'=>by simp only [VR] at h h'; obtain ⟨x,h1,rfl⟩:=h; obtain ⟨y,h2,rfl⟩:=h'; rw [h1] at h2; cases h2; rfl
 | .sv nm off len cap,v,w,h,h'=>by simp only [VR] at h h'; obtain ⟨x,h1,rfl⟩:=h; obtain ⟨y,h2,rfl⟩:=h'; rw [h1] at h2; cases h2; rfl
 | .so nm off len sz bo,v,w,h,h'=>by simp only [VR] at h h'; obtain ⟨x,h1,rfl⟩:=h; obtain ⟨y,h2,rfl⟩:=h'; rw [h1] at h2; cases h2; rfl
 | .map nm,v,w,h,h'=>by simp only [VR] at h h'; obtain ⟨x,h1,rfl⟩:=h; obtain ⟨y,h2,rfl⟩:=h'; rw [h1] at h2; cases h2; rfl
 | .yl nm,v,w,h,h'=>by simp only [VR] at h h'; obtain ⟨x,h1,rfl⟩:=h; obtain ⟨y,h2,rfl⟩:=h'; rw [h1] at h2; cases h2; rfl
 | .fn f cs,v,w,h,h'=>by simp only [VR] at h h'; obtain ⟨x,h1,rfl⟩:=h; obtain ⟨y,h2,rfl⟩:=h'; rw [VRL.uni cs h1 h2]
 | .agg l,v,w,h,h'=>by simp only [VR] at h h'; obtain ⟨x,h1,rfl⟩:=h; obtain ⟨y,h2,rfl⟩:=h'; rw [VRL.uni l h1 h2]
 | .tup l,v,w,h,h'=>by simp only [VR] at h h'; obtain ⟨x,h1,rfl⟩:=h; obtain ⟨y,h2,rfl⟩:=h'; rw [VRL.uni l h1 h2]
 | .ifc t s,v,w,h,h'=>by simp only [VR] at h h'; obtain ⟨x,h1,rfl⟩:=h; obtain ⟨y,h2,rfl⟩:=h'; rw [VR.uni s h1 h2]
 | .opq u,_,_,h,h'=>by simp only [VR] at h h'; rw [h,h']
 | .unk ..,_,_,h,h'=>by simp only [VR] at h h'; rw [h.1,h'.1]
theorem VRL.uni {ν:Nu}: ∀ (l:List SV) {vs ws:List Value},VRL ν l vs->VRL ν l ws->vs=ws
 | [],_,_,h,h'=>by simp only [VRL] at h h'; rw [h,h']
 | s::l,vs,ws,h,h'=>by simp only [VRL] at h h';obtain ⟨v,a,h1,h2,rfl⟩:=h;obtain ⟨w,b,h3,h4,rfl⟩:=h';rw [VR.uni s h1 h3,VRL.uni l h2 h4]
end
def limU:IntKind->Nat
 | .i8=>128
 | .i16=>32768
 | .i32=>2147483648
 | .i64=>9223372036854775808
 | .u8=>256
 | .u16=>65536
 | .u32=>4294967296
 | .u64=>18446744073709551616
def wrapF (k:IntKind) (n:Int):Int:=
 match n with
 | .ofNat m=>bif Nat.blt m (limU k) then .ofNat m else k.wrap (.ofNat m)
 | .negSucc m=>bif k.signed && Nat.blt m (limU k) then .negSucc m else k.wrap (.negSucc m)
theorem za (k:IntKind) (n:Int):k.wrap n=if k.signed && decide (n % (2 ^ k.bits:Int)>=(2 ^ (k.bits - 1):Int)) then n % (2 ^ k.bits:Int) - (2 ^ k.bits:Int) else n % (2 ^ k.bits:Int):=rfl
theorem jS (k:IntKind) (n:Int):wrapF k n=k.wrap n:=by
 have p8:(2:Int) ^ 8=256:=by decide
 have p16:(2:Int) ^ 16=65536:=by decide
 have p32:(2:Int) ^ 32=4294967296:=by decide
 have p64:(2:Int) ^ 64=18446744073709551616:=by decide
 have q8:(2:Int) ^ (8 - 1)=128:=by decide
 have q16:(2:Int) ^ (16 - 1)=32768:=by decide
 have q32:(2:Int) ^ (32 - 1)=2147483648:=by decide
 have q64:(2:Int) ^ (64 - 1)=9223372036854775808:=by decide
 cases n with
 | ofNat m=>
  cases hb:Nat.blt m (limU k) with
  | false=>simp only [wrapF,hb,cond_false]
  | true=>
   simp only [wrapF,hb,cond_true];simp only [Nat.blt_eq] at hb;rw [za,Int.ofNat_eq_natCast]
   cases k <;> simp only [limU,IntKind.bits,IntKind.signed,Bool.true_and,Bool.false_and,Bool.false_eq_true,if_false,decide_eq_true_eq,p8,p16,p32,p64,q8,q16,q32,q64] at hb |- <;> (try split) <;> omega
 | negSucc m=>
  cases hb:(k.signed && Nat.blt m (limU k)) with
  | false=>simp only [wrapF,hb,cond_false]
  | true=> simp only [wrapF,hb,cond_true];simp only [Bool.and_eq_true,Nat.blt_eq] at hb;obtain ⟨h1,h2⟩:=hb;rw [za,Int.negSucc_eq];cases k <;> simp only [limU,IntKind.bits,IntKind.signed,Bool.true_and,Bool.false_and,Bool.false_eq_true,if_false,decide_eq_true_eq,p8,p16,p32,p64,q8,q16,q32,q64] at h1 h2 |- <;> (try split) <;> omega
def ltF:Int->Int->Bool
 | .ofNat a, .ofNat b=>Nat.blt a b
 | .ofNat _, .negSucc _=>false
 | .negSucc _, .ofNat _=>true
 | .negSucc a, .negSucc b=>Nat.blt b a
theorem sM (a b:Int):ltF a b=decide (a<b):=by apply Bool.eq_iff_iff.2;cases a <;> cases b <;> simp only [ltF,Int.ofNat_eq_natCast,Int.negSucc_eq,Nat.blt_eq,decide_eq_true_eq,Bool.false_eq_true,true_iff,false_iff] <;> omega
def eqF:Int->Int->Bool
 | .ofNat a, .ofNat b=>Nat.beq a b
 | .negSucc a, .negSucc b=>Nat.beq a b
 | _,_=>false
theorem AZ (a b:Int):eqF a b=(a==b):=by apply Bool.eq_iff_iff.2;cases a <;> cases b <;> simp only [eqF,Int.ofNat_eq_natCast,Int.negSucc_eq,Nat.beq_eq,beq_iff_eq,Bool.false_eq_true,true_iff,false_iff] <;> omega
def zb:Value->SV
 | .int k n=> .int k n
 | .bool b=> .bool b
 | .string s=> .str s
 | .pointer none=> .nilP
 | .slice none 0 0=> .nilS
 | .map none=> .nilM
 | .nilFunc=> .nilF
 | .nilIface=> .nilI
 | v=> .opq v
def ofV:Value->SV
 | .agg cs=> .agg (cs.toList.map zb)
 | .tuple ⟨[]⟩=> .undef
 | v=>zb v
theorem Co (ν:Nu) (v:Value):VR ν (zb v) v:=by unfold zb; split <;> simp only [VR]
theorem lC (ν:Nu): ∀ (l:List Value),VRL ν (l.map zb) l
 | []=>rfl
 | v::l=>VRL.cons (Co ν v) (lC ν l)
theorem kj (ν:Nu) (v:Value):VR ν (ofV v) v:=by
 unfold ofV;split
 ·simp only [VR]; exact ⟨_,lC ν _,rfl⟩
 ·simp only [VR]; rfl
 ·exact Co ν v
def ki:SV->Option Value
 | .int k n=>some (.int k n)
 | .bool b=>some (.bool b)
 | .str s=>some (.string s)
 | _=>none
def plainL:List SV->Option (List Value)
 | []=>some []
 | s::l=>match ki s,plainL l with
  | some v,some vs=>some (v::vs)
  | _,_=>none
def plainS:SV->Option Value
 | .agg l=>match plainL l with
  | some vs=>some (.agg vs.toArray)
  | none=>none
 | s=>ki s
theorem uT {ν:Nu} {s:SV} {v w:Value} (h:ki s=some v) (hw:VR ν s w):w=v:=by cases s <;> simp only [ki] at h <;> first | (cases h; simpa only [VR] using hw) | cases h
theorem uU {ν:Nu}: ∀ {l:List SV} {vs ws:List Value},plainL l=some vs->VRL ν l ws->ws=vs
 | [],vs,ws,h,hw=>by simp only [plainL,Option.some.injEq] at h; subst h; simpa only [VRL] using hw
 | s::l,vs,ws,h,hw=>by
  simp only [plainL] at h;split at h
  ·rename_i v us h1 h2
   cases h;simp only [VRL] at hw;obtain ⟨w,r,g1,g2,rfl⟩:=hw;rw [uT h1 g1,uU h2 g2]
  ·cases h
theorem uV {ν:Nu} {s:SV} {v w:Value} (h:plainS s=some v) (hw:VR ν s w):w=v:=by
 cases s with
 | agg l=>
  simp only [plainS] at h;split at h
  ·rename_i vs h1
   cases h;simp only [VR] at hw;obtain ⟨us,g1,rfl⟩:=hw;rw [uU h1 g1]
  ·cases h
 | _=>exact uT (by simpa only [plainS] using h) hw
abbrev KS:=(SH->Bool)->SV->SH->Prop
def tt:SH->Bool:=fun _=>true
def PR (K:KS) (ν:Nu) (S:SH) (f:Hp->Prop) (v:Value):Prop:=
 ∃ s g,K g s S/\VR ν s v/\ ∀ F' ν' S' h',NLe ν ν'->SLe S S'->Rel ν' S' F' h'->g S'=true->f h'
def PC (K:KS) (ν:Nu) (S:SH) (F:Fr) (v:Value) (h':Hp):Prop:=
 ∃ ν' s g S',K g s S'/\VR ν' s v/\NLe ν ν'/\SLe S S'/\Rel ν' S' F h'
variable {K:KS} {ν:Nu} {S:SH} {F:Fr} {h:Hp} {τ:Tys}
theorem PR.mk {s:SV} {v:Value} (hK:K tt s S) (hv:VR ν s v):PR K ν S (fun _=>True) v:=⟨s,tt,hK,hv,fun _ _ _ _ _ _ _ _=>trivial⟩
noncomputable def evS (Γ:Tr SV):Operand->SV
 | .tmp t=>(Γ.get t).getD .undef
 | .const v=>ofV v
 | .global g=> .opq (.pointer (some ⟨g,0,none⟩))
 | .func f=> .fn f []
noncomputable def presS (Γ:Tr SV):Operand->Bool
 | .tmp t=>(Γ.get t).isSome
 | _=>true
def EnvR (ν:Nu) (Γ:Tr SV) (Γr:Env):Prop:= ∀ t s,Γ.get t=some s-> ∃ v,Env.find Γr t=some v/\VR ν s v
theorem iO {Γ:Tr SV} {Γr:Env} (hE:EnvR ν Γ Γr) {x:Operand} (hp:presS Γ x=true):VR ν (evS Γ x) (ev Γr x):=by
 cases x with
 | tmp t=>
  simp only [presS] at hp;obtain ⟨s,hs⟩:=Option.isSome_iff_exists.1 hp;obtain ⟨v,h1,h2⟩:=hE t s hs
  simpa only [evS,ev,hs,h1,Option.getD_some] using h2
 | const v=>exact kj ν v
 | global g=>simp only [evS,ev,VR]
 | func f=>simp only [evS,ev,VR]; exact ⟨[],rfl,rfl⟩
theorem jl {Γ:Tr SV} {Γr:Env} (hE:EnvR ν Γ Γr) {x:Operand} (hp:presS Γ x=true):present Γr x=true:=by
 cases x with
 | tmp t=>
  simp only [presS] at hp;obtain ⟨s,hs⟩:=Option.isSome_iff_exists.1 hp;obtain ⟨v,h1,h2⟩:=hE t s hs
  simp only [present,h1,Option.isSome_some]
 | _=>rfl
def landF (k:IntKind) (op:BinOp) (f:Nat->Nat->Nat) (a b:Int) (K:SV->Prop):Prop:=
 match a,b with
 | .ofNat m, .ofNat n=>bif Nat.blt m (limU k) && Nat.blt n (limU k) then K (.int k (.ofNat (f m n))) else binW [] op 0 (.int k a) (.int k b) fun v=>K (ofV v)
 | a,b=>binW [] op 0 (.int k a) (.int k b) fun v=>K (ofV v)
def intS (op:BinOp) (k:IntKind) (a b:Int) (K:SV->Prop):Prop:=
 match op with
 | .add=>K (.int k (wrapF k (a+b)))
 | .sub=>K (.int k (wrapF k (a - b)))
 | .mul=>K (.int k (wrapF k (a*b)))
 | .quo=>bif eqF b 0 then False else K (.int k (wrapF k (a.tdiv b)))
 | .rem=>bif eqF b 0 then False else K (.int k (a.tmod b))
 | .and=>landF k .and Nat.land a b K
 | .or=>landF k .or Nat.lor a b K
 | .xor=>landF k .xor Nat.xor a b K
 | .eql=>K (.bool (eqF a b))
 | .neq=>K (.bool (!eqF a b))
 | .lss=>K (.bool (ltF a b))
 | .leq=>K (.bool (!ltF b a))
 | .gtr=>K (.bool (ltF b a))
 | .geq=>K (.bool (!ltF a b))
 | op=>binW [] op 0 (.int k a) (.int k b) fun v=>K (ofV v)
def minF (s b:Nat):Nat:=bif Nat.ble s b then s else b
def shS (op:BinOp) (k:IntKind) (a b:Int) (K:SV->Prop):Prop:=
 match op,a,b with
 | .shl, .ofNat m, .ofNat s=>K (.int k (wrapF k (.ofNat (Nat.mul m (Nat.pow 2 (minF s k.bits))))))
 | .shr, .ofNat m, .ofNat s=>K (.int k (.ofNat (Nat.div m (Nat.pow 2 (minF s k.bits)))))
 | op,a,b=>shW op k a b fun v=>K (ofV v)
def strS (op:BinOp) (a b:ByteArray) (K:SV->Prop):Prop:=
 match op with
 | .add=>bif Nat.ble (a.size+b.size) 9223372036854775807 then K (.str (a++b)) else False
 | .eql=>K (.bool (a.toList==b.toList))
 | .neq=>K (.bool (!(a.toList==b.toList)))
 | .lss=>K (.bool (Op.bytesLess a.toList b.toList))
 | .leq=>K (.bool (Op.bytesLess a.toList b.toList || a.toList==b.toList))
 | .gtr=>K (.bool (!(Op.bytesLess a.toList b.toList || a.toList==b.toList)))
 | .geq=>K (.bool (!(Op.bytesLess a.toList b.toList)))
 | _=>False
def nilEq:Kd->SV->SV->Option Bool
 | .ptr _, .ad .., .nilP=>some false
 | .ptr _, .nilP, .ad .. =>some false
 | .ptr _, .nilP, .nilP=>some true
 | .slice _, .sv .., .nilS=>some false
 | .slice _, .so .., .nilS=>some false
 | .slice _, .nilS, .nilS=>some true
 | .map .., .map _, .nilM=>some false
 | .map .., .nilM, .nilM=>some true
 | .func, .nilF, .nilF=>some true
 | .func, .fn .., .nilF=>some false
 | _,_,_=>none
def othS (τ:Tys) (op:BinOp) (t:Nat) (x y:SV) (K:SV->Prop):Prop:=
 match plainS x,plainS y with
 | some u,some v=>binW τ op t u v fun w=>K (ofV w)
 | _,_=>match τ.get t with
  | none=>False
  | some ti=>match nilEq ti.kd x y with
   | none=>False
   | some b=>match op with
    | .eql=>K (.bool b)
    | .neq=>K (.bool !b)
    | _=>False
def unkS (op:BinOp) (lo hi b:Int) (K:SV->Prop):Prop:=False
def binS (τ:Tys) (op:BinOp) (t:Nat) (x y:SV) (K:SV->Prop):Prop:=
 match x,y with
 | .int k a, .int k' b=>match op with
  | .shl | .shr=>shS op k a b K
  | op=>bif sameKind k k' then intS op k a b K else False
 | .str a, .str b=>strS op a b K
 | .unk k lo hi _, .int k' b=>bif sameKind k k' then unkS op lo hi b K else False
 | x,y=>othS τ op t x y K
end Go.Ey
namespace Go.Ey
open Go Go.Wc
variable {K:KS} {ν:Nu} {S:SH} {F:Fr} {h:Hp} {τ:Tys}
theorem hU {ti:TI} {cs:List Value} {off:Nat} {K K':Value->Prop} (hk: ∀ u,K u->K' u) (H:partW ti cs off K):partW ti cs off K':=by
 unfold partW at H |-
 cases hq:Wc.isAgg ti.kd with
 | true=>rw [hq] at H; exact hk _ H
 | false=>
  rw [hq] at H;simp only [cnd] at H |-
  cases hl:List.drop off cs with
  | cons v l=>rw [hl] at H; exact hk _ H
  | nil=>rw [hl] at H; exact H.elim
theorem jO {eq:Nat->Value->Value->(Bool->Prop)->Prop} (he: ∀ t x y (K K':Bool->Prop),(∀ b,K b->K' b)->eq t x y K->eq t x y K') {xs ys:List Value}:
  ∀ {fs:List (Nat × Nat)} {K K':Bool->Prop},(∀ b,K b->K' b)->eqFs τ eq xs ys fs K->eqFs τ eq xs ys fs K'
 | [],K,K',hk,H=>hk _ H
 | (ft,off)::fs,K,K',hk,H=>by
  simp only [eqFs] at H |-
  split at H
  ·exact H.elim
  ·rename_i tf e
   try rw [e]
   exact hU (fun u H=>hU (fun v H=>he _ _ _ _ _ (fun b H=>jO he (fun c H=>hk _ H) H) H) H) H
theorem jh: ∀ (d t:Nat) (x y:Value) (K K':Bool->Prop),(∀ b,K b->K' b)->eqW τ d t x y K->eqW τ d t x y K'
 | 0,_,_,_,_,_,_,H=>H
 | d+1,t,x,y,K,K',hk,H=>by
  simp only [eqW] at H |-
  cases ht:τ.get t with
  | none=>rw [ht] at H; exact H
  | some ti=>
   rw [ht] at H;simp only at H |-
   split at H
   ·exact hk _ H
   ·rename_i k a k' b e
    cases hd:decide (k=k') with
    | true=>rw [hd] at H; exact hk _ H
    | false=>rw [hd] at H; exact H.elim
   ·exact hk _ H
   ·rename_i fs xs ys e
    cases hq:ti.eq with
    | true=>rw [hq] at H; exact jO (jh d) hk H
    | false=>rw [hq] at H; exact H.elim
   ·rename_i n e xs ys ek
    split at H
    ·rename_i te hte
     split at H
     ·rename_i k hk'
      cases hq:(Nat.beq te.size 1 && intsOk k n xs.toList && intsOk k n ys.toList) with
      | true=>rw [hq] at H; exact hk _ H
      | false=>rw [hq] at H; exact H.elim
     ·exact H
    ·exact H
   ·exact H
theorem zc {t:Nat} {ti:TI} {x y:Value} {K K':Bool->Prop} (hk: ∀ u,K u->K' u) (H:eqB τ t ti x y K):eqB τ t ti x y K':=by
 unfold eqB at H |-
 split at H
 ·cases hq:ti.eq with
  | true=>rw [hq] at H; exact jh _ _ _ _ _ _ hk H
  | false=>rw [hq] at H; exact H.elim
 ·cases hq:ti.eq with
  | true=>rw [hq] at H; exact jh _ _ _ _ _ _ hk H
  | false=>rw [hq] at H; exact H.elim
 all_goals first | exact hk _ H | exact H.elim
theorem jM {op:BinOp} {k:IntKind} {a b:Int} {K K':Value->Prop} (hk: ∀ u,K u->K' u) (H:intB op k a b K):intB op k a b K':=by cases op <;> simp only [intB] at H |- <;> first | exact hk _ H | exact ⟨H.1,hk _ H.2⟩ | exact H
theorem sN {op:BinOp} {k:IntKind} {a b:Int} {K K':Value->Prop} (hk: ∀ u,K u->K' u) (H:shW op k a b K):shW op k a b K':=by cases op <;> simp only [shW] at H |- <;> first | exact ⟨H.1,hk _ H.2⟩ | exact H
theorem lX {op:BinOp} {a b:ByteArray} {K K':Value->Prop} (hk: ∀ u,K u->K' u) (H:strB op a b K):strB op a b K':=by cases op <;> simp only [strB] at H |- <;> first | exact hk _ H | exact ⟨H.1,hk _ H.2⟩ | exact H
theorem uW {op:BinOp} {t:Nat} {x y:Value} {K K':Value->Prop} (hk: ∀ u,K u->K' u) (H:binW τ op t x y K):binW τ op t x y K':=by
 unfold binW at H |-
 split at H
 ·rename_i k a k' b
  split at H
  ·exact sN hk H
  ·exact sN hk H
  ·rename_i h1 h2
   cases hd:decide (k=k') with
   | true=>rw [hd] at H; exact jM hk H
   | false=>rw [hd] at H; exact H.elim
 ·exact lX hk H
 ·cases ht:τ.get t with
  | none=>rw [ht] at H; exact H.elim
  | some ti=>
   rw [ht] at H;simp only at H |-
   split at H
   ·exact zc (fun b hb=>hk _ hb) H
   ·exact zc (fun b hb=>hk _ hb) H
   ·exact H.elim
theorem ze {kd:Kd} {x y:SV} {b:Bool} (H:nilEq kd x y=some b) {v w:Value} (hv:VR ν x v) (hw:VR ν y w) {t:Nat} {ti:TI} (hkd:ti.kd=kd) {K:Bool->Prop} (hK:K b):eqB τ t ti v w K:=by
  subst hkd;unfold nilEq at H
  split at H <;> first
    | (simp only [Option.some.injEq] at H; subst H
       rename_i hk;simp only [VR] at hv hw;unfold eqB
       first
         | (obtain ⟨x,_,rfl⟩:=hv; subst hw; rw [hk]; exact hK)
         | (obtain ⟨x,_,rfl⟩:=hw; subst hv; rw [hk]; exact hK)
         | (subst hv hw; rw [hk]; exact hK))
    | cases H
theorem uX {w m:Nat} (h:m<2 ^ w):(BitVec.ofInt w (m:Int)).toNat=m:=by rw [BitVec.ofInt_natCast,BitVec.toNat_ofNat,Nat.mod_eq_of_lt h]
theorem Cp (k:IntKind):limU k<=2 ^ k.bits:=by cases k <;> decide
theorem Hl {k:IntKind} {m:Nat} (h:m<limU k):k.wrap (m:Int)=(m:Int):=by
 rw [<- jS];have:Nat.blt m (limU k)=true:=by simpa using h
 show (bif Nat.blt m (limU k) then (Int.ofNat m) else k.wrap (.ofNat m))=_;rw [this]; rfl
theorem Km (k:IntKind): ∃ p,limU k=2 ^ p:=by
 cases k
 ·exact ⟨7,by decide⟩
 ·exact ⟨15,by decide⟩
 ·exact ⟨31,by decide⟩
 ·exact ⟨63,by decide⟩
 ·exact ⟨8,by decide⟩
 ·exact ⟨16,by decide⟩
 ·exact ⟨32,by decide⟩
 ·exact ⟨64,by decide⟩
theorem sO {k:IntKind} {op:BinOp} {f:Nat->Nat->Nat} {g:(w:Nat)->BitVec w->BitVec w->BitVec w} {a b:Int} {Kb:SV->Prop} (hop: ∀ K,intB op k a b K=K (.int k (k.wrap (g k.bits (BitVec.ofInt k.bits a) (BitVec.ofInt k.bits b)).toNat)))
  (hb: ∀ K,binW [] op 0 (.int k a) (.int k b) K=intB op k a b K) (hf: ∀ w (x y:BitVec w),(g w x y).toNat=f x.toNat y.toNat) (hl: ∀ p m n,m<2 ^ p->n<2 ^ p->f m n<2 ^ p) (H:landF k op f a b Kb):
  intB op k a b fun u=> ∃ s,Kb s/\VR ν s u:=by
 have gen:(binW [] op 0 (.int k a) (.int k b) fun v=>Kb (ofV v))->intB op k a b fun u=> ∃ s,Kb s/\VR ν s u:=fun h=>by rw [hb] at h;exact jM (fun u hu=>⟨_,hu,kj _ _⟩) h
 unfold landF at H;split at H
 ·rename_i m n
  cases hq:(Nat.blt m (limU k) && Nat.blt n (limU k)) with
  | false=>rw [hq] at H; exact gen H
  | true=> rw [hq] at H;simp only [Bool.and_eq_true,Nat.blt_eq] at hq;rw [hop];refine ⟨_,H, ?_⟩;have h1:=Nat.lt_of_lt_of_le hq.1 (Cp k);have h2:=Nat.lt_of_lt_of_le hq.2 (Cp k);simp only [VR];rw [hf,show Int.ofNat m=(m:Int) from rfl,show Int.ofNat n=(n:Int) from rfl,uX h1,uX h2];obtain ⟨p,hp⟩:=Km k;rw [Hl (by rw [hp]; exact hl p m n (hp ▸ hq.1) (hp ▸ hq.2))];rfl
 ·exact gen H
theorem vN {op:BinOp} {k:IntKind} {a b:Int} {Kb:SV->Prop} (H:intS op k a b Kb) (hs:op ≠ .shl) (hr:op ≠ .shr):intB op k a b fun u=> ∃ s,Kb s/\VR ν s u:=by
  have nz: ∀ {X:Prop},(bif eqF b 0 then False else X)->b ≠ 0/\X:=fun {X} h=>by
    cases hz:eqF b 0 with
    | true=>rw [hz] at h; exact h.elim
    | false=> rw [hz] at h;refine ⟨?_,h⟩;rw [AZ] at hz;simpa using hz
  have bin: ∀ (op':BinOp),op' ≠ .shl->op' ≠ .shr-> ∀ K,binW [] op' 0 (.int k a) (.int k b) K=intB op' k a b K:=fun op' h1 h2 K=>by cases op' <;> first | exact absurd rfl h1 | exact absurd rfl h2 | (simp only [binW,decide_true,cnd]; done) | simp [binW]
  cases op with
  | shl=>exact absurd rfl hs
  | shr=>exact absurd rfl hr
  | quo=>obtain ⟨h1,h2⟩:=nz H; exact ⟨h1,_,h2,by simp only [VR,jS]⟩
  | rem=>obtain ⟨h1,h2⟩:=nz H; exact ⟨h1,_,h2,by simp only [VR]⟩
  | and=>exact sO (g:=fun _ x y=>x &&& y) (fun K=>rfl) (bin _ hs hr) (fun w x y=>BitVec.toNat_and x y) (fun p m n h1 _=>Nat.lt_of_le_of_lt Nat.and_le_left h1) H
  | or=>exact sO (g:=fun _ x y=>x ||| y) (fun K=>rfl) (bin _ hs hr) (fun w x y=>BitVec.toNat_or x y) (fun p m n h1 h2=>Nat.or_lt_two_pow h1 h2) H
  | xor=>exact sO (g:=fun _ x y=>x ^^^ y) (fun K=>rfl) (bin _ hs hr) (fun w x y=>BitVec.toNat_xor x y) (fun p m n h1 h2=>Nat.xor_lt_two_pow h1 h2) H
  | _=>
    simp only [intS,intB] at H |-
    first
      | (refine ⟨_,H, ?_⟩; simp only [VR,jS]; done)
      | (refine ⟨_,H, ?_⟩; simp only [VR]; rw [AZ]; done)
      | (refine ⟨_,H, ?_⟩; simp only [VR]; rw [AZ]; rfl)
      | (refine ⟨_,H, ?_⟩; simp only [VR]; rw [sM]; done)
      | (refine ⟨_,H, ?_⟩; simp only [VR]; rw [sM]; congr 1; apply Bool.eq_iff_iff.2; simp only [Bool.not_eq_true',decide_eq_false_iff_not,decide_eq_true_eq]; omega)
      | (simp only [binW,decide_true,cnd,intB] at H
         first | exact ⟨_,H,kj _ _⟩ | exact ⟨H.1,_,H.2,kj _ _⟩ | exact H)
theorem Cq (s b:Nat):minF s b=min s b:=by
  unfold minF
  cases h:Nat.ble s b with
  | true=>simp only [Nat.ble_eq] at h; simp [Nat.min_eq_left h]
  | false => have : ¬ s <= b := by rw [<- Nat.ble_eq, h]; simp
             simp; omega
theorem Ho {op:BinOp} {k:IntKind} {a b:Int} {Kb:SV->Prop} (H:shS op k a b Kb):shW op k a b fun u=> ∃ s,Kb s/\VR ν s u:=by
 unfold shS at H;split at H
 ·rename_i m s
  refine ⟨Int.natCast_nonneg s,_,H, ?_⟩;simp only [VR,jS,Cq];congr 2
 ·rename_i m s
  refine ⟨Int.natCast_nonneg s,_,H, ?_⟩;simp only [VR,Cq]
  have e: ∀ e:Nat,(Int.ofNat m).fdiv ((2:Int) ^ e)=Int.ofNat (m.div (Nat.pow 2 e)):=fun e=>by
   have h:(2:Int) ^ e=((2 ^ e:Nat):Int):=by simp
   rw [h,Int.fdiv_eq_ediv_of_nonneg _ (Int.natCast_nonneg _)];rfl
  congr 1;exact e _
 ·exact sN (fun u hu=>⟨_,hu,kj _ _⟩) H
theorem Ko {op:BinOp} {a b:ByteArray} {Kb:SV->Prop} (H:strS op a b Kb):strB op a b fun u=> ∃ s,Kb s/\VR ν s u:=by
  have e2:IntKind.i64.max=9223372036854775807:=by decide
  cases op <;> simp only [strS,strB] at H |- <;> first
    | exact ⟨_,H,by simp only [VR]⟩
    | exact H
    | (cases hq:Nat.ble (a.size+b.size) 9223372036854775807 with
       | false=>rw [hq] at H; exact H.elim
       | true=>
         rw [hq] at H;simp only [Nat.ble_eq] at hq
         exact ⟨by rw [e2]; omega,_,H,by simp only [VR]⟩)
theorem Dy {kd:Kd} {x y:SV} {b:Bool} (H:nilEq kd x y=some b) {v w:Value} (hv:VR ν x v) (hw:VR ν y w) (op:BinOp) (t:Nat) (K:Value->Prop):
    binW τ op t v w K=(match τ.get t with
      | none=>False
      | some ti=>match op with
        | .eql=>eqB τ t ti v w fun b=>K (.bool b)
        | .neq=>eqB τ t ti v w fun b=>K (.bool !b)
        | _=>False):=by
  unfold nilEq at H
  split at H <;> first
    | (simp only [VR] at hv hw
       first
         | (obtain ⟨x,_,rfl⟩:=hv; subst hw; rfl)
         | (obtain ⟨x,_,rfl⟩:=hw; subst hv; rfl)
         | (subst hv hw; rfl))
    | cases H
theorem Kq {op:BinOp} {t:Nat} {x y:SV} {Kb:SV->Prop} (H:othS τ op t x y Kb) {v w:Value} (hv:VR ν x v) (hw:VR ν y w):
  binW τ op t v w fun u=> ∃ s,Kb s/\VR ν s u:=by
 unfold othS at H;split at H
 ·rename_i u1 u2 h1 h2
  rw [uV h1 hv,uV h2 hw];exact uW (fun u hu=>⟨_,hu,kj _ _⟩) H
 ·cases ht:τ.get t with
  | none=>rw [ht] at H; exact H.elim
  | some ti=>
   rw [ht] at H;simp only at H;split at H
   ·exact H.elim
   ·rename_i b hb
    rw [Dy hb hv hw,ht];simp only;split at H
    ·exact ze hb hv hw rfl ⟨_,H,by simp only [VR]⟩
    ·exact ze hb hv hw rfl ⟨_,H,by simp only [VR]⟩
    ·exact H.elim
theorem vO {op:BinOp} {t:Nat} {x y:SV} {Kb:SV->Prop} (H:binS τ op t x y Kb) {v w:Value} (hv:VR ν x v) (hw:VR ν y w):
  binW τ op t v w fun u=> ∃ s,Kb s/\VR ν s u:=by
 unfold binS at H;split at H
 ·rename_i k a k' b
  simp only [VR] at hv hw;subst hv hw;unfold binW;simp only;split at H
  ·exact Ho H
  ·exact Ho H
  ·rename_i h1 h2
   cases hk:sameKind k k' with
   | false=>rw [hk] at H; exact H.elim
   | true=>
    rw [hk] at H;have:=bH hk;subst this;have:=vN (ν:=ν) H h1 h2;split
    ·exact absurd rfl h1
    ·exact absurd rfl h2
    ·simpa using this
 ·simp only [VR] at hv hw
  subst hv hw;exact Ko H
 ·rename_i k lo hi a k' b
  simp only [VR] at hv hw;obtain ⟨rfl,h1,h2⟩:=hv;subst hw
  cases hk:sameKind k k' with
  | false=>rw [hk] at H; exact H.elim
  | true=> rw [hk] at H;exact False.elim H
 ·exact Kq H hv hw
def ckOk:CK->SV->Bool
 | .int k, .int k' _=>sameKind k k'
 | .int k, .unk k' _ _ _=>sameKind k k'
 | .bool, .bool _=>true
 | .str, .str _=>true
 | .ptr, .ad .. =>true
 | .ptr, .nilP=>true
 | .sl, .sv .. =>true
 | .sl, .so .. =>true
 | .sl, .nilS=>true
 | .map, .map _=>true
 | .map, .nilM=>true
 | .any,_=>true
 | _,_=>false
def intsN (k:IntKind):Nat->List SV->Bool
 | 0,_=>true
 | n+1, .int k' _::l=>sameKind k k' && intsN k n l
 | n+1, .unk k' _ _ _::l=>sameKind k k' && intsN k n l
 | _,_=>false
def okCks:List CK->List SV->Bool
 | [],[]=>true
 | c::cs,l=>match c with
  | .lump k n=>intsN k n l && okCks cs (l.drop n)
  | c=>match l with
   | s::l=>ckOk c s && okCks cs l
   | []=>false
 | _,_=>false
theorem rW {c:CK} {s:SV} {v:Value} {a:Addr} {K:(Hp->Prop)->Value->Prop} (hc:ckOk c s=true) (hv:VR ν s v) (ha:hcell h a=some v) (hK:K (fun h'=>hcell h' a=some v) v):ldC c h a K:=by
 cases c <;> cases s <;> simp only [ckOk,Bool.false_eq_true] at hc <;> first
  | (simp only [VR] at hv; obtain ⟨rfl,_,_⟩:=hv; have:=bH hc; subst this; exact ⟨_,ha,hK⟩)
  | (simp only [VR] at hv; subst hv; have:=bH hc; subst this; exact ⟨_,ha,hK⟩)
  | (simp only [VR] at hv; obtain ⟨x,_,rfl⟩:=hv; exact ⟨⟨_,_,_⟩,ha,hK⟩)
  | (simp only [VR] at hv; obtain ⟨x,_,rfl⟩:=hv; exact ⟨_,ha,hK⟩)
  | (simp only [VR] at hv; subst hv; exact ⟨⟨_,_,_⟩,ha,hK⟩)
  | (simp only [VR] at hv; subst hv; exact ⟨_,ha,hK⟩)
  | exact ⟨_,ha,hK⟩
theorem lD {k:IntKind}: ∀ {n:Nat} {l:List SV} {vs:List Value},intsN k n l=true->VRL ν l vs-> ∃ m:List Int,m.length=n/\vs.take n=m.map (Value.int k)/\n<=vs.length
  | 0,l,vs,_,_=>⟨[],rfl,rfl,Nat.zero_le _⟩
  | n+1, .int k' x::l,vs,h,hv=>by
    simp only [intsN,Bool.and_eq_true] at h;simp only [VRL,VR] at hv;obtain ⟨v,w,rfl,h2,rfl⟩:=hv;obtain ⟨m,g1,g2,g3⟩:=lD h.2 h2;have:=bH h.1;subst this
    exact ⟨x::m,by simp [g1],by simp [g2],by simp; omega⟩
  | n+1, .unk k' _ _ x::l,vs,h,hv=>by
    simp only [intsN,Bool.and_eq_true] at h;simp only [VRL,VR] at hv;obtain ⟨v,w,⟨rfl,_⟩,h2,rfl⟩:=hv;obtain ⟨m,g1,g2,g3⟩:=lD h.2 h2;have:=bH h.1;subst this
    exact ⟨x::m,by simp [g1],by simp [g2],by simp; omega⟩
  | n+1,[],vs,h,hv=>by simp [intsN] at h
  | n+1,s::l,vs,h,hv=>by
    cases s <;> first
      | (simp [intsN] at h; done)
      | (rename_i k' x
         simp only [intsN,Bool.and_eq_true] at h;simp only [VRL,VR] at hv;obtain ⟨v,w,rfl,h2,rfl⟩:=hv;obtain ⟨m,g1,g2,g3⟩:=lD h.2 h2;have:=bH h.1;subst this
         exact ⟨x::m,by simp [g1],by simp [g2],by simp; omega⟩)
      | (rename_i k' lo hi x
         simp only [intsN,Bool.and_eq_true] at h;simp only [VRL,VR] at hv;obtain ⟨v,w,⟨rfl,_⟩,h2,rfl⟩:=hv;obtain ⟨m,g1,g2,g3⟩:=lD h.2 h2;have:=bH h.1;subst this
         exact ⟨x::m,by simp [g1],by simp [g2],by simp; omega⟩)
theorem kg {a:Addr}: ∀ {gC:List CK} {l:List SV} {vs:List Value} {i:Nat} {K:(Hp->Prop)->List Value->Prop},okCks gC l=true->VRL ν l vs->(∀ j,j<vs.length->hcell h (a.add (i+j))=vs[j]?)->
  (∀ f:Hp->Prop,(∀ h',(∀ j,j<vs.length->hcell h' (a.add (i+j))=vs[j]?)->f h')->K f vs)->ldCs gC h a i K
 | [],[],vs,i,K,_,hv,ha,hK=>by
  simp only [VRL] at hv; subst hv
  exact hK _ fun _ _=>trivial
 | [],_::_,vs,i,K,h,_,_,_=>by simp [okCks] at h
 | c::cs,l,vs,i,K,h,hv,ha,hK=>by
  cases c with
  | lump k n=>
   simp only [okCks,Bool.and_eq_true] at h;obtain ⟨m,g1,g2,g3⟩:=lD h.1 hv;have hlump:lumpV k n m=vs.take n:=by rw [g2]; unfold lumpV; rw [kH g1]
   show ldL k n _ _ _
   have hget: ∀ j,j<n->vs[j]? =some (.int k (m.getD j 0)):=fun j hj=>by rw [show vs[j]? =(vs.take n)[j]? from by rw [List.getElem?_take]; simp [hj],<- hlump,m6 k n m j hj]
   refine ⟨m,g1,fun j hj=> ?_, ?_⟩
   ·rw [add_add,ha j (by omega),hget j hj]
   ·refine kg (vs:=vs.drop n) h.2 (hv.drop n) (fun j hj=> ?_) fun f hf=> ?_
    ·rw [List.length_drop] at hj
     rw [show i+n+j=i+(n+j) from by omega,ha (n+j) (by omega),List.getElem?_drop]
    ·rw [show lumpV k n m++vs.drop n=vs from by rw [hlump,List.take_append_drop]]
     refine hK _ fun h' hh=>⟨fun j hj=>by rw [add_add,hh j (by omega),hget j hj],hf h' fun j hj=> ?_⟩
     rw [List.length_drop] at hj
     rw [show i+n+j=i+(n+j) from by omega,hh (n+j) (by omega),List.getElem?_drop]
  | _=>
   cases l with
   | nil=>simp [okCks] at h
   | cons s l=>
    simp only [okCks,Bool.and_eq_true] at h;simp only [VRL] at hv;obtain ⟨v,w,h1,h2,rfl⟩:=hv;simp only [ldCs];refine rW h.1 h1 (by simpa using ha 0 (by simp)) ?_;refine kg h.2 h2 (fun j hj=> ?_) fun f hf=> ?_
    ·rw [show i+1+j=i+(j+1) from by omega,ha (j+1) (by simpa using hj)]; simp
    ·refine hK _ fun h' hh=>⟨by simpa using hh 0 (by simp),hf h' fun j hj=> ?_⟩
     rw [show i+1+j=i+(j+1) from by omega,hh (j+1) (by simpa using hj)]; simp
noncomputable def sameV (S:SH) (nm:Nat) (S':SH):Bool:=Nat.beq (S'.ver nm) (S.ver nm) && (S'.t.get nm).isSome
noncomputable def loadC (ti:TI) (nm off n:Nat) (d:SV) (c:Tr SV) (S:SH) (K:KS):Prop:=
 bif Wc.isAgg ti.kd then
  bif Nat.beq (ckns ti.gC) ti.size && Nat.ble (off+ti.size) n && okCks ti.gC (rdC d c ti.size off) then K (sameV S nm) (.agg (rdC d c ti.size off)) S else False
 else match ti.gC with
  | [k]=>bif Nat.blt off n && ckOk k (cell d c off) then K (sameV S nm) (cell d c off) S else False
  | _=>False
noncomputable def loadS (τ:Tys) (t:Nat) (a:SV) (S:SH) (K:KS):Prop:=
 match τ.get t with
 | none=>False
 | some ti=>match a with
  | .ad nm off=>match S.get nm with
   | some (.blk _ n _ d c)=>loadC ti nm off n d c S K
   | _=>False
  | _=>False
theorem uY {nm T n:Nat} {op:Bool} {d:SV} {c:Tr SV} (hg:S.get nm=some (.blk T n op d c)) {S':SH} (hL:SLe S S') (hs:sameV S nm S'=true):S'.get nm=some (.blk T n op d c):=by
 obtain ⟨v,h1,h2⟩:=oW hg;obtain ⟨o',v',g1,g2,g3⟩:=hL _ _ _ h1;simp only [sameV,Bool.and_eq_true,Nat.beq_eq] at hs
 have e:v'=v:=by have:=hs.1;unfold SH.ver at this;rw [g1,h1] at this;exact this
 rw [g3 e] at g1;unfold SH.get; rw [g1]
theorem ld {t:Nat} {a:SV} (H:loadS τ t a S K) {v:Value} (hv:VR ν a v) (R:Rel ν S F h): ∃ p ti,v= .pointer (some p)/\τ.get t=some ti/\
  cnd (Wc.isAgg ti.kd) ((cnd (Nat.beq (ckns ti.gC) ti.size) (ldCs ti.gC h p 0 fun f vs=>PR K ν S f (.agg vs.toArray)) (False))) (match ti.gC with
     | [c]=>ldC c h p (PR K ν S)
     | _=>False):=by
 unfold loadS at H
 cases ht:τ.get t with
 | none=>rw [ht] at H; exact H.elim
 | some ti=>
  rw [ht] at H;simp only at H
  cases a with
  | ad nm off=>
   simp only at H;simp only [VR] at hv;obtain ⟨x,hx,rfl⟩:=hv;split at H
   ·rename_i T n op d c hg
    obtain ⟨y,cs,z,hy,hb,g1,g2,g3,g4,g5⟩:=R.blk hg;rw [hx] at hy; cases hy;refine ⟨_,ti,rfl,rfl, ?_⟩;unfold loadC at H
    cases hq:Wc.isAgg ti.kd with
    | true=>
     rw [hq] at H;simp only [cond_true] at H
     cases hc:(Nat.beq (ckns ti.gC) ti.size && Nat.ble (off+ti.size) n && okCks ti.gC (rdC d c ti.size off)) with
     | false=>rw [hc] at H; exact H.elim
     | true=>
      rw [hc] at H;simp only [Bool.and_eq_true] at hc;simp only [cond_true] at H;rw [hc.1.1];have hle:off+ti.size<=n:=Nat.le_of_ble_eq_true hc.1.2;obtain ⟨vs,k1,k2,k3⟩:=sL g5 hle
      refine kg hc.2 k1 (fun j hj=> ?_) fun f hf=>⟨_,_,H,by simp only [VR]; exact ⟨vs,k1,rfl⟩,fun F' ν' S' h' hN hL hR hs=>hf h' fun j hj=> ?_⟩
      ·rw [Nat.zero_add,dW,dQ hb,k3 j (by omega)]
      ·obtain ⟨y,cs',z',hy',hb',Pv,VJ,VK,g4',V3⟩:=hR.blk (uY hg hL hs)
       rw [hN _ _ hx] at hy'; cases hy';rw [Nat.zero_add,dW,dQ hb'];obtain ⟨vs',k1',k2',k3'⟩:=sL V3 hle
       rw [k3' j (by omega),VRL.uni _ k1' (VRL.mono hN _ k1)]
    | false=>
     rw [hq] at H;simp only [cond_false] at H;split at H
     ·rename_i k hk
      rw [hk]
      cases hc:(Nat.blt off n && ckOk k (cell d c off)) with
      | false=>rw [hc] at H; exact H.elim
      | true=> rw [hc] at H;simp only [cond_true] at H;simp only [Bool.and_eq_true,Nat.blt_eq] at hc;obtain ⟨u,k1,k2⟩:=g5 off hc.1;refine rW hc.2 k2 (by rw [dQ hb]; exact k1) ⟨_,_,H,k2,fun F' ν' S' h' hN hL hR hs=> ?_⟩;obtain ⟨y,cs',z',hy',hb',Pv,VJ,VK,g4',V3⟩:=hR.blk (uY hg hL hs);rw [hN _ _ hx] at hy'; cases hy';obtain ⟨u',k1',k2'⟩:=V3 off hc.1;rw [dQ hb',k1',VR.uni _ k2' (VR.mono hN _ k2)]
     ·exact H.elim
   ·exact H.elim
  | _=>exact H.elim
end Go.Ey
namespace Go.Ey
open Go Go.Wc
variable {K:KS} {ν:Nu} {S:SH} {F:Fr} {h:Hp} {τ:Tys} {Γ:Tr SV} {Γr:Env}
theorem Rel.mapOf (R:Rel ν S F h) {nm:Nat} {es:List (SV × SV)} (hg:S.get nm=some (.map es)): ∃ x v a clock,ν nm=some x/\h[x.1]? =some (.map a clock)/\S.t.get nm=some (.map es,v)/\VRL ν (es.map (·.1)) (a.toList.map (·.key))/\VRL ν (es.map (·.2)) (a.toList.map (·.val)):=by obtain ⟨v,hg,_⟩:=oW hg;obtain ⟨x,ob,g1,g2,a,clock,rfl,g3,g4⟩:=R.obj _ _ _ hg rfl;exact ⟨x,v,a,clock,g1,g2,hg,g3,g4⟩
theorem Dz {nm:Nat} {es:List (SV × SV)} (hg:S.get nm=some (.map es)) {S':SH} (hL:SLe S S') (hs:sameV S nm S'=true):S'.get nm=some (.map es):=by
 obtain ⟨v,h1,h2⟩:=oW hg;obtain ⟨o',v',g1,g2,g3⟩:=hL _ _ _ h1;simp only [sameV,Bool.and_eq_true,Nat.beq_eq] at hs
 have e:v'=v:=by have:=hs.1;unfold SH.ver at this;rw [g1,h1] at this;exact this
 rw [g3 e] at g1;unfold SH.get; rw [g1]
def lookupS (τ:Tys) (t:Nat) (x i:SV) (ok:Bool) (S:SH) (K:KS):Prop:=False
theorem A0 {t:Nat} {x i:Operand} {ok:Bool} (R:Rel ν S F h) (hx:VR ν (evS Γ x) (ev Γr x)) (hi:VR ν (evS Γ i) (ev Γr i)) (H:lookupS τ t (evS Γ x) (evS Γ i) ok S K):opR τ (.lookup t x i ok) Γr h (PR K ν S):=False.elim H
end Go.Ey
namespace Go.Ey
open Go Go.Wc
variable {K:KS} {ν:Nu} {S:SH} {F:Fr} {h:Hp} {τ:Tys}
def pickS (c a b:SV) (S:SH) (K:KS):Prop:=match c with
 | .bool t=>brA t (K tt a S) (K tt b S)
 | _=>False
noncomputable def setLS:List SV->Nat->List SV->List SV
 | cs,_,[]=>cs
 | cs,i,v::vs=>setLS (cs.set i v) (i+1) vs
noncomputable def fillLS (place:Nat->Option (Nat × Nat)):List (Nat × SV)->List SV->(List SV->Prop)->Prop
 | [],cs,K=>K cs
 | (i,v)::r,cs,K=>match place i with
  | none=>False
  | some (off,size)=>bif Nat.beq v.flat.length size && Nat.ble (off+size) cs.length then fillLS place r (setLS cs off v.flat) K else False
noncomputable def buildS (τ:Tys) (t:Nat) (ps:List (Nat × SV)) (S:SH) (K:KS):Prop:=
 match τ.get t with
 | none=>False
 | some ti=>match ti.kd with
  | .struct fs=>bif fs.all (fun f=>(τ.get f.1).isSome) then fillLS (Wc.fieldPlace τ fs) ps (ti.zero.cells.toList.map zb) fun cs=>K tt (.agg cs) S else False
  | .arr _ e=>match τ.get e with
   | some te=>fillLS (fun i=>some (i*te.size,te.size)) ps (ti.zero.cells.toList.map zb) fun cs=>K tt (.agg cs) S
   | none=>False
  | _=>False
def nilCheckS (x:SV) (S:SH) (K:KS):Prop:=match x with
 | .ad nm off=>K tt (.ad nm off) S
 | .fn f cs=>K tt (.fn f cs) S
 | _=>False
def unS (op:UnOp) (x:SV) (S:SH) (K:KS):Prop:=match op,x with
 | .not, .bool b=>K tt (.bool !b) S
 | .neg, .int k n=>K tt (.int k (wrapF k (0 - n))) S
 | .xor, .int k n=>unW .xor (.int k n) fun v=>K tt (ofV v) S
 | _,_=>False
def U4 (x:SV) (S:SH) (K:KS):Prop:=False
noncomputable def convS (τ:Tys) (s d:Nat) (x:SV) (S:SH) (K:KS):Prop:=
 match τ.get s,τ.get d with
 | some ts,some td=>match ts.kd,td.kd,x with
  | .int _, .int k, .int _ n=>K tt (.int k (wrapF k n)) S
  | .str, .str, .str b=>K tt (.str b) S
  | .slice e, .str,x=>match τ.get e with
   | some te=>match te.kd with
    | .int .u8=>U4 x S K
    | _=>False
   | none=>False
  | _,_,_=>False
 | _,_=>False
def bndJ (i:Nat) (hi:Option SV) (dflt top:Nat):Option (Nat × Nat):=
 match hi with
 | none=>bif Nat.ble i dflt && Nat.ble dflt top then some (i,dflt) else none
 | some (.int _ (.ofNat j))=>bif Nat.ble i j && Nat.ble j top then some (i,j) else none
 | _=>none
def bnds (lo:SV) (hi:Option SV) (dflt top:Nat):Option (Nat × Nat):=
 match lo with
 | .int _ (.ofNat i)=>bndJ i hi dflt top
 | _=>none
noncomputable def roomFor (S:SH) (nm k:Nat):Bool:=match S.get nm with
 | some (.blk _ n _ _ _)=>Nat.ble k n
 | _=>false
noncomputable def sliceS (τ:Tys) (t:Nat) (x lo:SV) (hi mx:Option SV) (S:SH) (K:KS):Prop:=
 match τ.get t with
 | none=>False
 | some ti=>match ti.kd with
  | .slice e=>match τ.get e with
   | none=>False
   | some te=>match x,mx with
    | .nilS,none=>match bnds lo hi 0 0 with
     | some _=>K tt .nilS S
     | none=>False
    | .sv nm off len cap,none=>match bnds lo hi len cap with
     | some (i,j)=>K tt (.sv nm (bif Nat.beq cap i then off else off+i*te.size) (j - i) (cap - i)) S
     | none=>False
    | .sv nm off len cap,some (.int _ (.ofNat m))=>match bnds lo hi len m with
     | some (i,j)=>bif Nat.ble m cap then K tt (.sv nm (bif Nat.beq m i then off else off+i*te.size) (j - i) (m - i)) S else False
     | none=>False
    | .so nm off len sz bo,none=>match bnds lo hi len len with
     | some (i,j)=>bif Nat.beq sz te.size && Nat.blt 0 sz && roomFor S nm (off+len*sz) && (Nat.beq i 0 || Nat.blt i len || Nat.beq sz 1) then K tt (.so nm (off+i*sz) (j - i) sz (bif Nat.beq i 0 then bo else off)) S else False
     | none=>False
    | .so nm off len sz bo,some (.int _ (.ofNat m))=>match bnds lo hi len m with
     | some (i,j)=>bif Nat.beq sz te.size && Nat.blt 0 sz && roomFor S nm (off+len*sz) && Nat.blt 0 len && Nat.ble m len then K tt (.sv nm (bif Nat.beq m i then off else off+i*sz) (j - i) (m - i)) S else False
     | none=>False
    | _,_=>False
  | .str=>match x,mx with
   | .str s,none=>match bnds lo hi s.size s.size with
    | some (i,j)=>K tt (.str (s.extract i j)) S
    | none=>False
   | _,_=>False
  | .arr n e=>match τ.get e with
   | none=>False
   | some te=>match x,mx with
    | .ad nm off,none=>match bnds lo hi n n with
     | some (i,j)=>K tt (.sv nm (bif Nat.beq n i then off else off+i*te.size) (j - i) (n - i)) S
     | none=>False
    | _,_=>False
  | _=>False
noncomputable def fieldAddrS (τ:Tys) (t:Nat) (x:SV) (i:Nat) (S:SH) (K:KS):Prop:=
 match τ.get t with
 | none=>False
 | some ti=>match ti.kd,x with
  | .struct fs, .ad nm off=>match fs[i]? with
   | some (ft,fo)=>match τ.get ft with
    | some tf=>bif Nat.beq tf.size 0 then False else K tt (.ad nm (off+fo)) S
    | none=>False
   | none=>False
  | _,_=>False
def fieldS (τ:Tys) (t:Nat) (x:SV) (i:Nat) (S:SH) (K:KS):Prop:=False
noncomputable def indexAddrS (τ:Tys) (t:Nat) (x i:SV) (S:SH) (K:KS):Prop:=
 match τ.get t with
 | none=>False
 | some ti=>match i with
  | .int _ (.ofNat j)=>match ti.kd with
   | .slice e=>match τ.get e with
    | none=>False
    | some te=>match x with
     | .sv nm off len _=>bif Nat.blt j len then K tt (.ad nm (off+j*te.size)) S else False
     | .so nm off len sz _=>bif Nat.blt j len && Nat.blt 0 te.size && roomFor S nm (off+len*te.size) then K tt (.ad nm (off+j*te.size)) S else False
     | _=>False
   | .arr n e=>match τ.get e with
    | none=>False
    | some te=>match x with
     | .ad nm off=>bif Nat.blt j n then K tt (.ad nm (off+j*te.size)) S else False
     | _=>False
   | _=>False
  | _=>False
noncomputable def indexS (τ:Tys) (t:Nat) (x i:SV) (S:SH) (K:KS):Prop:=
 match τ.get t with
 | none=>False
 | some ti=>match i with
  | .int _ (.ofNat j)=>match ti.kd,x with
   | .str, .str s=>bif Nat.blt j s.size then K tt (.int .u8 (.ofNat (s.data.toList.getD j 0).toNat)) S else False
   | .arr n e, .agg cs=>match τ.get e with
    | some te=>match te.kd with
     | .int k=>bif Nat.beq te.size 1 && Nat.beq cs.length n && intsN k n cs && Nat.blt j n then K tt (cs.getD j .undef) S else False
     | _=>False
    | none=>False
   | _,_=>False
  | _=>False
noncomputable def extractS (x:SV) (i:Nat) (S:SH) (K:KS):Prop:=
 match x with
 | .tup l=>match l.drop i with
  | v::_=>K tt v S
  | []=>False
 | _=>False
noncomputable def lenS (τ:Tys) (t:Nat) (x:SV) (S:SH) (K:KS):Prop:=
 match τ.get t with
 | none=>False
 | some ti=>match ti.kd with
  | .str=>match x with
   | .str s=>K tt (.int .i64 (.ofNat s.size)) S
   | _=>False
  | .slice _=>match x with
   | .nilS=>K tt (.int .i64 0) S
   | .sv _ _ len _=>K tt (.int .i64 (.ofNat len)) S
   | .so _ _ len _ _=>K tt (.int .i64 (.ofNat len)) S
   | _=>False
  | .arr n _=>K tt (.int .i64 (.ofNat n)) S
  | .map _ _=>match x with
   | .nilM=>K tt (.int .i64 0) S
   | .map nm=>match S.get nm with
    | some (.map es)=>K (sameV S nm) (.int .i64 (.ofNat es.length)) S
    | _=>False
   | _=>False
  | _=>False
noncomputable def capS (τ:Tys) (t:Nat) (x:SV) (S:SH) (K:KS):Prop:=
 match τ.get t with
 | none=>False
 | some ti=>match ti.kd with
  | .slice _=>match x with
   | .nilS=>K tt (.int .i64 0) S
   | .sv _ _ _ cap=>K tt (.int .i64 (.ofNat cap)) S
   | _=>False
  | _=>False
def minS (x y:SV) (S:SH) (K:KS):Prop:=match x,y with
 | .int k a, .int _ b=>K tt (.int k (bif ltF b a then b else a)) S
 | _,_=>False
def maxS (x y:SV) (S:SH) (K:KS):Prop:=match x,y with
 | .int k a, .int _ b=>K tt (.int k (bif ltF a b then b else a)) S
 | _,_=>False
noncomputable def builtinR (τ:Tys) (b:Builtin) (xs:List SV) (ts:List Nat) (S:SH) (K:KS):Prop:=
 match b with
 | .len=>match xs,ts with
  | [x],[t]=>lenS τ t x S K
  | _,_=>False
 | .cap=>match xs,ts with
  | [x],[t]=>capS τ t x S K
  | _,_=>False
 | .min=>match xs with
  | [x,y]=>minS x y S K
  | _=>False
 | .max=>match xs with
  | [x,y]=>maxS x y S K
  | _=>False
 | _=>False
def ifaceS (τ:Tys) (t:Nat) (x:SV) (S:SH) (K:KS):Prop:=False
def funcS (f:Fn) (x:List SV) (y:List SV) (S:SH) (K:KS):Prop:=match f,x with
 | .func f,[]=>K tt (.fn f y) S
 | _,_=>False
noncomputable def loS (Γ:Tr SV):Option Operand->SV
 | some y=>evS Γ y
 | none=> .int .i64 0
def noOpq:List (Nat × SV)->Bool
 | []=>true
 | (_, .opq _)::_=>false
 | _::l=>noOpq l
noncomputable def opRS (τ:Tys) (o:Op) (Γ:Tr SV) (S:SH) (K:KS):Prop:=
 match o with
 | .move x=>K tt (evS Γ x) S
 | .assign x=>K tt (evS Γ x) S
 | .pick c a b=>pickS (evS Γ c) (evS Γ a) (evS Γ b) S K
 | .build t ps=>bif noOpq (ps.toList.map fun p=>(p.1,evS Γ p.2)) then buildS τ t (ps.toList.map fun p=>(p.1,evS Γ p.2)) S K else False
 | .load t a=>loadS τ t (evS Γ a) S K
 | .nilCheck x=>nilCheckS (evS Γ x) S K
 | .binOp op t x y _=>binS τ op t (evS Γ x) (evS Γ y) fun s=>K tt s S
 | .unOp op _ x=>unS op (evS Γ x) S K
 | .convert s d x=>convS τ s d (evS Γ x) S K
 | .makeFunc f x y=>funcS f (x.toList.map (evS Γ)) (y.toList.map (evS Γ)) S K
 | .makeInterface t x=>ifaceS τ t (evS Γ x) S K
 | .slice t x lo hi mx=>match hi,mx with
  | none,some _=>False
  | hi,mx=>sliceS τ t (evS Γ x) (loS Γ lo) (hi.map (evS Γ)) (mx.map (evS Γ)) S K
 | .fieldAddr t x i=>fieldAddrS τ t (evS Γ x) i S K
 | .field t x i=>fieldS τ t (evS Γ x) i S K
 | .indexAddr t x i=>indexAddrS τ t (evS Γ x) (evS Γ i) S K
 | .index t x i=>indexS τ t (evS Γ x) (evS Γ i) S K
 | .extract x i=>extractS (evS Γ x) i S K
 | .lookup t x i ok=>lookupS τ t (evS Γ x) (evS Γ i) ok S K
 | .call {callee:= .builtin b,args,argTypes}=>builtinR τ b (args.toList.map (evS Γ)) argTypes.toList S K
 | _=>False
theorem VRL.set {ν:Nu}: ∀ {l:List SV} {vs:List Value} {s:SV} {v:Value} (i:Nat),VRL ν l vs->VR ν s v->VRL ν (l.set i s) (vs.set i v)
 | [],_,_,_,i,h,_=>by simp only [VRL] at h; subst h; rfl
 | t::l,vs,s,v,0,h,hs=>by
  simp only [VRL] at h;obtain ⟨u,w,h1,h2,rfl⟩:=h
  exact ⟨v,w,hs,h2,rfl⟩
 | t::l,vs,s,v,i+1,h,hs=>by simp only [VRL] at h;obtain ⟨u,w,h1,h2,rfl⟩:=h;exact ⟨u,w.set i v,h1,VRL.set i h2 hs,rfl⟩
theorem zf: ∀ {m:List SV} {ws:List Value} {l:List SV} {vs:List Value} (i:Nat),VRL ν l vs->VRL ν m ws->VRL ν (setLS l i m) (setL vs i ws)
 | [],ws,l,vs,i,h,hm=>by simp only [VRL] at hm; subst hm; simpa only [setLS,setL] using h
 | s::m,ws,l,vs,i,h,hm=>by simp only [VRL] at hm;obtain ⟨u,w,h1,h2,rfl⟩:=hm;simp only [setLS,setL];exact zf (i+1) (h.set i h1) h2
def VRP (ν:Nu):List (Nat × SV)->List (Nat × Value)->Prop
 | [],ws=>ws=[]
 | p::ps,ws=> ∃ v w,VR ν p.2 v/\VRP ν ps w/\ws=(p.1,v)::w
theorem lZ {place:Nat->Option (Nat × Nat)}: ∀ {ps:List (Nat × SV)} {ws:List (Nat × Value)} {cs:List SV} {vs:List Value} {K:List SV->Prop} {K':List Value->Prop},
    fillLS place ps cs K->VRP ν ps ws->noOpq ps=true->VRL ν cs vs->(∀ l us,K l->VRL ν l us->K' us)->fillL place ws vs K'
  | [],ws,cs,vs,K,K',H,hp,_,hc,hk=>by
    simp only [VRP] at hp; subst hp
    exact hk _ _ H hc
  | (i, s) :: ps, ws, cs, vs, K, K', H, hp, hq, hc, hk => by
    simp only [VRP] at hp;obtain ⟨v,w,h1,h2,rfl⟩:=hp
    have ho:(∀ u,s ≠ .opq u)/\noOpq ps=true:=by cases s <;> simp_all [noOpq]
    unfold fillLS at H;unfold fillL;split at H
    . exact H.elim
    . rename_i off size hpl;rw [hpl];simp only;have hf:=h1.flat ho.1;rw [hf.len];have:=hc.len;rw [this]
      cases hb:(Nat.beq s.flat.length size && Nat.ble (off+size) cs.length) with
      | false=>rw [hb] at H; exact H.elim
      | true=> rw [hb] at H;exact lZ H h2 ho.2 (zf off hc hf) hk
theorem natb {i n:Nat} (h:Nat.blt i n=true):(0:Int)<=(i:Int)/\(i:Int)<(n:Int):=by simp only [Nat.blt_eq] at h; omega
theorem Kt {i':Nat} {hi:Option SV} {dflt top i j:Nat} (h:bndJ i' hi dflt top=some (i,j)):
  i=i'/\i<=j/\j<=top/\(hi=none->j=dflt)/\(∀ s w,hi=some s->VR ν s w-> ∃ k,w= .int k (j:Int)):=by
 unfold bndJ at h;split at h
 ·cases hb:(Nat.ble i' dflt && Nat.ble dflt top) with
  | false=>rw [hb] at h; cases h
  | true=> rw [hb] at h; cases h;simp only [Bool.and_eq_true,Nat.ble_eq] at hb;exact ⟨rfl,hb.1,hb.2,fun _=>rfl,fun s w e=>by cases e⟩
 ·rename_i k' j'
  cases hb:(Nat.ble i' j' && Nat.ble j' top) with
  | false=>rw [hb] at h; cases h
  | true=>
   rw [hb] at h; cases h;simp only [Bool.and_eq_true,Nat.ble_eq] at hb;refine ⟨rfl,hb.1,hb.2,fun e=> ?_,fun s w e hw=> ?_⟩
   ·cases e
   ·cases e; simp only [VR] at hw; exact ⟨k',hw⟩
 ·cases h
theorem Cr {lo:SV} {hi:Option SV} {dflt top i j:Nat} (h:bnds lo hi dflt top=some (i,j)) {v:Value} (hv:VR ν lo v):
  (∃ k,v= .int k (i:Int))/\i<=j/\j<=top/\(hi=none->j=dflt)/\(∀ s w,hi=some s->VR ν s w-> ∃ k,w= .int k (j:Int)):=by
 unfold bnds at h;split at h
 ·rename_i k i'
  simp only [VR] at hv;obtain ⟨rfl,h1⟩:=Kt (ν:=ν) h;exact ⟨⟨k,hv⟩,h1⟩
 ·cases h
theorem kz (R:Rel ν S F h) {nm k:Nat} (H:roomFor S nm k=true) {x:Nat × Nat} (hx:ν nm=some x):k<=x.2:=by
 unfold roomFor at H;split at H
 ·rename_i T n op d c hg
  obtain ⟨y,cs,z,hy,hb,g1,g2,g3,g4,g5⟩:=R.blk hg;rw [hx] at hy; cases hy;simp only [Nat.ble_eq] at H;omega
 ·cases H
theorem Ku {x:SV} (H:U4 x S K) {v:Value} (hv:VR ν x v) (R:Rel ν S F h): ∃ a l c,v= .slice a l c/\It h ⟨a,l,c⟩ fun f b=>PR K ν S f (.string b):=False.elim H
theorem A1 {a:Option Addr} {len cap i j size:Nat} {K:Sl->Prop} (h1:i<=j) (h2:j<=cap) (k:K ⟨if cap=i then a else a.map (·.add (i*size)),j - i,cap - i⟩):slW ⟨a,len,cap⟩ (i:Int) (j:Int) size K:=by refine ⟨⟨by omega,by simp only; omega⟩,⟨by omega,by omega⟩, ?_⟩;simpa using k
theorem O7 {a:Option Addr} {len cap i j m size:Nat} {K:Sl->Prop} (h1:i<=j) (h2:j<=m) (h3:m<=cap) (k:K ⟨if m=i then a else a.map (·.add (i*size)),j - i,m - i⟩):slX ⟨a,len,cap⟩ (i:Int) (j:Int) (m:Int) size K:=by refine ⟨⟨by omega,by simp only; omega⟩,⟨by omega,by omega⟩,⟨by omega,by omega⟩, ?_⟩;simpa using k
def slR (K:(Hp->Prop)->Value->Prop) (s:Sl):Prop:=K (fun _=>True) (.slice s.a s.len s.cap)
theorem zg {nm off len cap i j size:Nat} {x:Nat × Nat} (hx:ν nm=some x) (h1:i<=j) (h2:j<=cap) (H:K tt (.sv nm (bif Nat.beq cap i then off else off+i*size) (j - i) (cap - i)) S):
  slW ⟨some ⟨x.1,off,none⟩,len,cap⟩ (i:Int) (j:Int) size (slR (PR K ν S)):=by
 refine A1 h1 h2 (PR.mk H ?_);simp only [VR];refine ⟨x,hx, ?_⟩
 by_cases e:cap=i
 ·subst e; simp
 ·rw [if_neg e,show Nat.beq cap i=false from by cases hb:Nat.beq cap i with
   | false=>rfl
   | true=>exact absurd (by simpa using hb) e]
  simp
theorem uZ {nm off len cap i j m size:Nat} {x:Nat × Nat} (hx:ν nm=some x) (h1:i<=j) (h2:j<=m) (h3:m<=cap) (H:K tt (.sv nm (bif Nat.beq m i then off else off+i*size) (j - i) (m - i)) S):
  slX ⟨some ⟨x.1,off,none⟩,len,cap⟩ (i:Int) (j:Int) (m:Int) size (slR (PR K ν S)):=by
 refine O7 h1 h2 h3 (PR.mk H ?_);simp only [VR];refine ⟨x,hx, ?_⟩
 by_cases e:m=i
 ·subst e; simp
 ·rw [if_neg e,show Nat.beq m i=false from by cases hb:Nat.beq m i with
   | false=>rfl
   | true=>exact absurd (by simpa using hb) e]
  simp
theorem Hq {nm off len i j sz bo:Nat} {x:Nat × Nat} (R:Rel ν S F h) (hx:ν nm=some x) (h1:i<=j) (h2:j<=len) (h3:0<sz) (h4:roomFor S nm (off+len*sz)=true) (h5:i=0\/i<len\/sz=1)
  (H:K tt (.so nm (off+i*sz) (j - i) sz (bif Nat.beq i 0 then bo else off)) S):
  slW ⟨some ⟨x.1,if off<x.2 then off else bo,none⟩,len,(x.2 - off) / sz⟩ (i:Int) (j:Int) sz (slR (PR K ν S)):=by
 have hroom:=kz R h4 hx;have hcap:len<=(x.2 - off) / sz:=by rw [Nat.le_div_iff_mul_le h3]; omega
 have hsub:(x.2 - (off+i*sz)) / sz=(x.2 - off) / sz - i:=by rw [<- Nat.sub_sub,Nat.mul_comm i sz,Nat.sub_mul_div]
 refine A1 h1 (by omega) (PR.mk H ?_);simp only [VR];refine ⟨x,hx, ?_⟩;rw [hsub]
 by_cases hi:i=0
 ·subst hi
  have:j - 0=j:=by omega
  by_cases e:(x.2 - off) / sz=0
  ·rw [if_pos e]; simp
  ·rw [if_neg e]; simp
 ·have hbi:Nat.beq i 0=false:=by cases hb:Nat.beq i 0 with
   | false=>rfl
   | true=>exact absurd (by simpa using hb) hi
  rw [hbi];simp only [cond_false]
  have hoff:off<x.2:=by have:1*sz<=len*sz:=Nat.mul_le_mul_right _ (by omega);omega
  rw [if_pos hoff]
  by_cases e:(x.2 - off) / sz=i
  ·rw [if_pos e]
   have hsz:sz=1:=by rcases h5 with h5 | h5 | h5 <;> omega
   subst hsz;rw [Nat.div_one] at e;rw [if_neg (by omega)]
  ·rw [if_neg e]
   have:(i+1)*sz<=x.2 - off:=by rw [<- Nat.le_div_iff_mul_le h3]; omega
   rw [Nat.add_mul,Nat.one_mul] at this;rw [if_pos (by omega)];simp
theorem A5 {b off n j size:Nat} {K:Addr->Prop} (hj:j<n) (k:K ⟨b,off+j*size,none⟩):ixW (some ⟨b,off,none⟩) n (j:Int) size K:=
 ⟨_,rfl,⟨by omega,by omega⟩,by simpa using k⟩
end Go.Ey
namespace Go.Ey
open Go Go.Wc
variable {K:KS} {ν:Nu} {S:SH} {F:Fr} {h:Hp} {τ:Tys} {Γ:Tr SV} {Γr:Env}
theorem nO {op:UnOp} {x:Value} {K K':Value->Prop} (hk: ∀ u,K u->K' u) (H:unW op x K):unW op x K':=by
 unfold unW at H |-
 split at H <;> first | exact hk _ H | exact H.elim
def loV (Γ:Env):Option Operand->Value
 | some y=>ev Γ y
 | none=> .int .i64 0
def sliceW (τ:Tys) (t:Nat) (v l:Value) (hi:Option Value) (K:(Hp->Prop)->Value->Prop):Prop:=
 match τ.get t with
 | some ti=>match ti.kd,v,l with
  | .slice e, .slice a n c, .int _ i=>match τ.get e with
   | some te=>match hi with
    | none=>slW ⟨a,n,c⟩ i n te.size (slR K)
    | some y=>match y with
     | .int _ j=>slW ⟨a,n,c⟩ i j te.size (slR K)
     | _=>False
   | none=>False
  | .str, .string s, .int _ i=>match hi with
   | none=>stW s i s.size fun s=>K (fun _=>True) (.string s)
   | some y=>match y with
    | .int _ j=>stW s i j fun s=>K (fun _=>True) (.string s)
    | _=>False
  | .arr n e, .pointer (some p), .int _ i=>match τ.get e with
   | some te=>match hi with
    | none=>slW ⟨some p,n,n⟩ i n te.size (slR K)
    | some y=>match y with
     | .int _ j=>slW ⟨some p,n,n⟩ i j te.size (slR K)
     | _=>False
   | none=>False
  | _,_,_=>False
 | none=>False
def wo (τ:Tys) (t:Nat) (v l y z:Value) (K:(Hp->Prop)->Value->Prop):Prop:=
 match τ.get t with
 | some ti=>match ti.kd,v,l,y,z with
  | .slice e, .slice a n c, .int _ i, .int _ j, .int _ m=>match τ.get e with
   | some te=>slX ⟨a,n,c⟩ i j m te.size (slR K)
   | none=>False
  | _,_,_,_,_=>False
 | none=>False
theorem A7 (t:Nat) (x:Operand) (lo hi:Option Operand) (K:(Hp->Prop)->Value->Prop):opR τ (.slice t x lo hi none) Γr h K=sliceW τ t (ev Γr x) (loV Γr lo) (hi.map (ev Γr)) K:=by cases lo <;> cases hi <;> rfl
theorem Ba (t:Nat) (x y z:Operand) (lo:Option Operand) (K:(Hp->Prop)->Value->Prop):opR τ (.slice t x lo (some y) (some z)) Γr h K=wo τ t (ev Γr x) (loV Γr lo) (ev Γr y) (ev Γr z) K:=by cases lo <;> rfl
theorem oQ {t:Nat} {x l:SV} {hi:Option SV} {v lv:Value} {hv:Option Value} (R:Rel ν S F h) (hx:VR ν x v) (hl:VR ν l lv) (hn:hi=none->hv=none) (hs: ∀ s,hi=some s-> ∃ w,hv=some w/\VR ν s w)
  (H:sliceS τ t x l hi none S K):sliceW τ t v lv hv (PR K ν S):=by
 unfold sliceS at H;unfold sliceW
 cases ht:τ.get t with
 | none=>rw [ht] at H; exact H.elim
 | some ti=>
  rw [ht] at H;simp only at H |-
  have hiJ: ∀ {dflt top i j:Nat},bnds l hi dflt top=some (i,j)-> ∃ k,lv= .int k (i:Int)/\i<=j/\j<=top/\(hv=none/\j=dflt\/ ∃ k,hv=some (.int k (j:Int))):=by
   intro dflt top i j hb;obtain ⟨⟨k,e⟩,h1,h2,h3,h4⟩:=Cr (ν:=ν) hb hl;refine ⟨k,e,h1,h2, ?_⟩
   cases hi with
   | none=>exact .inl ⟨hn rfl,h3 rfl⟩
   | some s=> obtain ⟨w,e1,e2⟩:=hs s rfl;obtain ⟨k',e'⟩:=h4 s w rfl e2;exact .inr ⟨k',by rw [e1,e']⟩
  split at H
  ·rename_i e hk
   rw [hk]
   cases hte:τ.get e with
   | none=>rw [hte] at H; exact H.elim
   | some te=>
    rw [hte] at H;simp only at H;split at H
    ·simp only [VR] at hx
     subst hx;split at H
     ·rename_i ij hb
      obtain ⟨i,j⟩:=ij;obtain ⟨k,rfl,h1,h2,h3⟩:=hiJ hb;obtain rfl:j=0:=by omega
      obtain rfl:i=0:=by omega
      simp only [hte];have key:slW ⟨none,0,0⟩ ((0:Nat):Int) ((0:Nat):Int) te.size (slR (PR K ν S)):=A1 (Nat.le_refl _) (Nat.le_refl _) (PR.mk H (by simp only [VR]; rfl));rcases h3 with ⟨e1,_⟩ | ⟨k',e1⟩ <;> subst e1 <;> exact key
     ·exact H.elim
    ·rename_i nm off len cap _
     simp only [VR] at hx;obtain ⟨p,hp,rfl⟩:=hx;split at H
     ·rename_i i j hb
      obtain ⟨k,rfl,h1,h2,h3⟩:=hiJ hb;simp only [hte];have key:=zg (len:=len) hp h1 h2 H;rcases h3 with ⟨e1,e2⟩ | ⟨k',e1⟩
      ·subst e1 e2; exact key
      ·subst e1; exact key
     ·exact H.elim
    ·rename_i e'; cases e'
    ·rename_i nm off len sz bo _
     simp only [VR] at hx;obtain ⟨p,hp,rfl⟩:=hx;split at H
     ·rename_i i j hb
      obtain ⟨k,rfl,h1,h2,h3⟩:=hiJ hb;simp only [hte]
      cases hq:(Nat.beq sz te.size && Nat.blt 0 sz && roomFor S nm (off+len*sz) && (Nat.beq i 0 || Nat.blt i len || Nat.beq sz 1)) with
      | false=>rw [hq] at H; exact H.elim
      | true=>
       rw [hq] at H;simp only [Bool.and_eq_true,Bool.or_eq_true,Nat.beq_eq,Nat.blt_eq] at hq;obtain ⟨⟨⟨q1,q2⟩,q3⟩,q4⟩:=hq;have key:=Hq R hp h1 h2 q2 q3 (by rcases q4 with (q4 | q4) | q4 <;> simp [q4]) H;rw [<- q1];rcases h3 with ⟨e1,e2⟩ | ⟨k',e1⟩
       ·subst e1 e2; exact key
       ·subst e1; exact key
     ·exact H.elim
    ·rename_i e'; cases e'
    ·exact H.elim
  ·rename_i hk
   rw [hk];split at H
   ·rename_i s _
    simp only [VR] at hx;subst hx;split at H
    ·rename_i i j hb
     obtain ⟨k,rfl,h1,h2,h3⟩:=hiJ hb;simp only
     have key:stW s (i:Int) (j:Int) fun s=>PR K ν S (fun _=>True) (.string s):=⟨⟨by omega,by omega⟩,⟨by omega,by omega⟩,PR.mk H (by simp only [VR]; simp)⟩
     rcases h3 with ⟨e1,e2⟩ | ⟨k',e1⟩
     ·subst e1 e2; exact key
     ·subst e1; exact key
    ·exact H.elim
   ·exact H.elim
  ·rename_i n e hk
   rw [hk]
   cases hte:τ.get e with
   | none=>rw [hte] at H; exact H.elim
   | some te=>
    rw [hte] at H;simp only at H;split at H
    ·rename_i nm off _
     simp only [VR] at hx;obtain ⟨p,hp,rfl⟩:=hx;split at H
     ·rename_i i j hb
      obtain ⟨k,rfl,h1,h2,h3⟩:=hiJ hb;simp only [hte];have key:=zg (len:=n) hp h1 h2 H;rcases h3 with ⟨e1,e2⟩ | ⟨k',e1⟩
      ·subst e1 e2; exact key
      ·subst e1; exact key
     ·exact H.elim
    ·exact H.elim
  ·exact H.elim
theorem Bb {t:Nat} {x l s m:SV} {v lv w z:Value} (R:Rel ν S F h) (hx:VR ν x v) (hl:VR ν l lv) (hs:VR ν s w) (hm:VR ν m z)
  (H:sliceS τ t x l (some s) (some m) S K):wo τ t v lv w z (PR K ν S):=by
 unfold sliceS at H;unfold wo
 cases ht:τ.get t with
 | none=>rw [ht] at H; exact H.elim
 | some ti=>
  rw [ht] at H;simp only at H |-
  have hiJ: ∀ {dflt top i j:Nat},bnds l (some s) dflt top=some (i,j)-> ∃ k,lv= .int k (i:Int)/\i<=j/\j<=top/\ ∃ k,w= .int k (j:Int):=by intro dflt top i j hb;obtain ⟨⟨k,e⟩,h1,h2,h3,h4⟩:=Cr (ν:=ν) hb hl;exact ⟨k,e,h1,h2,h4 s w rfl hs⟩
  split at H
  ·rename_i e hk
   rw [hk]
   cases hte:τ.get e with
   | none=>rw [hte] at H; exact H.elim
   | some te=>
    rw [hte] at H;simp only at H;split at H
    ·rename_i e'; cases e'
    ·rename_i e'; cases e'
    ·rename_i nm off len cap km mm e'
     cases e';simp only [VR] at hx hm;obtain ⟨p,hp,rfl⟩:=hx;subst hm;split at H
     ·rename_i i j hb
      obtain ⟨k,rfl,h1,h2,k',rfl⟩:=hiJ hb;simp only [hte]
      cases hq:Nat.ble mm cap with
      | false=>rw [hq] at H; exact H.elim
      | true=> rw [hq] at H;exact uZ hp h1 h2 (by simpa using hq) H
     ·exact H.elim
    ·rename_i e'; cases e'
    ·rename_i nm off len sz bo km mm e'
     cases e';simp only [VR] at hx hm;obtain ⟨p,hp,rfl⟩:=hx;subst hm;split at H
     ·rename_i i j hb
      obtain ⟨k,rfl,h1,h2,k',rfl⟩:=hiJ hb;simp only [hte]
      cases hq:(Nat.beq sz te.size && Nat.blt 0 sz && roomFor S nm (off+len*sz) && Nat.blt 0 len && Nat.ble mm len) with
      | false=>rw [hq] at H; exact H.elim
      | true=> rw [hq] at H;simp only [Bool.and_eq_true,Nat.beq_eq,Nat.blt_eq,Nat.ble_eq] at hq;obtain ⟨⟨⟨⟨q1,q2⟩,q3⟩,q4⟩,q5⟩:=hq;have hroom:=kz R q3 hp;have:1*sz<=len*sz:=Nat.mul_le_mul_right _ (by omega);rw [if_pos (show off<p.2 from by omega),<- q1];exact uZ hp h1 h2 (by rw [Nat.le_div_iff_mul_le q2]; have:mm*sz<=len*sz:=Nat.mul_le_mul_right _ q5; omega) H
     ·exact H.elim
    ·exact H.elim
  ·exact H.elim
  ·split at H <;> exact H.elim
  ·exact H.elim
theorem VRL.map {Γ:Tr SV} {Γr:Env}: ∀ {xs:List Operand},(∀ x ∈ xs,VR ν (evS Γ x) (ev Γr x))->VRL ν (xs.map (evS Γ)) (xs.map (ev Γr))
 | [],_=>rfl
 | x::xs,H=>VRL.cons (H x List.mem_cons_self) (VRL.map fun y hy=>H y (List.mem_cons_of_mem _ hy))
theorem VRP.map {Γ:Tr SV} {Γr:Env}: ∀ {ps:List (Nat × Operand)},(∀ p ∈ ps,VR ν (evS Γ p.2) (ev Γr p.2))->VRP ν (ps.map fun p=>(p.1,evS Γ p.2)) (ps.map fun p=>(p.1,ev Γr p.2))
 | [],_=>rfl
 | p::ps,H=>⟨_,_,H p List.mem_cons_self,VRP.map fun y hy=>H y (List.mem_cons_of_mem _ hy),rfl⟩
theorem Kv {c a b:Operand} (hc:VR ν (evS Γ c) (ev Γr c)) (ha:VR ν (evS Γ a) (ev Γr a)) (hb:VR ν (evS Γ b) (ev Γr b)) (H:pickS (evS Γ c) (evS Γ a) (evS Γ b) S K):opR τ (.pick c a b) Γr h (PR K ν S):=by
 unfold pickS at H;simp only [opR];split at H
 ·rename_i t e
  rw [e] at hc;simp only [VR] at hc;rw [hc]
  cases t with
  | true=>exact PR.mk H ha
  | false=>exact PR.mk H hb
 ·exact H.elim
theorem jN {t:Nat} {ps:Array (Nat × Operand)} (hp: ∀ p ∈ ps.toList,VR ν (evS Γ p.2) (ev Γr p.2)) (hn:noOpq (ps.toList.map fun p=>(p.1,evS Γ p.2))=true) (H:buildS τ t (ps.toList.map fun p=>(p.1,evS Γ p.2)) S K):opR τ (.build t ps) Γr h (PR K ν S):=by
 unfold buildS at H;simp only [opR,buildW]
 cases ht:τ.get t with
 | none=>rw [ht] at H; exact H.elim
 | some ti=>
  rw [ht] at H;simp only at H |-
  split at H
  ·rename_i fs hk
   rw [hk]
   cases hq:fs.all (fun f=>(τ.get f.1).isSome) with
   | false=>rw [hq] at H; exact H.elim
   | true=> rw [hq] at H;simp only [hq];exact lZ H (VRP.map hp) hn (lC ν _) fun l us hK hL=>PR.mk hK (by simp only [VR]; exact ⟨us,hL,rfl⟩)
  ·rename_i n e hk
   rw [hk];split at H
   ·rename_i te hte
    simp only [hte];exact lZ H (VRP.map hp) hn (lC ν _) fun l us hK hL=>PR.mk hK (by simp only [VR]; exact ⟨us,hL,rfl⟩)
   ·exact H.elim
  ·exact H.elim
theorem zh {x:Operand} (hx:VR ν (evS Γ x) (ev Γr x)) (H:nilCheckS (evS Γ x) S K):opR τ (.nilCheck x) Γr h (PR K ν S):=by
 unfold nilCheckS at H;simp only [opR];split at H
 ·rename_i nm off e
  rw [e] at hx;have LF:=hx;simp only [VR] at hx;obtain ⟨p,hp,hx⟩:=hx;rw [hx] at LF |-
  exact PR.mk H LF
 ·rename_i f cs e
  rw [e] at hx;have LF:=hx;simp only [VR] at hx;obtain ⟨p,hp,hx⟩:=hx;rw [hx] at LF |-
  exact PR.mk H LF
 ·exact H.elim
theorem Hu {op:BinOp} {t u:Nat} {x y:Operand} (hx:VR ν (evS Γ x) (ev Γr x)) (hy:VR ν (evS Γ y) (ev Γr y)) (H:binS τ op t (evS Γ x) (evS Γ y) fun s=>K tt s S):opR τ (.binOp op t x y u) Γr h (PR K ν S):=by simp only [opR];exact uW (fun u ⟨s,h1,h2⟩=>PR.mk h1 h2) (vO H hx hy)
theorem vR {op:UnOp} {t:Nat} {x:Operand} (hx:VR ν (evS Γ x) (ev Γr x)) (H:unS op (evS Γ x) S K):opR τ (.unOp op t x) Γr h (PR K ν S):=by
 unfold unS at H;simp only [opR];split at H
 ·rename_i b e; rw [e] at hx; simp only [VR] at hx; rw [hx]; exact PR.mk H (by simp only [VR])
 ·rename_i k n e; rw [e] at hx; simp only [VR] at hx; rw [hx]; exact PR.mk H (by simp only [VR,jS])
 ·rename_i k n e; rw [e] at hx; simp only [VR] at hx; rw [hx]; exact nO (fun u hu=>PR.mk hu (kj _ _)) H
 ·exact H.elim
theorem Kw {s d:Nat} {x:Operand} (R:Rel ν S F h) (hx:VR ν (evS Γ x) (ev Γr x)) (H:convS τ s d (evS Γ x) S K):opR τ (.convert s d x) Γr h (PR K ν S):=by
 unfold convS at H;simp only [opR];split at H
 ·rename_i ts td h1 h2
  rw [h1,h2];simp only;split at H
  ·rename_i k0 k kk n e1 e2 e3
   rw [e3] at hx; simp only [VR] at hx; rw [hx,e1,e2];exact PR.mk H (by simp only [VR,jS])
  ·rename_i b e1 e2 e3
   rw [e3] at hx; simp only [VR] at hx; rw [hx,e1,e2];exact PR.mk H (by simp only [VR])
  ·rename_i e xx e1 e2
   split at H
   ·rename_i te hte
    split at H
    ·rename_i hk
     obtain ⟨a,l,c,ev,hb⟩:=Ku H hx R;rw [ev,e1,e2];simp only [hte,hk];exact hb
    ·exact H.elim
   ·exact H.elim
  ·exact H.elim
 ·exact H.elim
theorem Kz {f:Fn} {x y:Array Operand} (hy: ∀ p ∈ y.toList,VR ν (evS Γ p) (ev Γr p)) (H:funcS f (x.toList.map (evS Γ)) (y.toList.map (evS Γ)) S K):opR τ (.makeFunc f x y) Γr h (PR K ν S):=by
 unfold funcS at H;simp only [opR];split at H
 ·rename_i id e
  have hx:x.toList=[]:=by simpa using e
  rw [hx];refine PR.mk H ?_;simp only [VR];exact ⟨_,VRL.map hy,rfl⟩
 ·exact H.elim
theorem Hv {t:Nat} {x:Operand} (hx:VR ν (evS Γ x) (ev Γr x)) (H:ifaceS τ t (evS Γ x) S K):opR τ (.makeInterface t x) Γr h (PR K ν S):=False.elim H
theorem wq {t i:Nat} {x:Operand} (hx:VR ν (evS Γ x) (ev Γr x)) (H:fieldAddrS τ t (evS Γ x) i S K):opR τ (.fieldAddr t x i) Γr h (PR K ν S):=by
 unfold fieldAddrS at H;simp only [opR]
 cases ht:τ.get t with
 | none=>rw [ht] at H; exact H.elim
 | some ti=>
  rw [ht] at H;simp only at H |-
  split at H
  ·rename_i fs nm off hk e
   rw [e] at hx; simp only [VR] at hx;obtain ⟨p,hp,hx⟩:=hx;rw [hx,hk];simp only;split at H
   ·rename_i ft fo hf
    rw [hf];simp only;split at H
    ·rename_i tf htf
     rw [htf];simp only
     cases hz:Nat.beq tf.size 0 with
     | true=>rw [hz] at H; exact H.elim
     | false=>rw [hz] at H; exact PR.mk H (by simp only [VR]; exact ⟨p,hp,by simp⟩)
    ·exact H.elim
   ·exact H.elim
  ·exact H.elim
theorem Hw {t i:Nat} {x:Operand} (hx:VR ν (evS Γ x) (ev Γr x)) (H:fieldS τ t (evS Γ x) i S K):opR τ (.field t x i) Γr h (PR K ν S):=False.elim H
theorem wu {t:Nat} {x i:Operand} (R:Rel ν S F h) (hx:VR ν (evS Γ x) (ev Γr x)) (hi:VR ν (evS Γ i) (ev Γr i)) (H:indexAddrS τ t (evS Γ x) (evS Γ i) S K):opR τ (.indexAddr t x i) Γr h (PR K ν S):=by
 unfold indexAddrS at H;simp only [opR]
 cases ht:τ.get t with
 | none=>rw [ht] at H; exact H.elim
 | some ti=>
  rw [ht] at H;simp only at H |-
  split at H
  ·rename_i k j ei
   rw [ei] at hi; simp only [VR] at hi;rw [hi];split at H
   ·rename_i e hk
    rw [hk]
    cases hte:τ.get e with
    | none=>rw [hte] at H; exact H.elim
    | some te=>
     rw [hte] at H;simp only at H;split at H
     ·rename_i nm off len cap ex
      rw [ex] at hx; simp only [VR] at hx;obtain ⟨p,hp,hx⟩:=hx;rw [hx]
      cases hq:Nat.blt j len with
      | false=>rw [hq] at H; exact H.elim
      | true=> rw [hq] at H;simp only [Nat.blt_eq] at hq;simp only [hte];exact A5 hq (PR.mk H (by simp only [VR]; exact ⟨p,hp,rfl⟩))
     ·rename_i nm off len sz bo ex
      rw [ex] at hx; simp only [VR] at hx;obtain ⟨p,hp,hx⟩:=hx;rw [hx]
      cases hq:(Nat.blt j len && Nat.blt 0 te.size && roomFor S nm (off+len*te.size)) with
      | false=>rw [hq] at H; exact H.elim
      | true=> rw [hq] at H;simp only [Bool.and_eq_true,Nat.blt_eq] at hq;obtain ⟨⟨q1,q2⟩,q3⟩:=hq;have hroom:=kz R q3 hp;have:1*te.size<=len*te.size:=Nat.mul_le_mul_right _ (by omega);simp only [hte];rw [if_pos (show off<p.2 from by omega)];exact A5 q1 (PR.mk H (by simp only [VR]; exact ⟨p,hp,rfl⟩))
     ·exact H.elim
   ·rename_i n e hk
    rw [hk]
    cases hte:τ.get e with
    | none=>rw [hte] at H; exact H.elim
    | some te=>
     rw [hte] at H;simp only at H;split at H
     ·rename_i nm off ex
      rw [ex] at hx; simp only [VR] at hx;obtain ⟨p,hp,hx⟩:=hx;rw [hx]
      cases hq:Nat.blt j n with
      | false=>rw [hq] at H; exact H.elim
      | true=> rw [hq] at H;simp only [Nat.blt_eq] at hq;simp only [hte];exact A5 hq (PR.mk H (by simp only [VR]; exact ⟨p,hp,rfl⟩))
     ·exact H.elim
   ·exact H.elim
  ·exact H.elim
theorem oY {k:IntKind}: ∀ {l:List SV} {vs:List Value},intsN k l.length l=true->VRL ν l vs->intsOk k l.length vs=true/\ ∀ j,j<l.length->VR ν (l.getD j .undef) (.int k ((unInts vs).getD j 0))
  | [],vs,_,h=>by simp only [VRL] at h; subst h; exact ⟨rfl,fun j hj=>by simp at hj⟩
  | s::l,vs,hq,h=>by
    simp only [VRL] at h;obtain ⟨v,w,h1,h2,rfl⟩:=h
    cases s <;> first
      | (simp [intsN] at hq; done)
      | (rename_i k' x
         simp only [List.length_cons,intsN,Bool.and_eq_true] at hq;simp only [VR] at h1;cases h1;obtain ⟨g1,g2⟩:=oY hq.2 h2;have:=bH hq.1;subst this;refine ⟨by simp [intsOk,g1],fun j hj=> ?_⟩
         cases j with
         | zero=>simp [unInts,VR]
         | succ j=>simpa [unInts] using g2 j (by simpa using hj))
      | (rename_i k' lo hi x
         simp only [List.length_cons,intsN,Bool.and_eq_true] at hq;simp only [VR] at h1;obtain ⟨rfl,h3,h4⟩:=h1;obtain ⟨g1,g2⟩:=oY hq.2 h2;have:=bH hq.1;subst this;refine ⟨by simp [intsOk,g1],fun j hj=> ?_⟩
         cases j with
         | zero=>simp [unInts,VR,h3,h4]
         | succ j=>simpa [unInts] using g2 j (by simpa using hj))
theorem sn {t:Nat} {x i:Operand} (hx:VR ν (evS Γ x) (ev Γr x)) (hi:VR ν (evS Γ i) (ev Γr i)) (H:indexS τ t (evS Γ x) (evS Γ i) S K):opR τ (.index t x i) Γr h (PR K ν S):=by
 unfold indexS at H;simp only [opR]
 cases ht:τ.get t with
 | none=>rw [ht] at H; exact H.elim
 | some ti=>
  rw [ht] at H;simp only at H |-
  split at H
  ·rename_i k j ei
   rw [ei] at hi; simp only [VR] at hi;rw [hi];split at H
   ·rename_i s hk ex
    rw [ex] at hx; simp only [VR] at hx;rw [hx,hk]
    cases hq:Nat.blt j s.size with
    | false=>rw [hq] at H; exact H.elim
    | true=> rw [hq] at H;exact ⟨natb hq,PR.mk H (by simp only [VR]; rfl)⟩
   ·rename_i n e cs hk ex
    rw [ex] at hx; simp only [VR] at hx;obtain ⟨vs,hvs,hx⟩:=hx;rw [hx,hk];split at H
    ·rename_i te hte
     split at H
     ·rename_i k hkd
      simp only [hte,hkd]
      cases hq:(Nat.beq te.size 1 && Nat.beq cs.length n && intsN k n cs && Nat.blt j n) with
      | false=>rw [hq] at H; exact H.elim
      | true=>
       rw [hq] at H;simp only [Bool.and_eq_true,Nat.beq_eq] at hq;obtain ⟨⟨⟨q1,q2⟩,q3⟩,q4⟩:=hq;subst q2;obtain ⟨g1,g2⟩:=oY q3 hvs;have q1':Nat.beq te.size 1=true:=by simpa using q1
       rw [q1',g1];exact ⟨natb q4,PR.mk H (g2 j (by simpa using q4))⟩
     ·exact H.elim
    ·exact H.elim
   ·exact H.elim
  ·exact H.elim
theorem Bc {i:Nat} {x:Operand} (hx:VR ν (evS Γ x) (ev Γr x)) (H:extractS (evS Γ x) i S K):opR τ (.extract x i) Γr h (PR K ν S):=by
 unfold extractS at H;simp only [opR];split at H
 ·rename_i l e
  rw [e] at hx; simp only [VR] at hx;obtain ⟨vs,hvs,hx⟩:=hx;rw [hx];have hd:=hvs.drop i
  cases hl:l.drop i with
  | nil=>rw [hl] at H; exact H.elim
  | cons s l=> rw [hl] at H hd;simp only [VRL] at hd;obtain ⟨v,w,h1,h2,hd⟩:=hd;simp only [hd];exact PR.mk H h1
 ·exact H.elim
theorem Bd {b:Builtin} {args:Array Operand} {ats:Array TypeId} (R:Rel ν S F h) (hx: ∀ p ∈ args.toList,VR ν (evS Γ p) (ev Γr p)) (H:builtinR τ b (args.toList.map (evS Γ)) ats.toList S K):
  opR τ (.call {callee:= .builtin b,args,argTypes:=ats}) Γr h (PR K ν S):=by
 unfold builtinR at H;simp only [opR];split at H
 ·split at H
  ·rename_i s t e1 e2
   obtain ⟨x,oZ,Be⟩: ∃ x,args.toList=[x]/\evS Γ x=s:=by
    cases ha:args.toList with
    | nil=>rw [ha] at e1; cases e1
    | cons x l=>rw [ha] at e1; simp at e1; exact ⟨x,by rw [e1.2],e1.1⟩
   subst Be;have hx:=hx x (by rw [oZ]; simp);rw [oZ,e2];simp only;unfold lenS at H
   cases ht:τ.get t with
   | none=>rw [ht] at H; exact H.elim
   | some ti=>
    rw [ht] at H;simp only at H |-
    split at H
    ·rename_i hk
     rw [hk];split at H
     ·rename_i s e; rw [e] at hx; simp only [VR] at hx; rw [hx]; exact PR.mk H (by simp only [VR]; rfl)
     ·exact H.elim
    ·rename_i hk
     rw [hk];split at H
     ·rename_i e; rw [e] at hx; simp only [VR] at hx; rw [hx]; exact PR.mk H (by simp only [VR]; rfl)
     ·rename_i e; rw [e] at hx; simp only [VR] at hx; obtain ⟨p,hp,hx⟩:=hx; rw [hx]; exact PR.mk H (by simp only [VR]; rfl)
     ·rename_i e; rw [e] at hx; simp only [VR] at hx; obtain ⟨p,hp,hx⟩:=hx; rw [hx]; exact PR.mk H (by simp only [VR]; rfl)
     ·exact H.elim
    ·rename_i hk
     rw [hk];exact PR.mk H (by simp only [VR]; rfl)
    ·rename_i hk
     rw [hk];split at H
     ·rename_i e; rw [e] at hx; simp only [VR] at hx; rw [hx]; exact PR.mk H (by simp only [VR])
     ·rename_i nm e
      rw [e] at hx; simp only [VR] at hx; obtain ⟨p,hp,hx⟩:=hx;rw [hx];split at H
      ·rename_i es hg
       obtain ⟨y,ver,a,clock,g1,g2,g3,g4,g5⟩:=R.mapOf hg;rw [hp] at g1; cases g1;have hsz: ∀ {ν':Nu} {a':Array MapEntry},VRL ν' (es.map (·.1)) (a'.toList.map (·.key))->a'.size=es.length:=fun g=>by simpa using g.len
       refine ⟨a,clock,g2, ?_⟩;rw [hsz g4];refine ⟨_,_,H,by simp only [VR]; rfl,fun F' ν' S' h' hN hL hR hs=> ?_⟩;obtain ⟨y',ver',a',clock',Pv,VJ,VK,g4',V3⟩:=hR.mapOf (Dz hg hL hs);rw [hN _ _ hp] at Pv; cases Pv;exact ⟨a',clock',VJ,by rw [hsz g4']⟩
      ·exact H.elim
     ·exact H.elim
    ·exact H.elim
  ·exact H.elim
 ·split at H
  ·rename_i s t e1 e2
   obtain ⟨x,oZ,Be⟩: ∃ x,args.toList=[x]/\evS Γ x=s:=by
    cases ha:args.toList with
    | nil=>rw [ha] at e1; cases e1
    | cons x l=>rw [ha] at e1; simp at e1; exact ⟨x,by rw [e1.2],e1.1⟩
   subst Be;have hx:=hx x (by rw [oZ]; simp);rw [oZ,e2];simp only;unfold capS at H
   cases ht:τ.get t with
   | none=>rw [ht] at H; exact H.elim
   | some ti=>
    rw [ht] at H;simp only at H |-
    split at H
    ·rename_i hk
     rw [hk];split at H
     ·rename_i e; rw [e] at hx; simp only [VR] at hx; rw [hx]; exact PR.mk H (by simp only [VR]; rfl)
     ·rename_i e; rw [e] at hx; simp only [VR] at hx; obtain ⟨p,hp,hx⟩:=hx; rw [hx]; exact PR.mk H (by simp only [VR]; rfl)
     ·exact H.elim
    ·exact H.elim
  ·exact H.elim
 ·split at H
  ·rename_i s t e1
   obtain ⟨x,y,oZ,Be,O8⟩: ∃ x y,args.toList=[x,y]/\evS Γ x=s/\evS Γ y=t:=by
    match ha:args.toList with
    | []=>rw [ha] at e1; cases e1
    | [x]=>rw [ha] at e1; simp at e1
    | x::y::l=>rw [ha] at e1; simp at e1; exact ⟨x,y,by rw [e1.2.2],e1.1,e1.2.1⟩
   subst Be O8;have h1:=hx x (by rw [oZ]; simp);have h2:=hx y (by rw [oZ]; simp);rw [oZ];simp only;unfold minS at H;split at H
   ·rename_i k a k' b ea eb
    rw [ea] at h1; rw [eb] at h2; simp only [VR] at h1 h2; rw [h1,h2];refine PR.mk H ?_;simp only [VR,sM]
    by_cases hh:b<a <;> simp [hh]
   ·exact H.elim
  ·exact H.elim
 ·split at H
  ·rename_i s t e1
   obtain ⟨x,y,oZ,Be,O8⟩: ∃ x y,args.toList=[x,y]/\evS Γ x=s/\evS Γ y=t:=by
    match ha:args.toList with
    | []=>rw [ha] at e1; cases e1
    | [x]=>rw [ha] at e1; simp at e1
    | x::y::l=>rw [ha] at e1; simp at e1; exact ⟨x,y,by rw [e1.2.2],e1.1,e1.2.1⟩
   subst Be O8;have h1:=hx x (by rw [oZ]; simp);have h2:=hx y (by rw [oZ]; simp);rw [oZ];simp only;unfold maxS at H;split at H
   ·rename_i k a k' b ea eb
    rw [ea] at h1; rw [eb] at h2; simp only [VR] at h1 h2; rw [h1,h2];refine PR.mk H ?_;simp only [VR,sM]
    by_cases hh:a<b <;> simp [hh]
   ·exact H.elim
  ·exact H.elim
 ·exact H.elim
theorem qo {o:Op} (R:Rel ν S F h) (hv: ∀ x ∈ o.operands.toList,VR ν (evS Γ x) (ev Γr x)) (H:opRS τ o Γ S K):opR τ o Γr h (PR K ν S):=by
 cases o with
 | move x=>exact PR.mk H (hv x (by simp [Op.operands]))
 | assign x=>exact PR.mk H (hv x (by simp [Op.operands]))
 | pick c a b=>exact Kv (hv c (by simp [Op.operands])) (hv a (by simp [Op.operands])) (hv b (by simp [Op.operands])) H
 | build t ps=>
  simp only [opRS] at H
  cases hq:noOpq (ps.toList.map fun p=>(p.1,evS Γ p.2)) with
  | false=>rw [hq] at H; exact H.elim
  | true=>
   rw [hq] at H
   exact jN (fun p hp=>hv p.2 (by simp only [Op.operands]; exact List.mem_map.2 ⟨p,hp,rfl⟩)) hq H
 | load t a=>
  obtain ⟨p,ti,e1,e2,h3⟩:=ld H (hv a (by simp [Op.operands])) R;simp only [opR];rw [e1];simp only [e2]
  exact h3
 | nilCheck x=>exact zh (hv x (by simp [Op.operands])) H
 | binOp op t x y u=>exact Hu (hv x (by simp [Op.operands])) (hv y (by simp [Op.operands])) H
 | unOp op t x=>exact vR (hv x (by simp [Op.operands])) H
 | convert s d x=>exact Kw R (hv x (by simp [Op.operands])) H
 | makeFunc f x y=>exact Kz (fun p hp=>hv p (by simp only [Op.operands,Array.toList_append]; exact List.mem_append_right _ hp)) H
 | makeInterface t x=>exact Hv (hv x (by simp [Op.operands])) H
 | slice t x lo hi mx=>
  simp only [opRS] at H;have hx:=hv x (by simp [Op.operands])
  have hl:VR ν (loS Γ lo) (loV Γr lo):=by
   cases lo with
   | none=>simp only [loS,loV,VR]
   | some y=>exact hv y (by simp [Op.operands])
  cases mx with
  | none=>
   have H:sliceS τ t (evS Γ x) (loS Γ lo) (hi.map (evS Γ)) none S K:=by cases hi <;> exact H
   rw [A7];refine oQ R hx hl (fun e=> ?_) (fun s e=> ?_) H
   ·cases hi with
    | none=>rfl
    | some y=>cases e
   ·cases hi with
    | none=>cases e
    | some y=>cases e; exact ⟨_,rfl,hv y (by simp [Op.operands])⟩
  | some z=>
   cases hi with
   | none=>exact H.elim
   | some y=>
    rw [Ba]
    exact Bb R hx hl (hv y (by simp [Op.operands])) (hv z (by simp [Op.operands])) H
 | fieldAddr t x i=>exact wq (hv x (by simp [Op.operands])) H
 | field t x i=>exact Hw (hv x (by simp [Op.operands])) H
 | indexAddr t x i=>exact wu R (hv x (by simp [Op.operands])) (hv i (by simp [Op.operands])) H
 | index t x i=>exact sn (hv x (by simp [Op.operands])) (hv i (by simp [Op.operands])) H
 | extract x i=>exact Bc (hv x (by simp [Op.operands])) H
 | lookup t x i ok=>exact A0 R (hv x (by simp [Op.operands])) (hv i (by simp [Op.operands])) H
 | call c=>
  obtain ⟨callee,args,ats⟩:=c
  cases callee with
  | builtin b=>exact Bd R (fun p hp=>hv p (by simp [Op.operands,Call.operands]; simpa using hp)) H
  | value f=>exact H.elim
  | invoke r m=>exact H.elim
 | _=>exact H.elim
def notOpq:SV->Bool
 | .opq _=>false
 | _=>true
theorem o5 {s:SV} (h:notOpq s=true): ∀ u,s ≠ .opq u:=by rintro u rfl; cases h
noncomputable def newS (T:Nat) (op:Bool) (l:List SV) (S:SH) (K:SH->Prop):Prop:=
 bif Nat.blt (S.next+1) 1048576 && Nat.blt l.length 1048576 then K (S.new (.blk T l.length op .undef (wrC .e l 0))) else False
noncomputable def zeroL (te:TI):List SV:=te.zero.cells.toList.map zb
def repL (l:List SV):Nat->List SV
 | 0=>[]
 | n+1=>l++repL l n
noncomputable def allocS (τ:Tys) (e:Nat) (S:SH) (K:KS):Prop:=match τ.get e with
 | some te=>newS e false (zeroL te) S fun S'=>K tt (.ad S.next 0) S'
 | none=>False
noncomputable def boxS (e:Nat) (x:SV) (S:SH) (K:KS):Prop:=bif notOpq x then newS e false x.flat S fun S'=>K tt (.ad S.next 0) S' else False
noncomputable def buildSliceS (τ:Tys) (t n:Nat) (ps:List (Nat × SV)) (S:SH) (K:KS):Prop:=match τ.get t with
 | some ti=>match ti.kd with
  | .slice e=>match τ.get e with
   | some te=>bif Nat.ble (n*te.size) 16777216 && noOpq ps then fillLS (fun i=>some (i*te.size,te.size)) ps (repL (zeroL te) n) fun cs=>newS e false cs S fun S'=>K tt (.sv S.next 0 n n) S' else False
   | none=>False
  | _=>False
 | none=>False
noncomputable def storeAt (nm off:Nat) (l:List SV) (S:SH) (K:SH->Prop):Prop:=
 match S.get nm with
 | some (.blk T n op d c)=>bif Nat.ble (off+l.length) n && Nat.blt (off+l.length) 1048576 && Nat.blt (nm+1) 1048576 && l.all SV.one then K (S.put nm (.blk T n op d (wrC c l off))) else False
 | _=>False
noncomputable def storeS (τ:Tys) (t:Nat) (a x:SV) (S:SH) (K:KS):Prop:=match a with
 | .ad nm off=>match τ.get t with
  | some ti=>bif notOpq x && Nat.beq x.flat.length ti.size then storeAt nm off x.flat S fun S'=>K tt .undef S' else False
  | none=>False
 | _=>False
def bytesL (s:ByteArray):List SV:=s.data.toList.map fun b=> .int .u8 (.ofNat b.toNat)
noncomputable def makeSliceS (τ:Tys) (t:Nat) (l c:SV) (S:SH) (K:KS):Prop:=match τ.get t with
 | some ti=>match l,c with
  | .int _ (.ofNat i), .int _ (.ofNat j)=>match ti.kd with
   | .slice e=>match τ.get e with
    | some te=>bif Nat.ble i j && Nat.ble (j*te.bytes) 281474976710656 && Nat.ble j 1000000 then
      bif Nat.beq te.size 1 && Nat.beq (zeroL te).length 1 && Nat.blt (S.next+1) 1048576 then K tt (.sv S.next 0 i j) (S.new (.blk e j false ((zeroL te).headD .undef) .e))
      else newS e false (repL (zeroL te) j) S fun S'=>K tt (.sv S.next 0 i j) S'
     else False
    | none=>False
   | _=>False
  | _,_=>False
 | none=>False
theorem lE (te:TI):VRL ν (zeroL te) te.zero.cells.toList:=lC ν _
theorem qv {l:List SV} {vs:List Value} (hl:VRL ν l vs): ∀ n,VRL ν (repL l n) (List.replicate n vs).flatten
 | 0=>rfl
 | n+1=>by simp only [repL,List.replicate_succ,List.flatten_cons];exact hl.append (qv hl n)
theorem wv {T:Nat} {op:Bool} {l:List SV} {Kn:SH->Prop} (R:Rel ν S F h) (H:newS T op l S Kn) {vs:List Value} (hv:VRL ν l vs) {cs:Array Value} {z:Nat × Nat} (hcs: ∀ i,i<vs.length->cs[i]? =vs[i]?)
  (hle:vs.length<=cs.size) (hop:op=false->cs.size=vs.length) (hz:Zok cs.size z):
  ∃ S',Kn S'/\Rel (bind ν S.next (h.size,cs.size)) S' F (h.push (.cells cs T z))/\SLe S S'/\NLe ν (bind ν S.next (h.size,cs.size)):=by
 unfold newS at H
 cases hq:(Nat.blt (S.next+1) 1048576 && Nat.blt l.length 1048576) with
 | false=>rw [hq] at H; exact H.elim
 | true=>
  rw [hq] at H;simp only [Bool.and_eq_true,Nat.blt_eq] at hq;have hlen:=hv.len;refine ⟨_,H,R.alloc hq.1 ⟨cs,z,rfl,rfl,by omega,fun e=>by rw [hop e,hlen],hz,fun i hi=> ?_⟩,R.dL _ hq.1,R.fE _⟩
  obtain ⟨s,hs⟩: ∃ s,l[i]? =some s:=⟨l[i],List.getElem?_eq_getElem hi⟩
  obtain ⟨v,h1,h2⟩:=hv.get hs;refine ⟨v,by rw [hcs i (by omega),h1], ?_⟩;rw [nX _ _ _ _ _ (by omega),if_pos (by omega)];simp only [Nat.sub_zero,List.getD_eq_getElem?_getD,hs,Option.getD_some];exact VR.mono (R.fE _) _ h2
theorem nY {T:Nat} {l:List SV} {Kn:SH->Prop} (R:Rel ν S F h) (H:newS T false l S Kn) {vs:List Value} (hv:VRL ν l vs):
  ∃ S',Kn S'/\Rel (bind ν S.next (h.size,vs.length)) S' F (h.push (.cells vs.toArray T (0,0)))/\SLe S S'/\NLe ν (bind ν S.next (h.size,vs.length)):=by
 have:=wv R H hv (cs:=vs.toArray) (z:=(0,0)) (fun i hi=>by simp) (by simp) (fun _=>by simp) (.inl rfl);simpa using this
theorem dY {nm:Nat} {x:Nat × Nat}:bind ν nm x nm=some x:=by simp [bind]
theorem DA {e rt:Nat} (R:Rel ν S F h) (H:allocS τ e S K):opC τ [] [] rt (.alloc e) Γr h (PC K ν S F):=by
 unfold allocS at H;simp only [opC];split at H
 ·rename_i te hte
  rw [hte];obtain ⟨S',h1,h2,h3,h4⟩:=nY R H (lE te);simp only [Array.toArray_toList] at h2;exact ⟨_,_,_,_,h1,by simp only [VR]; exact ⟨_,dY,rfl⟩,h4,h3,h2⟩
 ·exact H.elim
theorem KA {e rt:Nat} {x:Operand} (R:Rel ν S F h) (hx:VR ν (evS Γ x) (ev Γr x)) (H:boxS e (evS Γ x) S K):opC τ [] [] rt (.box e x) Γr h (PC K ν S F):=by
 unfold boxS at H;simp only [opC]
 cases hq:notOpq (evS Γ x) with
 | false=>rw [hq] at H; exact H.elim
 | true=> rw [hq] at H;obtain ⟨S',h1,h2,h3,h4⟩:=nY R H (hx.flat (o5 hq));simp only [Array.toArray_toList] at h2;exact ⟨_,_,_,_,h1,by simp only [VR]; exact ⟨_,dY,rfl⟩,h4,h3,h2⟩
theorem sP {t n rt:Nat} {ps:Array (Nat × Operand)} (R:Rel ν S F h) (hp: ∀ p ∈ ps.toList,VR ν (evS Γ p.2) (ev Γr p.2)) (H:buildSliceS τ t n (ps.toList.map fun p=>(p.1,evS Γ p.2)) S K):
  opC τ [] [] rt (.buildSlice t n ps) Γr h (PC K ν S F):=by
 unfold buildSliceS at H;simp only [opC];split at H
 ·rename_i ti hti
  rw [hti];simp only;split at H
  ·rename_i e hk
   rw [hk];simp only;split at H
   ·rename_i te hte
    rw [hte];simp only
    cases hq:(Nat.ble (n*te.size) 16777216 && noOpq (ps.toList.map fun p=>(p.1,evS Γ p.2))) with
    | false=>rw [hq] at H; exact H.elim
    | true=> rw [hq] at H;simp only [Bool.and_eq_true] at hq;rw [hq.1];refine lZ H (VRP.map hp) hq.2 (qv (lE te) n) fun l us hK hL=> ?_;obtain ⟨S',h1,h2,h3,h4⟩:=nY R hK hL;exact ⟨_,_,_,_,h1,by simp only [VR]; exact ⟨_,dY,rfl⟩,h4,h3,h2⟩
   ·exact H.elim
  ·exact H.elim
 ·exact H.elim
theorem kA {nm off:Nat} {l:List SV} {Kn:SH->Prop} (R:Rel ν S F h) (H:storeAt nm off l S Kn) {vs:List Value} (hv:VRL ν l vs) {x:Nat × Nat} (hx:ν nm=some x) {o i:Nat} (ho:o+i=off) {Q:Hp->Prop}
  (k: ∀ S' h',Kn S'->SLe S S'->Rel ν S' F h'->Q h'):stAll h ⟨x.1,o,none⟩ i vs Q:=by
 unfold storeAt at H;split at H
 ·rename_i T n op d c hg
  obtain ⟨ver,hg',_⟩:=oW hg;obtain ⟨y,cs,z,hy,hb,g1,g2,g3,g4,g5⟩:=R.blk hg;rw [hx] at hy; cases hy
  cases hq:(Nat.ble (off+l.length) n && Nat.blt (off+l.length) 1048576 && Nat.blt (nm+1) 1048576 && l.all SV.one) with
  | false=>rw [hq] at H; exact H.elim
  | true=>
   rw [hq] at H;simp only [Bool.and_eq_true,Nat.blt_eq,Nat.ble_eq] at hq;obtain ⟨⟨⟨q1,q2⟩,q3⟩,q4⟩:=hq;have hlen:=hv.len;refine oX vs h cs o i hb (by omega) (by rw [g1]; exact g4.free) (hv.one q4) fun h' cs' k1 k2 k3 k4=> ?_;refine k _ h' H (qu _ q3) (R.upd q3 hg' rfl hx k1 ⟨cs',z,rfl,by omega,g2,g3,g4,fun j hj=> ?_⟩ k4);rw [nX _ _ _ _ _ q2,k3 j]
   by_cases e:off<=j/\j<off+l.length
   ·rw [if_pos e,if_pos (by omega),ho]
    obtain ⟨s,hs⟩: ∃ s,l[j - off]? =some s:=⟨l[j - off]'(by omega),List.getElem?_eq_getElem (by omega)⟩
    obtain ⟨v,e1,e2⟩:=hv.get hs;exact ⟨v,e1,by simpa only [List.getD_eq_getElem?_getD,hs,Option.getD_some] using e2⟩
   ·rw [if_neg e,if_neg (by omega)]
    exact g5 j hj
 ·exact H.elim
theorem DB {t rt:Nat} {a x:Operand} (R:Rel ν S F h) (ha:VR ν (evS Γ a) (ev Γr a)) (hx:VR ν (evS Γ x) (ev Γr x)) (H:storeS τ t (evS Γ a) (evS Γ x) S K):opC τ [] [] rt (.store t a x) Γr h (PC K ν S F):=by
 unfold storeS at H;simp only [opC];split at H
 ·rename_i nm off e
  rw [e] at ha; simp only [VR] at ha;obtain ⟨p,hp,ha⟩:=ha;rw [ha];simp only;split at H
  ·rename_i ti ht
   rw [ht];simp only
   cases hq:(notOpq (evS Γ x) && Nat.beq (evS Γ x).flat.length ti.size) with
   | false=>rw [hq] at H; exact H.elim
   | true=>
    rw [hq] at H;simp only [Bool.and_eq_true] at hq;have hf:=hx.flat (o5 hq.1);rw [hf.len,hq.2]
    exact kA R H hf hp (by omega) fun S' h' k1 k2 k3=>⟨ν,_,_,S',k1,by simp only [VR],NLe.refl ν,k2,k3⟩
  ·exact H.elim
 ·exact H.elim
theorem DC (b:ByteArray):VRL ν (bytesL b) (byteVals b):=by
 unfold bytesL byteVals
 induction b.data.toList with
 | nil=>rfl
 | cons x l ih=>exact VRL.cons (by simp only [VR]; rfl) ih
theorem tw {t rt:Nat} {l c:Operand} (R:Rel ν S F h) (hl:VR ν (evS Γ l) (ev Γr l)) (hc:VR ν (evS Γ c) (ev Γr c)) (H:makeSliceS τ t (evS Γ l) (evS Γ c) S K):opC τ [] [] rt (.makeSlice t l c) Γr h (PC K ν S F):=by
 unfold makeSliceS at H;simp only [opC];split at H
 ·rename_i ti ht
  rw [ht];split at H
  ·rename_i k i k' j e1 e2
   rw [e1] at hl; rw [e2] at hc; simp only [VR] at hl hc; rw [hl,hc];simp only;split at H
   ·rename_i e hk
    rw [hk];simp only;split at H
    ·rename_i te hte
     rw [hte];simp only
     cases hq:(Nat.ble i j && Nat.ble (j*te.bytes) 281474976710656 && Nat.ble j 1000000) with
     | false=>rw [hq] at H; exact H.elim
     | true=>
      rw [hq] at H;simp only [cond_true] at H;simp only [Bool.and_eq_true,Nat.ble_eq] at hq;obtain ⟨⟨q1,q2⟩,q3⟩:=hq;have e3:(2:Int) ^ 48=281474976710656:=by decide
      have e4:IntKind.i64.max=9223372036854775807:=by decide
      refine ⟨⟨Int.natCast_nonneg i,Int.ofNat_le.2 q1, ?_⟩, ?_, ?_⟩
      ·rw [e3]; exact Int.ofNat_le.2 q2
      ·rw [e4]; show (j:Int)<=_; omega
      ·show PC K ν S F (.slice (some ⟨h.size,0,none⟩) i j) (h.push (.cells (zeros te.zero j).toArray e (0,0)))
       cases m0:(Nat.beq te.size 1 && Nat.beq (zeroL te).length 1 && Nat.blt (S.next+1) 1048576) with
       | true=>
        rw [m0] at H;simp only [Bool.and_eq_true,Nat.beq_eq,Nat.blt_eq] at m0;obtain ⟨⟨r1,r2⟩,r3⟩:=m0;have hz:=lE (ν:=ν) te;have hzl:=hz.len;obtain ⟨v,hv⟩: ∃ v,te.zero.cells.toList=[v]:=List.length_eq_one_iff.1 (by omega);obtain ⟨s,hs⟩: ∃ s,zeroL te=[s]:=List.length_eq_one_iff.1 r2;rw [hs,hv] at hz;simp only [VRL] at hz;obtain ⟨v',w',z1,z2,z3⟩:=hz;simp at z3;obtain ⟨rfl,_⟩:=z3
        have hzs:zeros te.zero j=List.replicate j v:=by
         unfold zeros; rw [hv];clear H q1 q2 q3 hc e2
         induction j with
         | zero=>rfl
         | succ j ih=>simp [List.replicate_succ]
        rw [hzs];refine ⟨bind ν S.next (h.size,j),_,_,_,H,by simp only [VR]; exact ⟨_,dY,rfl⟩,R.fE _,R.dL _ r3, ?_⟩;refine R.alloc r3 ⟨_,_,rfl,by simp,Nat.le_refl _,fun _=>rfl, .inl rfl,fun i hi=>⟨v,by simp [hi], ?_⟩⟩;rw [hs]
        exact VR.mono (R.fE _) _ z1
       | false=> rw [m0] at H;obtain ⟨S',k1,k2,k3,k4⟩:=nY R H (qv (lE te) j);exact ⟨_,_,_,_,k1,by simp only [VR]; exact ⟨_,dY,rfl⟩,k4,k3,k2⟩
    ·exact H.elim
   ·exact H.elim
  ·exact H.elim
 ·exact H.elim
noncomputable def partsOf (x:SV) (size:Nat) (S:SH) (k:Nat->Nat):Option (List SV):=
 match x with
 | .nilS=>some []
 | .sv nm off len _=>match S.get nm with
  | some (.blk _ n _ d c)=>bif Nat.ble (off+k len*size) n then some (rdC d c (k len*size) off) else none
  | _=>none
 | .so nm off len sz _=>match S.get nm with
  | some (.blk _ n _ d c)=>bif Nat.ble (off+k len*size) n && Nat.beq sz size && (Nat.blt 0 (k len*size) || Nat.beq (k len*size) 0) then some (rdC d c (k len*size) off) else none
  | _=>none
 | _=>none
def lenOf:SV->Nat
 | .sv _ _ len _=>len
 | .so _ _ len _ _=>len
 | _=>0
theorem zi {a:Option Addr}:cellsAt h a 0 []:=by
 cases a with
 | none=>rfl
 | some a=>exact ⟨rfl,fun i hi=>by simp at hi⟩
theorem mY {x:SV} {size:Nat} {k:Nat->Nat} {l:List SV} (R:Rel ν S F h) (H:partsOf x size S k=some l) (hk:k 0=0) {v:Value} (hv:VR ν x v):
  ∃ a c vs,v= .slice a (lenOf x) c/\VRL ν l vs/\l.length=k (lenOf x)*size/\cellsAt h a (k (lenOf x)*size) vs:=by
 unfold partsOf at H;split at H
 ·cases H
  simp only [VR] at hv;exact ⟨_,_,[],hv,rfl,by simp [lenOf,hk],rfl⟩
 ·rename_i nm off len cap
  simp only [VR] at hv;obtain ⟨x,hx,rfl⟩:=hv;split at H
  ·rename_i T n op d c hg
   cases hq:Nat.ble (off+k len*size) n with
   | false=>rw [hq] at H; cases H
   | true=> rw [hq] at H; cases H;obtain ⟨y,cs,z,hy,hb,g1,g2,g3,g4,g5⟩:=R.blk hg;rw [hx] at hy; cases hy;obtain ⟨vs,k1,k2,k3⟩:=sL g5 (by simpa using hq);refine ⟨_,_,vs,rfl,k1,wm _ _ _ _,k2,fun i hi=> ?_⟩;rw [dW,dQ hb,k3 i (by omega)]; simp
  ·cases H
 ·rename_i nm off len sz bo
  simp only [VR] at hv;obtain ⟨x,hx,rfl⟩:=hv;split at H
  ·rename_i T n op d c hg
   cases hq:(Nat.ble (off+k len*size) n && Nat.beq sz size && (Nat.blt 0 (k len*size) || Nat.beq (k len*size) 0)) with
   | false=>rw [hq] at H; cases H
   | true=>
    rw [hq] at H; cases H;simp only [Bool.and_eq_true,Bool.or_eq_true,Nat.blt_eq,Nat.beq_eq,Nat.ble_eq] at hq;obtain ⟨y,cs,z,hy,hb,g1,g2,g3,g4,g5⟩:=R.blk hg;rw [hx] at hy; cases hy;obtain ⟨vs,k1,k2,k3⟩:=sL g5 hq.1.1;refine ⟨_,_,vs,rfl,k1,wm _ _ _ _, ?_⟩;show cellsAt h _ (k len*size) vs;rcases hq.2 with hp | hp
    ·rw [if_pos (show off<x.2 from by omega)]
     refine ⟨k2,fun i hi=> ?_⟩;rw [dW,dQ hb,k3 i (by omega)]; simp
    ·rw [hp] at k2 |-
     obtain rfl:=List.length_eq_zero_iff.1 k2;exact zi
  ·cases H
 ·cases H
noncomputable def appS (T size bytes m:Nat) (s:SV) (new:List SV) (S:SH) (K:KS):Prop:=
 bif Nat.beq new.length (m*size) && new.all SV.one && Nat.blt 0 bytes && Nat.ble bytes 30000 && Nat.blt 0 size then
  match s with
  | .nilS=>bif Nat.beq m 0 then K tt .nilS S else bif Nat.blt m 1048576 then newS T true new S fun S'=>K tt (.so S.next 0 m size 0) S' else False
  | .sv nm off len cap=>bif Nat.ble (len+m) cap then storeAt nm (off+len*size) new S fun S'=>K tt (.sv nm off (len+m) cap) S'
    else bif Nat.blt (len+m) 1048576 then match partsOf (.sv nm off len cap) size S (fun n=>n) with
     | some old=>newS T true (old++new) S fun S'=>K tt (.so S.next 0 (len+m) size 0) S'
     | none=>False
    else False
  | .so nm off len sz bo=>bif Nat.beq sz size then
    bif Nat.beq m 0 then bif roomFor S nm (off+len*size) then K tt (.so nm off len sz bo) S else False
    else bif Nat.beq off 0 && Nat.beq bo 0 && Nat.blt ((len+m)*size) 1048576 && Nat.blt (nm+1) 1048576 && Nat.blt (S.next+1) 1048576 then match S.get nm with
     | some (.blk T' n _ d c)=>bif Nat.ble (len*size) n && Nat.beq T' T then K tt (.so S.next 0 (len+m) size 0) ((S.put nm .gone).new (.blk T ((len+m)*size) true d (wrC c new (len*size)))) else False
     | _=>False
    else False
   else False
  | _=>False
 else False
theorem wz {n c bytes:Nat} (hc:c<n) (hn:n<1048576) (hb:bytes<=30000):Builtin.nextslicecap n c*bytes<=2 ^ 48:=by
 have h1:=nextcap n c hc;have:Builtin.nextslicecap n c*bytes<=(2*1048576+192)*30000:=Nat.mul_le_mul (by omega) hb;have e:(2:Nat) ^ 48=281474976710656:=by decide
 omega
theorem zj {l m:List Value} {z:Value} {c:Nat} (i:Nat) (hi:i<(l++m).length):(l++m++zeros z c).toArray[i]? =(l++m)[i]? :=by rw [List.getElem?_toArray,List.getElem?_append_left hi]
theorem kB (z:Value) (n:Nat):(zeros z n).length=n*z.cells.size:=by
 unfold zeros
 induction n with
 | zero=>simp
 | succ n ih=>rw [List.replicate_succ,List.flatten_cons,List.length_append,ih,Nat.add_mul]; simp; omega
theorem wA {T size bytes m:Nat} {z:Value} {s:SV} {new:List SV} (R:Rel ν S F h) (hz:z.cells.size=size) (H:appS T size bytes m s new S K) {v:Value} (hv:VR ν s v) {ns:List Value} (hn:VRL ν new ns):
  ∃ a len cap,v= .slice a len cap/\apV T size bytes z h ⟨a,len,cap⟩ m ns fun s h'=>PC K ν S F (.slice s.a s.len s.cap) h':=by
 unfold appS at H
 cases hq:(Nat.beq new.length (m*size) && new.all SV.one && Nat.blt 0 bytes && Nat.ble bytes 30000 && Nat.blt 0 size) with
 | false=>rw [hq] at H; exact H.elim
 | true=>
  rw [hq] at H;simp only [cond_true] at H;simp only [Bool.and_eq_true,Nat.beq_eq,Nat.blt_eq,Nat.ble_eq] at hq;obtain ⟨⟨⟨⟨q1,q2⟩,q3⟩,q4⟩,q5⟩:=hq;have hlen:=hn.len;split at H
  ·simp only [VR] at hv
   refine ⟨_,_,_,hv, ?_⟩;unfold apV
   cases hm:Nat.beq m 0 with
   | true=>
    rw [hm] at H;simp only [Nat.beq_eq] at hm;subst hm;rw [if_pos (by simp)]
    exact ⟨ν,_,_,S,H,by simp only [VR],NLe.refl ν,SLe.refl S,R⟩
   | false=>
    rw [hm] at H;have hm':m ≠ 0:=by rintro rfl; simp at hm
    simp only [cond_false] at H
    cases m0:Nat.blt m 1048576 with
    | false=>rw [m0] at H; exact H.elim
    | true=>
     rw [m0] at H;simp only [Nat.blt_eq] at m0;rw [if_neg (by simp only; omega)];refine ⟨by omega,wz (by simp only; omega) (by simp only; omega) q4,[],by simp only [Nat.zero_mul]; rfl,fun c hc=> ?_⟩;simp only [Nat.zero_add] at hc;obtain ⟨S',k1,k2,k3,k4⟩:=wv R H hn (cs:=([]++ns++zeros z (c - (0+m))).toArray) (z:=(0,0)) (fun i hi=>zj i (by simpa using hi)) (by simp) (fun e=>by cases e) (.inl rfl);refine ⟨_,_,_,_,k1, ?_,k4,k3,k2⟩;simp only [VR];refine ⟨_,dY, ?_⟩
     have hsz:([]++ns++zeros z (c - (0+m))).toArray.size=c*size:=by simp only [List.nil_append,List.size_toArray,List.length_append,kB,hz,hlen,q1,Nat.zero_add];rw [<- Nat.add_mul]; congr 1; omega
     rw [hsz];simp only [Nat.sub_zero,Nat.mul_div_cancel _ q5,Nat.zero_add,ite_self]
  ·rename_i nm off len cap
   have D8:=hv;simp only [VR] at hv;obtain ⟨x,hx,rfl⟩:=hv;refine ⟨_,_,_,rfl, ?_⟩;unfold apV
   cases hm:Nat.ble (len+m) cap with
   | true=>
    rw [hm] at H;simp only [Nat.ble_eq] at hm;rw [if_pos (by simp only; omega)];simp only [dW]
    exact kA R H hn hx (by omega) fun S' h' k1 k2 k3=>⟨ν,_,_,S',k1,by simp only [VR]; exact ⟨x,hx,rfl⟩,NLe.refl ν,k2,k3⟩
   | false=>
    rw [hm] at H;simp only [cond_false] at H;have hm': ¬ len+m<=cap:=by rw [<- Nat.ble_eq,hm]; simp
    cases m0:Nat.blt (len+m) 1048576 with
    | false=>rw [m0] at H; exact H.elim
    | true=>
     rw [m0] at H;simp only [Nat.blt_eq] at m0;simp only [cond_true] at H;split at H
     ·rename_i old hold
      obtain ⟨a,c',os,e1,e2,e3,e4⟩:=mY R hold rfl D8;cases e1;rw [if_neg (by simp only; omega)];refine ⟨by omega,wz (by simp only; omega) (by simp only; omega) q4,os,e4,fun c hc=> ?_⟩;simp only at hc;have hol:=e2.len;simp only [lenOf] at e3;obtain ⟨S',k1,k2,k3,k4⟩:=wv R H (e2.append hn) (cs:=(os++ns++zeros z (c - (len+m))).toArray) (z:=(0,0)) (fun i hi=>zj i hi) (by simp) (fun e=>by cases e) (.inl rfl);refine ⟨_,_,_,_,k1, ?_,k4,k3,k2⟩;simp only [VR];refine ⟨_,dY, ?_⟩
      have hsz:(os++ns++zeros z (c - (len+m))).toArray.size=c*size:=by simp only [List.size_toArray,List.length_append,kB,hz,hlen,q1,hol,e3];rw [<- Nat.add_mul,<- Nat.add_mul]; congr 1; omega
      rw [hsz];simp only [Nat.sub_zero,Nat.mul_div_cancel _ q5,ite_self]
     ·exact H.elim
  ·rename_i nm off len sz bo
   simp only [VR] at hv;obtain ⟨x,hx,rfl⟩:=hv;refine ⟨_,_,_,rfl, ?_⟩;unfold apV
   cases hsz:Nat.beq sz size with
   | false=>rw [hsz] at H; exact H.elim
   | true=>
    rw [hsz] at H;simp only [cond_true] at H;simp only [Nat.beq_eq] at hsz;subst hsz
    cases hm:Nat.beq m 0 with
    | true=>
     rw [hm] at H;simp only [Nat.beq_eq] at hm;subst hm;simp only [cond_true] at H
     cases hr:roomFor S nm (off+len*sz) with
     | false=>rw [hr] at H; exact H.elim
     | true=>
      rw [hr] at H;have hroom:=kz R hr hx;have hcap:len<=(x.2 - off) / sz:=by rw [Nat.le_div_iff_mul_le q5]; omega
      rw [if_pos (by simp only; omega)];have:ns=[]:=List.length_eq_zero_iff.1 (by rw [hlen,q1]; simp);subst this
      exact ⟨ν,_,_,S,H,by simp only [VR]; exact ⟨x,hx,rfl⟩,NLe.refl ν,SLe.refl S,R⟩
    | false=>
     rw [hm] at H;have hm':m ≠ 0:=by rintro rfl; simp at hm
     simp only [cond_false] at H
     cases m0:(Nat.beq off 0 && Nat.beq bo 0 && Nat.blt ((len+m)*sz) 1048576 && Nat.blt (nm+1) 1048576 && Nat.blt (S.next+1) 1048576) with
     | false=>rw [m0] at H; exact H.elim
     | true=>
      rw [m0] at H;simp only [cond_true] at H;simp only [Bool.and_eq_true,Nat.beq_eq,Nat.blt_eq] at m0;obtain ⟨⟨⟨⟨r1,r2⟩,r3⟩,r4⟩,r5⟩:=m0;subst r1 r2;split at H
      ·rename_i T' n op d c hg
       cases U5:(Nat.ble (len*sz) n && Nat.beq T' T) with
       | false=>rw [U5] at H; exact H.elim
       | true=>
        rw [U5] at H;simp only [cond_true] at H;simp only [Bool.and_eq_true,Nat.ble_eq,Nat.beq_eq] at U5;obtain ⟨U5,rfl⟩:=U5;obtain ⟨ver,hg',_⟩:=oW hg;obtain ⟨y,cs,zz,hy,hb,g1,g2,g3,g4,g5⟩:=R.blk hg;rw [hx] at hy; cases hy;have hmul:(len+m)*sz=len*sz+m*sz:=Nat.add_mul _ _ _
        have hlm:len+m<1048576:=by have:(len+m)*1<=(len+m)*sz:=Nat.mul_le_mul_left _ q5;omega
        have hn5:(S.put nm .gone).next=S.next:=rfl;have hR:=R.gone r4 hg';have hsle:SLe S ((S.put nm .gone).new (.blk T' ((len+m)*sz) true d (wrC c new (len*sz)))):=(qu _ r4).trans (hR.dL _ r5)
        have hold: ∀ j o v,(S.put nm .gone).t.get j=some (o,v)->o.live=true->S.t.get j=some (o,v)/\j ≠ nm:=by
         intro j o v hj hl;rw [jx _ r4] at hj
         by_cases e:nm=j
         ·rw [if_pos e] at hj; cases hj; cases hl
         ·rw [if_neg e] at hj; exact ⟨hj,fun e'=>e e'.symm⟩
        have hcell: ∀ ν',NLe ν ν'-> ∀ (cs':Array Value),(∀ i,i<len*sz->cs'[i]? =cs[i]?)->(∀ i,i<m*sz->cs'[len*sz+i]? =ns[i]?)-> ∀ i,i<(len+m)*sz-> ∃ v,cs'[i]? =some v/\VR ν' (cell d (wrC c new (len*sz)) i) v:=by
         intro ν' hL cs' h1 h2 i hi;rw [nX _ _ _ _ _ (by omega)]
         by_cases e:len*sz<=i/\i<len*sz+new.length
         ·rw [if_pos e]
          obtain ⟨j,rfl⟩: ∃ j,i=len*sz+j:=⟨i - len*sz,by omega⟩
          rw [Nat.add_sub_cancel_left,h2 j (by omega)]
          obtain ⟨s,hs⟩: ∃ s,new[j]? =some s:=⟨new[j]'(by omega),List.getElem?_eq_getElem (by omega)⟩
          obtain ⟨v,e1,e2⟩:=hn.get hs;exact ⟨v,e1,by simp only [List.getD_eq_getElem?_getD,hs,Option.getD_some]; exact VR.mono hL _ e2⟩
         ·rw [if_neg e,h1 i (by omega)]
          obtain ⟨v,e1,e2⟩:=g5 i (by omega);exact ⟨v,e1,VR.mono hL _ e2⟩
        by_cases hc:len+m<=(x.2 - 0) / sz
        ·rw [if_pos (by simpa using hc)]
         rw [Nat.sub_zero,Nat.le_div_iff_mul_le q5] at hc;simp only [dW,ite_self];refine oX ns h cs (0+len*sz) 0 hb (by omega) (by rw [g1]; exact g4.free) (hn.one q2) fun h' cs' k1 k2 k3 k4=> ?_
         have hR':Rel ν (S.put nm .gone) F h':=by
          have:=hR;refine ⟨fun j o v hj hl=> ?_,this.lt,this.y9,this.sep,fun b ob hF=> ?_⟩
          ·obtain ⟨hj',hne⟩:=hold j o v hj hl
           obtain ⟨y,ob,y1,y2,y3⟩:=R.obj j o v hj' hl;refine ⟨y,ob,y1, ?_,y3⟩;rw [k4 y.1 fun e=>hne (R.sep _ _ _ _ _ _ _ _ hj' hl hg' rfl y1 hx e)]; exact y2
          ·obtain ⟨f1,f2⟩:=this.fr b ob hF
           have:=(R.fr b ob hF).2 nm _ _ _ hg' rfl hx;exact ⟨by rw [k4 b fun e=>this e.symm]; exact f1,f2⟩
         refine ⟨bind ν S.next (x.1,x.2),_,_,_,H, ?_,R.fE _,hsle, ?_⟩
         ·simp only [VR]
          exact ⟨_,dY,by simp⟩
         ·refine hR'.name (b:=x.1) (m:=x.2) r5 k1 ⟨cs',zz,rfl,by omega,hc,(fun e=>by cases e),g4, ?_⟩ (fun j o v y hj hl hy e=> ?_) ?_
          ·exact hcell _ (R.fE _) cs' (fun i hi=>by rw [k3 i,if_neg (by omega)]) fun i hi=>by rw [k3,if_pos (by omega)]; congr 1; omega
          ·obtain ⟨hj',hne⟩:=hold j o v hj hl
           exact hne (R.sep _ _ _ _ _ _ _ _ hj' hl hg' rfl hy hx e)
          ·cases hF:F x.1 with
           | none=>rfl
           | some ob=>exact absurd rfl ((R.fr _ _ hF).2 nm _ _ _ hg' rfl hx)
        ·rw [if_neg (by simpa using hc)]
         simp only;obtain ⟨os,o1,o2,o3⟩:=sL (off:=0) (k:=len*sz) g5 (by omega);refine ⟨by omega,wz (Nat.lt_of_not_le (by simpa using hc)) (by omega) q4,os, ?_,fun c' hc'=> ?_⟩
         ·rw [ite_self]
          refine ⟨o2,fun i hi=> ?_⟩;rw [dW,dQ hb,o3 i (by omega)]; simp
         ·refine ⟨bind ν S.next (h.size,c'*sz),_,_,_,H, ?_,R.fE _,hsle, ?_⟩
          ·simp only [VR]
           exact ⟨_,dY,by simp [Nat.mul_div_cancel _ q5]⟩
          ·refine hR.alloc (m:=c'*sz) r5 ⟨_,_,rfl, ?_,Nat.mul_le_mul_right _ hc',(fun e=>by cases e), .inl rfl, ?_⟩
           ·simp only [List.size_toArray,List.length_append,kB,hz,hlen,q1,o2]
            rw [<- Nat.add_mul,<- Nat.add_mul]; congr 1; omega
           ·refine hcell _ (R.fE _) _ (fun i hi=> ?_) fun i hi=> ?_
            ·rw [List.getElem?_toArray,List.append_assoc,List.getElem?_append_left (by omega),<- o3 i hi]; simp
            ·rw [List.getElem?_toArray,List.append_assoc,List.getElem?_append_right (by omega),List.getElem?_append_left (by omega)]; congr 1; omega
      ·exact H.elim
  ·exact H.elim
noncomputable def appendS (τ:Tys) (t u:Nat) (s x:SV) (S:SH) (K:KS):Prop:=
 match τ.get t with
 | some ti=>match ti.kd with
  | .slice e=>match τ.get e with
   | some te=>match τ.get u with
    | some tu=>bif Nat.beq te.zero.cells.toList.length te.size then
     (match tu.kd with
     | .slice _=>match partsOf x te.size S (fun n=>n) with
      | some new=>appS e te.size te.bytes (lenOf x) s new S K
      | none=>False
     | .str=>match x with
      | .str b=>bif Nat.beq te.size 1 then appS e te.size te.bytes b.size s (bytesL b) S K else False
      | _=>False
     | .int _=>match x with
      | .int _ (.ofNat n)=>bif Nat.ble (n*te.bytes) 281474976710656 && Nat.ble n 1000000 && Nat.ble (lenOf s) 1000000 && notOpq s then appS e te.size te.bytes n s (repL (zeroL te) n) S K else False
      | _=>False
     | _=>False) else False
    | none=>False
   | none=>False
  | _=>False
 | none=>False
theorem Hx {s:SV} {a:Option Addr} {len cap:Nat} (h:VR ν s (.slice a len cap)) (hn: ∀ u,s ≠ .opq u):len=lenOf s:=by
 cases s with
 | opq u=>exact absurd rfl (hn u)
 | nilS=>simp only [VR] at h; cases h; rfl
 | sv nm off l c=>simp only [VR] at h; obtain ⟨_,_,e⟩:=h; cases e; rfl
 | so nm off l sz bo=>simp only [VR] at h; obtain ⟨_,_,e⟩:=h; cases e; rfl
 | undef=>simp only [VR] at h; cases h
 | unk k lo hi n=>simp only [VR] at h; cases h.1
 | _=>simp only [VR] at h <;> first | (obtain ⟨_,_,e⟩:=h; cases e; done) | cases h
theorem Bf {t u rt:Nat} {s x:Operand} (R:Rel ν S F h) (hs:VR ν (evS Γ s) (ev Γr s)) (hx:VR ν (evS Γ x) (ev Γr x)) (H:appendS τ t u (evS Γ s) (evS Γ x) S K):
  opC τ [] [] rt (.call {callee:= .builtin .append,args:= #[s,x],argTypes:= #[t,u]}) Γr h (PC K ν S F):=by
 unfold appendS at H;simp only [opC];split at H
 ·rename_i ti hti
  split at H
  ·rename_i e hk
   split at H
   ·rename_i te hte
    split at H
    ·rename_i tu htu
     cases hzl:Nat.beq te.zero.cells.toList.length te.size with
     | false=>rw [hzl] at H; exact H.elim
     | true=>
      rw [hzl] at H;simp only [cond_true] at H;have hz:te.zero.cells.size=te.size:=by simpa using hzl
      rw [hti,htu];split at H
      ·rename_i e' hku
       split at H
       ·rename_i new hnew
        obtain ⟨b,d,ns,e1,e2,e3,e4⟩:=mY R hnew rfl hx;obtain ⟨a,len,cap,f1,f2⟩:=wA R hz H hs e2;rw [f1];simp only [hk,hte];rw [hku,e1];exact ⟨ns,e4,f2⟩
       ·exact H.elim
      ·rename_i hku
       split at H
       ·rename_i b eb
        rw [eb] at hx; simp only [VR] at hx
        cases hq:Nat.beq te.size 1 with
        | false=>rw [hq] at H; exact H.elim
        | true=> rw [hq] at H;obtain ⟨a,len,cap,f1,f2⟩:=wA R hz H hs (DC b);rw [f1];simp only [hk,hte];rw [hku,hx,hq];exact f2
       ·exact H.elim
      ·rename_i k' hku
       split at H
       ·rename_i k'' n eb
        rw [eb] at hx; simp only [VR] at hx
        cases hq:(Nat.ble (n*te.bytes) 281474976710656 && Nat.ble n 1000000 && Nat.ble (lenOf (evS Γ s)) 1000000 && notOpq (evS Γ s)) with
        | false=>rw [hq] at H; exact H.elim
        | true=>
         rw [hq] at H;simp only [Bool.and_eq_true,Nat.ble_eq] at hq;obtain ⟨⟨⟨q1,q2⟩,q3⟩,q4⟩:=hq;obtain ⟨a,len,cap,f1,f2⟩:=wA R hz H hs (qv (lE te) n);have hlen:len=lenOf (evS Γ s):=Hx (f1 ▸ hs) (o5 q4);rw [f1];simp only [hk,hte];rw [hku,hx];have e3:(2:Int) ^ 48=281474976710656:=by decide
         have e4:IntKind.i64.max=9223372036854775807:=by decide
         refine ⟨Int.natCast_nonneg n, ?_, ?_,f2⟩
         ·rw [e3]; exact Int.ofNat_le.2 q1
         ·rw [e4]; simp only [Int.toNat_natCast]; simp; omega
       ·exact H.elim
      ·exact H.elim
    ·exact H.elim
   ·exact H.elim
  ·exact H.elim
 ·exact H.elim
noncomputable def copyS (τ:Tys) (t:Nat) (d x:SV) (S:SH) (K:KS):Prop:=
 match τ.get t with
 | some ti=>match ti.kd with
  | .slice e=>match τ.get e with
   | some te=>match partsOf x te.size S (fun n=>Nat.min n (lenOf d)) with
    | some new=>match d with
     | .nilS=>K tt (.int .i64 0) S
     | .sv nm off len _=>storeAt nm off new S fun S'=>K tt (.int .i64 (.ofNat (Nat.min (lenOf x) len))) S'
     | .so nm off len sz _=>bif Nat.blt 0 new.length then storeAt nm off new S fun S'=>K tt (.int .i64 (.ofNat (Nat.min (lenOf x) len))) S' else bif Nat.beq (Nat.min (lenOf x) len) 0 then K tt (.int .i64 0) S else False
     | _=>False
    | none=>False
   | none=>False
  | _=>False
 | none=>False
theorem Hy {t u rt:Nat} {d x:Operand} (R:Rel ν S F h) (hd:VR ν (evS Γ d) (ev Γr d)) (hx:VR ν (evS Γ x) (ev Γr x)) (H:copyS τ t (evS Γ d) (evS Γ x) S K):
    opC τ [] [] rt (.call {callee:= .builtin .copy,args:= #[d,x],argTypes:= #[t,u]}) Γr h (PC K ν S F):=by
  unfold copyS at H;simp only [opC];split at H
  . rename_i ti hti;split at H
    . rename_i e hk;split at H
      . rename_i te hte;split at H
        . rename_i new hnew;obtain ⟨b,c,ns,e1,e2,e3,e4⟩:=mY R hnew (by simp) hx;rw [hti];split at H
          . rename_i ed;rw [ed] at hd; simp only [VR] at hd;rw [hd,e1];simp only [hk,hte];rw [ed] at e4;simp only [lenOf] at e4;refine ⟨ns,by simpa using e4, ?_⟩;exact ⟨ν,_,_,S,H,by simp only [VR]; simp,NLe.refl ν,SLe.refl S,R⟩
          . rename_i nm off len cap ed;rw [ed] at hd; simp only [VR] at hd;obtain ⟨p,hp,hd⟩:=hd;rw [hd,e1];simp only [hk,hte];rw [ed] at e4;simp only [lenOf] at e4;refine ⟨ns,e4, ?_⟩
            exact kA R H e2 hp (by omega) fun S' h' k1 k2 k3=>⟨ν,_,_,S',k1,by simp only [VR]; rfl,NLe.refl ν,k2,k3⟩
          . rename_i nm off len sz bo ed;rw [ed] at hd; simp only [VR] at hd;obtain ⟨p,hp,hd⟩:=hd;rw [hd,e1];simp only [hk,hte];rw [ed] at e4;simp only [lenOf] at e4;refine ⟨ns,e4, ?_⟩
            cases hq:Nat.blt 0 new.length with
            | true=>
              rw [hq] at H;simp only [cond_true] at H;simp only [Nat.blt_eq] at hq
              have hoff:off<p.2:=by
                unfold storeAt at H;split at H
                . rename_i T n op d c hg;obtain ⟨y,cs,z,hy,hb,g1,g2,g3,g4,g5⟩:=R.blk hg;rw [hp] at hy; cases hy
                  cases m0:(Nat.ble (off+new.length) n && Nat.blt (off+new.length) 1048576 && Nat.blt (nm+1) 1048576 && new.all SV.one) with
                  | false=>rw [m0] at H; exact H.elim
                  | true=> simp only [Bool.and_eq_true,Nat.ble_eq] at m0;omega
                . exact H.elim
              simp only [if_pos hoff]
              exact kA R H e2 hp (by omega) fun S' h' k1 k2 k3=>⟨ν,_,_,S',k1,by simp only [VR]; rfl,NLe.refl ν,k2,k3⟩
            | false=>
              rw [hq] at H;simp only [cond_false] at H
              have hns : ns = [] := List.length_eq_zero_iff.1 (by rw [e2.len]; have : ¬ 0 < new.length := by rw [<- Nat.blt_eq, hq]; simp
                                                                  omega)
              cases m0:Nat.beq (Nat.min (lenOf (evS Γ x)) len) 0 with
              | false=>rw [m0] at H; exact H.elim
              | true=> rw [m0] at H;subst hns;simp only [Nat.beq_eq] at m0;show PC K ν S F (.int .i64 ((Nat.min (lenOf (evS Γ x)) len:Nat):Int)) h;rw [m0];exact ⟨ν,_,_,S,H,by simp only [VR]; rfl,NLe.refl ν,SLe.refl S,R⟩
          . exact H.elim
        . exact H.elim
      . exact H.elim
    . exact H.elim
  . exact H.elim
def clearS (τ:Tys) (t:Nat) (x:SV) (S:SH) (K:KS):Prop:=False
theorem DD {t rt:Nat} {x:Operand} {ats:List TypeId} {args:Array Operand} {at':Array TypeId} (ha:args.toList=[x]) (hat:at'.toList=t::ats) (R:Rel ν S F h) (hx:VR ν (evS Γ x) (ev Γr x)) (H:clearS τ t (evS Γ x) S K):
  opC τ [] [] rt (.call {callee:= .builtin .clear,args:=args,argTypes:=at'}) Γr h (PC K ν S F):=False.elim H
def makeMapT (τ:Tys) (t:Nat) (x:Option SV) (S:SH) (K:KS):Prop:=False
theorem zl {t rt:Nat} {x:Option Operand} (R:Rel ν S F h) (hx: ∀ y,x=some y->VR ν (evS Γ y) (ev Γr y)) (H:makeMapT τ t (x.map (evS Γ)) S K):opC τ [] [] rt (.makeMap t x) Γr h (PC K ν S F):=False.elim H
theorem ie {α β:Type} (g:α->β) (f:α->α) (c:β) (hc: ∀ a,g (f a)=c): ∀ (l:List α) (i:Nat),(l.modify i f).map g=(l.map g).set i c
 | [],i=>by simp
 | a::l,0=>by simp [List.modify,hc]
 | a::l,i+1=>by simp [ie g f c hc l i]
theorem jA {α β:Type} (g:α->β): ∀ (l:List α) (i:Nat),(l.eraseIdx i).map g=(l.map g).eraseIdx i
 | [],i=>by simp
 | a::l,0=>by simp
 | a::l,i+1=>by simp [jA g l i]
theorem VRL.eraseIdx: ∀ {l:List SV} {vs:List Value} (i:Nat),VRL ν l vs->VRL ν (l.eraseIdx i) (vs.eraseIdx i)
 | [],vs,i,h=>by simp only [VRL] at h; subst h; simp only [List.eraseIdx_nil,VRL]
 | s::l,vs,i,h=>by
  simp only [VRL] at h;obtain ⟨v,w,h1,h2,rfl⟩:=h
  cases i with
  | zero=>exact h2
  | succ i=>exact VRL.cons h1 (VRL.eraseIdx i h2)
def mapOpS (τ:Tys) (t:Nat) (x k:SV) (S:SH) (K:KS) (upd:List (SV × SV)->Option (Nat × SV)->List (SV × SV)) (nilOk:Bool):Prop:=False
def updE (k v:SV) (es:List (SV × SV)):Option (Nat × SV)->List (SV × SV)
 | some (i,_)=>es.set i (k,v)
 | none=>es++[(k,v)]
def delE (es:List (SV × SV)):Option (Nat × SV)->List (SV × SV)
 | some (i,_)=>es.eraseIdx i
 | none=>es
theorem sQ {τ:Tys} {t:Nat} {x k:SV} {upd:List (SV × SV)->Option (Nat × SV)->List (SV × SV)} {nilOk:Bool} (R:Rel ν S F h) {xv kv:Value} (hx:VR ν x xv) (hk:VR ν k kv) (H:mapOpS τ t x k S K upd nilOk):
  ∃ ti kt e tk,τ.get t=some ti/\ti.kd= .map kt e/\τ.get kt=some tk/\isKey tk.kd=true/\
   ((nilOk=true/\xv= .map none/\K tt .undef S)\/ ∃ nm es o p a clock o' ver,S.t.get nm=some (.map es,ver)/\nm+1<1048576/\ν nm=some p/\xv= .map (some p.1)/\h[p.1]? =some (.map a clock)/\VRL ν (es.map (·.1)) (a.toList.map (·.key))/\VRL ν (es.map (·.2)) (a.toList.map (·.val))/\
    mfind tk.kd kv a.toList 0=some o'/\(match o with
   | none=>o'=none
   | some q=> ∃ v,o'=some (q.1,v)/\VR ν q.2 v)/\K tt .undef (S.put nm (.map (upd es o)))):=False.elim H
theorem tC {t rt:Nat} {m k x:Operand} (R:Rel ν S F h) (hm:VR ν (evS Γ m) (ev Γr m)) (hk:VR ν (evS Γ k) (ev Γr k)) (hx:VR ν (evS Γ x) (ev Γr x))
  (H:mapOpS τ t (evS Γ m) (evS Γ k) S K (updE (evS Γ k) (evS Γ x)) false):opC τ [] [] rt (.mapUpdate t m k x) Γr h (PC K ν S F):=by
 obtain ⟨ti,kt,e,tk,h1,h2,h3,h4,h5⟩:=sQ R hm hk H;rcases h5 with ⟨h5,_⟩ | ⟨nm,es,o,p,a,clock,o',ver,g1,g2,g3,g4,g5,g6,g7,g8,g9,g10⟩
 ·cases h5
 ·simp only [opC,h1,h2,h3,h4,g4,cnd]
  refine ⟨p.1,rfl,a,clock,g5,o',g8,ν, .undef,tt,_,g10,by simp only [VR],NLe.refl ν,qu _ g2,R.upd g2 g1 rfl g3 (ob:=muO a clock (ev Γr k) (ev Γr x) o') ?_ ?_ fun b hb=>by rw [Array.getElem?_setIfInBounds_ne (Ne.symm hb)]⟩
  ·rw [Array.getElem?_setIfInBounds]; simp [dc g5]
  ·cases o with
   | none=>
    simp only at g9; subst g9;refine ⟨_,_,rfl, ?_, ?_⟩
    ·simp only [updE,List.map_append,List.map_cons,List.map_nil,Array.toList_push]; exact g6.append (VRL.cons hk VRL.nil)
    ·simp only [updE,List.map_append,List.map_cons,List.map_nil,Array.toList_push]; exact g7.append (VRL.cons hx VRL.nil)
   | some q=>
    obtain ⟨v,rfl,hv⟩:=g9;refine ⟨_,_,rfl, ?_, ?_⟩
    ·simp only [updE,Array.toList_modify,List.map_set]
     rw [ie (fun x:MapEntry=>x.key) (fun e=> {key:=ev Γr k,val:=ev Γr x,born:=e.born}) (ev Γr k) (fun _=>rfl)];exact g6.set _ hk
    ·simp only [updE,Array.toList_modify,List.map_set]
     rw [ie (fun x:MapEntry=>x.val) (fun e=> {key:=ev Γr k,val:=ev Γr x,born:=e.born}) (ev Γr x) (fun _=>rfl)];exact g7.set _ hx
theorem Bg {rt:Nat} {args:Array Operand} {ats:Array TypeId} {m k:Operand} {t:Nat} {l:List Nat} (ha:args.toList=[m,k]) (hb:ats.toList=t::l) (R:Rel ν S F h) (hm:VR ν (evS Γ m) (ev Γr m)) (hk:VR ν (evS Γ k) (ev Γr k))
  (H:mapOpS τ t (evS Γ m) (evS Γ k) S K delE true):opC τ [] [] rt (.call {callee:= .builtin .delete,args:=args,argTypes:=ats}) Γr h (PC K ν S F):=by
 obtain ⟨ti,kt,e,tk,h1,h2,h3,h4,h5⟩:=sQ R hm hk H;rcases h5 with ⟨_,h5,h6⟩ | ⟨nm,es,o,p,a,clock,o',ver,g1,g2,g3,g4,g5,g6,g7,g8,g9,g10⟩
 ·simp only [opC,ha,hb,h1,h2,h3,h4,h5,cnd]
  exact ⟨ν, .undef,tt,_,h6,by simp only [VR],NLe.refl ν,SLe.refl S,R⟩
 ·simp only [opC,ha,hb,h1,h2,h3,h4,g4,cnd]
  refine ⟨a,clock,g5,o',g8,ν, .undef,tt,_,g10,by simp only [VR],NLe.refl ν,qu _ g2,R.upd g2 g1 rfl g3 (ob:=dlO a clock o') ?_ ?_ fun b hb=>by rw [Array.getElem?_setIfInBounds_ne (Ne.symm hb)]⟩
  ·rw [Array.getElem?_setIfInBounds]; simp [dc g5]
  ·cases o with
   | none=>simp only at g9; subst g9; exact ⟨_,_,rfl,g6,g7⟩
   | some q=>
    obtain ⟨v,rfl,hv⟩:=g9
    have e:(a.eraseIdxIfInBounds q.1).toList=a.toList.eraseIdx q.1:=by
     unfold Array.eraseIdxIfInBounds;split
     ·simp
     ·rename_i hlt; rw [List.eraseIdx_of_length_le (by simpa using hlt)]
    refine ⟨_,_,rfl, ?_, ?_⟩
    ·simp only [delE,jA,e]; exact g6.eraseIdx _
    ·simp only [delE,jA,e]; exact g7.eraseIdx _
end Go.Ey
namespace Go.Ey
open Go Go.Wc
variable {P:Program} {K:KS} {ν:Nu} {S:SH} {F:Fr} {h:Hp} {τ:Tys} {Γ:Tr SV} {Γr:Env}
abbrev CallF:=Nat->List SV->SH->(SV->SH->Prop)->Prop
abbrev Mth:=List (Nat × String × Nat)
structure Ctx where
 τ:Tys
 call:CallF
 dF:Mth
def PV (K:SV->SH->Prop) (ν:Nu) (S:SH) (F:Fr) (v:Value) (h':Hp):Prop:=
 ∃ ν' s S',K s S'/\VR ν' s v/\NLe ν ν'/\SLe S S'/\Rel ν' S' F h'
def specOf (call:CallF) (f:Nat):Spec:=fun args h Kr=> ∃ ν F S as K,VRL ν as args/\Rel ν S F h/\call f as S K/\ ∀ v h',PV K ν S F v h'->Kr v h'
def CallOk (P:Program) (call:CallF):Prop:= ∀ f as S K,call f as S K->SpecOk P f (specOf call f)
def MthOk (P:Program) (dF:Mth):Prop:= ∀ t m f,(t,m,f) ∈ dF-> ∃ i r e,P.info? t=some i/\i.methods.find? (·.name==m)=some r/\r.path= #[]/\r.func=some (f,true)/\P.underlying t=some (.pointer e)
noncomputable def callFS (C:Ctx) (f:Nat) (xs:List SV) (S:SH) (K:KS):Prop:=C.call f xs S fun s S'=>K tt s S'
noncomputable def callVS (C:Ctx) (x:SV) (xs:List SV) (S:SH) (K:KS):Prop:=match x with
 | .fn f cs=>C.call f (xs++cs) S fun s S'=>K tt s S'
 | _=>False
noncomputable def callIS (C:Ctx) (x:SV) (m:String) (xs:List SV) (S:SH) (K:KS):Prop:=False
def markS (τ:Tys) (s d:Nat) (x:SV) (S:SH) (K:KS):Prop:=False
def rangeS (τ:Tys) (t:Nat) (x:SV) (S:SH) (K:KS):Prop:=False
def nextS (x:SV) (S:SH) (K:KS):Prop:=False
noncomputable def opCS (C:Ctx) (o:Op) (Γ:Tr SV) (S:SH) (K:KS):Prop:=
 match o with
 | .alloc e=>allocS C.τ e S K
 | .box e x=>boxS e (evS Γ x) S K
 | .buildSlice t n ps=>buildSliceS C.τ t n (ps.toList.map fun p=>(p.1,evS Γ p.2)) S K
 | .store t a x=>storeS C.τ t (evS Γ a) (evS Γ x) S K
 | .convert s d x=>markS C.τ s d (evS Γ x) S K
 | .range t x=>rangeS C.τ t (evS Γ x) S K
 | .next x true=>nextS (evS Γ x) S K
 | .makeMap t x=>makeMapT C.τ t (x.map (evS Γ)) S K
 | .mapUpdate t m k x=>mapOpS C.τ t (evS Γ m) (evS Γ k) S K (updE (evS Γ k) (evS Γ x)) false
 | .makeSlice t l c=>makeSliceS C.τ t (evS Γ l) (evS Γ c) S K
 | .call {callee:= .builtin .append,args,argTypes}=>match args.toList,argTypes.toList with
  | [s,x],[t,u]=>appendS C.τ t u (evS Γ s) (evS Γ x) S K
  | _,_=>False
 | .call {callee:= .builtin .copy,args,argTypes}=>match args.toList,argTypes.toList with
  | [d,x],[t,_]=>copyS C.τ t (evS Γ d) (evS Γ x) S K
  | _,_=>False
 | .call {callee:= .builtin .clear,args,argTypes}=>match args.toList,argTypes.toList with
  | [x],t::_=>clearS C.τ t (evS Γ x) S K
  | _,_=>False
 | .call {callee:= .builtin .delete,args,argTypes}=>match args.toList,argTypes.toList with
  | [m,k],t::_=>mapOpS C.τ t (evS Γ m) (evS Γ k) S K delE true
  | _,_=>False
 | .call {callee:= .value (.func f),args,argTypes:=_}=>callFS C f (args.toList.map (evS Γ)) S K
 | .call {callee:= .value x,args,argTypes:=_}=>callVS C (evS Γ x) (args.toList.map (evS Γ)) S K
 | .call {callee:= .invoke x m,args,argTypes:=_}=>callIS C (evS Γ x) m (args.toList.map (evS Γ)) S K
 | _=>False
noncomputable def opXS (C:Ctx) (o:Op) (Γ:Tr SV) (S:SH) (K:KS):Prop:=
 bif isR o || readsConv C.τ o then opRS C.τ o Γ S K else opCS C o Γ S K
theorem Hz {v:Value} {h':Hp} (H:PV (fun s S'=>K tt s S') ν S F v h'):PC K ν S F v h':=by obtain ⟨ν',s,S',h1,h2,h3,h4,h5⟩:=H;exact ⟨ν',s,tt,S',h1,h2,h3,h4,h5⟩
theorem Array.PI {α:Type} {a:Array α} {x y:α} (h:a.toList=[x,y]):a= #[x,y]:=by apply Array.ext'; simpa using h
theorem nZ {call:CallF} {f:Nat} {as:List SV} {vs:List Value} {w:World} (hC:CallOk P call) (H:call f as S fun s S'=>K tt s S') (hv:VRL ν as vs) (R:Rel ν S F w.heap):
  Out P (PC K ν S F) w ((callFunc f vs.toArray).run P w):=by
 have hS:=hC _ _ _ _ H;obtain ⟨⟨fn,h1,h2,h3⟩,h4⟩:=hS;have h5:=h4 vs (PC K ν S F) w ⟨ν,F,S,as,_,hv,R,H,fun v h' hp=>Hz hp⟩;simp only [callFunc,Sem.run_bind,run_program,Result.andThen_ok,h1,h2,h3,Bool.false_eq_true,if_false,Sem.run_pure];exact ⟨Same.refl w,h5⟩
theorem HD {s d:Nat} {x:Operand} {o:Oper} {w:World} (ho:o.op= .convert s d x) (hA:Agree P τ) (R:Rel ν S F w.heap) (hx:VR ν (evS Γ x) (ev Γr x)) (H:markS τ s d (evS Γ x) S K):
  Out P (PC K ν S F) w ((execOp (ev Γr) o).run P w):=False.elim H
theorem DE {t:Nat} {x:Operand} {o:Oper} {w:World} (ho:o.op= .range t x) (hA:Agree P τ) (R:Rel ν S F w.heap) (hx:VR ν (evS Γ x) (ev Γr x)) (H:rangeS τ t (evS Γ x) S K):
  Out P (PC K ν S F) w ((execOp (ev Γr) o).run P w):=False.elim H
theorem HF {x:Operand} {o:Oper} {w:World} (ho:o.op= .next x true) (R:Rel ν S F w.heap) (hx:VR ν (evS Γ x) (ev Γr x)) (H:nextS (evS Γ x) S K):
  Out P (PC K ν S F) w ((execOp (ev Γr) o).run P w):=False.elim H
theorem HM {C:Ctx} {o:Oper} {w:World} (hA:Agree P C.τ) (hC:CallOk P C.call) (hM:MthOk P C.dF) (R:Rel ν S F w.heap) (hv: ∀ x ∈ o.op.operands.toList,VR ν (evS Γ x) (ev Γr x)) (H:opCS C o.op Γ S K):
  Out P (PC K ν S F) w ((execOp (ev Γr) o).run P w):=by
 have base: ∀ {rt:Nat},opC C.τ [] [] rt o.op Γr w.heap (PC K ν S F)->Out P (PC K ν S F) w ((execOp (ev Γr) o).run P w):=fun h=>tO hA dM dM h
 cases ho:o.op with
 | alloc e=>rw [ho] at H; exact base (rt:=0) (by rw [ho]; exact DA R H)
 | box e x=>rw [ho] at H hv; exact base (rt:=0) (by rw [ho]; exact KA R (hv x (by simp [Op.operands])) H)
 | buildSlice t n ps=>rw [ho] at H hv; exact base (rt:=0) (by rw [ho]; exact sP R (fun p hp=>hv p.2 (by simp only [Op.operands]; exact List.mem_map.2 ⟨p,hp,rfl⟩)) H)
 | store t a x=>rw [ho] at H hv; exact base (rt:=0) (by rw [ho]; exact DB R (hv a (by simp [Op.operands])) (hv x (by simp [Op.operands])) H)
 | range t x=>rw [ho] at H hv; exact DE ho hA R (hv x (by simp [Op.operands])) H
 | next x b=>
  rw [ho] at H hv
  cases b with
  | false=>exact H.elim
  | true=>exact HF ho R (hv x (by simp [Op.operands])) H
 | convert s d x=>rw [ho] at H hv; exact HD ho hA R (hv x (by simp [Op.operands])) H
 | makeMap t x=>rw [ho] at H hv; exact base (rt:=0) (by rw [ho]; exact zl R (fun y hy=>hv y (by subst hy; simp [Op.operands])) H)
 | mapUpdate t m k x=>rw [ho] at H hv; exact base (rt:=0) (by rw [ho]; exact tC R (hv m (by simp [Op.operands])) (hv k (by simp [Op.operands])) (hv x (by simp [Op.operands])) H)
 | makeSlice t l c=>rw [ho] at H hv; exact base (rt:=0) (by rw [ho]; exact tw R (hv l (by simp [Op.operands])) (hv c (by simp [Op.operands])) H)
 | call c=>
  rw [ho] at H hv;obtain ⟨callee,args,ats⟩:=c;have hargs: ∀ x ∈ args.toList,VR ν (evS Γ x) (ev Γr x):=fun x hx=>hv x (by simp only [Op.operands,Call.operands,Array.toList_append]; exact List.mem_append_right _ hx)
  cases callee with
  | builtin b=>
   cases b with
   | append=>
    simp only [opCS] at H;split at H
    ·rename_i s x t u e1 e2
     have a1:=Array.PI e1;have a2:=Array.PI e2;subst a1 a2;exact base (rt:=0) (by rw [ho]; exact Bf R (hargs s (by simp)) (hargs x (by simp)) H)
    ·exact H.elim
   | copy=>
    simp only [opCS] at H;split at H
    ·rename_i s x t u e1 e2
     have a1:=Array.PI e1;have a2:=Array.PI e2;subst a1 a2;exact base (rt:=0) (by rw [ho]; exact Hy R (hargs s (by simp)) (hargs x (by simp)) H)
    ·exact H.elim
   | clear=>
    simp only [opCS] at H;split at H
    ·rename_i x t l e1 e2
     exact base (rt:=0) (by rw [ho]; exact DD e1 e2 R (hargs x (by rw [e1]; simp)) H)
    ·exact H.elim
   | delete=>
    simp only [opCS] at H;split at H
    ·rename_i m k t l e1 e2
     exact base (rt:=0) (by rw [ho]; exact Bg e1 e2 R (hargs m (by rw [e1]; simp)) (hargs k (by rw [e1]; simp)) H)
    ·exact H.elim
   | _=>exact H.elim
  | value x=>
   have hx:VR ν (evS Γ x) (ev Γr x):=hv x (by simp [Op.operands,Call.operands]);have hmap:VRL ν (args.toList.map (evS Γ)) (args.toList.map (ev Γr)):=VRL.map hargs
   cases x with
   | func f=>
    have:=nZ hC H hmap R;simp only [execOp,ho,resolve,ev,Deferred.ofValue,invoke,Sem.run_bind,Sem.run_pure,Result.andThen_ok];have e:(Array.map (ev Γr) args++ #[])=(args.toList.map (ev Γr)).toArray:=by apply Array.ext'; simp
    simpa [e] using this
   | _=>
    simp only [opCS,callVS] at H;split at H
    ·rename_i f cs e
     rw [e] at hx;simp only [VR] at hx;obtain ⟨us,hu,hx⟩:=hx;have:=nZ hC H (hmap.append hu) R;simp only [execOp,ho,resolve,hx,Deferred.ofValue,invoke,Sem.run_bind,Sem.run_pure,Result.andThen_ok];have e:(#[]++Array.map (ev Γr) args++us.toArray)=(args.toList.map (ev Γr)++us).toArray:=by apply Array.ext'; simp
     rw [e]; exact this
    ·exact H.elim
  | invoke x m=>
   have hx:VR ν (evS Γ x) (ev Γr x):=hv x (by simp [Op.operands,Call.operands]);have hmap:VRL ν (args.toList.map (evS Γ)) (args.toList.map (ev Γr)):=VRL.map hargs
   exact False.elim H
 | _=>rw [ho] at H; exact H.elim
end Go.Ey
namespace Go.Ey
open Go Go.Wc
variable {ds:List Deferred} {P:Program} {K:KS} {ν:Nu} {S:SH} {F:Fr} {h:Hp} {τ:Tys} {Γ:Tr SV} {Γr:Env} {C:Ctx}
noncomputable def putS (dst:Option Nat) (v:SV) (Γ:Tr SV):Tr SV:=match dst with
 | some d=>Γ.set v d
 | none=>Γ
noncomputable def opsOkS (n:Nat) (Γ:Tr SV) (o:Oper):Bool:=dstOk n o.dst && o.op.operands.toList.all (presS Γ)
noncomputable def stepU (C:Ctx) (n:Nat) (o:Oper) (Γ:Tr SV) (S:SH) (K:(SH->Bool)->Tr SV->SH->Prop):Prop:=
 bif opsOkS n Γ o then opXS C o.op Γ S fun g s S'=>K g (putS o.dst s Γ) S' else False
noncomputable def gdU (ops:List Oper) (o:Oper) (Γ:Tr SV) (exec skip:Prop):Prop:=
 match o.guard with
 | none=>exec
 | some (j,want)=>match ops[j]? with
  | none=>False
  | some g=>match g.dst with
   | none=>False
   | some d=>match Γ.get d with
    | some (.bool b)=>brA b (cnd want exec skip) (cnd want skip exec)
    | some .undef=>skip
    | _=>False
def FitsU (ds:List Deferred) (n:Nat) (ν:Nu) (Γ:Tr SV) (a:Act):Prop:=a.tmps.size=n/\a.defers=ds/\ ∀ t s,Γ.get t=some s-> ∃ v,a.tmps[t]? =some v/\VR ν s v
theorem FitsU.mono {ν ν':Nu} {n:Nat} {a:Act} (hf:FitsU ds n ν Γ a) (hL:NLe ν ν'):FitsU ds n ν' Γ a:=
 ⟨hf.1,hf.2.1,fun t s hs=>let ⟨v,h1,h2⟩:=hf.2.2 t s hs; ⟨v,h1,VR.mono hL _ h2⟩⟩
theorem FitsU.put {n:Nat} {a:Act} (hf:FitsU ds n ν Γ a) (hn:n<1048575) {d:Option Nat} (hd:dstOk n d=true) {s:SV} {v:Value} (hv:VR ν s v):FitsU ds n ν (putS d s Γ) (a.put d v):=by
 cases d with
 | none=>exact hf
 | some d=>
  obtain ⟨h1,h2,h3⟩:=hf;have hlt:d<n:=by simpa [dstOk,Nat.blt_eq] using hd
  refine ⟨by simp [Act.put,h1],h2,fun t u hu=> ?_⟩;simp only [putS] at hu;rw [Tr.ku _ _ _ _ (by omega)] at hu
  by_cases e:d=t
  ·subst e
   rw [if_pos rfl] at hu;cases hu;exact ⟨v,by simp [Act.put,h1,hlt],hv⟩
  ·rw [if_neg e] at hu
   obtain ⟨w,g1,g2⟩:=h3 t u hu;refine ⟨w, ?_,g2⟩;simp only [Act.put];rw [Array.getElem?_setIfInBounds_ne e];exact g1
theorem sR: ∀ (l:List Value) (i t:Nat) (v:Value),l[t]? =some v->Env.find (argEnv i l) (i+t)=some v
 | [],_,_,_,h=>by simp at h
 | x::l,i,0,v,h=>by
  simp at h; subst h
  simp [argEnv,Env.find]
 | x::l,i,t+1,v,h=>by
  simp at h;have:=sR l (i+1) t v h;simp only [argEnv,Env.find]
  have e:Nat.beq i (i+(t+1))=false:=by
   cases hb:Nat.beq i (i+(t+1)) with
   | false=>rfl
   | true=>have:=Nat.eq_of_beq_eq_true hb; omega
  rw [e];rw [show i+(t+1)=i+1+t from by omega];exact this
def envOf (a:Act):Env:=argEnv 0 a.tmps.toList
theorem HN {n:Nat} {a:Act} (h1:a.tmps.size=n) (h2:a.defers=[]):Fits [] n (envOf a) a:=by refine ⟨h1,h2,fun t v hv=> ?_⟩;obtain ⟨_,h⟩:=iB _ _ _ _ hv;simpa using h
theorem jm {n:Nat} {a:Act} (h1:a.tmps.size=n) {x:Operand} (hx:present (envOf a) x=true):a.eval x=ev (envOf a) x:=by have:=(HN (a:=⟨a.tmps,[]⟩) h1 rfl).eval (x:=x) hx;cases x <;> exact this
theorem sS {n:Nat} {a:Act} (h1:a.tmps.size=n) {o:Oper} (hs: ∀ cs b,o.op ≠ .select cs b) (hx:o.op.operands.toList.all (present (envOf a))=true):execOp a.eval o=execOp (ev (envOf a)) o:=
 execOp_congr o hs fun x hm=>jm h1 (by rw [List.all_eq_true] at hx; exact hx x (by simpa using hm))
theorem FitsU.env {n:Nat} {a:Act} (hf:FitsU ds n ν Γ a):EnvR ν Γ (envOf a):=fun t s hs=>by obtain ⟨v,h1,h2⟩:=hf.2.2 t s hs;exact ⟨v,by have:=sR a.tmps.toList 0 t v (by simpa using h1); simpa [envOf] using this,h2⟩
theorem mR {n:Nat} {o:Oper} {a:Act} (hf:FitsU ds n ν Γ a) (hok:o.op.operands.toList.all (presS Γ)=true):
  (∀ x ∈ o.op.operands.toList,VR ν (evS Γ x) (ev (envOf a) x))/\o.op.operands.toList.all (present (envOf a))=true:=by
 rw [List.all_eq_true] at hok;refine ⟨fun x hx=>iO hf.env (hok x hx), ?_⟩;rw [List.all_eq_true];exact fun x hx=>jl hf.env (hok x hx)
theorem HO {o:Oper} {w:World} (hA:Agree P C.τ) (hC:CallOk P C.call) (hM:MthOk P C.dF) (R:Rel ν S F w.heap) (hv: ∀ x ∈ o.op.operands.toList,VR ν (evS Γ x) (ev Γr x)) (H:opXS C o.op Γ S K):
  Out P (PC K ν S F) w ((execOp (ev Γr) o).run P w):=by
 unfold opXS at H
 cases hr:(isR o.op || readsConv C.τ o.op) with
 | false=>rw [hr] at H; exact HM hA hC hM R hv H
 | true=> rw [hr] at H;obtain ⟨f,v,h1,h2,h3⟩:=jF (P:=P) hA (qo (h:=w.heap) R hv H);rw [h3 w h2];obtain ⟨s,g,k1,k2,k3⟩:=h1;exact ⟨Same.refl w,ν,s,g,S,k1,k2,NLe.refl ν,SLe.refl S,R⟩
def NX (ds:List Deferred) (n:Nat) (ν:Nu) (S:SH) (F:Fr) (w:World) (K:Tr SV->SH->Prop) (a':Act) (w':World):Prop:=
 ∃ ν' Γ' S',FitsU ds n ν' Γ' a'/\Same w w'/\NLe ν ν'/\SLe S S'/\Rel ν' S' F w'.heap/\K Γ' S'
theorem Bh {rt:List SV} {cs:Array SelectCase} {b:Bool} (H:opXS C (.select cs b) Γ S K):False:=by simp only [opXS,isR,readsConv,Bool.or_self,cond_false,opCS] at H
theorem n6 {n:Nat} {o:Oper} {KU:(SH->Bool)->Tr SV->SH->Prop} {a:Act} {w:World} {next:Act->World->Prop} {Q:Exit->Act->World->Prop}
  (hA:Agree P C.τ) (hC:CallOk P C.call) (hM:MthOk P C.dF) (hn:n<1048575) (hf:FitsU ds n ν Γ a) (R:Rel ν S F w.heap)
  (k: ∀ a' w',NX ds n ν S F w (fun Γ' S'=> ∃ g,KU g Γ' S') a' w'->next a' w') (H:stepU C n o Γ S KU):o.wp P a w next Q:=by
 unfold stepU at H
 cases hok:opsOkS n Γ o with
 | false=>rw [hok] at H; exact H.elim
 | true=>
  rw [hok] at H; simp only [cond_true] at H;simp only [opsOkS,Bool.and_eq_true] at hok;have hsel: ∀ cs b,o.op ≠ .select cs b:=fun cs b e=>by rw [e] at H; exact Bh (rt:=[]) H
  obtain ⟨hv,hp⟩:=mR hf hok.2;have hout:=HO (P:=P) hA hC hM R hv H;unfold Oper.wp;rw [sS hf.1 hsel hp];generalize (execOp (ev (envOf a)) o).run P w=r at hout
  have go: ∀ {v:Value} {w':World},Same w w'->PC (fun g s S'=>KU g (putS o.dst s Γ) S') ν S F v w'.heap->next (a.put o.dst v) w':=by rintro v w' hs ⟨ν',s,g,S',k1,k2,k3,k4,k5⟩;exact k _ _ ⟨ν',_,S',(hf.mono k3).put hn hok.1 k2,hs,k3,k4,k5,g,k1⟩
  unfold Out at hout;split at hout
  ·exact go hout.1 hout.2
  ·exact go hout.1 hout.2
  ·obtain ⟨h1,h2⟩:=hout
   refine Calls.mono h2 fun e w'' ⟨v,he,hs,hk⟩=> ?_;subst he;exact go (h1.trans hs) hk
  ·exact hout.elim
theorem lF {n:Nat} {ops:List Oper} {o:Oper} {a:Act} {exec skip:Prop} (hf:FitsU ds n ν Γ a) (H:gdU ops o Γ exec skip):
  (Region.wanted o (yielded ops.toArray a.tmps)=true/\exec)\/(Region.wanted o (yielded ops.toArray a.tmps)=false/\skip):=by
 unfold gdU at H;split at H
 ·rename_i hg; exact .inl ⟨by simp [Region.wanted,hg],H⟩
 ·rename_i j want hg
  split at H
  ·exact H.elim
  rename_i g hgj;split at H
  ·exact H.elim
  rename_i d hd;split at H
  ·rename_i b hb
   obtain ⟨v,h1,h2⟩:=hf.2.2 d _ hb;simp only [VR] at h2;subst h2
   have hy:yielded ops.toArray a.tmps j=some b:=by simp only [yielded,List.getElem?_toArray,hgj,Option.bind_some,hd,h1]
   rw [DP] at H;cases b <;> cases want <;> simp only [ak,aa,cnd] at H
   ·exact .inl ⟨by simp [Region.wanted,hg,hy],H⟩
   ·exact .inr ⟨by simp [Region.wanted,hg,hy],H⟩
   ·exact .inr ⟨by simp [Region.wanted,hg,hy],H⟩
   ·exact .inl ⟨by simp [Region.wanted,hg,hy],H⟩
  ·rename_i hb
   obtain ⟨v,h1,h2⟩:=hf.2.2 d _ hb;simp only [VR] at h2;subst h2
   have hy:yielded ops.toArray a.tmps j=none:=by simp only [yielded,List.getElem?_toArray,hgj,Option.bind_some,hd,h1];rfl
   exact .inr ⟨by simp [Region.wanted,hg,hy],H⟩
  ·exact H.elim
noncomputable def WSeqU (C:Ctx) (n:Nat) (ops:List Oper):List Oper->Tr SV->SH->(Tr SV->SH->Prop)->Prop
 | [],Γ,S,K=>K Γ S
 | o::r,Γ,S,K=>gdU ops o Γ (stepU C n o Γ S fun _ Γ' S'=>WSeqU C n ops r Γ' S' K) (bif dstOk n o.dst then WSeqU C n ops r (putS o.dst .undef Γ) S K else False)
theorem lG {n:Nat} {ops:List Oper} {Q:Exit->Act->World->Prop} (hA:Agree P C.τ) (hC:CallOk P C.call) (hM:MthOk P C.dF) (hn:n<1048575):
  ∀ {l:List Oper} {Γ:Tr SV} {ν:Nu} {S:SH} {K:Tr SV->SH->Prop} {a:Act} {w:World},FitsU ds n ν Γ a->Rel ν S F w.heap->(∀ a' w',NX ds n ν S F w K a' w'->Q .normal a' w')->
   WSeqU C n ops l Γ S K->wpList P ops.toArray Q l a w
 | [],Γ,ν,S,K,a,w,hf,R,hQ,H=>hQ _ _ ⟨ν,Γ,S,hf,Same.refl w,NLe.refl ν,SLe.refl S,R,H⟩
 | o::l,Γ,ν,S,K,a,w,hf,R,hQ,H=>by
  unfold WSeqU at H;unfold wpList;rcases lF hf H with ⟨hw,H⟩ | ⟨hw,H⟩
  ·rw [if_pos hw]
   refine .inl (n6 hA hC hM hn hf R (fun a' w' ⟨ν',Γ',S',h1,h2,h3,h4,h5,g,h6⟩=> ?_) H);exact lG hA hC hM hn h1 h5 (fun a3 w3 ⟨ν3,Γ3,S3,k1,k2,k3,k4,k5,k6⟩=>hQ _ _ ⟨ν3,Γ3,S3,k1,h2.trans k2,h3.trans k3,h4.trans k4,k5,k6⟩) h6
  ·rw [if_neg (by rw [hw]; simp)]
   cases hd:dstOk n o.dst with
   | false=>rw [hd] at H; exact H.elim
   | true=>rw [hd] at H; exact lG hA hC hM hn (hf.put hn hd (by simp only [VR])) R hQ H
end Go.Ey
namespace Go.Ey
open Go Go.Wc
variable {ds:List Deferred} {P:Program} {ν:Nu} {S:SH} {F:Fr} {h:Hp} {τ:Tys} {Γ:Tr SV} {C:Ctx}
abbrev FactsU:=List (List Nat × (SH->Bool))
def keepU (j:Nat):FactsU->FactsU
 | []=>[]
 | (D,f)::r=>bif memN j D then keepU j r else (D,f)::keepU j r
def allU:FactsU->SH->Bool
 | [],_=>true
 | (_,f)::r,S=>f S && allU r S
noncomputable def WPlU (C:Ctx) (n:Nat) (ops:List Oper):Plan->Tr SV->SH->FactsU->(Tr SV->SH->Prop)->Prop
 | .done,Γ,S,_,K=>K Γ S
 | .take i D p,Γ,S,Fs,K=>match ops[i]? with
  | none=>False
  | some o=>gdU ops o Γ (bif opsOkS n Γ o then opRS C.τ o.op Γ S fun g s S'=>WPlU C n ops p (putS o.dst s Γ) S' ((D,g)::Fs) K else False)
    (bif dstOk n o.dst then WPlU C n ops p (putS o.dst .undef Γ) S Fs K else False)
 | .all r,Γ,S,Fs,K=>WPlU C n ops r Γ S Fs K
 | .alt i p r,Γ,S,Fs,K=>
  let X:=match ops[i]? with
   | none=>False
   | some o=>gdU ops o Γ (stepU C n o Γ S fun _ Γ' S'=>bif allU (keepU i Fs) S' then WPlU C n ops p Γ' S' (keepU i Fs) K else False)
     (bif dstOk n o.dst then WPlU C n ops p (putS o.dst .undef Γ) S (keepU i Fs) K else False)
  match r with
  | .nil=>X
  | _=>X/\WPlU C n ops r Γ S Fs K
 | .nil,_,_,_,_=>True
def Tra (ν:Nu) (S:SH) (g:SH->Bool) (fc:Hp->Prop):Prop:= ∀ F' ν' S' h',NLe ν ν'->SLe S S'->Rel ν' S' F' h'->g S'=true->fc h'
def FR (ν:Nu) (S:SH):FactsU->Facts->Prop
 | [],Fa=>Fa=[]
 | (D,g)::r,Fa=> ∃ fc Fb,Fa=(D,fc)::Fb/\Tra ν S g fc/\FR ν S r Fb
theorem FR.mono {ν':Nu} {S':SH} (h1:NLe ν ν') (h2:SLe S S'): ∀ {Fs:FactsU} {Fa:Facts},FR ν S Fs Fa->FR ν' S' Fs Fa
 | [],_,H=>H
 | (D,g)::r,Fa,⟨fc,Fb,e,t,H⟩=>⟨fc,Fb,e,fun F' ν'' S'' h' k1 k2 k3 k4=>t F' ν'' S'' h' (h1.trans k1) (h2.trans k2) k3 k4,FR.mono h1 h2 H⟩
theorem FR.keep {j:Nat}: ∀ {Fs:FactsU} {Fa:Facts},FR ν S Fs Fa->FR ν S (keepU j Fs) (keepF j Fa)
 | [],_,H=>by have H:_=[]:=H; subst H; rfl
 | (D,g)::r,Fa,⟨fc,Fb,e,t,H⟩=>by
  subst e;simp only [keepU,keepF]
  cases memN j D with
  | true=>exact FR.keep H
  | false=>exact ⟨fc,_,rfl,t,FR.keep H⟩
theorem FR.all {ν':Nu} {S':SH} {F':Fr} {h':Hp} (h1:NLe ν ν') (h2:SLe S S') (h3:Rel ν' S' F' h'): ∀ {Fs:FactsU} {Fa:Facts},FR ν S Fs Fa->allU Fs S'=true-> ∀ q ∈ Fa,q.2 h'
 | [],_,H,_,q,hq=>by have H:_=[]:=H; subst H; cases hq
 | (D,g)::r,Fa,⟨fc,Fb,e,t,H⟩,ha,q,hq=>by
  subst e;simp only [allU,Bool.and_eq_true] at ha;rcases List.mem_cons.1 hq with rfl | hq
  ·exact t F' ν' S' h' h1 h2 h3 ha.1
  ·exact FR.all h1 h2 h3 H ha.2 q hq
theorem gw {n:Nat} {ops:List Oper} {Q:Exit->Act->World->Prop} (hA:Agree P C.τ) (hC:CallOk P C.call) (hM:MthOk P C.dF) (hn:n<1048575)
  (hsel:Region.noSelect ops.toArray=true) (hQ: ∀ c a w,¬ Q (.panic c) a w) {w0:World} {ν0:Nu} {S0:SH} {K:Tr SV->SH->Prop}
  (hK: ∀ ν' Γ' S' a' w',FitsU ds n ν' Γ' a'->Same w0 w'->NLe ν0 ν'->SLe S0 S'->Rel ν' S' F w'.heap->K Γ' S'->Q .normal a' w'):
  ∀ (p:Plan) {Γ:Tr SV} {ν:Nu} {S:SH} {Fs:FactsU} {Fa:Facts} {a:Act} {w:World} {fuel:Nat} {l:Array Bool} {Ds:List Nat},FitsU ds n ν Γ a->Same w0 w->NLe ν0 ν->SLe S0 S->Rel ν S F w.heap->FR ν S Fs Fa->Cl ops.toArray l->
   (∀ q ∈ Fa,∀ d ∈ q.1,d ∈ Ds)->planOk ops.toArray p fuel l Ds=true->(∀ q ∈ Fa,q.2 w.heap)->WPlU C n ops p Γ S Fs K->
   (shutP p=true->wpAnyG P ops.toArray Q (SF Fa) fuel l a w)/\
   (∀ i ∈ altIds p,i ∈ Region.ready .any ops.toArray l->wpOp P ops.toArray Q i (fun a' w'=>SF Fa (l.setIfInBounds i true) w'/\wpAnyG P ops.toArray Q (SF Fa) fuel (l.setIfInBounds i true) a' w') a w)
 | .nil,Γ,ν,S,Fs,Fa,a,w,fuel,l,Ds,_,_,_,_,_,_,_,_,_,_,_=>⟨fun h=>by simp [shutP] at h,fun i hi=>by simp [altIds] at hi⟩
 | .done,Γ,ν,S,Fs,Fa,a,w,fuel,l,Ds,hf,hs,hN,hL,R,hFR,hc,hDs,hp,hS,H=>by
  refine ⟨fun _=> ?_,fun i hi=>by simp [altIds] at hi⟩;simp only [planOk,List.isEmpty_iff] at hp;have hq:=hK _ _ _ _ _ hf hs hN hL R H
  cases fuel with
  | zero=>exact ⟨hp,hq⟩
  | succ f=>exact ⟨fun _=>hq,fun i hi=>by rw [hp] at hi; cases hi⟩
 | .all r,Γ,ν,S,Fs,Fa,a,w,fuel,l,Ds,hf,hs,hN,hL,R,hFR,hc,hDs,hp,hS,H=>by
  refine ⟨fun _=> ?_,fun i hi=>by simp [altIds] at hi⟩
  cases fuel with
  | zero=>simp [planOk] at hp
  | succ f=>
   simp only [planOk,Bool.and_eq_true,beq_iff_eq,Bool.not_eq_true',List.isEmpty_eq_false_iff] at hp;obtain ⟨⟨h1,h2⟩,h3⟩:=hp;have ih:=(gw hA hC hM hn hsel hQ hK r hf hs hN hL R hFR hc hDs h3 hS H).2
   refine ⟨fun h0=>absurd (h1.trans h0) h2,fun i hi=>ih i (h1 ▸ hi) hi⟩
 | .alt i p r,Γ,ν,S,Fs,Fa,a,w,fuel,l,Ds,hf,hs,hN,hL,R,hFR,hc,hDs,hp,hS,H=>by
  refine ⟨fun h=>by simp [shutP] at h,fun j hj hr=> ?_⟩;simp only [planOk,Bool.and_eq_true] at hp
  have Hr:j ∈ altIds r->WPlU C n ops r Γ S Fs K:=by
   intro hjr;unfold WPlU at H
   cases r with
   | nil=>simp [altIds] at hjr
   | _=>exact H.2
  have HX:match ops[i]? with
    | none=>False
    | some o=>gdU ops o Γ (stepU C n o Γ S fun _ Γ' S'=>bif allU (keepU i Fs) S' then WPlU C n ops p Γ' S' (keepU i Fs) K else False)
      (bif dstOk n o.dst then WPlU C n ops p (putS o.dst .undef Γ) S (keepU i Fs) K else False):=by
   unfold WPlU at H
   cases r with
   | nil=>exact H
   | _=>exact H.1
  by_cases hji:j=i
  ·subst hji
   obtain ⟨_,o,ho,_⟩:=mem_ready.1 hr;have ho':ops[j]? =some o:=by simpa using ho
   rw [ho'] at HX
   have hjl:j<l.size:=by
    have:=(mem_ready.1 hr).1;rcases Nat.lt_or_ge j l.size with h' | h'
    ·exact h'
    ·simp [Array.getElem?_eq_none h'] at this
   have hjt:(l.setIfInBounds j true).getD j false=true:=by simp [hjl]
   have hcj:=hc.set hr
   have go: ∀ {Γ':Tr SV} {ν':Nu} {S':SH} {a':Act} {w':World},FitsU ds n ν' Γ' a'->Same w0 w'->NLe ν ν'->SLe S S'->Rel ν' S' F w'.heap->(∀ q ∈ keepF j Fa,q.2 w'.heap)->WPlU C n ops p Γ' S' (keepU j Fs) K->
     SF Fa (l.setIfInBounds j true) w'/\wpAnyG P ops.toArray Q (SF Fa) fuel (l.setIfInBounds j true) a' w':=by
    intro Γ' ν' S' a' w' hf' hs' hN' hL' R' hq' hW;refine ⟨qb hjt (Bp hq'), ?_⟩;have ih:=gw hA hC hM hn hsel hQ hK p hf' hs' (hN.trans hN') (hL.trans hL') R' ((hFR.keep (j:=j)).mono hN' hL') hcj (fun q hq=>hDs q (iW hq)) hp.1.2 hq' hW;exact eJ _ _ _ _ (fun l' w hl' h=>qb (hl' j hjt) h) (ih.1 hp.1.1)
   unfold wpOp;simp only [ho];rcases lF hf HX with ⟨hw,HX⟩ | ⟨hw,HX⟩
   ·rw [if_pos hw]
    refine .inl (n6 hA hC hM hn hf R (fun a' w' ⟨ν',Γ',S',k1,k2,k3,k4,k5,g,k6⟩=> ?_) HX)
    cases ha:allU (keepU j Fs) S' with
    | false=>rw [ha] at k6; exact k6.elim
    | true=> rw [ha] at k6;exact go k1 (hs.trans k2) k3 k4 k5 (FR.all k3 k4 k5 (hFR.keep (j:=j)) ha) k6
   ·rw [if_neg (by rw [hw]; simp)]
    cases hd:dstOk n o.dst with
    | false=>rw [hd] at HX; exact HX.elim
    | true=> rw [hd] at HX;exact go (hf.put hn hd (by simp only [VR])) hs (NLe.refl ν) (SLe.refl S) R (fun q hq=>hS q (iW hq)) HX
  ·have hjr:j ∈ altIds r:=by
    simp only [altIds,List.mem_cons] at hj;exact hj.resolve_left hji
   exact (gw hA hC hM hn hsel hQ hK r hf hs hN hL R hFR hc hDs hp.2 hS (Hr hjr)).2 j hjr hr
 | .take i D p,Γ,ν,S,Fs,Fa,a,w,fuel,l,Ds,hf,hs,hN,hL,R,hFR,hc,hDs,hp,hS,H=>by
  refine ⟨fun _=> ?_,fun i hi=>by simp [altIds] at hi⟩
  cases fuel with
  | zero=>simp [planOk] at hp
  | succ f=>
   simp only [planOk,Bool.and_eq_true,Bool.not_eq_true'] at hp;obtain ⟨⟨⟨⟨⟨⟨p1,p2⟩,p3⟩,p4⟩,p5⟩,p6⟩,p7⟩:=hp;have hiDs:i ∉ Ds:=fun h=>by rw [<- cG,p3] at h; cases h
   have hiD:i ∉ D:=fun h=>by rw [<- cG,p4] at h; cases h
   have hready:i ∈ Region.ready .any ops.toArray l:=by simpa using p2
   unfold WPlU at H;split at H
   ·exact H.elim
   rename_i o ho;have ho':ops.toArray[i]? =some o:=by simpa using ho
   have hcs:=hc.set hready
   have hDd: ∀ d ∈ D,∃ n,descB ops.toArray n i d=true:=fun d hd=>⟨_,by rw [List.all_eq_true] at p5; exact p5 d hd⟩
   have hSi: ∀ l w,SF Fa (l.setIfInBounds i true) w↔SF Fa l w:=fun l w=>by
    have e: ∀ q ∈ Fa,∀ d ∈ q.1,(l.setIfInBounds i true).getD d false=l.getD d false:=fun q hq d hd=>
     getD_set_ne false (fun e=>hiDs (e ▸ hDs q hq d hd))
    constructor
    ·intro h q hq hd; exact h q hq fun d hdq=>by rw [e q hq d hdq]; exact hd d hdq
    ·intro h q hq hd; exact h q hq fun d hdq=>by rw [<- e q hq d hdq]; exact hd d hdq
   have hQ': ∀ (v:Value) (c:List PanicEntry) (a:Act) (w:World),Q (.panic c) (a.put o.dst v) w->Q (.panic c) a w:=fun v c a w h=>absurd h (hQ _ _ _)
   have key: ∀ {fc:Hp->Prop} {v:Value} {Γ':Tr SV} {Fs':FactsU} {Fa':Facts},YieldsIf P ops.toArray (fun w=>fc w.heap) o v a->fc w.heap->FitsU ds n ν Γ' (a.put o.dst v)->FR ν S Fs' Fa'->
     (Fa'=(D,fc)::Fa\/(Fa'=Fa/\ ∀ h,fc h))->WPlU C n ops p Γ' S Fs' K->wpAnyG P ops.toArray Q (SF Fa) (f+1) l a w:=by
    intro fc v Γ' Fs' Fa' hy hfc hf' hFR' hF' hW;refine ng (f:=fun w=>fc w.heap) ho' (Region.noSelect_spec hsel) (hQ' v) hiD hDd hSi f l a w hc (Region.free_spec ho' p1) hready hy hfc (Bp hS) ?_;rcases hF' with rfl | ⟨rfl,hall⟩
    ·have ih:=(gw hA hC hM hn hsel hQ hK p hf' hs hN hL R hFR' hcs (fun q hq=>by
      rcases List.mem_cons.1 hq with rfl | hq
      ·exact fun d hd=>List.mem_append_left _ hd
      ·exact fun d hd=>List.mem_append_right _ (hDs q hq d hd)) p7 (fun q hq=>by
      rcases List.mem_cons.1 hq with rfl | hq
      ·exact hfc
      ·exact hS q hq) hW).1 p6
     exact eJ _ _ _ _ (fun l' w' _ h=>⟨fun q hq=>h q (List.mem_cons_of_mem _ hq),fun hd=>h _ List.mem_cons_self hd⟩) ih
    ·have ih:=(gw hA hC hM hn hsel hQ hK p hf' hs hN hL R hFR' hcs (fun q hq d hd=>List.mem_append_right _ (hDs q hq d hd)) p7 hS hW).1 p6
     exact eJ _ _ _ _ (fun l' w' _ h=>⟨h,fun _=>hall _⟩) ih
   rcases lF hf H with ⟨hw,H⟩ | ⟨hw,H⟩
   ·cases hok:opsOkS n Γ o with
    | false=>rw [hok] at H; exact H.elim
    | true=> rw [hok] at H; simp only [cond_true] at H;simp only [opsOkS,Bool.and_eq_true] at hok;have hsel': ∀ cs b,o.op ≠ .select cs b:=fun cs b=>Region.noSelect_spec hsel i o cs b ho';obtain ⟨hv,hpp⟩:=mR hf hok.2;obtain ⟨fc,v,h1,h2,h3⟩:=jF (P:=P) (o:=o) hA (qo (h:=w.heap) R hv H);obtain ⟨s,g,k1,k2,k3⟩:=h1;exact key (fc:=fc) (.inl ⟨hw,fun w' hw'=>by rw [sS hf.1 hsel' hpp]; exact h3 w' hw'⟩) h2 (hf.put hn hok.1 k2) (show FR ν S ((D,g)::Fs) ((D,fc)::Fa) from ⟨fc,Fa,rfl,k3,hFR⟩) (.inl rfl) k1
   ·cases hd:dstOk n o.dst with
    | false=>rw [hd] at H; exact H.elim
    | true=> rw [hd] at H; simp only [cond_true] at H;exact key (fc:=fun _=>True) (.inr ⟨hw,rfl⟩) trivial (hf.put hn hd (by simp only [VR])) hFR (.inr ⟨rfl,fun _=>trivial⟩) H
abbrev KontU:=Exit->Tr SV->SH->Prop
def isTake (τ:Tys) (ops:Array Oper) (i:Nat):Bool:=match ops[i]? with
 | some o=>isR o.op || readsConv τ o.op
 | none=>false
def mkPlan (τ:Tys) (ops:Array Oper):Nat->Array Bool->Plan
 | 0,_=> .done
 | k+1,l=>match Region.ready .any ops l with
  | []=> .done
  | r=>match r.find? (fun i=>isTake τ ops i && Region.free .any ops l i) with
   | some i=> .take i ((List.range ops.size).filter fun d=> !isTake τ ops d && descB ops ops.size i d) (mkPlan τ ops k (l.setIfInBounds i true))
   | none=> .all (r.foldr (fun i p=> .alt i (mkPlan τ ops k (l.setIfInBounds i true)) p) .nil)
def planFor (τ:Tys) (ops:Array Oper):Option Plan:=
 let p:=mkPlan τ ops ops.size (Array.replicate ops.size false)
 bif Region.noSelect ops && shutP p && planOk ops p ops.size (Array.replicate ops.size false) [] then some p else none
def thenU (next:Tr SV->SH->Prop) (K:KontU):KontU:=fun e Γ S=>match e with
 | .normal=>next Γ S
 | e=>K e Γ S
def blockU (id:Nat) (K:KontU):KontU:=fun e Γ S=>match e with
 | .exit id'=>bif Nat.beq id' id then K .normal Γ S else K (.exit id') Γ S
 | e=>K e Γ S
abbrev RunU:=Tr SV->SH->KontU->Prop
noncomputable def loopU (body:RunU):Nat->RunU
 | 0,_,_,_=>False
 | n+1,Γ,S,K=>body Γ S (thenU (fun Γ' S'=>loopU body n Γ' S' K) K)
noncomputable def condU (c:SV) (x y:Prop):Prop:=match c with
 | .bool b=>brA b x y
 | _=>False
noncomputable def WU (C:Ctx) (n lf:Nat):Code->RunU
 | .skip,Γ,S,K=>K .normal Γ S
 | .region _ ops draw,Γ,S,K=>bif draw then (match planFor C.τ ops with
   | some p=>WPlU C n ops.toList p Γ S [] fun Γ' S'=>K .normal Γ' S'
   | none=>False) else WSeqU C n ops.toList ops.toList Γ S fun Γ' S'=>K .normal Γ' S'
 | .seq a b,Γ,S,K=>WU C n lf a Γ S (thenU (fun Γ' S'=>WU C n lf b Γ' S' K) K)
 | .cond c x y,Γ,S,K=>bif presS Γ c then condU (evS Γ c) (WU C n lf x Γ S K) (WU C n lf y Γ S K) else False
 | .block id c,Γ,S,K=>WU C n lf c Γ S (blockU id K)
 | .loop c,Γ,S,K=>loopU (WU C n lf c) lf Γ S K
 | .exit id,Γ,S,K=>K (.exit id) Γ S
 | .ret,Γ,S,K=>K .ret Γ S
 | _,_,_,_=>False
def dpU (ds:List Deferred) (w0:World) (n:Nat) (ν:Nu) (S:SH) (F:Fr) (K:KontU):Exit->Act->World->Prop:=fun e a w=>match e with
 | .panic _=>False
 | .outgrown=>False
 | .goto _=>False
 | e=>NX ds n ν S F w0 (K e) a w
theorem NX.after {n:Nat} {ν ν1:Nu} {S S1:SH} {w0 w1 w:World} {K:Tr SV->SH->Prop} {a:Act} (h1:NLe ν ν1) (h2:SLe S S1) (hs:Same w0 w1) (h:NX ds n ν1 S1 F w1 K a w):NX ds n ν S F w0 K a w:=by obtain ⟨ν',Γ',S',k1,k2,k3,k4,k5,k6⟩:=h;exact ⟨ν',Γ',S',k1,hs.trans k2,h1.trans k3,h2.trans k4,k5,k6⟩
theorem dpU.after {n:Nat} {ν ν1:Nu} {S S1:SH} {w0 w1 w:World} {K:KontU} {a:Act} {e:Exit} (h1:NLe ν ν1) (h2:SLe S S1) (hs:Same w0 w1) (h:dpU ds w1 n ν1 S1 F K e a w):dpU ds w0 n ν S F K e a w:=by cases e <;> first | exact h.elim | exact NX.after h1 h2 hs h
def RunOk (P:Program) (n:Nat) (c:Code) (r:RunU):Prop:= ∀ Γ S K,r Γ S K-> ∀ ⦃ds:List Deferred⦄ (ν:Nu) (F:Fr) a w,FitsU ds n ν Γ a->Rel ν S F w.heap->c.wp P (dpU ds w n ν S F K) a w
theorem zm {n:Nat} {c:Code} {r:RunU} (hr:RunOk P n c r): ∀ k Γ S K,loopU r k Γ S K-> ∀ ν F a w,FitsU ds n ν Γ a->Rel ν S F w.heap->AtHead P c (dpU ds w n ν S F K) a w
 | 0,Γ,S,K,H,_,_,_,_,_,_=>H.elim
 | k+1,Γ,S,K,H,ν,F,a,w,hf,R=>by
  unfold loopU at H;refine mD (wp_mono (hr _ _ _ H ν F a w hf R) fun e a' w' he=> ?_)
  cases e with
  | normal=>
   obtain ⟨ν',Γ',S',k1,k2,k3,k4,k5,k6⟩:=he;have:=zm hr k Γ' S' K k6 ν' F a' w' k1 k5;intro b ks cs;obtain ⟨e2,a2,w2,q,ar⟩:=this b ks cs
   exact ⟨e2,a2,w2,dpU.after k3 k4 k2 q,ar⟩
  | _=>exact he
theorem U6 {n lf:Nat} (hA:Agree P C.τ) (hC:CallOk P C.call) (hM:MthOk P C.dF) (hn:n<1048575) (hm:P.follows .mixedOrders=true): ∀ c:Code,RunOk P n c (WU C n lf c):=by
 intro c
 induction c with
 | skip=>intro Γ S K H ds ν F a w hf R; exact wp_skip ⟨ν,Γ,S,hf,Same.refl w,NLe.refl ν,SLe.refl S,R,H⟩
 | exit id=>intro Γ S K H ds ν F a w hf R; exact wp_exit ⟨ν,Γ,S,hf,Same.refl w,NLe.refl ν,SLe.refl S,R,H⟩
 | ret=>intro Γ S K H ds ν F a w hf R; exact wp_ret ⟨ν,Γ,S,hf,Same.refl w,NLe.refl ν,SLe.refl S,R,H⟩
 | region id ops draw=>
  intro Γ S K H ds ν F a w hf R;simp only [WU] at H
  cases draw with
  | false=>
   simp only [cond_false] at H;refine wp_region_list ?_;have:=lG (P:=P) (Q:=dpU ds w n ν S F K) (F:=F) hA hC hM hn hf R (fun a' w' h=>h) H
   simpa using this
  | true=>
   simp only [cond_true] at H;split at H
   ·rename_i p hp
    unfold planFor at hp;simp only at hp
    cases hok:(Region.noSelect ops && shutP (mkPlan C.τ ops ops.size (Array.replicate ops.size false)) && planOk ops (mkPlan C.τ ops ops.size (Array.replicate ops.size false)) ops.size (Array.replicate ops.size false) []) with
    | false=>rw [hok] at hp; cases hp
    | true=>
     rw [hok] at hp;simp only [cond_true,Option.some.injEq] at hp;rw [hp] at hok;simp only [Bool.and_eq_true] at hok;refine wp_region_any hm (jY (S:=SF []) _ _ _ _ ?_)
     have D0:Cl ops (Array.replicate ops.size false):=fun x ox _ hl=>by
      exfalso;rcases Nat.lt_or_ge x ops.size with hx | hx
      ·simp [hx] at hl
      ·simp [Nat.not_lt.2 hx] at hl
     have:=(gw (P:=P) (Q:=dpU ds w n ν S F K) (ops:=ops.toList) (F:=F) (w0:=w) (ν0:=ν) (S0:=S) (K:=K .normal) hA hC hM hn (by simpa using hok.1.1) (fun c a w h=>h)
      (fun ν' Γ' S' a' w' h1 h2 h3 h4 h5 h6=>⟨ν',Γ',S',h1,h2,h3,h4,h5,h6⟩) p (Fs:=[]) (Fa:=[]) (a:=a) (w:= {w with drawn:=w.drawn+1}) (fuel:=ops.size) (l:=Array.replicate ops.size false) (Ds:=[])
      hf ⟨rfl,rfl,rfl⟩ (NLe.refl ν) (SLe.refl S) R rfl (by simpa using D0) (fun q hq=>by cases hq) (by simpa using hok.2) (fun q hq=>by cases hq) H).1 hok.1.2
     simpa using this
   ·exact H.elim
 | seq a b iha ihb=>
  intro Γ S K H ds ν F f w hf R;simp only [WU] at H;refine wp_seq (wp_mono (iha _ _ _ H ν F f w hf R) fun e a' w' he=> ?_)
  cases e with
  | normal=>
   obtain ⟨ν',Γ',S',k1,k2,k3,k4,k5,k6⟩:=he
   exact wp_mono (ihb _ _ _ k6 ν' F a' w' k1 k5) fun e2 a2 w2 h2=>dpU.after k3 k4 k2 h2
  | _=>exact he
 | cond c x y ihx ihy=>
  intro Γ S K H ds ν F f w hf R;simp only [WU] at H
  cases hp:presS Γ c with
  | false=>rw [hp] at H; exact H.elim
  | true=>
   rw [hp] at H;simp only [cond_true,condU] at H;split at H
   ·rename_i b hb
    have hv:=iO hf.env hp;rw [hb] at hv;simp only [VR] at hv;have he:f.eval c= .bool b:=by rw [jm hf.1 (jl hf.env hp),hv]
    cases b with
    | true=>exact wp_cond_true he (ihx _ _ _ H ν F f w hf R)
    | false=>exact wp_cond_false he (ihy _ _ _ H ν F f w hf R)
   ·exact H.elim
 | block id c ih=>
  intro Γ S K H ds ν F f w hf R;simp only [WU] at H;refine wp_block (wp_mono (ih _ _ _ H ν F f w hf R) fun e a' w' he=> ?_)
  cases e with
  | exit id'=>
   obtain ⟨ν',Γ',S',k1,k2,k3,k4,k5,k6⟩:=he;simp only [blockU] at k6;simp only [Exit.inBlock]
   by_cases hid:id'=id
   ·subst hid
    rw [if_pos rfl];simp at k6;exact ⟨ν',Γ',S',k1,k2,k3,k4,k5,k6⟩
   ·rw [if_neg hid]
    have:Nat.beq id' id=false:=by cases hb:Nat.beq id' id with
     | false=>rfl
     | true=>exact absurd (by simpa using hb) hid
    rw [this] at k6
    exact ⟨ν',Γ',S',k1,k2,k3,k4,k5,k6⟩
  | _=>exact he
 | loop c ih=>
  intro Γ S K H ds ν F f w hf R;simp only [WU] at H
  exact mC (zm ih _ _ _ _ H ν F f w hf R)
 | _=>intro Γ S K H; simp only [WU] at H
noncomputable def resU (τ:Tys) (Γ:Tr SV) (S:SH):List ResultVar->(List SV->Prop)->Prop
 | [],K=>K []
 | .tmp t::r,K=>match Γ.get t with
  | some s=>resU τ Γ S r fun l=>K (s::l)
  | none=>False
 | .cell a t::r,K=>match Γ.get a with
  | some s=>loadS τ t s S fun _ u _=>resU τ Γ S r fun l=>K (u::l)
  | none=>False
def oneS:List SV->SV
 | [s]=>s
 | l=> .tup l
noncomputable def retU (τ:Tys) (rs:List ResultVar) (K:SV->SH->Prop):KontU:=fun e Γ S=>match e with
 | .ret=>resU τ Γ S rs fun l=>K (oneS l) S
 | .normal=>resU τ Γ S rs fun l=>K (oneS l) S
 | _=>False
noncomputable def argT (n:Nat):List SV->Tr SV
 | []=> .e
 | s::l=>(argT (n+1) l).set s n
theorem sU: ∀ (l:List SV) (n t:Nat),n+l.length<1048575->(argT n l).get t=if n<=t then l[t - n]? else none
 | [],n,t,_=>by simp [argT]
 | s::l,n,t,h=>by
  simp only [List.length_cons] at h;rw [argT,Tr.ku _ _ _ _ (by omega),sU l (n+1) t (by omega)]
  by_cases e:n=t
  ·subst e; simp
  ·rw [if_neg e]
   by_cases e2:n+1<=t
   ·rw [if_pos e2,if_pos (by omega),show t - n=(t - (n+1))+1 from by omega,List.getElem?_cons_succ]
   ·rw [if_neg e2,if_neg (by omega)]
theorem DF {t:Nat} {s:SV} {Kl:SV->Prop} {v:Value} {w:World} (hA:Agree P τ) (hv:VR ν s v) (R:Rel ν S F w.heap) (H:loadS τ t s S fun _ u _=>Kl u):
  ∃ p v',v= .pointer (some p)/\(loadVar t p).run P w= .ok v' w/\ ∃ u,Kl u/\VR ν u v':=by
 obtain ⟨p,ti,e1,e2,h3⟩:=ld (K:=fun _ u _=>Kl u) H hv R;have hAt:=hA t ti e2
 cases hq:Wc.isAgg ti.kd with
 | true=>
  rw [hq] at h3
  cases hc:Nat.beq (ckns ti.gC) ti.size with
  | false=>rw [hc] at h3; exact h3.elim
  | true=>
   rw [hc] at h3;obtain ⟨f,us,g1,g2,g3,g4⟩:=jE h3;obtain ⟨u,_,k1,k2,_⟩:=g1
   exact ⟨p,_,e1,og hAt hq (by rw [g3]; simpa using hc) (fun j hj=>by simpa using g4 _ g2 j hj),u,k1,k2⟩
 | false=>
  rw [hq] at h3;simp only [cnd] at h3;split at h3
  ·obtain ⟨v',g1,g2⟩:=m5 h3
   obtain ⟨u,_,k1,k2,_⟩:=g2;exact ⟨p,_,e1,mw hAt hq g1,u,k1,k2⟩
  ·exact h3.elim
theorem Bi {n:Nat} {a:Act} {w:World} (hA:Agree P τ) (hf:FitsU ds n ν Γ a) (R:Rel ν S F w.heap) (g:ResultVar->Sem Value) (KM: ∀ t,g (.tmp t)=pure (a.tmps.getD t Go.undef))
  (wO: ∀ b t,g (.cell b t)=do loadVar t (<- asAddr (a.tmps.getD b Go.undef))): ∀ (rs:List ResultVar) (K:List SV->Prop),resU τ Γ S rs K->
  ∃ l vs,K l/\VRL ν l vs/\(rs.mapM g:Sem (List Value)).run P w= .ok vs w
 | [],K,H=>⟨[],[],H,rfl,rfl⟩
 | .tmp t::r,K,H=>by
  simp only [resU] at H;split at H
  case h_2=>exact H.elim
  rename_i s hs;obtain ⟨l,vs,h1,h2,h3⟩:=Bi hA hf R g KM wO r _ H;obtain ⟨v,k1,k2⟩:=hf.2.2 t s hs;refine ⟨_,v::vs,h1,VRL.cons k2 h2, ?_⟩;have:a.tmps.getD t Go.undef=v:=by simp [k1]
  simp only [List.mapM_cons,KM,Sem.run_bind,Sem.run_pure,Result.andThen_ok,h3,this]
 | .cell b t::r,K,H=>by
  simp only [resU] at H;split at H
  case h_2=>exact H.elim
  rename_i s hs;obtain ⟨v,k1,k2⟩:=hf.2.2 b s hs;obtain ⟨p,v',e1,e2,u,e3,e4⟩:=DF hA k2 R H;obtain ⟨l,vs,h1,h2,h3⟩:=Bi hA hf R g KM wO r _ e3;refine ⟨_,v'::vs,h1,VRL.cons e4 h2, ?_⟩;subst e1;have hb:(asAddr (a.tmps.getD b Go.undef)).run P w= .ok p w:=by simp [k1,asAddr]
  simp only [List.mapM_cons,wO,Sem.run_bind,hb,Sem.run_pure,Result.andThen_ok,e2,h3]
theorem KB {l:List SV} {vs:List Value} (h:VRL ν l vs):VR ν (oneS l) (if h:vs.toArray.size=1 then vs.toArray[0] else .tuple vs.toArray):=by
 match l,vs,h with
 | [],vs,h=>simp only [VRL] at h; subst h; simp only [oneS,VR]; exact ⟨[],rfl,rfl⟩
 | [s],vs,h=>
  simp only [VRL] at h;obtain ⟨v,w,h1,h2,rfl⟩:=h;subst h2
  exact h1
 | s::t::r,vs,h=> have h0:=h;simp only [VRL] at h;obtain ⟨v,w,h1,⟨v2,w2,h2,h3,rfl⟩,rfl⟩:=h;simp only [oneS,VR];exact ⟨_,h0,rfl⟩
theorem zn {n:Nat} {fn:Func} {a:Act} {w:World} {K:SV->Prop} (hA:Agree P τ) (hf:FitsU ds n ν Γ a) (R:Rel ν S F w.heap)
  (H:resU τ Γ S fn.results.toList fun l=>K (oneS l)): ∃ s v,(results fn a.tmps).run P w= .ok v w/\VR ν s v/\K s:=by
 obtain ⟨l,vs,h1,h2,h3⟩:=Bi (P:=P) hA hf R (fun
   | .tmp t=>pure (a.tmps.getD t Go.undef)
   | .cell b t=>do loadVar t (<- asAddr (a.tmps.getD b Go.undef))) (fun _=>rfl) (fun _ _=>rfl) _ _ H
 refine ⟨_,_, ?_,KB h2,h1⟩;simp only [results,Sem.run_bind,Array.mapM_eq_mapM_toList,Sem.run_map];have h4:=congrArg (fun r=>Result.andThen r fun a w'=>Result.ok (a.toArray:Array Value) w') h3;simp only [Result.andThen_ok] at h4;have h5:=congrArg (fun r=>Result.andThen r fun (a:Array Value) w'=>Sem.run P (pure (if h:a.size=1 then a[0] else Value.tuple a)) w') h4;exact h5
abbrev FT:=List (Nat × Func)
def FT.get:FT->Nat->Option Func
 | [],_=>none
 | (g,fn)::r,f=>bif Nat.beq g f then some fn else FT.get r f
def FOk (P:Program) (ft:FT):Prop:= ∀ f fn,ft.get f=some fn->P.funcs[f]? =some fn/\(fn.name== "runtime.NumGoroutine")=false
theorem Cs:FOk P []:=fun f fn h=>by simp [FT.get] at h
theorem aD {f:Nat} {fn:Func} {ft:FT} (h1:P.funcs[f]? =some fn) (h2:(fn.name== "runtime.NumGoroutine")=false) (h:FOk P ft):FOk P ((f,fn)::ft):=fun g gn hg=>by
 simp only [FT.get] at hg
 cases hb:Nat.beq f g with
 | true=>rw [hb] at hg; simp only [cond_true,Option.some.injEq] at hg; subst hg; have:=Nat.eq_of_beq_eq_true hb; subst this; exact ⟨h1,h2⟩
 | false=>rw [hb] at hg; exact h g gn hg
def mthB (P:Program) (x:Nat × String × Nat):Bool:=match P.info? x.1 with
 | some i=>match i.methods.find? (·.name==x.2.1) with
  | some r=>match r.path.toList,r.func,P.underlying x.1 with
   | [],some (g,true),some (.pointer _)=>Nat.beq g x.2.2
   | _,_,_=>false
  | none=>false
 | none=>false
theorem HT {dF:Mth} (h:dF.all (mthB P)=true):MthOk P dF:=by
 intro t m f hm;rw [List.all_eq_true] at h;have:=h _ hm;unfold mthB at this;split at this
 ·rename_i i hi
  split at this
  ·rename_i r hr
   split at this
   ·rename_i g e e1 e2 e3
    have:=Nat.eq_of_beq_eq_true this;subst this;exact ⟨i,r,e,hi,hr,by simpa using e1,e2,e3⟩
   ·cases this
  ·cases this
 ·cases this
end Go.Ey
namespace Go.Ey
open Go Go.Wc
variable {P:Program} {τ:Tys} {Γ:Tr SV} {C:Ctx}
noncomputable def pathF (f:Nat):Nat->List Bool:=
 Nat.rec (motive:=fun _=>Nat->List Bool) (fun _=>[]) (fun _ ih=>Nat.rec (motive:=fun _=>List Bool) [] (fun j _=>Nat.beq (Nat.mod j 2) 0::ih (Nat.div j 2))) f
noncomputable def getP:List Bool->Tr SV->Option SV:=
 List.rec (motive:=fun _=>Tr SV->Option SV) (Tr.rec (motive:=fun _=>Option SV) none (fun _ v _ _ _=>v))
  (fun b _ ih=>Tr.rec (motive:=fun _=>Option SV) none (fun l _ r _ _=>Bool.rec (motive:=fun _=>Option SV) (ih r) (ih l) b))
noncomputable def setP (v:SV):List Bool->Tr SV->Tr SV:=
 List.rec (motive:=fun _=>Tr SV->Tr SV) (Tr.rec (motive:=fun _=>Tr SV) (.n .e (some v) .e) (fun l _ r _ _=> .n l (some v) r))
  (fun b _ ih=>Tr.rec (motive:=fun _=>Tr SV) (Bool.rec (motive:=fun _=>Tr SV) (.n .e none (ih .e)) (.n (ih .e) none .e) b) (fun l u r _ _=>Bool.rec (motive:=fun _=>Tr SV) (.n l u (ih r)) (.n (ih l) u r) b))
theorem wB (j:Nat):Nat.beq (j % 2) 0=decide (j % 2=0):=by
 cases h:Nat.beq (j % 2) 0 with
 | true=>symm; simpa using h
 | false=>symm; rw [decide_eq_false_iff_not]; intro e; rw [e] at h; cases h
theorem wC: ∀ (f t:Nat) (Γ:Tr SV),t+1<2 ^ f->getP (pathF f t) Γ=Γ.get t
 | 0,t,_,h=>by simp at h
 | f+1,0, .e,_=>rfl
 | f+1,0, .n l v r,_=>rfl
 | f+1,j+1, .e,_=>rfl
 | f+1,j+1, .n l v r,h=>by
  have h2:j / 2+1<2 ^ f:=by rw [Nat.pow_succ] at h; omega
  rw [Tr.mq];show Bool.rec (motive:=fun _=>Option SV) (getP (pathF f (j / 2)) r) (getP (pathF f (j / 2)) l) (Nat.beq (j % 2) 0)=_;rw [wB]
  by_cases e:j % 2=0
  ·rw [if_pos e,decide_eq_true e]; exact wC f _ l h2
  ·rw [if_neg e,decide_eq_false e]; exact wC f _ r h2
theorem Bj (v:SV): ∀ (f t:Nat),t+1<2 ^ f->setP v (pathF f t) .e=setE v f t
 | 0,t,h=>by simp at h
 | f+1,0,_=>rfl
 | f+1,j+1,h=>by
  have h2:j / 2+1<2 ^ f:=by rw [Nat.pow_succ] at h; omega
  rw [Tr.wk];show Bool.rec (motive:=fun _=>Tr SV) (.n .e none (setP v (pathF f (j / 2)) .e)) (.n (setP v (pathF f (j / 2)) .e) none .e) (Nat.beq (j % 2) 0)=_;rw [wB]
  by_cases e:j % 2=0
  ·rw [if_pos e,decide_eq_true e,<- Bj v f _ h2]
  ·rw [if_neg e,decide_eq_false e,<- Bj v f _ h2]
theorem u0 (v:SV): ∀ (f g t:Nat),t+1<2 ^ f->f<=g->setE v g t=setE v f t
 | 0,g,t,h,_=>by simp at h
 | f+1,0,t,h,hg=>by omega
 | f+1,g+1,0,_,_=>rfl
 | f+1,g+1,j+1,h,hg=>by
  have h2:j / 2+1<2 ^ f:=by rw [Nat.pow_succ] at h; omega
  rw [Tr.wk,Tr.wk,u0 v f g _ h2 (by omega)]
theorem wD (v:SV): ∀ (f t:Nat) (Γ:Tr SV),t+1<2 ^ f->f<=20->setP v (pathF f t) Γ=Γ.set v t
 | f,t, .e,h,hf=>by
  rw [Bj v f t h]
  exact (u0 v f 20 t h hf).symm
 | 0,t,_,h,_=>by simp at h
 | f+1,0, .n l u r,_,_=>rfl
 | f+1,j+1, .n l u r,h,hf=>by
  have h2:j / 2+1<2 ^ f:=by rw [Nat.pow_succ] at h; omega
  rw [Tr.LO];show Bool.rec (motive:=fun _=>Tr SV) (.n l u (setP v (pathF f (j / 2)) r)) (.n (setP v (pathF f (j / 2)) l) u r) (Nat.beq (j % 2) 0)=_;rw [wB]
  by_cases e:j % 2=0
  ·rw [if_pos e,decide_eq_true e,wD v f _ l h2 (by omega)]
  ·rw [if_neg e,decide_eq_false e,wD v f _ r h2 (by omega)]
inductive Opd where
 | mk (f:Tr SV->(SV->Prop)->Prop)
abbrev Stp:=CallF->Tr SV->SH->(Tr SV->SH->Prop)->Prop
inductive Fst where
 | mk (f:Stp)
inductive Fz where
 | mk (f:CallF->RunU)
inductive Dst where
 | mk (f:SV->Tr SV->Tr SV)
def optK (o:Option SV) (k:SV->Prop):Prop:=match o with
 | some s=>k s
 | none=>False
noncomputable def opdC:Operand->Opd
 | .tmp t=>bif Nat.blt t 1048575 then .mk fun Γ k=>optK (getP (pathF 20 t) Γ) k else .mk fun _ _=>False
 | .const v=> .mk fun _ k=>k (ofV v)
 | .global g=> .mk fun _ k=>k (.opq (.pointer (some ⟨g,0,none⟩)))
 | .func f=> .mk fun _ k=>k (.fn f [])
noncomputable def dstC (n:Nat):Option Nat->Dst
 | none=> .mk fun _ Γ=>Γ
 | some d=> .mk fun s Γ=>setP s (pathF 20 d) Γ
def OpdOk (x:Operand) (e:Tr SV->(SV->Prop)->Prop):Prop:= ∀ Γ k,e Γ k->presS Γ x=true/\k (evS Γ x)
theorem cH (x:Operand) {e:Tr SV->(SV->Prop)->Prop} (h:opdC x= .mk e):OpdOk x e:=by
 intro Γ k H
 cases x with
 | tmp t=>
  simp only [opdC] at h
  cases hb:Nat.blt t 1048575 with
  | false=>rw [hb] at h; simp only [cond_false,Opd.mk.injEq] at h; subst h; exact H.elim
  | true=>
   rw [hb] at h; simp only [cond_true,Opd.mk.injEq] at h; subst h;simp only [Nat.blt_eq] at hb;simp only [wC 20 t Γ (by have:(2:Nat) ^ 20=1048576:=(by decide); omega)] at H;unfold optK at H;split at H
   ·rename_i s hs
    exact ⟨by simp only [presS,hs,Option.isSome_some],by simpa only [evS,hs,Option.getD_some] using H⟩
   ·exact H.elim
 | const v=>simp only [opdC,Opd.mk.injEq] at h; subst h; exact ⟨rfl,H⟩
 | global g=>simp only [opdC,Opd.mk.injEq] at h; subst h; exact ⟨rfl,H⟩
 | func f=>simp only [opdC,Opd.mk.injEq] at h; subst h; exact ⟨rfl,H⟩
theorem KD {n:Nat} {d:Option Nat} {g:SV->Tr SV->Tr SV} (hn:n<1048575) (hd:dstOk n d=true) (h:dstC n d= .mk g) (s:SV) (Γ:Tr SV):g s Γ=putS d s Γ:=by
 cases d with
 | none=>simp only [dstC,Dst.mk.injEq] at h; subst h; rfl
 | some d=> simp only [dstC,Dst.mk.injEq] at h; subst h;simp only [dstOk,Nat.blt_eq] at hd;exact wD s 20 d Γ (by have:(2:Nat) ^ 20=1048576:=(by decide); omega) (Nat.le_refl _)
end Go.Ey
namespace Go.Ey
open Go Go.Wc
variable {P:Program} {τ:Tys} {Γ:Tr SV} {S:SH} {C:Ctx}
inductive Ops where
 | mk (f:Tr SV->(List SV->Prop)->Prop)
noncomputable def opdsC:List Operand->Ops
 | []=> .mk fun _ k=>k []
 | x::r=>match opdC x with
  | .mk e=>match opdsC r with
   | .mk g=> .mk fun Γ k=>e Γ fun s=>g Γ fun l=>k (s::l)
theorem lH: ∀ (xs:List Operand) {g:Tr SV->(List SV->Prop)->Prop},opdsC xs= .mk g-> ∀ Γ k,g Γ k->xs.all (presS Γ)=true/\k (xs.map (evS Γ))
 | [],g,h,Γ,k,H=>by simp only [opdsC,Ops.mk.injEq] at h; subst h; exact ⟨rfl,H⟩
 | x::r,g,h,Γ,k,H=>by
  simp only [opdsC] at h
  cases hx:opdC x with
  | mk e=>
   cases hr:opdsC r with
   | mk g'=> rw [hx,hr] at h;simp only [Ops.mk.injEq] at h;subst h;obtain ⟨h1,h2⟩:=cH x hx _ _ H;obtain ⟨h3,h4⟩:=lH r hr _ _ h2;exact ⟨by simp [h1,h3],h4⟩
inductive BinF where
 | mk (f:SV->SV->(SV->Prop)->Prop)
noncomputable def binC (τ:Tys) (op:BinOp) (t:Nat):BinF:=
 match op with
 | .add=> .mk fun x y K=>match x,y with
  | .int k a, .int k' b=>bif sameKind k k' then K (.int k (wrapF k (a+b))) else False
  | x,y=>binS τ .add t x y K
 | .sub=> .mk fun x y K=>match x,y with
  | .int k a, .int k' b=>bif sameKind k k' then K (.int k (wrapF k (a - b))) else False
  | x,y=>binS τ .sub t x y K
 | .eql=> .mk fun x y K=>match x,y with
  | .int k a, .int k' b=>bif sameKind k k' then K (.bool (eqF a b)) else False
  | x,y=>binS τ .eql t x y K
 | .neq=> .mk fun x y K=>match x,y with
  | .int k a, .int k' b=>bif sameKind k k' then K (.bool (!eqF a b)) else False
  | x,y=>binS τ .neq t x y K
 | .lss=> .mk fun x y K=>match x,y with
  | .int k a, .int k' b=>bif sameKind k k' then K (.bool (ltF a b)) else False
  | x,y=>binS τ .lss t x y K
 | .geq=> .mk fun x y K=>match x,y with
  | .int k a, .int k' b=>bif sameKind k k' then K (.bool (!ltF a b)) else False
  | x,y=>binS τ .geq t x y K
 | op=> .mk fun x y K=>binS τ op t x y K
theorem KE {op:BinOp} {t:Nat} {f:SV->SV->(SV->Prop)->Prop} (h:binC τ op t= .mk f) {x y:SV} {K:SV->Prop} (H:f x y K):binS τ op t x y K:=by
 cases op <;> simp only [binC,BinF.mk.injEq] at h <;> subst h <;> first
  | exact H
  | (split at H <;> exact H)
noncomputable def stepC (τ:Tys) (dF:Mth) (n:Nat) (o:Oper):Fst:=
 bif dstOk n o.dst then match dstC n o.dst with
  | .mk put=>match o.op with
   | .move x=>match opdC x with
    | .mk e=> .mk fun cl Γ S K=>e Γ fun s=>K (put s Γ) S
   | .assign x=>match opdC x with
    | .mk e=> .mk fun cl Γ S K=>e Γ fun s=>K (put s Γ) S
   | .binOp op t x y _=>match opdC x with
    | .mk e1=>match opdC y with
     | .mk e2=>match binC τ op t with
      | .mk f=> .mk fun cl Γ S K=>e1 Γ fun a=>e2 Γ fun b=>f a b fun s=>K (put s Γ) S
   | .load t x=>match opdC x with
    | .mk e=> .mk fun cl Γ S K=>e Γ fun a=>loadS τ t a S fun _ s S'=>K (put s Γ) S'
   | .nilCheck x=>match opdC x with
    | .mk e=> .mk fun cl Γ S K=>e Γ fun a=>nilCheckS a S fun _ s S'=>K (put s Γ) S'
   | .fieldAddr t x i=>match opdC x with
    | .mk e=> .mk fun cl Γ S K=>e Γ fun a=>fieldAddrS τ t a i S fun _ s S'=>K (put s Γ) S'
   | .extract x i=>match opdC x with
    | .mk e=> .mk fun cl Γ S K=>e Γ fun a=>extractS a i S fun _ s S'=>K (put s Γ) S'
   | .indexAddr t x y=>match opdC x with
    | .mk e1=>match opdC y with
     | .mk e2=> .mk fun cl Γ S K=>e1 Γ fun a=>e2 Γ fun b=>indexAddrS τ t a b S fun _ s S'=>K (put s Γ) S'
   | .store t x y=>match opdC x with
    | .mk e1=>match opdC y with
     | .mk e2=> .mk fun cl Γ S K=>e1 Γ fun a=>e2 Γ fun b=>storeS τ t a b S fun _ s S'=>K (put s Γ) S'
   | .alloc t=> .mk fun cl Γ S K=>allocS τ t S fun _ s S'=>K (put s Γ) S'
   | .call {callee:= .value (.func f),args,argTypes:=_}=>match opdsC args.toList with
    | .mk g=> .mk fun cl Γ S K=>g Γ fun as=>cl f as S fun s S'=>K (put s Γ) S'
   | .call {callee:= .builtin .append,args,argTypes}=>match args.toList,argTypes.toList with
    | [x,y],[t,u]=>match opdC x with
     | .mk e1=>match opdC y with
      | .mk e2=> .mk fun cl Γ S K=>e1 Γ fun a=>e2 Γ fun b=>appendS τ t u a b S fun _ s S'=>K (put s Γ) S'
    | _,_=> .mk fun cl Γ S K=>stepU ⟨τ,cl,dF⟩ n o Γ S fun _ Γ' S'=>K Γ' S'
   | .call {callee:= .builtin .len,args,argTypes}=>match args.toList,argTypes.toList with
    | [x],[t]=>match opdC x with
     | .mk e=> .mk fun cl Γ S K=>e Γ fun a=>lenS τ t a S fun _ s S'=>K (put s Γ) S'
    | _,_=> .mk fun cl Γ S K=>stepU ⟨τ,cl,dF⟩ n o Γ S fun _ Γ' S'=>K Γ' S'
   | .call {callee:= .value (.tmp x),args,argTypes:=_}=>match opdC (.tmp x) with
    | .mk e=>match opdsC args.toList with
     | .mk g=> .mk fun cl Γ S K=>e Γ fun a=>g Γ fun as=>callVS ⟨τ,cl,dF⟩ a as S fun _ s S'=>K (put s Γ) S'
   | .index t x y=>match opdC x with
    | .mk e1=>match opdC y with
     | .mk e2=> .mk fun cl Γ S K=>e1 Γ fun a=>e2 Γ fun b=>indexS τ t a b S fun _ s S'=>K (put s Γ) S'
   | .box t x=>match opdC x with
    | .mk e=> .mk fun cl Γ S K=>e Γ fun a=>boxS t a S fun _ s S'=>K (put s Γ) S'
   | .unOp u t x=>match opdC x with
    | .mk e=> .mk fun cl Γ S K=>e Γ fun a=>unS u a S fun _ s S'=>K (put s Γ) S'
   | .convert s d x=>bif readsConv τ (.convert s d x) then (match opdC x with
    | .mk e=> .mk fun cl Γ S K=>e Γ fun a=>convS τ s d a S fun _ s S'=>K (put s Γ) S') else (match opdC x with
    | .mk e=> .mk fun cl Γ S K=>e Γ fun a=>markS τ s d a S fun _ s S'=>K (put s Γ) S')
   | .pick c x y=>match opdC c with
    | .mk e0=>match opdC x with
     | .mk e1=>match opdC y with
      | .mk e2=> .mk fun cl Γ S K=>e0 Γ fun c=>e1 Γ fun a=>e2 Γ fun b=>pickS c a b S fun _ s S'=>K (put s Γ) S'
   | .buildSlice t m ps=>match opdsC (ps.toList.map (·.2)) with
    | .mk g=> .mk fun cl Γ S K=>g Γ fun as=>buildSliceS τ t m ((ps.toList.map (·.1)).zip as) S fun _ s S'=>K (put s Γ) S'
   | .slice t x lo hi none=>match opdC x with
    | .mk e=>match opdsC (lo.toList++hi.toList) with
     | .mk g=> .mk fun cl Γ S K=>e Γ fun a=>g Γ fun _=>sliceS τ t a (loS Γ lo) (hi.map (evS Γ)) none S fun _ s S'=>K (put s Γ) S'
   | _=> .mk fun cl Γ S K=>stepU ⟨τ,cl,dF⟩ n o Γ S fun _ Γ' S'=>K Γ' S'
 else .mk fun _ _ _ _=>False
theorem HU {n:Nat} {o:Oper} (hn:n<1048575) {f:Stp} (h:stepC C.τ C.dF n o= .mk f) {K:Tr SV->SH->Prop} (H:f C.call Γ S K):stepU C n o Γ S fun _ Γ' S'=>K Γ' S':=by
 unfold stepC at h
 cases hd:dstOk n o.dst with
 | false=>rw [hd] at h; simp only [cond_false,Fst.mk.injEq] at h; subst h; exact H.elim
 | true=>
  rw [hd] at h;simp only [cond_true] at h
  cases hp:dstC n o.dst with
  | mk put=>
   rw [hp] at h;simp only at h;have hput: ∀ s Γ,put s Γ=putS o.dst s Γ:=fun s Γ=>KD hn hd hp s Γ
   have fin: ∀ {X:Prop},o.op.operands.toList.all (presS Γ)=true->opXS C o.op Γ S (fun g s S'=>K (putS o.dst s Γ) S')->stepU C n o Γ S fun _ Γ' S'=>K Γ' S':=by intro X h1 h2;unfold stepU opsOkS;rw [hd,h1];exact h2
   split at h
   ·rename_i x heq
    cases hx:opdC x with
    | mk e=> rw [hx] at h;simp only [Fst.mk.injEq] at h;subst h;obtain ⟨p,H⟩:=cH _ hx _ _ H;simp only [hput] at H;exact fin (X:=True) (by rw [heq]; simp [Op.operands,p]) (by rw [heq]; exact H)
   ·rename_i x heq
    cases hx:opdC x with
    | mk e=> rw [hx] at h;simp only [Fst.mk.injEq] at h;subst h;obtain ⟨p,H⟩:=cH _ hx _ _ H;simp only [hput] at H;exact fin (X:=True) (by rw [heq]; simp [Op.operands,p]) (by rw [heq]; exact H)
   ·rename_i op t x y u heq
    cases hx:opdC x with
    | mk e1=>
     cases hy:opdC y with
     | mk e2=>
      cases hb:binC C.τ op t with
      | mk f=> rw [hx,hy,hb] at h;simp only [Fst.mk.injEq] at h;subst h;obtain ⟨p,H⟩:=cH _ hx _ _ H;obtain ⟨q,H⟩:=cH _ hy _ _ H;simp only [hput] at H;exact fin (X:=True) (by rw [heq]; simp [Op.operands,p,q]) (by rw [heq]; exact KE hb H)
   ·rename_i t x heq
    cases hx:opdC x with
    | mk e=> rw [hx] at h;simp only [Fst.mk.injEq] at h;subst h;obtain ⟨p,H⟩:=cH _ hx _ _ H;simp only [hput] at H;exact fin (X:=True) (by rw [heq]; simp [Op.operands,p]) (by rw [heq]; exact H)
   ·rename_i x heq
    cases hx:opdC x with
    | mk e=> rw [hx] at h;simp only [Fst.mk.injEq] at h;subst h;obtain ⟨p,H⟩:=cH _ hx _ _ H;simp only [hput] at H;exact fin (X:=True) (by rw [heq]; simp [Op.operands,p]) (by rw [heq]; exact H)
   ·rename_i t x i heq
    cases hx:opdC x with
    | mk e=> rw [hx] at h;simp only [Fst.mk.injEq] at h;subst h;obtain ⟨p,H⟩:=cH _ hx _ _ H;simp only [hput] at H;exact fin (X:=True) (by rw [heq]; simp [Op.operands,p]) (by rw [heq]; exact H)
   ·rename_i x i heq
    cases hx:opdC x with
    | mk e=> rw [hx] at h;simp only [Fst.mk.injEq] at h;subst h;obtain ⟨p,H⟩:=cH _ hx _ _ H;simp only [hput] at H;exact fin (X:=True) (by rw [heq]; simp [Op.operands,p]) (by rw [heq]; exact H)
   ·rename_i t x y heq
    cases hx:opdC x with
    | mk e1=>
     cases hy:opdC y with
     | mk e2=> rw [hx,hy] at h;simp only [Fst.mk.injEq] at h;subst h;obtain ⟨p,H⟩:=cH _ hx _ _ H;obtain ⟨q,H⟩:=cH _ hy _ _ H;simp only [hput] at H;exact fin (X:=True) (by rw [heq]; simp [Op.operands,p,q]) (by rw [heq]; exact H)
   ·rename_i t x y heq
    cases hx:opdC x with
    | mk e1=>
     cases hy:opdC y with
     | mk e2=> rw [hx,hy] at h;simp only [Fst.mk.injEq] at h;subst h;obtain ⟨p,H⟩:=cH _ hx _ _ H;obtain ⟨q,H⟩:=cH _ hy _ _ H;simp only [hput] at H;exact fin (X:=True) (by rw [heq]; simp [Op.operands,p,q]) (by rw [heq]; exact H)
   ·rename_i t heq
    simp only [Fst.mk.injEq] at h;subst h;simp only [hput] at H;exact fin (X:=True) (by rw [heq]; simp [Op.operands]) (by rw [heq]; exact H)
   ·rename_i fid args ats heq
    cases hx:opdsC args.toList with
    | mk g=> rw [hx] at h;simp only [Fst.mk.injEq] at h;subst h;obtain ⟨p,H⟩:=lH _ hx _ _ H;simp only [hput] at H;exact fin (X:=True) (by rw [heq]; simp only [Op.operands,Call.operands,Array.toList_append,List.all_append,p,Bool.and_true]; rfl) (by rw [heq]; exact H)
   ·rename_i args ats heq
    split at h
    ·rename_i x y t u ea eb
     have a1:=Array.PI ea;have a2:=Array.PI eb;subst a1 a2
     cases hx:opdC x with
     | mk e1=>
      cases hy:opdC y with
      | mk e2=> rw [hx,hy] at h;simp only [Fst.mk.injEq] at h;subst h;obtain ⟨p,H⟩:=cH _ hx _ _ H;obtain ⟨q,H⟩:=cH _ hy _ _ H;simp only [hput] at H;exact fin (X:=True) (by rw [heq]; simp [Op.operands,Call.operands,p,q]) (by rw [heq]; exact H)
    ·simp only [Fst.mk.injEq] at h
     subst h;exact H
   ·rename_i args ats heq
    split at h
    ·rename_i x t ea eb
     have a1:args= #[x]:=by apply Array.ext'; simpa using ea
     have a2:ats= #[t]:=by apply Array.ext'; simpa using eb
     subst a1 a2
     cases hx:opdC x with
     | mk e=> rw [hx] at h;simp only [Fst.mk.injEq] at h;subst h;obtain ⟨p,H⟩:=cH _ hx _ _ H;simp only [hput] at H;exact fin (X:=True) (by rw [heq]; simp [Op.operands,Call.operands,p]) (by rw [heq]; exact H)
    ·simp only [Fst.mk.injEq] at h
     subst h;exact H
   ·rename_i x args ats heq
    cases hx:opdC (.tmp x) with
    | mk e=>
     cases hg:opdsC args.toList with
     | mk g=> rw [hx,hg] at h;simp only [Fst.mk.injEq] at h;subst h;obtain ⟨p,H⟩:=cH _ hx _ _ H;obtain ⟨q,H⟩:=lH _ hg _ _ H;simp only [hput] at H;exact fin (X:=True) (by rw [heq]; simp only [Op.operands,Call.operands,Array.toList_append,List.all_append,q,Bool.and_true]; simp [p]) (by rw [heq]; exact H)
   ·rename_i t x y heq
    cases hx:opdC x with
    | mk e1=>
     cases hy:opdC y with
     | mk e2=> rw [hx,hy] at h;simp only [Fst.mk.injEq] at h;subst h;obtain ⟨p,H⟩:=cH _ hx _ _ H;obtain ⟨q,H⟩:=cH _ hy _ _ H;simp only [hput] at H;exact fin (X:=True) (by rw [heq]; simp [Op.operands,p,q]) (by rw [heq]; exact H)
   ·rename_i t x heq
    cases hx:opdC x with
    | mk e=> rw [hx] at h;simp only [Fst.mk.injEq] at h;subst h;obtain ⟨p,H⟩:=cH _ hx _ _ H;simp only [hput] at H;exact fin (X:=True) (by rw [heq]; simp [Op.operands,p]) (by rw [heq]; exact H)
   ·rename_i u t x heq
    cases hx:opdC x with
    | mk e=> rw [hx] at h;simp only [Fst.mk.injEq] at h;subst h;obtain ⟨p,H⟩:=cH _ hx _ _ H;simp only [hput] at H;exact fin (X:=True) (by rw [heq]; simp [Op.operands,p]) (by rw [heq]; exact H)
   ·rename_i s d x heq
    cases hx:opdC x with
    | mk e=>
     rw [hx] at h;have ir:isR (.convert s d x)=false:=rfl
     cases hr:readsConv C.τ (.convert s d x) with
     | true=>
      rw [hr] at h;simp only [cond_true,Fst.mk.injEq] at h;subst h;obtain ⟨p,H⟩:=cH _ hx _ _ H;simp only [hput] at H
      exact fin (X:=True) (by rw [heq]; simp [Op.operands,p]) (by rw [heq]; unfold opXS; rw [ir,hr]; exact H)
     | false=> rw [hr] at h;simp only [cond_false,Fst.mk.injEq] at h;subst h;obtain ⟨p,H⟩:=cH _ hx _ _ H;simp only [hput] at H;exact fin (X:=True) (by rw [heq]; simp [Op.operands,p]) (by rw [heq]; unfold opXS; rw [ir,hr]; exact H)
   ·rename_i c x y heq
    cases hc:opdC c with
    | mk e0=>
     cases hx:opdC x with
     | mk e1=>
      cases hy:opdC y with
      | mk e2=> rw [hc,hx,hy] at h;simp only [Fst.mk.injEq] at h;subst h;obtain ⟨p0,H⟩:=cH _ hc _ _ H;obtain ⟨p,H⟩:=cH _ hx _ _ H;obtain ⟨q,H⟩:=cH _ hy _ _ H;simp only [hput] at H;exact fin (X:=True) (by rw [heq]; simp [Op.operands,p0,p,q]) (by rw [heq]; exact H)
   ·rename_i t m ps heq
    cases hg:opdsC (ps.toList.map (·.2)) with
    | mk g=>
     rw [hg] at h;simp only [Fst.mk.injEq] at h;subst h;obtain ⟨q,H⟩:=lH _ hg _ _ H;simp only [hput] at H
     have hz:(ps.toList.map (·.1)).zip ((ps.toList.map (·.2)).map (evS Γ))=ps.toList.map fun p=>(p.1,evS Γ p.2):=by
      generalize ps.toList=L
      induction L with
      | nil=>rfl
      | cons a L ih=>simp only [List.map_cons,List.zip_cons_cons,ih]
     rw [hz] at H;exact fin (X:=True) (by rw [heq]; simpa [Op.operands] using q) (by rw [heq]; exact H)
   ·rename_i t x lo hi heq
    cases hx:opdC x with
    | mk e=>
     cases hg:opdsC (lo.toList++hi.toList) with
     | mk g=>
      rw [hx,hg] at h;simp only [Fst.mk.injEq] at h;subst h;obtain ⟨p,H⟩:=cH _ hx _ _ H;obtain ⟨q,H⟩:=lH _ hg _ _ H;simp only [hput] at H;refine fin (X:=True) ?_ ?_
      ·rw [heq]
       simp only [List.all_append,Bool.and_eq_true] at q;cases lo <;> cases hi <;> simp_all [Op.operands]
      ·rw [heq]
       cases hi <;> exact H
   ·simp only [Fst.mk.injEq] at h
    subst h;exact H
end Go.Ey
namespace Go.Ey
open Go Go.Wc
variable {P:Program} {ν:Nu} {S:SH} {F:Fr} {h:Hp} {τ:Tys} {Γ:Tr SV} {Γr:Env} {C:Ctx}
structure LD where
 T:Nat
 op:Bool
 l:List SV
 val:Nat->SV
end Go.Ey
namespace Go.Ey
open Go Go.Wc
variable {ds:List Deferred} {P:Program} {ν:Nu} {S:SH} {F:Fr} {h:Hp} {τ:Tys} {Γ:Tr SV} {Γr:Env} {C:Ctx}
inductive pW where
 | done
 | take (i:Nat) (D:List Nat) (p:pW)
 | prep (p:pW)
 | late (p:pW)
 | one (i:Nat) (p:pW)
def tD (C:Ctx) (n:Nat) (ops:List Oper) (j:Nat):pW->Tr SV->SH->FactsU->Option LD->(Tr SV->SH->Prop)->Prop:=fun _ _ _ _ _ _=>False
def jT (τ:Tys) (ops:Array Oper):Option (Nat × pW):=none
def single:Plan->Bool
 | .done=>true
 | .take _ _ p=>single p
 | .all r=>single r
 | .alt _ p r=>single p && (match r with | .nil=>true | _=>false)
 | .nil=>true
theorem HV {n:Nat} (hA:Agree P C.τ) (hC:CallOk P C.call) (hM:MthOk P C.dF) (hn:n<1048575) (hm:P.follows .mixedOrders=true) {ops:Array Oper} {j:Nat} {p:pW} (hp:jT C.τ ops=some (j,p)) (id:Nat):
  RunOk P n (.region id ops true) (fun Γ S K=>tD C n ops.toList j p Γ S [] none fun Γ' S'=>K .normal Γ' S'):=(by unfold jT at hp; cases hp)
end Go.Ey
