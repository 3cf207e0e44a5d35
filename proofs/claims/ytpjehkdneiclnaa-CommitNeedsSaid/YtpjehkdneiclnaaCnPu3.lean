import Derived.Test.YtpjehkdneiclnaaCnPu2
import Derived.MapKept
set_option linter.unusedSimpArgs false
set_option linter.unusedVariables false
namespace Go.Pu
open Go Go.Wc
structure Ky (κ:Type) [DecidableEq κ] where
  kd:Kd
  enc:κ→Value
  same: ∀ a b,sameK kd (enc a) (enc b)=some (decide (a=b))
@[reducible] def kI (k:IntKind):Ky Int:=⟨.int k,fun n=> .int k n,fun a b=>by
  simp only [sameK,if_true]
  by_cases h:a=b
  · subst h; simp
  · simp [h]⟩
variable {κ V X:Type} [DecidableEq κ] {Kx:Ky κ} {E:Rp V} {h h':Hp} {M M':List Nat} {A:List At} {a a':At} {agg:Bool}
def look:List (κ × V)→κ→Option V
  | [],_=>none
  | (k',v')::L,k=>if k=k' then some v' else look L k
def upd:List (κ × V)→κ→V→List (κ × V)
  | [],k,v=>[(k,v)]
  | (k',v')::L,k,v=>if k=k' then (k,v)::L else (k',v')::upd L k v
def del:List (κ × V)→κ→List (κ × V)
  | [],_=>[]
  | (k',v')::L,k=>if k=k' then L else (k',v')::del L k
abbrev lkO (L:Option (List (κ × V))) (k:κ):Option V:=look (L.getD []) k
def lkP (L:Option (List (κ × V))) (k:κ) (z:V) (K:V→Bool→Prop):Prop:=K ((lkO L k).getD z) (lkO L k).isSome
def dlP (L:Option (List (κ × V))) (k:κ) (K:Option (List (κ × V))→Prop):Prop:=K (L.map (del · k))
def muP (L:Option (List (κ × V))) (k:κ) (v:V) (K:Option (List (κ × V))→Prop):Prop:= ∃ L0,L=some L0∧K (some (upd L0 k v))
@[reducible] def vOf (agg:Bool) (vs:List Value):Value:=match agg with
  | true=> .agg vs.toArray
  | false=>vs.headD undef
def entR (Kx:Ky κ) (E:Rp V) (agg:Bool) (h:Hp) (M:List Nat) (e:MapEntry) (p:κ × V):Prop:=e.key=Kx.enc p.1∧ ∃ vs,e.val=vOf agg vs∧E.P h M vs p.2
theorem entR.mono {e:MapEntry} {p:κ × V} (hL:Le h M h' M'):entR Kx E agg h M e p→entR Kx E agg h' M' e p:=fun ⟨h1,vs,h2,h3⟩=>⟨h1,vs,h2,E.mono hL h3⟩
def mapX (Kx : Ky κ) (E : Rp V) (agg : Bool) (m : Option Nat) (o : Option (Array MapEntry × Nat)) (L : Option (List (κ × V))) : At :=
  ⟨fun h F M=>match m,o,L with
      | none,none,none=>F=[]
      | some r,some (es,ck),some L=>F=[r]∧h[r]? =some (.map es ck)∧All2 (entR Kx E agg h M) es.toList L∧MapKept.Stamped es ck
      | _,_,_=>False,
    by
      intro h F M h' M' hk hL H
      split at H
      · exact H
      · obtain ⟨h1, h2, h3, h4⟩ := H
        exact ⟨h1,by rw [hk _ (by rw [h1]; simp),h2],h3.mono fun _ _=>entR.mono hL,h4⟩
      · exact H,
    by
      intro h F M H b hb
      split at H
      · subst H; cases hb
      · obtain ⟨h1, h2, h3⟩ := H
        subst h1; simp at hb; subst hb; exact lt_of_get h2
      · exact H.elim⟩
def mapA (Kx:Ky κ) (E:Rp V) (agg:Bool) (m:Option Nat) (L:Option (List (κ × V))):At:=exA fun o=>mapX Kx E agg m o L
theorem map_none {m:Option Nat} {o:Option (Array MapEntry × Nat)} {L:Option (List (κ × V))} (I:Inv h (mapX Kx E agg m o L::A)):Option.isNone m=Option.isNone L:=by
  obtain ⟨F,M,H⟩:=I.get
  cases m <;> cases o <;> cases L <;> first | rfl | exact (H:False).elim
theorem Inv.nilM (Kx:Ky κ) (E:Rp V) (agg:Bool) (I:Inv h A):Inv h (mapX Kx E agg none none none::A):=I.addP fun M _=>rfl
theorem amW_r {K:Nat→Hp→Prop} (Kx:Ky κ) (E:Rp V) (agg:Bool) (I:Inv h A) (k: ∀ r h' o,Inv h' (mapX Kx E agg (some r) o (some [])::A)→K r h'):amW h K:=by
  refine k _ _ (some (#[],0)) ?_
  obtain ⟨F,M,hF,_,_,_,H⟩:=I.emp_add.turn
  have hF:F=[]:=hF
  subst hF
  exact H _ [_] [[h.size]] (Keep.push _ _ _) (fun b hb=> .inr (by simp at hb; omega)) (by simp) fun M' _ _ _=>⟨⟨rfl,push_get _ _, .nil,MapKept.stamped_empty _⟩,trivial⟩
def fiA:List (κ × V)→κ→Nat→Option Nat
  | [],_,_=>none
  | (k',v)::L,k,i=>if k=k' then some i else fiA L k (i+1)
theorem mfind_all {k:κ}: ∀ {es:List MapEntry} {L:List (κ × V)} (i:Nat),All2 (entR Kx E agg h M) es L→
    (look L k=none∧mfind Kx.kd (Kx.enc k) es i=some none∧fiA L k i=none)∨
    ∃ x j v,look L k=some x∧mfind Kx.kd (Kx.enc k) es i=some (some (j,v))∧fiA L k i=some j∧ ∃ vs,v=vOf agg vs∧E.P h M vs x
  | _,_,i, .nil=> .inl ⟨rfl,rfl,rfl⟩
  | e :: es, (k', x) :: L, i, .cons ⟨h1, vs, h2, h3⟩ h4 => by
    simp only at h1 h3
    simp only [mfind,h1,Kx.same,look,fiA]
    by_cases e:k=k'
    · subst e
      simp only [decide_true,if_true]
      exact .inr ⟨x,i,_,rfl,rfl,rfl,vs,h2,h3⟩
    · simp only [e, decide_false, if_false]
      exact mfind_all (i+1) h4
theorem lk_r {m:Option Nat} {o:Option (Array MapEntry × Nat)} {L:Option (List (κ × V))} {key:κ} {zv:Value} {zvs:List Value} {z0:V} {K:(Hp→Prop)→Option Value→Prop}
    (I:Inv h (mapX Kx E agg m o L::A)) (hz:zv=vOf agg zvs) (hz0: ∀ h M,E.P h M zvs z0)
    (k: ∀ f ov vs,ov.getD zv=vOf agg vs→ov.isSome=(lkO L key).isSome→(∀ {h' A'},Inv h' (mapX Kx E agg m o L::A')→f h')→Inv h (repA E vs ((lkO L key).getD z0)::mapX Kx E agg m o L::A)→K f ov):
    lkW Kx.kd h m (Kx.enc key) K:=by
  obtain ⟨F,M,H,hFM,hn,hlt,HH⟩:=I.turn
  have fin: ∀ vs x,E.P h M vs x→Inv h (repA E vs x::mapX Kx E agg m o L::A):=fun vs x hx=>
    HH h [repA E vs x,mapX Kx E agg m o L] [[],F] (Keep.refl _ _) (fun b hb=> .inl (by simpa using hb)) (by simpa using hn) fun M' hL _ _=>⟨⟨rfl,E.mono hL hx⟩,At.mono _ (fun _ _=>rfl) hL H,trivial⟩
  match m,o,L,I,H,fin,k with
  | none,none,none,I,H,fin,k=>exact k _ none zvs hz rfl (fun _=>trivial) (fin _ _ (hz0 _ _))
  | some r, some (es, ck), some L, I, H, fin, k =>
    obtain ⟨h1,h2,h3,h4⟩:=H
    rcases mfind_all (k:=key) 0 h3 with ⟨g1,g2,_⟩ | ⟨x,j,v,g1,g2,_,vs,g3,g4⟩
    · refine ⟨es, ck, h2, _, g2, k _ _ zvs hz (by simp [lkO, g1]) (fun {h' A'} J => ?_) (by simp only [lkO, Option.getD_some, g1, Option.getD_none]; exact fin _ _ (hz0 _ _))⟩
      obtain ⟨_,_,_,j1,j2⟩:=J.get
      exact ⟨es,ck,_,j1,g2,rfl⟩
    · refine ⟨es, ck, h2, _, g2, k _ _ vs (by simpa using g3) (by simp [lkO, g1]) (fun {h' A'} J => ?_) (by simp only [lkO, Option.getD_some, g1]; exact fin _ _ g4)⟩
      obtain ⟨_,_,_,j1,j2⟩:=J.get
      exact ⟨es,ck,_,j1,g2,rfl⟩
theorem lkB_r {m:Option Nat} {o:Option (Array MapEntry × Nat)} {L:Option (List (κ × Bool))} {key:κ} {K:(Hp→Prop)→Bool→Bool→Prop}
    {K':Bool→Bool→Prop} (I:Inv h (mapX Kx rB false m o L::A)) (H:lkP L key false K') (k: ∀ f y ok,(∀ {h' A'},Inv h' (mapX Kx rB false m o L::A')→f h')→K' y ok→K f y ok):
    lkW Kx.kd h m (Kx.enc key) fun f ov=>isB (ov.getD (.bool false)) fun y=>letB ov.isSome fun ok=>K f y ok:=
  lk_r (zvs:=[.bool false]) I rfl (fun _ _=>rfl) fun f ov vs h1 h2 hf J=>by
    obtain ⟨_,_,_,e⟩:=J.get
    have e:vs=[.bool ((lkO L key).getD false)]:=e
    subst e
    refine ⟨_,h1, ?_⟩
    show K f _ ov.isSome
    rw [h2]; exact k f _ _ hf H
theorem lkI_r {ik:IntKind} {m:Option Nat} {o:Option (Array MapEntry × Nat)} {L:Option (List (κ × Int))} {key:κ} {K:(Hp→Prop)→Int→Bool→Prop}
    {K':Int→Bool→Prop} (I:Inv h (mapX Kx (rI ik) false m o L::A)) (H:lkP L key 0 K') (k: ∀ f y ok,(∀ {h' A'},Inv h' (mapX Kx (rI ik) false m o L::A')→f h')→K' y ok→K f y ok):
    lkW Kx.kd h m (Kx.enc key) fun f ov=>isI ik (ov.getD (.int ik 0)) fun y=>letB ov.isSome fun ok=>K f y ok:=
  lk_r (zvs:=[.int ik 0]) I rfl (fun _ _=>rfl) fun f ov vs h1 h2 hf J=>by
    obtain ⟨_,_,_,e⟩:=J.get
    have e:vs=[.int ik ((lkO L key).getD 0)]:=e
    subst e
    refine ⟨_,h1, ?_⟩
    show K f _ ov.isSome
    rw [h2]; exact k f _ _ hf H
theorem lkS_r {E:Rp X} {m:Option Nat} {o:Option (Array MapEntry × Nat)} {L:Option (List (κ × List X))} {key:κ} {K:(Hp→Prop)→Sl→Bool→Prop}
    {K':List X→Bool→Prop} (I:Inv h (mapX Kx (rS E) false m o L::A)) (H:lkP L key [] K') (k: ∀ f a1 c1 y ok,(∀ {h' A'},Inv h' (mapX Kx (rS E) false m o L::A')→f h')→Inv h (roS E a1 y.length c1 y::mapX Kx (rS E) false m o L::A)→K' y ok→
      K f ⟨a1,y.length,c1⟩ ok):
    lkW Kx.kd h m (Kx.enc key) fun f ov=>isS (ov.getD (.slice none 0 0)) fun y=>letB ov.isSome fun ok=>K f y ok:=
  lk_r (zvs:=[.slice none 0 0]) (z0:=[]) I rfl (fun _ _=>⟨none,0,rfl,[],SlV.nil _ _,Nat.le_refl _,fun h=>absurd rfl h,rfl⟩) fun f ov vs h1 h2 hf J=>by
    obtain ⟨a1,c1,e,J2⟩:=J.repS
    subst e
    refine ⟨⟨a1,_,c1⟩,h1, ?_⟩
    show K f _ ov.isSome
    rw [h2]; exact k f a1 c1 _ _ hf J2 H
theorem upd_fi {L:List (κ × V)} {k:κ} {v:V}: ∀ {n:Nat},(fiA L k n=none→upd L k v=L++[(k,v)])∧ ∀ j,fiA L k n=some j→n≤j∧j - n<L.length∧upd L k v=L.set (j - n) (k,v)∧del L k=L.eraseIdx (j - n):=by
  induction L with
  | nil=>intro n; exact ⟨fun _=>rfl,fun j h=>by simp [fiA] at h⟩
  | cons p L ih =>
    obtain ⟨k',v'⟩:=p
    intro n
    simp only [fiA,upd,del]
    by_cases e:k=k'
    · subst e
      simp only [if_true]
      exact ⟨fun h=>by simp at h,fun j h=>by simp at h; subst h; simp⟩
    · simp only [e, if_false]
      obtain ⟨h1,h2⟩:=ih (n:=n+1)
      refine ⟨fun h=>by rw [h1 h]; rfl,fun j h=> ?_⟩
      obtain ⟨g1,g2,g3,g4⟩:=h2 j h
      rw [g3,g4,show j - n=(j - (n+1))+1 from by omega]
      exact ⟨by omega,by simp; omega,rfl,rfl⟩
theorem del_fi {L:List (κ × V)} {k:κ}: ∀ {n:Nat},fiA L k n=none→del L k=L:=by
  induction L with
  | nil=>intro n _; rfl
  | cons p L ih =>
    obtain ⟨k',v'⟩:=p
    intro n h
    simp only [fiA] at h
    split at h
    · cases h
    · rename_i e; simp only [del,e,if_false]; rw [ih h]
theorem all2_append {α β:Type} {S:α→β→Prop} {l:List α} {m:List β} {l2:List α} {m2:List β} (H:All2 S l m) (H2:All2 S l2 m2):All2 S (l++l2) (m++m2):=by
  induction H with
  | nil=>exact H2
  | cons h1 _ ih=>exact .cons h1 ih
theorem all2_set {α β:Type} {S:α→β→Prop} {l:List α} {m:List β} {x:α} {y:β} (H:All2 S l m) (i:Nat) (hx:S x y):All2 S (l.set i x) (m.set i y):=by
  induction H generalizing i with
  | nil=>exact .nil
  | cons h1 h2 ih => cases i with
    | zero=>exact .cons hx h2
    | succ i=>exact .cons h1 (ih i)
theorem all2_erase {α β:Type} {S:α→β→Prop} {l:List α} {m:List β} (H:All2 S l m) (i:Nat):All2 S (l.eraseIdx i) (m.eraseIdx i):=by
  induction H generalizing i with
  | nil=>exact .nil
  | cons h1 h2 ih => cases i with
    | zero=>exact h2
    | succ i=>exact .cons h1 (ih i)
theorem all2_len {α β:Type} {S:α→β→Prop} {l:List α} {m:List β} (H:All2 S l m):l.length=m.length:=by
  induction H with
  | nil=>rfl
  | cons h1 h2 ih=>simp [ih]
theorem mfind_key {k:κ}: ∀ {es:List MapEntry} {L:List (κ × V)} (i:Nat),All2 (entR Kx E agg h M) es L→ ∀ j v,mfind Kx.kd (Kx.enc k) es i=some (some (j,v))→ ∃ e,es[j - i]? =some e∧e.key=Kx.enc k
  | _,_,i, .nil,j,v,H=>by simp [mfind] at H
  | e :: es, (k', x) :: L, i, .cons ⟨h1, _⟩ h4, j, v, H => by
    simp only at h1
    simp only [mfind,h1,Kx.same] at H
    by_cases e2:k=k'
    · subst e2
      simp at H
      obtain ⟨rfl,_⟩:=H
      exact ⟨e,by simp,h1⟩
    · simp only [e2, decide_false] at H
      obtain ⟨e',g1,g2⟩:=mfind_key (i+1) h4 j v H
      have:=(mfind_some H).1
      exact ⟨e',by rw [show j - i=(j - (i+1))+1 from by omega]; simpa using g1,g2⟩
theorem modify_toList (es:Array MapEntry) (i:Nat) (f:MapEntry→MapEntry):(es.modify i f).toList=es.toList.modify i f:=by simp
theorem Ky.inj (Kx:Ky κ) {a b:κ} (e:Kx.enc a=Kx.enc b):a=b:=by
  have h1:=Kx.same a a
  have h2:=Kx.same a b
  rw [← e,h1] at h2
  simpa using h2
theorem fi_none {k:κ}: ∀ {es:List MapEntry} {L:List (κ × V)} {i:Nat},All2 (entR Kx E agg h M) es L→fiA L k i=none→ ∀ e ∈ es,e.key ≠ Kx.enc k
  | _,_,_, .nil,_,e,he=>by cases he
  | e0 :: es, (k', x) :: L, i, .cons ⟨h1, _⟩ h4, H, e, he => by
    simp only [fiA] at H
    split at H
    · cases H
    · rename_i hne
      rcases List.mem_cons.1 he with rfl | he
      · intro e2; rw [h1] at e2; exact hne (Kx.inj e2).symm
      · exact fi_none h4 H e he
theorem mu_obj {es : Array MapEntry} {ck : Nat} {L0 : List (κ × V)} {key : κ} {v : Value} {vs : List Value} {x : V} (h3 : All2 (entR Kx E agg h M) es.toList L0) (h4 : MapKept.Stamped es ck) (hv : v = vOf agg vs) (hx : E.P h M vs x) :
    ∃ oo es' ck',mfind Kx.kd (Kx.enc key) es.toList 0=some oo∧muO es ck (Kx.enc key) v oo= .map es' ck'∧(∀ h' M',Le h M h' M'→(All2 (entR Kx E agg h' M') es'.toList (upd L0 key x)))∧MapKept.Stamped es' ck':=by
  rcases mfind_all (k:=key) 0 h3 with ⟨g1,g2,g3⟩ | ⟨y,j,w,g1,g2,g3,_⟩
  · refine ⟨none, es.push { key := Kx.enc key, val := v, born := ck }, ck + 1, g2, rfl, fun h' M' hL => ?_, MapKept.stamped_push h4 (fi_none h3 g3)⟩
    rw [upd_fi.1 g3]
    simp only [Array.toList_push]
    exact all2_append (h3.mono fun _ _=>entR.mono hL) (.cons ⟨rfl,vs,hv,E.mono hL hx⟩ .nil)
  · have hst : MapKept.Stamped (es.modify j fun e => { e with key := Kx.enc key, val := v }) ck := MapKept.stamped_modify h4 _ _ (fun _ _ => rfl) (fun e he hj => by
      obtain ⟨e',q1,q2⟩:=mfind_key 0 h3 j w g2
      rw [Nat.sub_zero,Array.getElem?_toList,hj] at q1
      cases q1; exact q2.symm)
    refine ⟨some (j,w),es.modify j fun e=> {e with key:=Kx.enc key,val:=v},ck,g2,rfl,fun h' M' hL=> ?_,hst⟩
    obtain ⟨u1,u2,u3,_⟩:=(upd_fi (v:=x)).2 j g3
    rw [u3]
    have hlen:=all2_len h3
    have hlt2:j<es.toList.length:=by omega
    have:(es.modify j fun e=> {e with key:=Kx.enc key,val:=v}).toList=es.toList.set j {es.toList[j] with key:=Kx.enc key,val:=v}:=by
      apply List.ext_getElem
      · simp
      · intro i i1 i2
        simp only [Array.getElem_toList,Array.getElem_modify,List.getElem_set]
        split
        · rename_i e; subst e; rfl
        · rfl
    rw [this]
    exact all2_set (h3.mono fun _ _=>entR.mono hL) _ ⟨rfl,vs,hv,E.mono hL hx⟩
theorem set_le {r:Nat} {o o':Obj} (hr:h[r]? =some o):(h.setIfInBounds r o')[r]? =some o':=by
  have:=lt_of_get hr
  simp [this]
theorem mu_r {m:Option Nat} {o:Option (Array MapEntry × Nat)} {L:Option (List (κ × V))} {key:κ} {v:Value} {vs:List Value} {x:V} {K:Hp→Prop} {K':Option (List (κ × V))→Prop}
    (I:Inv h (repA E vs x::mapX Kx E agg m o L::A)) (hv:v=vOf agg vs) (H:muP L key x K')
    (k: ∀ h' o' L',Inv h' (mapX Kx E agg m o' L'::A)→K' L'→K h'):muW Kx.kd h m (Kx.enc key) v K:=by
  obtain ⟨F,M,⟨F1,F2,eF,⟨e1,hx⟩,hm⟩,hFM,hn,hlt,HH⟩:=I.sepI.turn
  subst e1
  obtain rfl:F=F2:=by simpa using eF
  obtain ⟨L0,rfl,HK⟩:=H
  match m,o,hm,k,HH with
  | some r, some (es, ck), hm, k, HH =>
    obtain ⟨h1,h2,h3,h4⟩:=hm
    obtain ⟨oo,es',ck',g0,g1,g2,g3⟩:=mu_obj (ck:=ck) (key:=key) h3 h4 hv hx
    refine ⟨r,rfl,es,ck,h2,oo,g0, ?_⟩
    rw [g1]
    exact k _ (some (es',ck')) (some (upd L0 key x)) (HH _ [mapX Kx E agg (some r) (some (es',ck')) (some (upd L0 key x))] [F] (Keep.set _ (by rw [h1]; simp)) (fun b hb=> .inl (by simpa using hb)) (by simpa using hn) fun M' hL _ _=>⟨⟨h1,set_le h2,g2 _ _ hL,g3⟩,trivial⟩) HK
  | none,none,hm,_,_=>exact (hm:False).elim
  | none,some _,hm,_,_=>exact (hm:False).elim
  | some _,none,hm,_,_=>exact (hm:False).elim
theorem dl_r {m:Option Nat} {o:Option (Array MapEntry × Nat)} {L:Option (List (κ × V))} {key:κ} {K:Hp→Prop}
    {K':Option (List (κ × V))→Prop} (I:Inv h (mapX Kx E agg m o L::A)) (H:dlP L key K') (k: ∀ h' o' L',Inv h' (mapX Kx E agg m o' L'::A)→K' L'→K h'):dlW Kx.kd h m (Kx.enc key) K:=by
  have k: ∀ h' o',Inv h' (mapX Kx E agg m o' (L.map (del · key))::A)→K h':=fun h' o' J=>k h' o' _ J H
  obtain ⟨F,M,hm,hFM,hn,hlt,HH⟩:=I.turn
  match m,o,L,I,hm,k,HH with
  | none,none,none,I,hm,k,HH=>exact k h none I
  | some r, some (es, ck), some L, I, hm, k, HH =>
    obtain ⟨h1,h2,h3,h4⟩:=hm
    have fin: ∀ oo es',mfind Kx.kd (Kx.enc key) es.toList 0=some oo→dlO es ck oo= .map es' ck→MapKept.Stamped es' ck→(∀ h' M',Le h M h' M'→All2 (entR Kx E agg h' M') es'.toList (del L key))→dlW Kx.kd h (some r) (Kx.enc key) K:=by
      intro oo es' g0 g1 gs g2
      refine ⟨es,ck,h2,oo,g0, ?_⟩
      rw [g1]
      exact k _ (some (es',ck)) (HH _ [mapX Kx E agg (some r) (some (es',ck)) (some (del L key))] [F] (Keep.set _ (by rw [h1]; simp)) (fun b hb=> .inl (by simpa using hb)) (by simpa using hn) fun M' hL _ _=>⟨⟨h1,set_le h2,g2 _ _ hL,gs⟩,trivial⟩)
    rcases mfind_all (k:=key) 0 h3 with ⟨g1,g2,g3⟩ | ⟨y,j,w,g1,g2,g3,vs,g4,g5⟩
    · exact fin none es g2 rfl h4 fun h' M' hL=>by rw [del_fi g3]; exact h3.mono fun _ _=>entR.mono hL
    · obtain ⟨u1, u2, _, u3⟩ := (upd_fi (v := y)).2 j g3
      have hlen:=all2_len h3
      have hlt2 : j < es.size := by have : es.size = es.toList.length := by simp
                                    omega
      refine fin (some (j,w)) (es.eraseIdxIfInBounds j) g2 rfl (MapKept.stamped_erase h4 _) fun h' M' hL=> ?_
      rw [u3,Nat.sub_zero]
      simp only [Array.eraseIdxIfInBounds,hlt2,dif_pos,Array.toList_eraseIdx]
      exact all2_erase (h3.mono fun _ _=>entR.mono hL) _
  | none,none,some _,_,hm,_,_=>exact (hm:False).elim
  | none,some _,none,_,hm,_,_=>exact (hm:False).elim
  | none,some _,some _,_,hm,_,_=>exact (hm:False).elim
  | some _,none,none,_,hm,_,_=>exact (hm:False).elim
  | some _,none,some _,_,hm,_,_=>exact (hm:False).elim
  | some _,some _,none,_,hm,_,_=>exact (hm:False).elim
theorem ln_r {m:Option Nat} {o:Option (Array MapEntry × Nat)} {L:Option (List (κ × V))} {K:(Hp→Prop)→Int→Prop}
    (I:Inv h (mapX Kx E agg m o L::A)) (k: ∀ f,(∀ {h' A'},Inv h' (mapX Kx E agg m o L::A')→f h')→K f ((L.getD []).length:Nat)):lnM h m K:=by
  obtain ⟨F,M,hm⟩:=I.get
  match m,o,L,I,hm,k with
  | none,none,none,I,hm,k=>exact k _ fun _=>trivial
  | some r, some (es, ck), some L, I, hm, k =>
    obtain ⟨h1,h2,h3,_⟩:=hm
    have e:es.size=L.length:=by have:=all2_len h3; simpa using this
    refine ⟨es,ck,h2, ?_⟩
    rw [e]
    refine k _ fun {h' A'} J=> ?_
    obtain ⟨_,_,_,j1,_⟩:=J.get
    exact ⟨es,ck,j1,e⟩
  | none,none,some _,_,hm,_=>exact (hm:False).elim
  | none,some _,none,_,hm,_=>exact (hm:False).elim
  | none,some _,some _,_,hm,_=>exact (hm:False).elim
  | some _,none,none,_,hm,_=>exact (hm:False).elim
  | some _,none,some _,_,hm,_=>exact (hm:False).elim
  | some _,some _,none,_,hm,_=>exact (hm:False).elim
def bigA (As : List At) : At :=
  ⟨fun h F M=> ∃ Fs:List (List Nat),F=Fs.flatten∧Fits h M As Fs,by
    rintro h F M h' M' hk hL ⟨Fs,rfl,H⟩
    exact ⟨Fs,rfl,H.mono hL hk⟩,by
    rintro h F M ⟨Fs,rfl,H⟩
    exact H.lt⟩
theorem Inv.bigE {As:List At} (I:Inv h (bigA As::A)):Inv h (As++A):=by
  obtain ⟨Fs,hf,hn⟩:=I
  match Fs,hf,hn with
  | F :: Fs, hf, hn =>
    obtain ⟨⟨Gs,rfl,h1⟩,h2⟩:=hf
    have e:(Gs++Fs).flatten=(Gs.flatten::Fs).flatten:=by simp
    exact ⟨Gs++Fs,by rw [e]; exact h1.append h2,by rw [e]; exact hn⟩
theorem Inv.bigI {As:List At} (I:Inv h (As++A)):Inv h (bigA As::A):=by
  obtain ⟨Fs,hf,hn⟩:=I
  obtain ⟨Gs,Hs,rfl,h1,h2⟩:=hf.split
  have e:(Gs++Hs).flatten=(Gs.flatten::Hs).flatten:=by simp
  exact ⟨Gs.flatten::Hs,⟨⟨Gs,rfl,e ▸ h1⟩,e ▸ h2⟩,e ▸ hn⟩
theorem Inv.mid: ∀ {X:List At} {Y:List At},Inv h (X++a::Y)→Inv h (a::(X++Y))
  | [],Y,I=>I
  | x :: X, Y, I => (I.under (B := a :: (X ++ Y)) fun J => by
      have J:Inv h (X++a::(Y++[x])):=by simpa using J
      have:=Inv.mid J
      simpa using this).swap
theorem Inv.mid': ∀ {X:List At} {Y:List At},Inv h (a::(X++Y))→Inv h (X++a::Y)
  | [],Y,I=>I
  | x :: X, Y, I => (Inv.swap I).under fun J => by
      have J:Inv h (a::(X++(Y++[x]))):=by simpa using J
      have:=Inv.mid' J
      simpa using this
abbrev St (O:Type):=Addr→Option O
def sset {O:Type} (σ:St O) (p:Addr) (o:O):St O:=fun q=>if q=p then some o else σ q
def sdel {O:Type} (σ:St O) (p:Addr):St O:=fun q=>if q=p then none else σ q
variable {O:Type}
@[simp] theorem sset_same (σ:St O) (p:Addr) (o:O):sset σ p o p=some o:=by simp [sset]
theorem sset_ne {σ:St O} {p q:Addr} {o:O} (h:q ≠ p):sset σ p o q=σ q:=by simp [sset,h]
@[simp] theorem sset_sset (σ:St O) (p:Addr) (o o':O):sset (sset σ p o) p o'=sset σ p o':=by funext q; simp only [sset]; split <;> rfl
@[simp] theorem sset_sdel (σ:St O) (p:Addr) (o:O):sset (sdel σ p) p o=sset σ p o:=by funext q; simp only [sset,sdel]; split <;> rfl
theorem sset_eq {σ:St O} {p:Addr} {o:O} (h:σ p=some o):sset σ p o=σ:=by
  funext q; simp only [sset]
  split
  · rename_i e; subst e; exact h.symm
  · rfl
class Heads (rep:O→Addr→At):Prop where
  head: ∀ {o p h F M},(rep o p).P h F M→p.block ∈ F∧p.off=0∧p.spot=none
def hpA (rep:O→Addr→At) (σ:St O):At:=
  exA fun l:List (Addr × O)=>factA ((l.map (·.1)).Nodup∧ ∀ q,σ q=look l q) (bigA (l.map fun p=>rep p.2 p.1))
variable {rep:O→Addr→At} {σ:St O} {p:Addr} {o:O}
theorem hp_mk {l:List (Addr × O)} (hn:(l.map (·.1)).Nodup) (hl: ∀ q,σ q=look l q) (I:Inv h (bigA (l.map fun p=>rep p.2 p.1)::A)):Inv h (hpA rep σ::A):=
  Inv.exI (f:=fun l:List (Addr × O)=>factA ((l.map (·.1)).Nodup∧ ∀ q,σ q=look l q) (bigA (l.map fun p=>rep p.2 p.1))) l (I.factI ⟨hn,hl⟩)
theorem look_split {L:List (κ × V)} {k:κ} {v:V} (h:look L k=some v): ∃ X Y,L=X++(k,v)::Y∧k ∉ X.map (·.1):=by
  induction L with
  | nil=>simp [look] at h
  | cons q L ih =>
    obtain ⟨k',v'⟩:=q
    simp only [look] at h
    split at h
    · rename_i e; subst e; cases h; exact ⟨[],L,rfl,by simp⟩
    · rename_i e
      obtain ⟨X,Y,rfl,hX⟩:=ih h
      exact ⟨(k',v')::X,Y,rfl,by simp only [List.map_cons,List.mem_cons,not_or]; exact ⟨e,hX⟩⟩
theorem look_none {L:List (κ × V)} {k:κ}:look L k=none↔k ∉ L.map (·.1):=by
  induction L with
  | nil=>simp [look]
  | cons q L ih =>
    obtain ⟨k',v'⟩:=q
    simp only [look,List.map_cons,List.mem_cons,not_or]
    split
    · rename_i e; simp [e]
    · rename_i e; rw [ih]; exact ⟨fun h=>⟨e,h⟩,fun h=>h.2⟩
theorem look_append (X Y:List (κ × V)) (k:κ):look (X++Y) k=(look X k).or (look Y k):=by
  induction X with
  | nil=>simp [look]
  | cons q X ih =>
    obtain ⟨k',v'⟩:=q
    simp only [List.cons_append,look]
    split
    · rfl
    · exact ih
theorem Inv.take (I:Inv h (hpA rep σ::A)) (e:σ p=some o):Inv h (rep o p::hpA rep (sdel σ p)::A):=by
  obtain ⟨l,I⟩:=I.exE
  obtain ⟨⟨hn,hl⟩,I⟩:=I.factE
  have I:=I.bigE
  rw [hl] at e
  obtain ⟨X,Y,rfl,hX⟩:=look_split e
  have I:Inv h (X.map (fun p=>rep p.2 p.1)++rep o p::(Y.map (fun p=>rep p.2 p.1)++A)):=by simpa using I
  have I:=I.mid
  rw [List.map_append,List.map_cons,List.nodup_append] at hn
  obtain ⟨n1,n2,n3⟩:=hn
  simp only [List.nodup_cons] at n2
  refine I.under fun J=> ?_
  have J:=Inv.bigI (As:=(X++Y).map fun p=>rep p.2 p.1) (A:=A++[rep o p]) (by simpa using J)
  refine hp_mk (l:=X++Y) ?_ (fun q=> ?_) J
  · rw [List.map_append, List.nodup_append]
    exact ⟨n1,n2.2,fun x hx y hy=>n3 x hx y (List.mem_cons_of_mem _ hy)⟩
  · unfold sdel
    split
    · rename_i e2; subst e2
      rw [eq_comm,look_none,List.map_append,List.mem_append,not_or]
      exact ⟨hX,n2.1⟩
    · rename_i e2
      rw [hl,look_append,look_append]
      simp only [look,e2,if_false]
theorem Inv.put (I:Inv h (rep o p::hpA rep σ::A)) (e:σ p=none):Inv h (hpA rep (sset σ p o)::A):=by
  obtain ⟨l,I⟩:=I.swap.exE
  obtain ⟨⟨hn,hl⟩,I⟩:=I.factE
  have I:=I.swap
  have I:Inv h (rep o p::(l.map (fun p=>rep p.2 p.1)++A)):=I.under fun J=>by have:=J.bigE; simpa using this
  have hpl:p ∉ l.map (·.1):=by rw [← look_none,← hl,e]
  refine hp_mk (l:=(p,o)::l) (by simp only [List.map_cons,List.nodup_cons]; exact ⟨hpl,hn⟩) (fun q=> ?_) (Inv.bigI (As:=((p,o)::l).map fun p=>rep p.2 p.1) I)
  unfold sset
  simp only [look]
  split
  · rfl
  · exact hl q
theorem Inv.putB (I:Inv h (rep o p::hpA rep (sdel σ p)::A)):Inv h (hpA rep (sset σ p o)::A):=by
  have:=I.put (by simp [sdel])
  rwa [sset_sdel] at this
theorem Inv.putS (e:σ p=some o) (I:Inv h (rep o p::hpA rep (sdel σ p)::A)):Inv h (hpA rep σ::A):=by
  have:=I.putB
  rwa [sset_eq e] at this
theorem Inv.new [Heads rep] (I : Inv h (rep o p :: hpA rep σ :: A)) : σ p = none ∧ Inv h (hpA rep (sset σ p o) :: A) := by
  have e:σ p=none:=by
    cases hs:σ p with
    | none=>rfl
    | some o2 =>
      exfalso
      have J:=(I.swap.take hs)
      have J:=J.pull2
      obtain ⟨Fs,hf,hn⟩:=J
      match Fs,hf,hn with
      | F :: G :: Fs, hf, hn =>
        have h1:=Heads.head hf.1
        have h2:=Heads.head hf.2.1
        simp only [List.flatten_cons] at hn
        rw [List.nodup_append] at hn
        exact hn.2.2 _ h1.1 _ (List.mem_append.2 (.inl h2.1)) rfl
      | [_],hf,_=>exact hf.2.elim
  exact ⟨e,I.put e⟩
def leA (h0:Hp) (M0:List Nat):At:=
  ⟨fun h F M=>F=[]∧Le h0 M0 h M,fun _ hL ⟨e,h⟩=>⟨e,h.trans hL⟩,fun ⟨e,_⟩ b hb=>by subst e; cases hb⟩
theorem inv_start (h:Hp):Inv h [leA h []]:=⟨[[]],⟨⟨rfl,Le.refl _ _⟩,trivial⟩,by simp⟩
theorem inv_end {h0:Hp} (I:Inv h (leA h0 []::A)):Keep [] h0 h:=by
  obtain ⟨F,M,_,hL⟩:=I.get
  exact hL.1
def Lf {α:Type} (Φ:(α→Prop)→α→Prop) (v:α):Prop:= ∀ R:α→Prop,(∀ v,(∃ S:α→Prop,(∀ v,S v→R v)∧Φ S v)→R v)→R v
theorem Lf.rule {α:Type} {Φ:(α→Prop)→α→Prop} (Iv:α→Prop) (μ:α→Nat) (step: ∀ v,Iv v→Φ (fun v'=>Iv v'∧μ v'<μ v) v): ∀ v,Iv v→Lf Φ v:=by
  intro v hI R hR
  have key: ∀ n v,μ v=n→Iv v→R v:=by
    intro n
    induction n using Nat.strongRecOn with
    | _ n ih =>
      intro v hn hI
      exact hR v ⟨_,fun v' ⟨h1,h2⟩=>ih _ (hn ▸ h2) v' rfl h1,step v hI⟩
  exact key _ v rfl hI
theorem Lf.fold {α:Type} {Φ:(α→Prop)→α→Prop} {v:α} (H:Φ (Lf Φ) v):Lf Φ v:=fun R hR=>hR v ⟨_,fun v' h'=>h' R hR,H⟩
theorem Lf.ind {α:Type} {Φ:(α→Prop)→α→Prop} {v:α} (H:Lf Φ v) (R:α→Prop) (step: ∀ v S,(∀ v,S v→R v)→Φ S v→R v):R v:=
  H R fun v ⟨S,h1,h2⟩=>step v S h1 h2
theorem lfp_fold {Φ:LoopS→LoopS} {v:List Value} (H:Φ (Lfp Φ) v h):Lfp Φ v h:=fun R hR=>hR v h ⟨_,fun v' h' H'=>H' R hR,H⟩
end Go.Pu
