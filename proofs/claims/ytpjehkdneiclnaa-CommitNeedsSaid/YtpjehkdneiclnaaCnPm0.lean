import Derived.Test.YtpjehkdneiclnaaCnPu9
set_option linter.unusedVariables false
set_option linter.unusedSimpArgs false
namespace Go.Pu
open Go Go.Wc
variable {κ X:Type} [DecidableEq κ] {Kx:Ky κ} {E:Rp X} {h:Hp} {A:List At} {m:Option Nat} {o:Option (Array MapEntry × Nat)} {a:Option Addr} {c n:Nat} {l:List X} {key:κ} {L:Option (List (κ × List X))}
def rH:Rp Sl where
  n:=1
  P:=fun _ _ vs s=>vs=[.slice s.a s.len s.cap]
  len:=by rintro _ _ _ s rfl; rfl
  one:=by rintro _ _ _ s rfl; exact all_one rfl
  mono:=by rintro _ _ _ _ _ s _ rfl; rfl
structure Row (X:Type) where
  a:Option Addr
  c:Nat
  l:List X
abbrev hd (r:Row X):Sl:=⟨r.a,r.l.length,r.c⟩
abbrev ls (T:List (κ × Row X)):List (κ × List X):=T.map fun p=>(p.1,p.2.l)
abbrev hs (T:List (κ × Row X)):List (κ × Sl):=T.map fun p=>(p.1,hd p.2)
abbrev owns (E:Rp X) (T:List (κ × Row X)):List At:=T.map fun p=>ownS E p.2.a p.2.l.length p.2.c p.2.l
def mapO (Kx:Ky κ) (E:Rp X) (m:Option Nat) (o:Option (Array MapEntry × Nat)) (L:Option (List (κ × List X))):At:=
  exA fun T:List (κ × Row X)=>factA (L=some (ls T)) (bigA (mapX Kx rH false m o (some (hs T))::owns E T))
def mapH (Kx : Ky κ) (E : Rp X) (m : Option Nat) (o : Option (Array MapEntry × Nat)) (L : Option (List (κ × List X))) (key : κ) (a : Option Addr) (c n : Nat) : At :=
  exA fun T:List (κ × Row X) × Row X × List (κ × Row X)=>factA ((∀ p ∈ T.1,p.1 ≠ key)∧L=some (ls (T.1++(key,T.2.1)::T.2.2))∧T.2.1.a=a∧T.2.1.c=c∧T.2.1.l.length=n)
    (bigA (mapX Kx rH false m o (some (hs (T.1++(key,T.2.1)::T.2.2)))::owns E (T.1++T.2.2)))
theorem Inv.perm {X Y:List At} (p:X.Perm Y): ∀ C,Inv h (X++C)→Inv h (Y++C):=by
  induction p with
  | nil=>exact fun C I=>I
  | cons x _ ih =>
    intro C I
    have:=ih (C++[x]) (by simpa using (show Inv h (x::(_++C)) from I).rot)
    exact Inv.rot' (X:=_++C) (by simpa using this)
  | swap x y l=>exact fun C I=>I.swap
  | trans _ _ i1 i2=>exact fun C I=>i2 C (i1 C I)
theorem hdr_unique {h h':Hp} {M M':List Nat}: ∀ {es:List MapEntry} {X Y:List (κ × Sl)},All2 (entR Kx rH false h M) es X→All2 (entR Kx rH false h' M') es Y→X=Y
  | _,_,_, .nil, .nil=>rfl
  | e :: es, (k1, s1) :: X, (k2, s2) :: Y, .cons ⟨a1, v1, b1, c1⟩ H1, .cons ⟨a2, v2, b2, c2⟩ H2 => by
    have e1:k1=k2:=Kx.inj (a1.symm.trans a2)
    simp only [rH] at c1 c2
    subst c1 c2
    have e2:=b1.symm.trans b2
    simp only [vOf,List.headD_cons,Value.slice.injEq] at e2
    have e3:s1=s2:=by cases s1; cases s2; simp_all
    rw [e1,e3,hdr_unique H1 H2]
theorem look_hs {T:List (κ × Row X)} {r:Row X} {T2:List (κ × Row X)} (h: ∀ p ∈ T,p.1 ≠ key):look (hs (T++(key,r)::T2)) key=some (hd r):=by
  induction T with
  | nil=>simp [look]
  | cons p T ih =>
    have:=h p (by simp)
    simp only [hs,List.cons_append,List.map_cons,look]
    rw [if_neg (fun e=>this e.symm)]
    exact ih fun q hq=>h q (by simp [hq])
def lkOP (L:Option (List (κ × List X))) (key:κ) (K:List X→Prop):Prop:= ∃ L0 y,L=some L0∧look L0 key=some y∧K y
theorem ls_split {T:List (κ × Row X)} {y:List X} (h:look (ls T) key=some y): ∃ T1 r T2,T=T1++(key,r)::T2∧(∀ p ∈ T1,p.1 ≠ key)∧r.l=y:=by
  induction T with
  | nil=>simp [look] at h
  | cons p T ih =>
    obtain ⟨k,r⟩:=p
    simp only [ls,List.map_cons,look] at h
    split at h
    · rename_i e; subst e
      exact ⟨[],r,T,rfl,by simp,by simpa using h⟩
    · rename_i e
      obtain ⟨T1,r',T2,rfl,h1,h2⟩:=ih h
      refine ⟨(k,r)::T1,r',T2,rfl,fun p hp=> ?_,h2⟩
      rcases List.mem_cons.1 hp with rfl | hp
      · exact fun e2=>e e2.symm
      · exact h1 p hp
theorem lkO_r {K:(Hp→Prop)→Sl→Bool→Prop} {K':List X→Prop} (I:Inv h (mapO Kx E m o L::A)) (H:lkOP L key K')
    (k: ∀ f a1 c1 y,(∀ {h' A'},Inv h' (mapH Kx E m o L key a1 c1 y.length::A')→f h')→Inv h (ownS E a1 y.length c1 y::mapH Kx E m o L key a1 c1 y.length::A)→K' y→K f ⟨a1,y.length,c1⟩ true):
    lkW Kx.kd h m (Kx.enc key) fun f ov=>isS (ov.getD (.slice none 0 0)) fun y=>letB ov.isSome fun ok=>K f y ok:=by
  obtain ⟨T,I⟩:=I.exE
  obtain ⟨hL,I⟩:=I.factE
  obtain ⟨L0,y,e0,hy,HK⟩:=H
  rw [hL] at e0; cases e0
  obtain ⟨T1,r,T2,rfl,hn,rfl⟩:=ls_split hy
  have I:=I.bigE
  have I:Inv h (mapX Kx rH false m o (some (hs (T1++(key,r)::T2)))::(owns E (T1++(key,r)::T2)++A)):=I
  have hlk:lkO (some (hs (T1++(key,r)::T2))) key=some (hd r):=by simp only [lkO,Option.getD_some]; exact look_hs hn
  refine lk_r (E:=rH) (zvs:=[.slice none 0 0]) (z0:=⟨none,0,0⟩) I rfl (fun _ _=>rfl) fun f ov vs h1 h2 hf J=> ?_
  have hvs:vs=[.slice r.a r.l.length r.c]:=by
    obtain ⟨F,M,_,hv⟩:=J.get
    rw [hlk] at hv
    exact hv
  subst hvs
  refine ⟨hd r,h1, ?_⟩
  show K f _ ov.isSome
  rw [h2,hlk]
  have J:=J.drop1
  obtain ⟨F0,M0,HJ0⟩:=J.get
  refine k f r.a r.c r.l (fun {h' A'} JJ=> ?_) ?_ HK
  · obtain ⟨⟨S1, r', S2⟩, JJ⟩ := JJ.exE
    obtain ⟨⟨q1,q2,q3⟩,JJ⟩:=JJ.factE
    have JJ:=JJ.bigE
    have JJ:Inv h' (mapX Kx rH false m o (some (hs (S1++(key,r')::S2)))::(owns E (S1++S2)++A')):=JJ
    obtain ⟨F1,M1,HJ1⟩:=JJ.get
    have e:hs (S1++(key,r')::S2)=hs (T1++(key,r)::T2):=by
      match m,o,HJ0,HJ1 with
      | some rr,some (es,ck),⟨_,_,g,_⟩,⟨_,_,g',_⟩=>exact hdr_unique g' g
      | none,none,hm,_=>exact (hm:False).elim
      | none,some _,hm,_=>exact (hm:False).elim
      | some _,none,hm,_=>exact (hm:False).elim
    rw [e] at JJ
    exact hf JJ
  · have p : (mapX Kx rH false m o (some (hs (T1 ++ (key, r) :: T2))) :: owns E (T1 ++ (key, r) :: T2)).Perm (ownS E r.a r.l.length r.c r.l :: mapX Kx rH false m o (some (hs (T1 ++ (key, r) :: T2))) :: owns E (T1 ++ T2)) := by
      have:owns E (T1++(key,r)::T2)=owns E T1++ownS E r.a r.l.length r.c r.l::owns E T2:=by simp [owns]
      rw [this]
      have e2:owns E (T1++T2)=owns E T1++owns E T2:=by simp [owns]
      rw [e2]
      exact (List.Perm.cons _ List.perm_middle).trans (List.Perm.swap _ _ _)
    have I2:=Inv.perm p A (by simpa using J)
    have I3:Inv h (ownS E r.a r.l.length r.c r.l::((mapX Kx rH false m o (some (hs (T1++(key,r)::T2)))::owns E (T1++T2))++A)):=I2
    refine Inv.under I3 fun J3=> ?_
    have J4:=Inv.bigI (As:=mapX Kx rH false m o (some (hs (T1++(key,r)::T2)))::owns E (T1++T2)) (A:=A++[ownS E r.a r.l.length r.c r.l]) (by simpa using J3)
    exact (J4.factI ⟨hn,hL,rfl,rfl,rfl⟩).exI (T1,r,T2)
theorem upd_mid {T1 T2:List (κ × Row X)} {r:Row X} {l':List X} (hn: ∀ p ∈ T1,p.1 ≠ key):upd (ls (T1++(key,r)::T2)) key l'=ls (T1++(key,⟨r.a,r.c,l'⟩)::T2):=by
  induction T1 with
  | nil=>simp [upd]
  | cons p T ih =>
    have:=hn p (by simp)
    simp only [ls,List.cons_append,List.map_cons,upd]
    rw [if_neg (fun e=>this e.symm)]
    have:=ih fun q hq=>hn q (by simp [hq])
    simp only [ls] at this
    rw [this]
theorem Inv.fillH {l':List X} (I:Inv h (ownS E a n c l'::mapH Kx E m o L key a c n::A)):Inv h (mapO Kx E m o (L.map (upd · key l'))::A):=by
  have hl:=own_len I
  obtain ⟨⟨T1,r,T2⟩,I⟩:=(I.pull1).exE
  obtain ⟨⟨hn,hL,ha,hc,hlen⟩,I⟩:=I.factE
  simp only at hn hL ha hc hlen
  have I:=I.bigE
  have I:Inv h ((mapX Kx rH false m o (some (hs (T1++(key,r)::T2)))::owns E (T1++T2))++(ownS E a n c l'::A)):=I
  let r':Row X:=⟨r.a,r.c,l'⟩
  have eh:hs (T1++(key,r)::T2)=hs (T1++(key,r')::T2):=by
    simp only [hs,List.map_append,List.map_cons,r',hd]
    rw [hlen,hl]
  have p:(mapX Kx rH false m o (some (hs (T1++(key,r')::T2)))::owns E (T1++T2)++[ownS E a n c l']).Perm (mapX Kx rH false m o (some (hs (T1++(key,r')::T2)))::owns E (T1++(key,r')::T2)):=by
    have e1:owns E (T1++(key,r')::T2)=owns E T1++ownS E r.a l'.length r.c l'::owns E T2:=by simp [owns,r']
    have e2:owns E (T1++T2)=owns E T1++owns E T2:=by simp [owns]
    rw [e1,e2,ha,hc,← hl]
    refine List.Perm.cons _ ?_
    have:(owns E T1++owns E T2++[ownS E a n c l']).Perm (ownS E a n c l'::(owns E T1++owns E T2)):=List.perm_append_comm
    exact this.trans List.perm_middle.symm
  rw [eh] at I
  have I2:=Inv.perm p A (by simpa using I)
  have J:=Inv.bigI I2
  exact (J.factI (by rw [hL]; simp only [Option.map_some]; rw [upd_mid hn])).exI (T1++(key,r')::T2)
theorem Inv.toO (I:Inv h (mapX Kx (rS E) false m o (some [])::A)):Inv h (mapO Kx E m o (some [])::A):=by
  have:Inv h (mapX Kx rH false m o (some (hs ([]:List (κ × Row X))))::A):=I.conv fun F M H=>by
    match m,o,H with
    | some r, some (es, ck), ⟨h1, h2, h3, h4⟩ =>
      refine ⟨h1,h2, ?_,h4⟩
      cases he:es.toList with
      | nil=>exact .nil
      | cons x y=>rw [he] at h3; cases h3
    | none,none,hm=>exact (hm:False).elim
    | none,some _,hm=>exact (hm:False).elim
    | some _,none,hm=>exact (hm:False).elim
  have J:=Inv.bigI (As:=[mapX Kx rH false m o (some (hs ([]:List (κ × Row X))))]) this
  exact (J.factI rfl).exI []
theorem upd_hs {T:List (κ × Row X)} {r:Row X}: ∃ T',upd (hs T) key (hd r)=hs T'∧upd (ls T) key r.l=ls T'∧((T'=T++[(key,r)])∨ ∃ T1 r0 T2,T=T1++(key,r0)::T2∧T'=T1++(key,r)::T2):=by
  induction T with
  | nil=>exact ⟨[(key,r)],rfl,rfl, .inl rfl⟩
  | cons p T ih =>
    obtain ⟨k,q⟩:=p
    simp only [hs,ls,List.map_cons,upd]
    by_cases e:key=k
    · subst e
      simp only [if_true]
      exact ⟨(key,r)::T,rfl,rfl, .inr ⟨[],q,T,rfl,rfl⟩⟩
    · simp only [if_neg e]
      obtain ⟨T',h1,h2,h3⟩:=ih
      refine ⟨(k,q)::T',by simp only [hs,List.map_cons] at h1 ⊢; rw [h1],by simp only [ls,List.map_cons] at h2 ⊢; rw [h2], ?_⟩
      rcases h3 with rfl | ⟨T1,r0,T2,rfl,rfl⟩
      · exact .inl rfl
      · exact .inr ⟨(k,q)::T1,r0,T2,rfl,rfl⟩
theorem muO_r {K : Hp → Prop} {K' : Option (List (κ × List X)) → Prop} (I : Inv h (ownS E a n c l :: mapO Kx E m o L :: A)) (H : muP L key l K')
    (k: ∀ h' o' L',Inv h' (mapO Kx E m o' L'::A)→K' L'→K h'):muW Kx.kd h m (Kx.enc key) (.slice a n c) K:=by
  obtain rfl:=own_len I
  obtain ⟨T,I⟩:=(I.pull1).exE
  obtain ⟨hL,I⟩:=I.factE
  obtain ⟨L0,e0,HK⟩:=H
  rw [hL] at e0; cases e0
  have I:=I.bigE
  have I:Inv h (mapX Kx rH false m o (some (hs T))::(owns E T++(ownS E a l.length c l::A))):=I
  have J:Inv h (repA rH [.slice a l.length c] ⟨a,l.length,c⟩::mapX Kx rH false m o (some (hs T))::(owns E T++(ownS E a l.length c l::A))):=I.rep fun _ _=>rfl
  obtain ⟨T',h1,h2,h3⟩:=upd_hs (T:=T) (key:=key) (r:=⟨a,c,l⟩)
  refine mu_r (Kx:=Kx) (key:=key) (agg:=false) J rfl (K':=fun L'=>L'=some (upd (hs T) key ⟨a,l.length,c⟩)) ⟨_,rfl,rfl⟩ fun h' o' L' J2 e=> ?_
  subst e
  rw [show upd (hs T) key ⟨a,l.length,c⟩=hs T' from h1] at J2
  refine k h' o' _ ?_ HK
  have fin:Inv h' ((mapX Kx rH false m o' (some (hs T'))::owns E T')++A):=by
    have J3:Inv h' ((mapX Kx rH false m o' (some (hs T'))::owns E T++[ownS E a l.length c l])++A):=by simpa using J2
    rcases h3 with rfl | ⟨T1,r0,T2,rfl,rfl⟩
    · have e : owns E (T ++ [(key, (⟨a, c, l⟩ : Row X))]) = owns E T ++ [ownS E a l.length c l] := by simp [owns]
      rw [e]; simpa using J3
    · have p : (mapX Kx rH false m o' (some (hs (T1 ++ (key, (⟨a, c, l⟩ : Row X)) :: T2))) :: owns E (T1 ++ (key, r0) :: T2) ++ [ownS E a l.length c l]).Perm (ownS E r0.a r0.l.length r0.c r0.l :: (mapX Kx rH false m o' (some (hs (T1 ++ (key, (⟨a, c, l⟩ : Row X)) :: T2))) :: owns E (T1 ++ (key, (⟨a, c, l⟩ : Row X)) :: T2))) := by
        have e1:owns E (T1++(key,r0)::T2)=owns E T1++ownS E r0.a r0.l.length r0.c r0.l::owns E T2:=by simp [owns]
        have e2:owns E (T1++(key,(⟨a,c,l⟩:Row X))::T2)=owns E T1++ownS E a l.length c l::owns E T2:=by simp [owns]
        rw [e1,e2]
        refine List.Perm.trans ?_ (List.Perm.swap _ _ _)
        refine List.Perm.cons _ ?_
        have q1:(owns E T1++ownS E r0.a r0.l.length r0.c r0.l::owns E T2++[ownS E a l.length c l]).Perm (ownS E a l.length c l::(owns E T1++ownS E r0.a r0.l.length r0.c r0.l::owns E T2)):=List.perm_append_comm
        refine q1.trans ?_
        refine (List.Perm.cons _ List.perm_middle).trans ((List.Perm.swap _ _ _).trans (List.Perm.cons _ List.perm_middle.symm))
      exact (Inv.perm p A J3).drop1
  have J:=Inv.bigI fin
  exact (J.factI (by rw [show upd (ls T) key l=ls T' from h2])).exI T'
theorem mapO_nil (I:Inv h (mapO Kx E m o L::A)):Option.isNone L=false:=by
  obtain ⟨T,I⟩:=I.exE
  obtain ⟨hL,_⟩:=I.factE
  rw [hL]; rfl
end Go.Pu
