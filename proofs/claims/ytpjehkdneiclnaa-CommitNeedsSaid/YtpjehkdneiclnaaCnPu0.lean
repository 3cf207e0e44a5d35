import Derived.Test.YtpjehkdneiclnaaCnHb2
set_option linter.unusedSimpArgs false
set_option linter.unusedVariables false
namespace Go.Pu
open Go Go.Wc
def Le (h:Hp) (M:List Nat) (h':Hp) (M':List Nat):Prop:=Keep M h h'∧ ∀ b ∈ M',b ∈ M∨h.size≤b
theorem Le.refl (h:Hp) (M:List Nat):Le h M h M:=⟨Keep.refl _ _,fun _ hb=> .inl hb⟩
theorem Le.trans {h h1 h2:Hp} {M M1 M2:List Nat} (a:Le h M h1 M1) (b:Le h1 M1 h2 M2):Le h M h2 M2:=
  ⟨a.1.trans b.1 a.2,fun x hx=>(b.2 x hx).elim (a.2 x) fun hl=> .inr (Nat.le_trans a.1.1 hl)⟩
structure At where
  P:Hp→List Nat→List Nat→Prop
  mono: ∀ {h F M h' M'},(∀ b ∈ F,h'[b]? =h[b]?)→Le h M h' M'→P h F M→P h' F M'
  lt: ∀ {h F M},P h F M→ ∀ b ∈ F,b<h.size
def Fits (h:Hp) (M:List Nat):List At→List (List Nat)→Prop
  | [],[]=>True
  | a::A,F::Fs=>a.P h F M∧Fits h M A Fs
  | _,_=>False
def Inv (h:Hp) (A:List At):Prop:= ∃ Fs,Fits h Fs.flatten A Fs∧Fs.flatten.Nodup
theorem Fits.mono {h h':Hp} {M M':List Nat} (hL:Le h M h' M'): ∀ {A:List At} {Fs:List (List Nat)},(∀ b ∈ Fs.flatten,h'[b]? =h[b]?)→Fits h M A Fs→Fits h' M' A Fs
  | [],[],_,_=>trivial
  | a::A,F::Fs,hk,H=>⟨a.mono (fun b hb=>hk b (by simp [hb])) hL H.1,Fits.mono hL (fun b hb=>hk b (by simp only [List.flatten_cons,List.mem_append]; exact .inr hb)) H.2⟩
  | [],_::_,_,H=>H.elim
  | _::_,[],_,H=>H.elim
theorem Fits.lt {h:Hp} {M:List Nat}: ∀ {A:List At} {Fs:List (List Nat)},Fits h M A Fs→ ∀ b ∈ Fs.flatten,b<h.size
  | [],[],_,b,hb=>by simp at hb
  | a :: A, F :: Fs, H, b, hb => by
    simp only [List.flatten_cons,List.mem_append] at hb
    exact hb.elim (a.lt H.1 b) (Fits.lt H.2 b)
  | [],_::_,H,_,_=>H.elim
  | _::_,[],H,_,_=>H.elim
theorem Fits.append {h:Hp} {M:List Nat}: ∀ {A B:List At} {Fs Gs:List (List Nat)},Fits h M A Fs→Fits h M B Gs→Fits h M (A++B) (Fs++Gs)
  | [],_,[],_,_,HB=>HB
  | _::_,_,_::_,_,HA,HB=>⟨HA.1,Fits.append HA.2 HB⟩
  | [],_,_::_,_,H,_=>H.elim
  | _::_,_,[],_,H,_=>H.elim
theorem Fits.split {h:Hp} {M:List Nat}: ∀ {A B:List At} {Fs:List (List Nat)},Fits h M (A++B) Fs→ ∃ Gs Hs,Fs=Gs++Hs∧Fits h M A Gs∧Fits h M B Hs
  | [],_,Fs,H=>⟨[],Fs,rfl,trivial,H⟩
  | a :: A, B, F :: Fs, H => by
    obtain ⟨Gs,Hs,rfl,h1,h2⟩:=Fits.split H.2
    exact ⟨F::Gs,Hs,rfl,⟨H.1,h1⟩,h2⟩
  | _::_,_,[],H=>H.elim
theorem Inv.turn {h:Hp} {A:List At} {a:At} (I:Inv h (a::A)): ∃ F M,a.P h F M∧(∀ b ∈ F,b ∈ M)∧F.Nodup∧(∀ b ∈ M,b<h.size)∧
    ∀ (h' : Hp) (B : List At) (Gs : List (List Nat)), Keep F h h' → (∀ b ∈ Gs.flatten, b ∈ F ∨ h.size ≤ b) → Gs.flatten.Nodup →
      (∀ M',Le h M h' M'→(∀ b ∈ M',b ∈ Gs.flatten∨(b ∈ M∧b ∉ F))→(∀ b ∈ Gs.flatten,b ∈ M')→Fits h' M' B Gs)→Inv h' (B++A):=by
  obtain ⟨Fs,hf,hn⟩:=I
  match Fs,hf,hn with
  | F :: Fs, hf, hn =>
    have hlt:=Fits.lt hf
    simp only [List.flatten_cons] at hf hn hlt
    obtain ⟨n1,n2,n3⟩:=List.nodup_append.1 hn
    refine ⟨F,F++Fs.flatten,hf.1,fun b hb=>by simp [hb],n1,fun b hb=>hlt b (by simpa using hb),fun h' B Gs hk hg hgn H=> ?_⟩
    have hdis: ∀ b ∈ Gs.flatten,∀ c ∈ Fs.flatten,b ≠ c:=fun b hb c hc e=>by
      subst e
      rcases hg b hb with h1 | h1
      · exact n3 b h1 b hc rfl
      · have:=hlt b (List.mem_append.2 (.inr hc)); omega
    have hL:Le h (F++Fs.flatten) h' (Gs.flatten++Fs.flatten):=by
      refine ⟨hk.mono fun b hb=> .inl (by simp [hb]),fun b hb=> ?_⟩
      rcases List.mem_append.1 hb with hb | hb
      · exact (hg b hb).imp (fun h=>by simp [h]) id
      · exact .inl (List.mem_append.2 (.inr hb))
    have h1:=H _ hL (fun b hb=>by
      rcases List.mem_append.1 hb with hb | hb
      · exact .inl hb
      · exact .inr ⟨List.mem_append.2 (.inr hb),fun e=>n3 b e b hb rfl⟩) (fun b hb=>by simp only [List.mem_append]; exact .inl hb)
    refine ⟨Gs++Fs, ?_, ?_⟩
    · rw [List.flatten_append]
      exact Fits.append h1 (Fits.mono hL (fun b hb=>hk.2 b (hlt b (List.mem_append.2 (.inr hb))) fun e=>n3 b e b hb rfl) hf.2)
    · rw [List.flatten_append, List.nodup_append]
      exact ⟨hgn,n2,hdis⟩
  | [],hf,_=>exact hf.elim
def emp:At:=⟨fun _ F _=>F=[],fun _ _ h=>h,fun h b hb=>by subst h; cases hb⟩
theorem Inv.emp_add {h:Hp} {A:List At} (I:Inv h A):Inv h (emp::A):=by
  obtain ⟨Fs,hf,hn⟩:=I
  exact ⟨[]::Fs,⟨rfl,by simpa using hf⟩,by simpa using hn⟩
theorem Inv.addP {h:Hp} {A:List At} {a:At} (I:Inv h A) (H: ∀ M,(∀ b ∈ M,b<h.size)→a.P h [] M):Inv h (a::A):=by
  obtain ⟨Fs,hf,hn⟩:=I
  exact ⟨[]::Fs,⟨by simpa using H _ (Fits.lt hf),by simpa using hf⟩,by simpa using hn⟩
theorem Inv.drop1 {h:Hp} {A:List At} {a:At} (I:Inv h (a::A)):Inv h A:=by
  obtain ⟨F,M,_,_,_,_,H⟩:=I.turn
  exact H h [] [] (Keep.refl _ _) (by simp) (by simp) fun M' hL _ _=>trivial
theorem Inv.conv {h:Hp} {A:List At} {a b:At} (I:Inv h (a::A)) (H: ∀ F M,a.P h F M→b.P h F M):Inv h (b::A):=by
  obtain ⟨F,M,h1,h3,h4,_,h5⟩:=I.turn
  exact h5 h [b] [F] (Keep.refl _ _) (fun b hb=> .inl (by simpa using hb)) (by simpa using h4) fun M' hL _ hM'=>⟨H F M' (a.mono (fun _ _=>rfl) hL h1),trivial⟩
theorem Inv.get {h:Hp} {A:List At} {a:At} (I:Inv h (a::A)): ∃ F M,a.P h F M:=by
  obtain ⟨F,M,h1,_⟩:=I.turn
  exact ⟨F,M,h1⟩
theorem Inv.dup {h:Hp} {A:List At} {a:At} (I:Inv h (a::A)) (H: ∀ F M,a.P h F M→F=[]):Inv h (a::a::A):=by
  obtain ⟨Fs,hf,hn⟩:=I
  match Fs,hf,hn with
  | F :: Fs, hf, hn =>
    obtain rfl:=H _ _ hf.1
    exact ⟨[]::[]::Fs,⟨by simpa using hf.1,by simpa using hf.1,by simpa using hf.2⟩,by simpa using hn⟩
def sep (a b : At) : At where
  P h F M:= ∃ F1 F2,F=F1++F2∧a.P h F1 M∧b.P h F2 M
  mono:=fun hk hL ⟨F1,F2,e,h1,h2⟩=>⟨F1,F2,e,a.mono (fun b hb=>hk b (by simp [e,hb])) hL h1,b.mono (fun b hb=>hk b (by simp [e,hb])) hL h2⟩
  lt:=fun ⟨F1,F2,e,h1,h2⟩ x hx=>by
    subst e
    exact (List.mem_append.1 hx).elim (a.lt h1 x) (b.lt h2 x)
def exA {α:Type} (f:α→At):At where
  P h F M:= ∃ x,(f x).P h F M
  mono:=fun hk hL ⟨x,h⟩=>⟨x,(f x).mono hk hL h⟩
  lt:=fun ⟨x,h⟩=>(f x).lt h
def factA (φ:Prop) (a:At):At where
  P h F M:=φ∧a.P h F M
  mono:=fun hk hL ⟨h1,h2⟩=>⟨h1,a.mono hk hL h2⟩
  lt:=fun ⟨_,h⟩=>a.lt h
variable {h:Hp} {A:List At} {a b:At}
theorem Inv.sepE (I:Inv h (sep a b::A)):Inv h (a::b::A):=by
  obtain ⟨Fs,hf,hn⟩:=I
  match Fs,hf,hn with
  | F :: Fs, hf, hn =>
    obtain ⟨⟨F1,F2,rfl,h1,h2⟩,h3⟩:=hf
    have e:(F1::F2::Fs).flatten=((F1++F2)::Fs).flatten:=by simp
    exact ⟨F1::F2::Fs,⟨e ▸ h1,e ▸ h2,e ▸ h3⟩,e ▸ hn⟩
theorem Inv.sepI (I:Inv h (a::b::A)):Inv h (sep a b::A):=by
  obtain ⟨Fs,hf,hn⟩:=I
  match Fs,hf,hn with
  | F1 :: F2 :: Fs, hf, hn =>
    obtain ⟨h1,h2,h3⟩:=hf
    have e:((F1++F2)::Fs).flatten=(F1::F2::Fs).flatten:=by simp
    exact ⟨(F1++F2)::Fs,⟨⟨F1,F2,rfl,e ▸ h1,e ▸ h2⟩,e ▸ h3⟩,e ▸ hn⟩
  | [_],hf,_=>exact hf.2.elim
theorem Inv.exE {α:Type} {f:α→At} (I:Inv h (exA f::A)): ∃ x,Inv h (f x::A):=by
  obtain ⟨Fs,hf,hn⟩:=I
  match Fs,hf,hn with
  | F :: Fs, hf, hn =>
    obtain ⟨⟨x,h1⟩,h3⟩:=hf
    exact ⟨x,F::Fs,⟨h1,h3⟩,hn⟩
theorem Inv.exI {α:Type} {f:α→At} (x:α) (I:Inv h (f x::A)):Inv h (exA f::A):=I.conv fun _ _ h=>⟨x,h⟩
theorem Inv.factE {φ:Prop} (I:Inv h (factA φ a::A)):φ∧Inv h (a::A):=by
  obtain ⟨F,M,h1⟩:=I.get
  exact ⟨h1.1,I.conv fun _ _ h=>h.2⟩
theorem Inv.factI {φ:Prop} (p:φ) (I:Inv h (a::A)):Inv h (factA φ a::A):=I.conv fun _ _ h=>⟨p,h⟩
theorem Inv.sepE' (I:Inv h (sep a b::A)):Inv h (b::a::A):=by
  obtain ⟨F,M,h1,h3,h4,_,h5⟩:=I.turn
  refine Inv.sepE ?_
  obtain ⟨F1,F2,rfl,g1,g2⟩:=h1
  refine h5 h [sep b a] [F2++F1] (Keep.refl _ _) (fun b hb=> .inl (by simp at hb ⊢; exact hb.symm)) ?_ fun M' hL _ hM'=>⟨⟨F2,F1,rfl,b.mono (fun _ _=>rfl) hL g2,a.mono (fun _ _=>rfl) hL g1⟩,trivial⟩
  simp only [List.flatten_cons,List.flatten_nil,List.append_nil]
  rw [List.nodup_append] at h4 ⊢
  exact ⟨h4.2.1,h4.1,fun x hx y hy e=>h4.2.2 y hy x hx e.symm⟩
theorem Inv.swap (I:Inv h (a::b::A)):Inv h (b::a::A):=I.sepI.sepE'
theorem Inv.rot {X:List At} {y:At} (I:Inv h (y::X)):Inv h (X++[y]):=by
  obtain ⟨Fs,hf,hn⟩:=I
  match Fs,hf,hn with
  | F :: Fs, hf, hn =>
    have hp:(Fs++[F]).flatten.Perm (F::Fs).flatten:=by simp only [List.flatten_append,List.flatten_cons,List.flatten_nil,List.append_nil]; exact List.perm_append_comm
    have hm: ∀ b,b ∈ (Fs++[F]).flatten↔b ∈ (F::Fs).flatten:=fun b=>hp.mem_iff
    have hL:Le h (F::Fs).flatten h (Fs++[F]).flatten:=⟨Keep.refl _ _,fun b hb=> .inl ((hm b).1 hb)⟩
    exact ⟨Fs++[F],Fits.append (hf.2.mono hL fun _ _=>rfl) ⟨y.mono (fun _ _=>rfl) hL hf.1,trivial⟩,hp.nodup_iff.2 hn⟩
theorem Inv.rot' {X:List At} {y:At} (I:Inv h (X++[y])):Inv h (y::X):=by
  obtain ⟨Fs,hf,hn⟩:=I
  obtain ⟨Gs,Hs,rfl,h1,h2⟩:=Fits.split hf
  match Hs,h2 with
  | [F], h2 =>
    have hp:(F::Gs).flatten.Perm (Gs++[F]).flatten:=by simp only [List.flatten_append,List.flatten_cons,List.flatten_nil,List.append_nil]; exact List.perm_append_comm
    have hL:Le h (Gs++[F]).flatten h (F::Gs).flatten:=⟨Keep.refl _ _,fun b hb=> .inl (hp.mem_iff.1 hb)⟩
    exact ⟨F::Gs,⟨y.mono (fun _ _=>rfl) hL h2.1,h1.mono hL fun _ _=>rfl⟩,hp.nodup_iff.2 hn⟩
  | _::_::_,h2=>exact h2.2.elim
theorem Inv.under {B:List At} (I:Inv h (a::A)) (H:Inv h (A++[a])→Inv h (B++[a])):Inv h (a::B):=(H I.rot).rot'
theorem Inv.pull1 {x0:At} (I:Inv h (x0::a::A)):Inv h (a::x0::A):=I.swap
theorem Inv.pull2 {x0 x1:At} (I:Inv h (x0::x1::a::A)):Inv h (a::x0::x1::A):=
  (I.under (B:=a::x1::A) fun J=>Inv.pull1 (A:=A++[x0]) J).swap
theorem Inv.pull3 {x0 x1 x2:At} (I:Inv h (x0::x1::x2::a::A)):Inv h (a::x0::x1::x2::A):=
  (I.under (B:=a::x1::x2::A) fun J=>Inv.pull2 (A:=A++[x0]) J).swap
theorem Inv.pull4 {x0 x1 x2 x3:At} (I:Inv h (x0::x1::x2::x3::a::A)):Inv h (a::x0::x1::x2::x3::A):=
  (I.under (B:=a::x1::x2::x3::A) fun J=>Inv.pull3 (A:=A++[x0]) J).swap
theorem Inv.pull5 {x0 x1 x2 x3 x4:At} (I:Inv h (x0::x1::x2::x3::x4::a::A)):Inv h (a::x0::x1::x2::x3::x4::A):=
  (I.under (B:=a::x1::x2::x3::x4::A) fun J=>Inv.pull4 (A:=A++[x0]) J).swap
theorem Inv.pull6 {x0 x1 x2 x3 x4 x5:At} (I:Inv h (x0::x1::x2::x3::x4::x5::a::A)):Inv h (a::x0::x1::x2::x3::x4::x5::A):=
  (I.under (B:=a::x1::x2::x3::x4::x5::A) fun J=>Inv.pull5 (A:=A++[x0]) J).swap
theorem Inv.pull7 {x0 x1 x2 x3 x4 x5 x6:At} (I:Inv h (x0::x1::x2::x3::x4::x5::x6::a::A)):Inv h (a::x0::x1::x2::x3::x4::x5::x6::A):=
  (I.under (B:=a::x1::x2::x3::x4::x5::x6::A) fun J=>Inv.pull6 (A:=A++[x0]) J).swap
theorem Inv.pull8 {x0 x1 x2 x3 x4 x5 x6 x7:At} (I:Inv h (x0::x1::x2::x3::x4::x5::x6::x7::a::A)):Inv h (a::x0::x1::x2::x3::x4::x5::x6::x7::A):=
  (I.under (B:=a::x1::x2::x3::x4::x5::x6::x7::A) fun J=>Inv.pull7 (A:=A++[x0]) J).swap
theorem Inv.pull9 {x0 x1 x2 x3 x4 x5 x6 x7 x8:At} (I:Inv h (x0::x1::x2::x3::x4::x5::x6::x7::x8::a::A)):Inv h (a::x0::x1::x2::x3::x4::x5::x6::x7::x8::A):=
  (I.under (B:=a::x1::x2::x3::x4::x5::x6::x7::x8::A) fun J=>Inv.pull8 (A:=A++[x0]) J).swap
theorem Inv.pull10 {x0 x1 x2 x3 x4 x5 x6 x7 x8 x9:At} (I:Inv h (x0::x1::x2::x3::x4::x5::x6::x7::x8::x9::a::A)):Inv h (a::x0::x1::x2::x3::x4::x5::x6::x7::x8::x9::A):=
  (I.under (B:=a::x1::x2::x3::x4::x5::x6::x7::x8::x9::A) fun J=>Inv.pull9 (A:=A++[x0]) J).swap
theorem Inv.pull11 {x0 x1 x2 x3 x4 x5 x6 x7 x8 x9 x10:At} (I:Inv h (x0::x1::x2::x3::x4::x5::x6::x7::x8::x9::x10::a::A)):Inv h (a::x0::x1::x2::x3::x4::x5::x6::x7::x8::x9::x10::A):=
  (I.under (B:=a::x1::x2::x3::x4::x5::x6::x7::x8::x9::x10::A) fun J=>Inv.pull10 (A:=A++[x0]) J).swap
theorem Inv.pull12 {x0 x1 x2 x3 x4 x5 x6 x7 x8 x9 x10 x11:At} (I:Inv h (x0::x1::x2::x3::x4::x5::x6::x7::x8::x9::x10::x11::a::A)):Inv h (a::x0::x1::x2::x3::x4::x5::x6::x7::x8::x9::x10::x11::A):=
  (I.under (B:=a::x1::x2::x3::x4::x5::x6::x7::x8::x9::x10::x11::A) fun J=>Inv.pull11 (A:=A++[x0]) J).swap
theorem Inv.pull13 {x0 x1 x2 x3 x4 x5 x6 x7 x8 x9 x10 x11 x12:At} (I:Inv h (x0::x1::x2::x3::x4::x5::x6::x7::x8::x9::x10::x11::x12::a::A)):Inv h (a::x0::x1::x2::x3::x4::x5::x6::x7::x8::x9::x10::x11::x12::A):=
  (I.under (B:=a::x1::x2::x3::x4::x5::x6::x7::x8::x9::x10::x11::x12::A) fun J=>Inv.pull12 (A:=A++[x0]) J).swap
theorem Inv.pull14 {x0 x1 x2 x3 x4 x5 x6 x7 x8 x9 x10 x11 x12 x13:At} (I:Inv h (x0::x1::x2::x3::x4::x5::x6::x7::x8::x9::x10::x11::x12::x13::a::A)):Inv h (a::x0::x1::x2::x3::x4::x5::x6::x7::x8::x9::x10::x11::x12::x13::A):=
  (I.under (B:=a::x1::x2::x3::x4::x5::x6::x7::x8::x9::x10::x11::x12::x13::A) fun J=>Inv.pull13 (A:=A++[x0]) J).swap
theorem Inv.pull15 {x0 x1 x2 x3 x4 x5 x6 x7 x8 x9 x10 x11 x12 x13 x14:At} (I:Inv h (x0::x1::x2::x3::x4::x5::x6::x7::x8::x9::x10::x11::x12::x13::x14::a::A)):Inv h (a::x0::x1::x2::x3::x4::x5::x6::x7::x8::x9::x10::x11::x12::x13::x14::A):=
  (I.under (B:=a::x1::x2::x3::x4::x5::x6::x7::x8::x9::x10::x11::x12::x13::x14::A) fun J=>Inv.pull14 (A:=A++[x0]) J).swap
theorem Inv.pull16 {x0 x1 x2 x3 x4 x5 x6 x7 x8 x9 x10 x11 x12 x13 x14 x15:At} (I:Inv h (x0::x1::x2::x3::x4::x5::x6::x7::x8::x9::x10::x11::x12::x13::x14::x15::a::A)):Inv h (a::x0::x1::x2::x3::x4::x5::x6::x7::x8::x9::x10::x11::x12::x13::x14::x15::A):=
  (I.under (B:=a::x1::x2::x3::x4::x5::x6::x7::x8::x9::x10::x11::x12::x13::x14::x15::A) fun J=>Inv.pull15 (A:=A++[x0]) J).swap
theorem Inv.pull17 {x0 x1 x2 x3 x4 x5 x6 x7 x8 x9 x10 x11 x12 x13 x14 x15 x16:At} (I:Inv h (x0::x1::x2::x3::x4::x5::x6::x7::x8::x9::x10::x11::x12::x13::x14::x15::x16::a::A)):Inv h (a::x0::x1::x2::x3::x4::x5::x6::x7::x8::x9::x10::x11::x12::x13::x14::x15::x16::A):=
  (I.under (B:=a::x1::x2::x3::x4::x5::x6::x7::x8::x9::x10::x11::x12::x13::x14::x15::x16::A) fun J=>Inv.pull16 (A:=A++[x0]) J).swap
theorem Inv.pull18 {x0 x1 x2 x3 x4 x5 x6 x7 x8 x9 x10 x11 x12 x13 x14 x15 x16 x17:At} (I:Inv h (x0::x1::x2::x3::x4::x5::x6::x7::x8::x9::x10::x11::x12::x13::x14::x15::x16::x17::a::A)):Inv h (a::x0::x1::x2::x3::x4::x5::x6::x7::x8::x9::x10::x11::x12::x13::x14::x15::x16::x17::A):=
  (I.under (B:=a::x1::x2::x3::x4::x5::x6::x7::x8::x9::x10::x11::x12::x13::x14::x15::x16::x17::A) fun J=>Inv.pull17 (A:=A++[x0]) J).swap
theorem Inv.pull19 {x0 x1 x2 x3 x4 x5 x6 x7 x8 x9 x10 x11 x12 x13 x14 x15 x16 x17 x18:At} (I:Inv h (x0::x1::x2::x3::x4::x5::x6::x7::x8::x9::x10::x11::x12::x13::x14::x15::x16::x17::x18::a::A)):Inv h (a::x0::x1::x2::x3::x4::x5::x6::x7::x8::x9::x10::x11::x12::x13::x14::x15::x16::x17::x18::A):=
  (I.under (B:=a::x1::x2::x3::x4::x5::x6::x7::x8::x9::x10::x11::x12::x13::x14::x15::x16::x17::x18::A) fun J=>Inv.pull18 (A:=A++[x0]) J).swap
theorem Inv.pull20 {x0 x1 x2 x3 x4 x5 x6 x7 x8 x9 x10 x11 x12 x13 x14 x15 x16 x17 x18 x19:At} (I:Inv h (x0::x1::x2::x3::x4::x5::x6::x7::x8::x9::x10::x11::x12::x13::x14::x15::x16::x17::x18::x19::a::A)):Inv h (a::x0::x1::x2::x3::x4::x5::x6::x7::x8::x9::x10::x11::x12::x13::x14::x15::x16::x17::x18::x19::A):=
  (I.under (B:=a::x1::x2::x3::x4::x5::x6::x7::x8::x9::x10::x11::x12::x13::x14::x15::x16::x17::x18::x19::A) fun J=>Inv.pull19 (A:=A++[x0]) J).swap
theorem Inv.pull21 {x0 x1 x2 x3 x4 x5 x6 x7 x8 x9 x10 x11 x12 x13 x14 x15 x16 x17 x18 x19 x20:At} (I:Inv h (x0::x1::x2::x3::x4::x5::x6::x7::x8::x9::x10::x11::x12::x13::x14::x15::x16::x17::x18::x19::x20::a::A)):Inv h (a::x0::x1::x2::x3::x4::x5::x6::x7::x8::x9::x10::x11::x12::x13::x14::x15::x16::x17::x18::x19::x20::A):=
  (I.under (B:=a::x1::x2::x3::x4::x5::x6::x7::x8::x9::x10::x11::x12::x13::x14::x15::x16::x17::x18::x19::x20::A) fun J=>Inv.pull20 (A:=A++[x0]) J).swap
theorem Inv.pull22 {x0 x1 x2 x3 x4 x5 x6 x7 x8 x9 x10 x11 x12 x13 x14 x15 x16 x17 x18 x19 x20 x21:At} (I:Inv h (x0::x1::x2::x3::x4::x5::x6::x7::x8::x9::x10::x11::x12::x13::x14::x15::x16::x17::x18::x19::x20::x21::a::A)):Inv h (a::x0::x1::x2::x3::x4::x5::x6::x7::x8::x9::x10::x11::x12::x13::x14::x15::x16::x17::x18::x19::x20::x21::A):=
  (I.under (B:=a::x1::x2::x3::x4::x5::x6::x7::x8::x9::x10::x11::x12::x13::x14::x15::x16::x17::x18::x19::x20::x21::A) fun J=>Inv.pull21 (A:=A++[x0]) J).swap
theorem Inv.pull23 {x0 x1 x2 x3 x4 x5 x6 x7 x8 x9 x10 x11 x12 x13 x14 x15 x16 x17 x18 x19 x20 x21 x22:At} (I:Inv h (x0::x1::x2::x3::x4::x5::x6::x7::x8::x9::x10::x11::x12::x13::x14::x15::x16::x17::x18::x19::x20::x21::x22::a::A)):Inv h (a::x0::x1::x2::x3::x4::x5::x6::x7::x8::x9::x10::x11::x12::x13::x14::x15::x16::x17::x18::x19::x20::x21::x22::A):=
  (I.under (B:=a::x1::x2::x3::x4::x5::x6::x7::x8::x9::x10::x11::x12::x13::x14::x15::x16::x17::x18::x19::x20::x21::x22::A) fun J=>Inv.pull22 (A:=A++[x0]) J).swap
theorem Inv.pull24 {x0 x1 x2 x3 x4 x5 x6 x7 x8 x9 x10 x11 x12 x13 x14 x15 x16 x17 x18 x19 x20 x21 x22 x23:At} (I:Inv h (x0::x1::x2::x3::x4::x5::x6::x7::x8::x9::x10::x11::x12::x13::x14::x15::x16::x17::x18::x19::x20::x21::x22::x23::a::A)):Inv h (a::x0::x1::x2::x3::x4::x5::x6::x7::x8::x9::x10::x11::x12::x13::x14::x15::x16::x17::x18::x19::x20::x21::x22::x23::A):=
  (I.under (B:=a::x1::x2::x3::x4::x5::x6::x7::x8::x9::x10::x11::x12::x13::x14::x15::x16::x17::x18::x19::x20::x21::x22::x23::A) fun J=>Inv.pull23 (A:=A++[x0]) J).swap
end Go.Pu
