import Derived.Test.YtkbmoanoaakcpaaSp0
set_option linter.unusedVariables false
namespace Go.Tx
open Go Go.Wc

theorem Keep.fresh {h h' h'' : Hp} {G : List Nat} (k1 : Keep [] h h') (k2 : Keep G h' h'') (hG : ∀ b ∈ G, h.size ≤ b) : Keep [] h h'' :=
  k1.trans k2 fun b hb => .inr (hG b hb)

/-- append(T{}, s...) -/
theorem clone_core {h : Hp} {s : Sl} {T bytes : Nat} {z : Value} {vs : List Value} {Q : Sl → Hp → Prop} (hs : SlV h s 1 vs) (h1 : ∀ v ∈ vs, v.oneCell' = true) (hz : z.cells.size = 1) (hb : bytes ≠ 0)
    (hbd : (2 * vs.length + 192) * bytes ≤ 2 ^ 48)
    (k : ∀ s' h' F', Own h' s' T 1 vs F' → Keep [] h h' → (∀ b ∈ F', h.size ≤ b) → s'.len = s.len → s'.a ≠ none → Q s' h') :
    alW h T [] fun p h2 => apW T 1 bytes z h2 (⟨some p, 0, 0⟩ : Sl) s fun s' h' => Q s' h' := by
  unfold alW
  have hO : Own (h.push (.cells ([] : List Value).toArray T (0, 0))) ⟨some ⟨h.size, 0, none⟩, 0, 0⟩ T 1 [] [h.size] := own_new (by simp)
  have hk : Keep [] h (h.push (.cells ([] : List Value).toArray T (0, 0))) := Keep.push _ _ _
  have hl : s.len = vs.length := by have := hs.1; omega
  refine apW_own (vs := []) (ws := vs) hO (hs.keep hk (fun a _ => by simp)) h1 hz hb (by simpa [hl] using hbd) fun s' h' F' hO' hl' k' hF' hin => ?_
  refine k s' h' F' (by simpa using hO') (Keep.fresh hk k' (by simp)) (fun b hb => ?_) (by simpa using hl') ?_
  · rcases hF' b hb with h | h
    · simp at h; omega
    · simp at h; omega
  · intro hn
    have h3 := hO'.2.2
    rw [hn] at h3
    obtain ⟨h3, h4⟩ := h3
    have : vs = [] := by
      have e1 := hO'.1
      have e2 := hO'.2.1
      simp only [List.nil_append] at e1
      exact List.length_eq_zero_iff.1 (by omega)
    subst this
    obtain ⟨rfl, -, -⟩ := hin (by simp [hl])
    simp at hn

theorem bytes_Clone_spec {ρ : Ids} {h : Hp} {s : Sl} {vs : List Value} {Q : Sl → Hp → Prop} (hs : SlV h s 1 vs) (h1 : ∀ v ∈ vs, v.oneCell' = true) (hl : vs.length < 2 ^ 46)
    (k : ∀ s' h' F', Own h' s' (ρ.T 1) 1 vs F' → Keep [] h h' → (∀ b ∈ F', h.size ≤ b) → s'.len = s.len → (s'.a = none ↔ s.a = none) → Q s' h') : bytes_Clone ρ s h Q := by
  unfold bytes_Clone
  rw [br_iff]
  constructor
  · intro e
    have e : s.a = none := by simpa using e
    have : vs = [] := by have := hs.2; rw [e] at this; exact this
    subst this
    have hl0 : s.len = 0 := by have := hs.1; simp at this; omega
    exact k _ _ [] (Own.nil _ _ _) (Keep.refl _ _) (fun b hb => by cases hb) hl0.symm (by simp [e])
  · intro e
    have e : s.a ≠ none := by intro hn; rw [hn] at e; simp at e
    refine clone_core hs h1 rfl (by decide) (by omega) fun s' h' F' h2 h3 h4 h5 h6 => k s' h' F' h2 h3 h4 h5 (by simp [h6, e])

theorem slices_Clone_int_int_spec {ρ : Ids} {h : Hp} {s : Sl} {vs : List Value} {Q : Sl → Hp → Prop} (hs : SlV h s 1 vs) (h1 : ∀ v ∈ vs, v.oneCell' = true) (hl : vs.length < 2 ^ 43)
    (k : ∀ s' h' F', Own h' s' (ρ.T 0) 1 vs F' → Keep [] h h' → (∀ b ∈ F', h.size ≤ b) → s'.len = s.len → (s'.a = none ↔ s.a = none) → Q s' h') : slices_Clone_int_int ρ s h Q := by
  unfold slices_Clone_int_int
  rw [br_iff]
  constructor
  · intro e
    have e : s.a = none := by simpa using e
    have : vs = [] := by have := hs.2; rw [e] at this; exact this
    subst this
    have hl0 : s.len = 0 := by have := hs.1; simp at this; omega
    exact k _ _ [] (Own.nil _ _ _) (Keep.refl _ _) (fun b hb => by cases hb) hl0.symm (by simp [e])
  · intro e
    have e : s.a ≠ none := by intro hn; rw [hn] at e; simp at e
    refine clone_core hs h1 rfl (by decide) (by omega) fun s' h' F' h2 h3 h4 h5 h6 => k s' h' F' h2 h3 h4 h5 (by simp [h6, e])

theorem slices_Reverse_int_int_spec {ρ : Ids} {s : Sl} {h : Hp} {Q : Hp → Prop} {L : List Int} {T : Nat} {F : List Nat} (H : Own h s T 1 (ints L) F) (hl : L.length < 2 ^ 62)
    (k : ∀ h', Own h' s T 1 (ints L.reverse) F → Keep F h h' → h'.size = h.size → Q h') : slices_Reverse_int_int ρ s h Q := by
  have hlen : s.len = L.length := by have := H.1; simp at this; omega
  unfold slices_Reverse_int_int
  rw [wrap64 (by omega) (by omega)]
  refine slices_Reverse_int_int_L1_rule ρ Q (fun s' i j h' => s' = s ∧ 0 ≤ i ∧ i + j = (L.length : Int) - 1 ∧ i ≤ j + 1 ∧ Keep F h h' ∧ h'.size = h.size ∧
      ∃ M : List Int, Own h' s T 1 (ints M) F ∧ M.length = L.length ∧ ∀ t (ht : t < M.length) (ht2 : t < L.length), M[t] = if (t : Int) < i ∨ j < (t : Int) then L[L.length - 1 - t] else L[t])
    (fun _ i j _ => (j + 1 - i).toNat) ?_ _ _ _ _ ⟨rfl, Int.le_refl _, by omega, by omega, Keep.refl _ _, rfl, L, H, rfl, fun t ht ht2 => by rw [if_neg]; omega⟩
  rintro s' i j h' ⟨rfl, h0, h1, h2, h3, h4, M, hM, hMl, hMt⟩
  unfold slices_Reverse_int_int_B1
  rw [br_iff]
  constructor
  · intro hlt
    have hlt : i < j := by simpa using hlt
    have hi : i.toNat < M.length := by omega
    have hj : j.toNat < M.length := by omega
    refine ix_of hM.slv (by omega) (by simp; omega) fun a ha => ?_
    rw [ldI_of (n := M[j.toNat]) (by rw [ha]; simp [hj])]
    refine ix_of hM.slv h0 (by simp; omega) fun a2 ha2 => ?_
    rw [ldI_of (n := M[i.toNat]) (by rw [ha2]; simp [hi])]
    refine own_st hM h0 (by simp; omega) fun h5 hO5 k5 s5 => ?_
    refine own_st hO5 (by omega) (by simp; omega) fun h6 hO6 k6 s6 => ?_
    rw [wrap64 (by omega) (by omega), wrap64 (by omega) (by omega)]
    refine ⟨⟨rfl, by omega, by omega, by omega, (h3.trans k5 fun b hb => .inl hb).trans k6 fun b hb => .inl hb, by omega, (M.set i.toNat M[j.toNat]).set j.toNat M[i.toNat], ?_, by simpa using hMl, ?_⟩, by omega⟩
    · simpa [ints, List.map_set] using hO6
    · intro t ht ht2
      simp only [List.length_set] at ht
      have hLi : L.length - 1 - i.toNat = j.toNat := by omega
      have hLj : L.length - 1 - j.toNat = i.toNat := by omega
      rw [List.getElem_set]
      by_cases e1 : j.toNat = t
      · subst e1
        rw [if_pos rfl, if_pos (by omega), hMt i.toNat hi (by omega), if_neg (by omega)]
        congr 1; omega
      · rw [if_neg e1, List.getElem_set]
        by_cases e2 : i.toNat = t
        · subst e2
          rw [if_pos rfl, if_pos (by omega), hMt j.toNat hj (by omega), if_neg (by omega)]
          congr 1; omega
        · rw [if_neg e2, hMt t ht ht2]
          by_cases e3 : (t : Int) < i ∨ j < (t : Int)
          · rw [if_pos e3, if_pos (by omega)]
          · rw [if_neg e3, if_neg (by omega)]
  · intro hge
    have hge : j ≤ i := by simpa using hge
    have : M = L.reverse := by
      apply List.ext_getElem (by simp [hMl])
      intro t h5 h6
      have ht2 : t < L.length := by omega
      rw [hMt t h5 ht2, List.getElem_reverse]
      split
      · rfl
      · congr 1; omega
    subst this
    exact k h' hM h3 h4

end Go.Tx
