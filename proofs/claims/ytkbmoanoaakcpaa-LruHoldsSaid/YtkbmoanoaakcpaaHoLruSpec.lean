import Derived.Test.YtkbmoanoaakcpaaHoPt
import Derived.Test.YtkbmoanoaakcpaaHoPu7
set_option linter.unusedSimpArgs false
set_option linter.unusedVariables false
namespace Go.Pt
open Go Go.Wc Go.Pu

/-! ### The cache, as plain functions of what it has -/

/-! loops of the library -/
def idx (s : List Int) (v : Int) : Int := if v ∈ s then (s.idxOf v : Int) else -1

theorem slices_Index_spec {s : List Int} {v : Int} {Q : Int → Prop} (hB : s.length ≤ 4294967296) (H : Q (idx s v)) : slices_Index_int_int s v Q := by
  unfold slices_Index_int_int
  have key : ∀ (rest acc : List Int), s = acc ++ rest → v ∉ acc → slices_Index_int_int_L1 Q s v (s.length : Int) (acc.length : Int) := by
    intro rest
    induction rest with
    | nil =>
      intro acc e hn
      rw [List.append_nil] at e
      subst e
      refine slices_Index_int_int_L1_in _ _ _ _ _ ?_
      unfold slices_Index_int_int_B1
      rw [decide_eq_false (by omega), br_false]
      unfold idx at H
      rw [if_neg hn] at H
      exact H
    | cons x rest ih =>
      intro acc e hn
      refine slices_Index_int_int_L1_in _ _ _ _ _ ?_
      unfold slices_Index_int_int_B1
      have hl : s.length = acc.length + (rest.length + 1) := by rw [e]; simp
      rw [decide_eq_true (by omega), br_true]
      refine ⟨by omega, x, by rw [e, Int.toNat_natCast, List.getElem?_append_right (by omega)]; simp, ?_⟩
      show br (v == x) _ _
      rw [br_iff]
      constructor
      · intro h
        have h : v = x := by simpa using h
        subst h
        unfold idx at H
        rw [if_pos (by rw [e]; simp), e, List.idxOf_append, if_neg hn] at H
        simpa using H
      · intro h
        have h : v ≠ x := by simpa using h
        rw [wrap64 (by omega) (by omega)]
        have := ih (acc ++ [x]) (by rw [e]; simp) (by simp only [List.mem_append, List.mem_singleton, not_or]; exact ⟨hn, h⟩)
        simpa using this
  exact key s [] rfl (by simp)

theorem erase_idx {s : List Int} {v : Int} (hv : v ∈ s) : s.take (s.idxOf v) ++ s.drop (s.idxOf v + 1) = s.erase v := by
  induction s with
  | nil => cases hv
  | cons a s ih =>
    by_cases h : a = v
    · subst h; simp
    · rw [List.erase_cons_tail (by simpa using h), List.idxOf_cons, show (a == v) = false by simpa using h, cond_false]
      simp only [List.take_succ_cons, List.drop_succ_cons, List.cons_append]
      rw [ih ((List.mem_cons.1 hv).resolve_left fun e => h e.symm)]

/-- slices.Delete of the one item at its place. -/
theorem delete_spec {s : List Int} {v : Int} {Q : List Int → Prop} (hB : s.length ≤ 4294967296) (hv : v ∈ s) (H : Q (s.erase v)) : slices_Delete_int_int s (idx s v) (IntKind.wrap .i64 (idx s v + 1)) Q := by
  have h1 : idx s v = (s.idxOf v : Int) := by unfold idx; rw [if_pos hv]
  have hlt := List.idxOf_lt_length_of_mem hv
  rw [h1, wrap64 (by omega) (by omega)]
  refine ⟨⟨by omega, by omega, by omega⟩, hB, ?_⟩
  have e1 : ((s.idxOf v : Int) + 1).toNat = s.idxOf v + 1 := by omega
  rw [e1, Int.toNat_natCast, erase_idx hv]
  exact H

theorem reverse_spec {s : List Int} {Q : List Int → Prop} (hB : s.length ≤ 4294967296) (H : Q s.reverse) : slices_Reverse_int_int s Q := by
  unfold slices_Reverse_int_int
  have key : ∀ (n : Nat) (a m b : List Int), m.length ≤ n → a.length = b.length → s = a ++ m ++ b → slices_Reverse_int_int_L1 Q (b.reverse ++ m ++ a.reverse) (a.length : Int) ((a.length + m.length : Nat) - 1 : Int) := by
    intro n
    induction n with
    | zero =>
      intro a m b hm hab e
      obtain rfl := List.length_eq_zero_iff.1 (Nat.le_zero.1 hm)
      refine slices_Reverse_int_int_L1_in _ _ _ _ ?_
      unfold slices_Reverse_int_int_B1
      rw [decide_eq_false (by simp; omega), br_false]
      have : s.reverse = b.reverse ++ [] ++ a.reverse := by rw [e]; simp
      rw [this] at H; exact H
    | succ n ih =>
      intro a m b hm hab e
      have hsl : s.length = a.length + m.length + b.length := by rw [e]; simp; omega
      refine slices_Reverse_int_int_L1_in _ _ _ _ ?_
      unfold slices_Reverse_int_int_B1
      rcases Nat.lt_or_ge m.length 2 with h2 | h2
      · rw [decide_eq_false (by omega), br_false]
        have : s.reverse = b.reverse ++ m ++ a.reverse := by
          rw [e]
          match m, h2 with
          | [], _ => simp
          | [x], _ => simp
        rw [this] at H; exact H
      · obtain ⟨x, m1, rfl⟩ := List.exists_cons_of_length_pos (l := m) (by omega)
        obtain ⟨m2, y, rfl⟩ : ∃ m2 y, m1 = m2 ++ [y] := by
          rcases List.eq_nil_or_concat m1 with h | ⟨m2, y, h⟩
          · subst h; simp at h2
          · exact ⟨m2, y, by simpa using h⟩
        simp only [List.length_cons, List.length_append, List.length_nil] at hm h2 hsl ⊢
        rw [decide_eq_true (by omega), br_true]
        have ej : (((a.length + (m2.length + (0 + 1) + 1) : Nat) : Int) - 1).toNat = a.length + m2.length + 1 := by omega
        have g1 : (b.reverse ++ (x :: (m2 ++ [y])) ++ a.reverse)[a.length]? = some x := by
          rw [List.append_assoc, List.getElem?_append_right (by simp; omega)]; simp [hab]
        have g2 : (b.reverse ++ (x :: (m2 ++ [y])) ++ a.reverse)[a.length + m2.length + 1]? = some y := by
          rw [List.append_assoc, List.getElem?_append_right (by simp; omega)]
          have : a.length + m2.length + 1 - b.reverse.length = m2.length + 1 := by simp; omega
          rw [this]; simp
        have s1 : (b.reverse ++ (x :: (m2 ++ [y])) ++ a.reverse).set a.length y = b.reverse ++ (y :: (m2 ++ [y])) ++ a.reverse := by
          rw [List.append_assoc, List.set_append_right _ _ (by simp; omega)]; simp [hab]
        have s2 : (b.reverse ++ (y :: (m2 ++ [y])) ++ a.reverse).set (a.length + m2.length + 1) x = b.reverse ++ (y :: (m2 ++ [x])) ++ a.reverse := by
          rw [List.append_assoc, List.set_append_right _ _ (by simp; omega)]
          have : a.length + m2.length + 1 - b.reverse.length = m2.length + 1 := by simp; omega
          rw [this]; simp
        refine ⟨by omega, y, by rw [ej]; exact g2, by omega, x, by rw [Int.toNat_natCast]; exact g1, by omega, x, by rw [Int.toNat_natCast]; exact g1, by omega, y, ?_, ?_⟩
        · rw [Int.toNat_natCast, s1, ej]
          rw [List.append_assoc, List.getElem?_append_right (by simp; omega)]
          have : a.length + m2.length + 1 - b.reverse.length = m2.length + 1 := by simp; omega
          rw [this]; simp
        · rw [Int.toNat_natCast, s1, ej, s2, wrap64 (by omega) (by omega), wrap64 (by omega) (by omega)]
          have := ih (a ++ [x]) m2 (y :: b) (by omega) (by simp [hab]) (by rw [e]; simp)
          have e1 : (y :: b).reverse ++ m2 ++ (a ++ [x]).reverse = b.reverse ++ (y :: (m2 ++ [x])) ++ a.reverse := by simp
          have e2 : (((a ++ [x]).length : Nat) : Int) = (a.length : Int) + 1 := by simp
          have e3 : (((a ++ [x]).length + m2.length : Nat) : Int) - 1 = ((a.length + (m2.length + (0 + 1) + 1) : Nat) : Int) - 1 - 1 := by simp; omega
          rw [e1, e2, e3] at this
          exact this
  have := key s.length [] s [] (Nat.le_refl _) rfl (by simp)
  rw [wrap64 (by omega) (by omega)]
  simpa using this

end Go.Pt
