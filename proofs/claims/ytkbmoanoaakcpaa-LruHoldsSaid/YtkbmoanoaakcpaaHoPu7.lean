import Derived.Test.YtkbmoanoaakcpaaHoPu6
set_option linter.unusedSimpArgs false
set_option linter.unusedVariables false
namespace Go.Pu
open Go Go.Wc

/-! ### Maps as lists of pairs -/
variable {κ V : Type} [DecidableEq κ]

theorem mem_look {L : List (κ × V)} {k : κ} : look L k ≠ none ↔ k ∈ L.map (·.1) := by
  induction L with
  | nil => simp [look]
  | cons x L ih =>
    obtain ⟨a, v⟩ := x
    simp only [look, List.map_cons, List.mem_cons]
    by_cases h : k = a
    · simp [h]
    · simp [h, ih]
theorem look_upd (L : List (κ × V)) (k : κ) (v : V) (j : κ) : look (upd L k v) j = if j = k then some v else look L j := by
  induction L with
  | nil => simp only [upd, look]
  | cons x L ih =>
    obtain ⟨a, w⟩ := x
    simp only [upd]
    by_cases h : k = a
    · subst h
      rw [if_pos rfl]
      simp only [look]
      split <;> rfl
    · rw [if_neg h]
      simp only [look, ih]
      by_cases h2 : j = a
      · subst h2
        rw [if_pos rfl, if_pos rfl, if_neg (fun e => h e.symm)]
      · rw [if_neg h2, if_neg h2]
theorem look_del {L : List (κ × V)} (hn : (L.map (·.1)).Nodup) (k j : κ) : look (del L k) j = if j = k then none else look L j := by
  induction L with
  | nil => simp [del, look]
  | cons x L ih =>
    obtain ⟨a, w⟩ := x
    rw [List.map_cons, List.nodup_cons] at hn
    simp only [del]
    by_cases h : k = a
    · subst h
      rw [if_pos rfl]
      simp only [look]
      by_cases h2 : j = k
      · subst h2
        rw [if_pos rfl]
        cases e : look L j with
        | none => rfl
        | some v => exact absurd (mem_look.1 (by rw [e]; simp)) hn.1
      · rw [if_neg h2, if_neg h2]
    · rw [if_neg h]
      simp only [look, ih hn.2]
      by_cases h2 : j = a
      · subst h2
        rw [if_pos rfl, if_pos rfl, if_neg (fun e => h e.symm)]
      · rw [if_neg h2, if_neg h2]
theorem keys_upd (L : List (κ × V)) (k : κ) (v : V) : (upd L k v).map (·.1) = if k ∈ L.map (·.1) then L.map (·.1) else L.map (·.1) ++ [k] := by
  induction L with
  | nil => simp [upd]
  | cons x L ih =>
    obtain ⟨a, w⟩ := x
    simp only [upd]
    by_cases h : k = a
    · subst h; simp
    · rw [if_neg h]
      simp only [List.map_cons, List.mem_cons, h, false_or, ih]
      split <;> simp
theorem nodup_upd {L : List (κ × V)} (hn : (L.map (·.1)).Nodup) (k : κ) (v : V) : ((upd L k v).map (·.1)).Nodup := by
  rw [keys_upd]
  split
  · exact hn
  · rename_i h
    rw [List.nodup_append]
    refine ⟨hn, by simp, fun a ha b hb => ?_⟩
    rw [List.mem_singleton] at hb
    subst hb
    intro e; subst e; exact h ha
theorem keys_del (L : List (κ × V)) (k : κ) : (del L k).map (·.1) = (L.map (·.1)).erase k := by
  induction L with
  | nil => simp [del]
  | cons x L ih =>
    obtain ⟨a, w⟩ := x
    simp only [del]
    by_cases h : k = a
    · subst h; simp
    · rw [if_neg h]
      simp only [List.map_cons, ih]
      rw [List.erase_cons_tail (by simp; exact fun e => h e.symm)]

theorem ixP_of {X : Type} {l : List X} {i : Int} {x : X} {K : X → Prop} (h0 : 0 ≤ i) (hx : l[i.toNat]? = some x) (H : K x) : ixP l i K := ⟨h0, x, hx, H⟩
theorem ixP_nat {X : Type} {l : List X} {i : Nat} {x : X} {K : X → Prop} (hx : l[i]? = some x) (H : K x) : ixP l (i : Int) K := ⟨by omega, x, by rw [Int.toNat_natCast]; exact hx, H⟩
theorem mid_get {X : Type} {acc rest : List X} {x : X} : (acc ++ x :: rest)[acc.length]? = some x := by rw [List.getElem?_append_right (Nat.le_refl _)]; simp

end Go.Pu
