import Derived.Test.YtabdhjmlfhhmpaaDoorIpInodeMayR
set_option linter.unusedSimpArgs false
set_option linter.unusedVariables false
namespace Go.Pt
open Go Go.Wc Go.Pu

def bytesS (n : inode_Inode) : List Int := [n.Kind, n.Mode] ++ leB 2 n.Links ++ leB 4 n.Size ++ leB 8 n.Time ++ [n.Attr] ++ n.Pages.toList ++ List.replicate 15 0
def layS (n : inode_Inode) : List Int × Int := if mayS n = true then (bytesS n, 0) else ([], 1)

theorem may_rng {n : inode_Inode} (h : mayS n = true) : 0 ≤ n.Kind ∧ n.Kind ≤ 3 ∧ 0 ≤ n.Mode ∧ n.Mode ≤ 7 ∧ 0 ≤ n.Links ∧ n.Links ≤ 65535 ∧ 0 ≤ n.Size ∧ n.Size ≤ 8192 ∧ 0 ≤ n.Time ∧ 0 ≤ n.Attr ∧ n.Attr ≤ 215 := by
  unfold mayS at h
  rw [Bool.and_eq_true, decide_eq_true_iff] at h
  exact h.1

theorem lay_spec {n : inode_Inode} {Q : List Int → Int → Prop} (hP : bytesL n.Pages.toList) (ht : n.Time < 18446744073709551616) (H : Q (layS n).1 (layS n).2) : inode_Lay n Q := by
  unfold inode_Lay
  refine may_spec hP ?_
  unfold layS at H
  have h32 : n.Pages.toList.length = 32 := by simp
  cases hm : mayS n with
  | false =>
    rw [hm, if_neg (by simp)] at H
    rw [Bool.not_false, br_true]; exact H
  | true =>
    rw [hm, if_pos rfl] at H
    obtain ⟨a1, a2, a3, a4, a5, a6, a7, a8, a9, a10, a11⟩ := may_rng hm
    rw [Bool.not_true, br_false, wrap_u8, wrap_u8, wrap_u8, wrap_u64 (n := n.Links) (by omega) (by omega), wrap_u64 (n := n.Size) (by omega) (by omega), wrap_u64 (n := n.Time) (by omega) (by omega),
      Int.emod_eq_of_lt (a := n.Kind) (by omega) (by omega), Int.emod_eq_of_lt (a := n.Mode) (by omega) (by omega), Int.emod_eq_of_lt (a := n.Attr) (by omega) (by omega)]
    refine pack_Num_spec (k := 2) a5 (by omega) (by simp) ?_
    refine pack_Num_spec (k := 4) a7 (by omega) (by simp [leB_length]) ?_
    refine pack_Num_spec (k := 8) a9 (by omega) (by simp [leB_length]) ?_
    refine ⟨by simp [Bnd, leB_length], by simp [Bnd, leB_length], ?_⟩
    unfold pack_Fill
    have hl : ([n.Kind, n.Mode] ++ leB 2 n.Links ++ leB 4 n.Size ++ leB 8 n.Time ++ [n.Attr] ++ n.Pages.toList).length = 49 := by simp [leB_length]
    rw [hl, decide_eq_false (by omega), br_false]
    refine clone_spec (by rw [hl]; omega) ?_
    have e15 : IntKind.wrap .i64 ((64 : Int) - ((49 : Nat) : Int)) = 15 := by rw [wrap64 (by omega) (by omega)]; rfl
    rw [e15]
    exact ⟨by omega, by rw [hl]; unfold Bnd; decide, H⟩

theorem layL1_spec {Q : List Int → Int → Prop} : ∀ (j : Nat) (b : List Int), b.length + j = 64 → Q (b ++ List.replicate j 0) 0 → carlingref21_Lay_L1 Q b := by
  intro j
  induction j with
  | zero =>
    intro b e H
    refine carlingref21_Lay_L1_in _ _ ?_
    unfold carlingref21_Lay_B1
    rw [decide_eq_false (by omega), br_false]
    simpa using H
  | succ j ih =>
    intro b e H
    refine carlingref21_Lay_L1_in _ _ ?_
    unfold carlingref21_Lay_B1
    rw [decide_eq_true (by omega), br_true]
    refine ⟨by simp only [Bnd, List.length_cons, List.length_nil]; omega, ih _ (by simp only [List.length_append, List.length_cons, List.length_nil]; omega) ?_⟩
    rw [List.append_assoc, List.singleton_append, ← List.replicate_succ]; exact H

theorem layR_spec {n : carlingref21_Inode} {Q : List Int → Int → Prop} (hP : bytesL n.Pages.toList) (ht : n.Time < 18446744073709551616) (H : Q (layS (toI n)).1 (layS (toI n)).2) : carlingref21_Lay n Q := by
  unfold carlingref21_Lay
  refine mayR_spec hP ?_
  unfold layS at H
  have h32 : n.Pages.toList.length = 32 := by simp
  cases hm : mayS (toI n) with
  | false =>
    rw [hm, if_neg (by simp)] at H
    rw [Bool.not_false, br_true]; exact H
  | true =>
    rw [hm, if_pos rfl] at H
    obtain ⟨a1, a2, a3, a4, a5, a6, a7, a8, a9, a10, a11⟩ := may_rng hm
    simp only [toI] at a1 a2 a3 a4 a5 a6 a7 a8 a9 a10 a11
    rw [Bool.not_true, br_false, wrap_u8, wrap_u8, wrap_u8, wrap_u64 (n := n.Links) (by omega) (by omega), wrap_u64 (n := n.Size) (by omega) (by omega), wrap_u64 (n := n.Time) (by omega) (by omega),
      Int.emod_eq_of_lt (a := n.Kind) (by omega) (by omega), Int.emod_eq_of_lt (a := n.Mode) (by omega) (by omega), Int.emod_eq_of_lt (a := n.Attr) (by omega) (by omega)]
    have fin : carlingref21_Lay_L1 Q (((([n.Kind, n.Mode] ++ leB 2 n.Links) ++ leB 4 n.Size) ++ leB 8 n.Time) ++ [n.Attr] ++ n.Pages.toList) := by
      refine layL1_spec 15 _ (by simp [leB_length]) ?_
      exact H
    constructor
    · refine low_spec (k := 2) a5 (by omega) ⟨by simp [Bnd, leB_length], ?_⟩
      refine low_spec (k := 4) a7 (by omega) ⟨by simp [Bnd, leB_length], ?_⟩
      refine low_spec (k := 8) a9 (by omega) ⟨by simp [Bnd, leB_length], by simp [Bnd, leB_length], by simp [Bnd, leB_length], fin⟩
    · refine low_spec (k := 2) a5 (by omega) ⟨by simp [Bnd, leB_length], ?_⟩
      refine low_spec (k := 4) a7 (by omega) ⟨by simp [Bnd, leB_length], ?_⟩
      refine low_spec (k := 8) a9 (by omega) ⟨by simp [Bnd, leB_length], by simp [Bnd, leB_length], by simp [Bnd, leB_length], fin⟩

end Go.Pt
