import Derived.Test.YtabdhjmlfhhmpaaDoorIpInodeMay
set_option linter.unusedSimpArgs false
set_option linter.unusedVariables false
namespace Go.Pt
open Go Go.Wc Go.Pu

def toI (n : carlingref21_Inode) : inode_Inode := ⟨n.Kind, n.Mode, n.Links, n.Size, n.Time, n.Attr, n.Pages⟩

variable {n : carlingref21_Inode}

def outS (A : Int) (P : List Int) (p : Nat) : List Int := ((List.range p).map fun i : Nat => (i : Int) + 1).filter fun p => decide (p = A ∨ p ∈ P)
theorem outS_succ (A : Int) (P : List Int) (p : Nat) : outS A P (p + 1) = outS A P p ++ (if ((p : Int) + 1 = A ∨ (p : Int) + 1 ∈ P) then [(p : Int) + 1] else []) := by
  unfold outS
  rw [List.range_succ, List.map_append, List.filter_append]
  congr 1
  simp only [List.map_cons, List.map_nil, List.filter_cons, List.filter_nil, decide_eq_true_eq]
theorem outS_len (A : Int) (P : List Int) (p : Nat) : (outS A P p).length ≤ p := by
  unfold outS
  have := List.length_filter_le (fun p => decide (p = A ∨ p ∈ P)) ((List.range p).map fun i : Nat => (i : Int) + 1)
  simpa using this

theorem usedR_spec {Q : List Int → Prop} (hP : bytesL n.Pages.toList) (H : Q (usedS n.Attr n.Pages.toList)) : carlingref21_Used n Q := by
  unfold carlingref21_Used
  have h32 : n.Pages.toList.length = 32 := by simp
  have key : ∀ (j p : Nat), p + j = 255 → carlingref21_Used_L1 Q n.Kind n.Mode n.Links n.Size n.Time n.Attr n.Pages (outS n.Attr n.Pages.toList p) ((p : Int) + 1) := by
    intro j
    induction j with
    | zero =>
      intro p e
      obtain rfl : p = 255 := by omega
      refine carlingref21_Used_L1_in _ _ _ _ _ _ _ _ _ _ ?_
      unfold carlingref21_Used_B1
      rw [decide_eq_false (by omega), br_false]
      exact H
    | succ j ih =>
      intro p e
      have hol := outS_len n.Attr n.Pages.toList p
      refine carlingref21_Used_L1_in _ _ _ _ _ _ _ _ _ _ ?_
      unfold carlingref21_Used_B1
      rw [decide_eq_true (by omega), br_true]
      have inner : ∀ (j i : Nat), i + j = 32 → carlingref21_Used_L2 (carlingref21_Used_L1 Q) Q n.Kind n.Mode n.Links n.Size n.Time n.Attr n.Pages (outS n.Attr n.Pages.toList p) ((p : Int) + 1) (decide (n.Attr = (p : Int) + 1 ∨ (p : Int) + 1 ∈ n.Pages.toList.take i)) (i : Int) := by
        intro j2
        induction j2 with
        | zero =>
          intro i e2
          obtain rfl : i = 32 := by omega
          refine carlingref21_Used_L2_in _ _ _ _ _ _ _ _ _ _ _ _ _ ?_
          unfold carlingref21_Used_B2 carlingref21_Used_K4
          rw [decide_eq_false (by omega), br_false, List.take_of_length_le (by omega)]
          have hs := outS_succ n.Attr n.Pages.toList p
          have hn := ih (p + 1) (by omega)
          have ew : IntKind.wrap .i64 ((p : Int) + 1 + 1) = ((p + 1 : Nat) : Int) + 1 := by rw [wrap64 (by omega) (by omega)]; omega
          rw [br_iff]
          constructor
          · intro h
            have h : n.Attr = (p : Int) + 1 ∨ (p : Int) + 1 ∈ n.Pages.toList := by simpa using h
            rw [if_pos (h.imp Eq.symm id)] at hs
            refine ⟨by simp only [Bnd, List.length_cons, List.length_nil]; omega, ?_⟩
            rw [ew, ← hs]; exact hn
          · intro h
            have h : ¬ (n.Attr = (p : Int) + 1 ∨ (p : Int) + 1 ∈ n.Pages.toList) := by rw [decide_eq_false_iff_not] at h; exact h
            rw [if_neg (fun h2 => h (h2.imp Eq.symm id)), List.append_nil] at hs
            rw [ew, ← hs]; exact hn
        | succ j2 ih2 =>
          intro i e2
          have hx := hP _ (List.getElem_mem (show i < n.Pages.toList.length by omega))
          refine carlingref21_Used_L2_in _ _ _ _ _ _ _ _ _ _ _ _ _ ?_
          unfold carlingref21_Used_B2 carlingref21_Used_K3
          rw [decide_eq_true (by omega), br_true, wrap64 (n := (i : Int) + 1) (by omega) (by omega)]
          have hn := ih2 (i + 1) (by omega)
          have et : n.Pages.toList.take (i + 1) = n.Pages.toList.take i ++ [n.Pages.toList[i]] := List.take_succ_eq_append_getElem (by omega)
          rw [et] at hn
          rw [br_iff]
          constructor
          · intro h
            have h : n.Attr = (p : Int) + 1 ∨ (p : Int) + 1 ∈ n.Pages.toList.take i := by simpa using h
            rw [decide_eq_true (h.imp id fun h => by simp [h])] at hn
            exact hn
          · intro h
            have h : ¬ (n.Attr = (p : Int) + 1 ∨ (p : Int) + 1 ∈ n.Pages.toList.take i) := by rw [decide_eq_false_iff_not] at h; exact h
            refine ixP_nat (x := n.Pages.toList[i]) (List.getElem?_eq_getElem (by omega)) ?_
            rw [wrap64 (n := n.Pages.toList[i]) (by omega) (by omega)]
            have ed : (n.Pages.toList[i] == (p : Int) + 1) = decide (n.Attr = (p : Int) + 1 ∨ (p : Int) + 1 ∈ n.Pages.toList.take i ++ [n.Pages.toList[i]]) := by
              rw [Bool.eq_iff_iff, decide_eq_true_iff, beq_iff_eq, List.mem_append, List.mem_singleton]
              constructor
              · intro h3; exact .inr (.inr h3.symm)
              · rintro (h3 | h3 | h3)
                · exact absurd (.inl h3) h
                · exact absurd (.inr h3) h
                · exact h3.symm
            rw [ed]
            exact hn
      have := inner 32 0 (by omega)
      have e0 : (n.Attr == (p : Int) + 1) = decide (n.Attr = (p : Int) + 1 ∨ (p : Int) + 1 ∈ n.Pages.toList.take 0) := by
        rw [Bool.eq_iff_iff, decide_eq_true_iff, beq_iff_eq]; simp
      rw [e0]
      exact this
  have := key 255 0 (by omega)
  exact this

def manyS (A : Int) (P : List Int) : Int := (if A > 0 then 1 else 0) + (P.countP fun p => !(p == 0) : Nat)

theorem many_all {A : Int} {P : List Int} (h : 0 ≤ A) : manyS A P = ((allS A P).length : Nat) := by
  unfold manyS allS
  rw [List.filter_cons, ← List.countP_eq_length_filter.symm]
  by_cases h0 : A = 0
  · subst h0; simp [List.countP_eq_length_filter]
  · rw [if_pos (by omega), if_pos (by simpa using h0), List.length_cons]; omega

theorem zero_cellsR {a b c d e f : Int} {v : Vector Int 32} : ((a == (0 : Int)) && ((b == (0 : Int)) && ((c == (0 : Int)) && ((d == (0 : Int)) && ((e == (0 : Int)) && ((f == (0 : Int)) && ((v.toList == (Vector.replicate 32 (0 : Int)).toList) && true))))))) = decide ((⟨a, b, c, d, e, f, v⟩ : inode_Inode) = zeroI) := zero_cells

theorem mayR_spec {Q : Bool → Prop} (hP : bytesL n.Pages.toList) (H : Q (mayS (toI n))) : carlingref21_May n Q := by
  unfold carlingref21_May carlingref21_May_K1 carlingref21_May_K5
  have h32 : n.Pages.toList.length = 32 := by simp
  by_cases hr : 0 ≤ n.Kind ∧ n.Kind ≤ 3 ∧ 0 ≤ n.Mode ∧ n.Mode ≤ 7 ∧ 0 ≤ n.Links ∧ n.Links ≤ 65535 ∧ 0 ≤ n.Size ∧ n.Size ≤ 8192 ∧ 0 ≤ n.Time ∧ 0 ≤ n.Attr ∧ n.Attr ≤ 215
  · have hr2 := hr
    obtain ⟨a1, a2, a3, a4, a5, a6, a7, a8, a9, a10, a11⟩ := hr
    rw [decide_eq_false (by omega), br_false, decide_eq_false (by omega), br_false, decide_eq_false (by omega), br_false, decide_eq_false (by omega), br_false, decide_eq_false (by omega), br_false, decide_eq_false (by omega), br_false,
      decide_eq_false (by omega), br_false, decide_eq_false (by omega), br_false, decide_eq_false (by omega), br_false, decide_eq_false (by omega), br_false, decide_eq_false (by omega), br_false]
    have hm : mayS (toI n) = (if n.Kind = 0 then decide (toI n = zeroI) else pagesB n.Size n.Pages.toList && ((usedS n.Attr n.Pages.toList).length == (allS n.Attr n.Pages.toList).length)) := by
      unfold mayS
      rw [decide_eq_true (show 0 ≤ (toI n).Kind ∧ (toI n).Kind ≤ 3 ∧ 0 ≤ (toI n).Mode ∧ (toI n).Mode ≤ 7 ∧ 0 ≤ (toI n).Links ∧ (toI n).Links ≤ 65535 ∧ 0 ≤ (toI n).Size ∧ (toI n).Size ≤ 8192 ∧ 0 ≤ (toI n).Time ∧ 0 ≤ (toI n).Attr ∧ (toI n).Attr ≤ 215 from hr2), Bool.true_and]
      rfl
    rw [hm] at H
    rw [br_iff]
    constructor
    · intro hk
      rw [if_pos (by simpa using hk)] at H
      rw [zero_cells]; exact H
    · intro hk
      rw [if_neg (by simpa using hk)] at H
      have hd : IntKind.wrap .i64 (Int.tdiv (IntKind.wrap .i64 (n.Size + (255 : Int))) (256 : Int)) = (n.Size + 255) / 256 := by
        rw [wrap64 (n := n.Size + 255) (by omega) (by omega), Int.tdiv_eq_ediv_of_nonneg (by omega), wrap64 (by omega) (by omega)]
      have key : ∀ (j i : Nat), i + j = 32 → (∀ i' < i, (decide (n.Pages.toList.getD i' 0 < 216) && (decide (n.Pages.toList.getD i' 0 = 0) || decide ((i' : Int) < (n.Size + 255) / 256))) = true) →
          carlingref21_May_L2 Q n.Kind n.Mode n.Links n.Size n.Time n.Attr n.Pages (manyS n.Attr (n.Pages.toList.take i)) (i : Int) := by
        intro j
        induction j with
        | zero =>
          intro i e hi
          obtain rfl : i = 32 := by omega
          refine carlingref21_May_L2_in _ _ _ _ _ _ _ _ _ _ ?_
          unfold carlingref21_May_B2
          rw [decide_eq_false (by omega), br_false, List.take_of_length_le (by omega)]
          have hp : pagesB n.Size n.Pages.toList = true := by
            unfold pagesB
            rw [List.all_eq_true]
            intro i' hi'
            exact hi i' (List.mem_range.1 hi')
          rw [hp, Bool.true_and] at H
          refine usedR_spec (n := ⟨n.Kind, n.Mode, n.Links, n.Size, n.Time, n.Attr, n.Pages⟩) hP ?_
          have e : (((usedS n.Attr n.Pages.toList).length : Int) == manyS n.Attr n.Pages.toList) = ((usedS n.Attr n.Pages.toList).length == (allS n.Attr n.Pages.toList).length) := by
            rw [many_all a10, Bool.eq_iff_iff]; simp only [beq_iff_eq]; omega
          dsimp only
          rw [e]; exact H
        | succ j ih =>
          intro i e hi
          have hx := hP _ (List.getElem_mem (show i < n.Pages.toList.length by omega))
          have e1 : n.Pages.toList.getD i 0 = n.Pages.toList[i] := by rw [List.getD_eq_getElem?_getD, List.getElem?_eq_getElem (by omega)]; rfl
          have hc := List.countP_le_length (p := fun p : Int => !(p == 0)) (l := n.Pages.toList.take i)
          have hml : 0 ≤ manyS n.Attr (n.Pages.toList.take i) ∧ manyS n.Attr (n.Pages.toList.take i) ≤ 100 := by
            unfold manyS
            rw [List.length_take] at hc
            split <;> omega
          refine carlingref21_May_L2_in _ _ _ _ _ _ _ _ _ _ ?_
          unfold carlingref21_May_B2 carlingref21_May_K3 carlingref21_May_K4
          rw [decide_eq_true (by omega), br_true]
          refine ixP_nat (x := n.Pages.toList[i]) (List.getElem?_eq_getElem (by omega)) ?_
          have et : n.Pages.toList.take (i + 1) = n.Pages.toList.take i ++ [n.Pages.toList[i]] := List.take_succ_eq_append_getElem (by omega)
          have hbad : (decide (n.Pages.toList.getD i 0 < 216) && (decide (n.Pages.toList.getD i 0 = 0) || decide ((i : Int) < (n.Size + 255) / 256))) = false → Q false := by
            intro hb
            have hp : pagesB n.Size n.Pages.toList = false := by
              cases hq : pagesB n.Size n.Pages.toList with
              | false => rfl
              | true =>
                unfold pagesB at hq
                rw [List.all_eq_true] at hq
                have := hq i (List.mem_range.2 (by omega))
                rw [hb] at this; cases this
            rw [hp, Bool.false_and] at H; exact H
          have hgood : (decide (n.Pages.toList.getD i 0 < 216) && (decide (n.Pages.toList.getD i 0 = 0) || decide ((i : Int) < (n.Size + 255) / 256))) = true → carlingref21_May_L2 Q n.Kind n.Mode n.Links n.Size n.Time n.Attr n.Pages (manyS n.Attr (n.Pages.toList.take (i + 1))) ((i : Int) + 1) := by
            intro hg
            have := ih (i + 1) (by omega) fun i' hi' => by
              rcases Nat.lt_or_ge i' i with h | h
              · exact hi i' h
              · obtain rfl : i' = i := by omega
                exact hg
            exact this
          have hmany : manyS n.Attr (n.Pages.toList.take (i + 1)) = manyS n.Attr (n.Pages.toList.take i) + (if n.Pages.toList[i] = 0 then 0 else 1) := by
            unfold manyS
            rw [et, List.countP_append, List.countP_singleton]
            by_cases h0 : n.Pages.toList[i] = 0
            · simp [h0]
            · simp only [h0, if_false]
              have : (!(n.Pages.toList[i] == 0)) = true := by simpa using h0
              rw [this, if_pos rfl]; omega
          rw [hmany] at hgood
          rw [wrap64 (n := (i : Int) + 1) (by omega) (by omega)]
          rw [br_iff]
          constructor
          · intro h0
            have h0 : n.Pages.toList[i] = 0 := by simpa using h0
            rw [if_pos h0, Int.add_zero] at hgood
            exact hgood (by rw [e1, decide_eq_true (show n.Pages.toList[i] < 216 by omega), decide_eq_true h0]; rfl)
          · intro h0
            have h0 : n.Pages.toList[i] ≠ 0 := by simpa using h0
            rw [if_neg h0] at hgood
            refine ixP_nat (x := n.Pages.toList[i]) (List.getElem?_eq_getElem (by omega)) ?_
            rw [wrap64 (n := n.Pages.toList[i]) (by omega) (by omega), wrap64 (by omega) (by omega), hd, br_iff]
            constructor
            · intro h
              have h : n.Pages.toList[i] ≥ 216 := by simpa using h
              rw [br_true]
              exact hbad (by rw [e1, decide_eq_false (by omega)]; rfl)
            · intro h
              have h : n.Pages.toList[i] < 216 := by rw [decide_eq_false_iff_not] at h; omega
              rw [br_iff]
              constructor
              · intro hg
                have hg : (i : Int) ≥ (n.Size + 255) / 256 := by simpa using hg
                exact hbad (by rw [e1, decide_eq_false h0, decide_eq_false (show ¬ ((i : Int) < (n.Size + 255) / 256) by omega)]; simp)
              · intro hg
                have hg : ¬ (i : Int) ≥ (n.Size + 255) / 256 := by simpa using hg
                exact hgood (by rw [e1, decide_eq_true h, decide_eq_true (show ((i : Int) < (n.Size + 255) / 256) by omega)]; simp)
      have h0 : manyS n.Attr (n.Pages.toList.take 0) = (if n.Attr > 0 then 1 else 0) := by simp [manyS]
      have := key 32 0 (by omega) fun i' hi' => absurd hi' (Nat.not_lt_zero _)
      rw [h0] at this
      rw [br_iff]
      constructor
      · intro h; rw [if_pos (by simpa using h)] at this; exact this
      · intro h; rw [if_neg (by simpa using h)] at this; exact this
  · have hm : mayS (toI n) = false := by
      unfold mayS
      rw [decide_eq_false (show ¬ (0 ≤ (toI n).Kind ∧ (toI n).Kind ≤ 3 ∧ 0 ≤ (toI n).Mode ∧ (toI n).Mode ≤ 7 ∧ 0 ≤ (toI n).Links ∧ (toI n).Links ≤ 65535 ∧ 0 ≤ (toI n).Size ∧ (toI n).Size ≤ 8192 ∧ 0 ≤ (toI n).Time ∧ 0 ≤ (toI n).Attr ∧ (toI n).Attr ≤ 215) from hr)]; rfl
    rw [hm] at H
    iterate 10 (rw [br_iff]; refine ⟨fun _ => by rw [br_true]; exact H, fun _ => ?_⟩)
    rw [decide_eq_true]
    · rw [br_true]; exact H
    · simp only [decide_eq_false_iff_not] at *
      omega

end Go.Pt
