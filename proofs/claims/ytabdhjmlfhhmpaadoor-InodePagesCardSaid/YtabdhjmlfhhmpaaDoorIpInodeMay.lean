import Derived.Test.YtabdhjmlfhhmpaaDoorIpInodeRead
set_option linter.unusedSimpArgs false
set_option linter.unusedVariables false
namespace Go.Pt
open Go Go.Wc Go.Pu

/-! ### Lists that rise -/
theorem rise_ext : ∀ {l m : List Int}, l.Pairwise (· < ·) → m.Pairwise (· < ·) → (∀ x, x ∈ l ↔ x ∈ m) → l = m
  | [], [], _, _, _ => rfl
  | [], y :: m, _, _, h => absurd ((h y).2 (by simp)) (by simp)
  | x :: l, [], _, _, h => absurd ((h x).1 (by simp)) (by simp)
  | x :: l, y :: m, hl, hm, h => by
    rw [List.pairwise_cons] at hl hm
    have e : x = y := by
      have h1 := (h x).1 (by simp)
      have h2 := (h y).2 (by simp)
      rcases List.mem_cons.1 h1 with h1 | h1
      · exact h1
      · rcases List.mem_cons.1 h2 with h2 | h2
        · exact h2.symm
        · have := hl.1 y h2; have := hm.1 x h1; omega
    subst e
    rw [rise_ext hl.2 hm.2 fun z => ?_]
    have := h z
    constructor
    · intro hz
      rcases List.mem_cons.1 (this.1 (by simp [hz])) with h3 | h3
      · subst h3; have := hl.1 z hz; omega
      · exact h3
    · intro hz
      rcases List.mem_cons.1 (this.2 (by simp [hz])) with h3 | h3
      · subst h3; have := hm.1 z hz; omega
      · exact h3
theorem dedT_mem {y : Int} {l : List Int} {x : Int} : x ∈ y :: dedT y l ↔ x ∈ y :: l := by
  induction l generalizing y with
  | nil => simp [dedT]
  | cons z l ih =>
    simp only [dedT]
    by_cases h : z = y
    · subst h
      rw [if_pos rfl, ih]; simp
    · rw [if_neg h, List.mem_cons, ih]
      simp only [List.mem_cons]
theorem dedT_rise {y : Int} {l : List Int} (h : (y :: l).Pairwise (· ≤ ·)) : (y :: dedT y l).Pairwise (· < ·) := by
  induction l generalizing y with
  | nil => simp [dedT]
  | cons z l ih =>
    rw [List.pairwise_cons] at h
    have hz := h.1 z (by simp)
    simp only [dedT]
    by_cases e : z = y
    · subst e
      rw [if_pos rfl]; exact ih h.2
    · rw [if_neg e, List.pairwise_cons]
      have hr := ih h.2
      refine ⟨fun x hx => ?_, hr⟩
      rcases List.mem_cons.1 hx with rfl | hx
      · omega
      · have := (List.pairwise_cons.1 hr).1 x hx
        omega
theorem dedA_mem {l : List Int} {x : Int} : x ∈ dedA l ↔ x ∈ l := by
  cases l with
  | nil => simp [dedA]
  | cons y l => exact dedT_mem
theorem dedA_rise {l : List Int} (h : l.Pairwise (· ≤ ·)) : (dedA l).Pairwise (· < ·) := by
  cases l with
  | nil => simp [dedA]
  | cons y l => exact dedT_rise h

theorem delP_pure {Z : Type} {φ : Int → Z → (Bool → Z → Prop) → Prop} {f : Int → Bool} {z : Z} (hφ : ∀ x {K : Bool → Z → Prop}, K (f x) z → φ x z K) {Q : List Int → Z → Prop} :
    ∀ (l acc : List Int), Q (acc ++ l.filter (fun x => !f x)) z → delP φ l acc z Q := by
  intro l
  induction l with
  | nil => intro acc H; simpa [delP] using H
  | cons x l ih =>
    intro acc H
    refine hφ x (ih _ ?_)
    cases h : f x with
    | true => simpa [h] using H
    | false => simpa [h] using H

/-! ### The pages -/
def allS (A : Int) (P : List Int) : List Int := (A :: P).filter fun p => !(p == 0)
def usedS (A : Int) (P : List Int) : List Int := ((List.range 255).map fun i : Nat => (i : Int) + 1).filter fun p => decide (p = A ∨ p ∈ P)
def pagesB (size : Int) (P : List Int) : Bool := (List.range 32).all fun i => decide (P.getD i 0 < 216) && (decide (P.getD i 0 = 0) || decide ((i : Int) < (size + 255) / 256))
def zeroI : inode_Inode := ⟨0, 0, 0, 0, 0, 0, Vector.replicate 32 0⟩
def mayS (n : inode_Inode) : Bool :=
  decide (0 ≤ n.Kind ∧ n.Kind ≤ 3 ∧ 0 ≤ n.Mode ∧ n.Mode ≤ 7 ∧ 0 ≤ n.Links ∧ n.Links ≤ 65535 ∧ 0 ≤ n.Size ∧ n.Size ≤ 8192 ∧ 0 ≤ n.Time ∧ 0 ≤ n.Attr ∧ n.Attr ≤ 215) &&
    (if n.Kind = 0 then decide (n = zeroI) else pagesB n.Size n.Pages.toList && ((usedS n.Attr n.Pages.toList).length == (allS n.Attr n.Pages.toList).length))

theorem usedS_rise (A : Int) (P : List Int) : (usedS A P).Pairwise (· < ·) := by
  unfold usedS
  refine List.Pairwise.filter _ ?_
  rw [List.pairwise_map]
  exact List.pairwise_lt_range.imp fun h => by omega
theorem usedS_mem {A : Int} {P : List Int} {x : Int} : x ∈ usedS A P ↔ (1 ≤ x ∧ x ≤ 255) ∧ (x = A ∨ x ∈ P) := by
  unfold usedS
  rw [List.mem_filter, List.mem_map, decide_eq_true_iff]
  refine and_congr_left fun _ => ⟨?_, fun h => ⟨(x - 1).toNat, by rw [List.mem_range]; omega, by omega⟩⟩
  rintro ⟨i, hi, rfl⟩
  rw [List.mem_range] at hi; omega

variable {n : inode_Inode}

theorem all_spec {Q : List Int → Prop} (hP : bytesL n.Pages.toList) (H : Q (allS n.Attr n.Pages.toList)) : inode_Inode_all n Q := by
  unfold inode_Inode_all
  have hl : n.Pages.toList.length = 32 := by simp
  have key : ∀ (j i : Nat), i + j = 32 → inode_Inode_all_L1 Q (n.Attr :: n.Pages.toList.take i) n.Pages (i : Int) := by
    intro j
    induction j with
    | zero =>
      intro i e
      obtain rfl : i = 32 := by omega
      refine inode_Inode_all_L1_in _ _ _ _ ?_
      unfold inode_Inode_all_B1
      rw [decide_eq_false (by omega), br_false, List.take_of_length_le (by omega)]
      refine ⟨by simp only [Bnd, List.length_cons]; omega, delP_pure (f := fun p => p == 0) (fun x K h => h) _ _ ?_⟩
      rw [List.nil_append]; exact H
    | succ j ih =>
      intro i e
      have hx := hP _ (List.getElem_mem (show i < n.Pages.toList.length by omega))
      refine inode_Inode_all_L1_in _ _ _ _ ?_
      unfold inode_Inode_all_B1
      rw [decide_eq_true (by omega), br_true]
      have e1 : n.Pages.toList.getD (Int.toNat (i : Int)) 0 = n.Pages.toList[i] := by rw [Int.toNat_natCast, List.getD_eq_getElem?_getD, List.getElem?_eq_getElem (by omega)]; rfl
      rw [e1, wrap64 (n := n.Pages.toList[i]) (by omega) (by omega), wrap64 (by omega) (by omega)]
      refine ⟨⟨by omega, by omega⟩, by simp only [Bnd, List.length_cons, List.length_take, List.length_nil]; omega, ?_⟩
      have := ih (i + 1) (by omega)
      rw [List.take_succ_eq_append_getElem (by omega)] at this
      exact this
  exact key 32 0 (by omega)

theorem in_spec {a b c : Int} {Q : Bool → Prop} (H : Q (decide (b ≤ a ∧ a ≤ c))) : inode_in a b c Q := by
  unfold inode_in
  rw [br_iff]
  constructor
  · intro h
    have h : b ≤ a := by simpa using h
    simpa [h] using H
  · intro h
    have h : ¬ b ≤ a := by simpa using h
    simpa [h] using H

theorem used_eq {A : Int} {P : List Int} : (dedA ((allS A P).mergeSort fun x y => decide (x ≤ y))).filter (fun p => !(!(decide (1 ≤ p ∧ p ≤ 255)))) = usedS A P := by
  apply rise_ext
  · refine List.Pairwise.filter _ (dedA_rise ?_)
    have := List.pairwise_mergeSort (le := fun a b : Int => decide (a ≤ b)) (fun a b c h1 h2 => by simp only [decide_eq_true_eq] at *; omega) (fun a b => by simp only [Bool.or_eq_true, decide_eq_true_eq]; omega) (allS A P)
    exact this.imp fun h => by simpa using h
  · exact usedS_rise A P
  · intro x
    rw [List.mem_filter, dedA_mem, List.mem_mergeSort, usedS_mem]
    unfold allS
    rw [List.mem_filter, List.mem_cons]
    simp only [Bool.not_not, decide_eq_true_eq, Bool.not_eq_true', beq_eq_false_iff_ne]
    constructor
    · rintro ⟨⟨h1, h2⟩, h3⟩; exact ⟨h3, h1⟩
    · rintro ⟨h3, h1⟩; exact ⟨⟨h1, by omega⟩, h3⟩

theorem allS_len (A : Int) (P : List Int) : (allS A P).length ≤ P.length + 1 := by
  unfold allS
  have := List.length_filter_le (fun p : Int => !(p == 0)) (A :: P)
  simpa using this

theorem used_spec {Q : List Int → Prop} (hP : bytesL n.Pages.toList) (H : Q (usedS n.Attr n.Pages.toList)) : inode_Used n Q := by
  unfold inode_Used
  refine all_spec hP ?_
  have hl := allS_len n.Attr n.Pages.toList
  have h32 : n.Pages.toList.length = 32 := by simp
  refine ⟨by unfold Bnd; omega, ⟨by unfold Bnd; rw [List.length_mergeSort]; omega, ?_⟩⟩
  have hd : (dedA ((allS n.Attr n.Pages.toList).mergeSort fun x y => decide (x ≤ y))).length ≤ 100 := by
    have : ∀ (y : Int) (l : List Int), (dedT y l).length ≤ l.length := by
      intro y l
      induction l generalizing y with
      | nil => simp [dedT]
      | cons z l ih =>
        simp only [dedT]
        split
        · have := ih z; simp only [List.length_cons]; omega
        · have := ih z; simp only [List.length_cons]; omega
    generalize hm : ((allS n.Attr n.Pages.toList).mergeSort fun x y => decide (x ≤ y)) = m
    have hml : m.length ≤ 33 := by rw [← hm, List.length_mergeSort]; omega
    cases m with
    | nil => simp [dedA]
    | cons z l => have := this z l; simp only [dedA, List.length_cons] at *; omega
  refine ⟨by unfold Bnd; omega, delP_pure (f := fun p => !(decide (1 ≤ p ∧ p ≤ 255))) (fun x K h => ?_) _ _ ?_⟩
  · unfold inode_Used_1
    exact in_spec h
  · rw [List.nil_append, used_eq]; exact H

theorem zero_cells {a b c d e f : Int} {v : Vector Int 32} : ((a == (0 : Int)) && ((b == (0 : Int)) && ((c == (0 : Int)) && ((d == (0 : Int)) && ((e == (0 : Int)) && ((f == (0 : Int)) && ((v.toList == (Vector.replicate 32 (0 : Int)).toList) && true))))))) = decide ((⟨a, b, c, d, e, f, v⟩ : inode_Inode) = zeroI) := by
  rw [Bool.eq_iff_iff]
  simp only [Bool.and_eq_true, beq_iff_eq, and_true, decide_eq_true_eq, zeroI, inode_Inode.mk.injEq, Vector.toList_inj]

theorem may_spec {Q : Bool → Prop} (hP : bytesL n.Pages.toList) (H : Q (mayS n)) : inode_May n Q := by
  unfold inode_May inode_May_K2 inode_May_K1
  have h32 : n.Pages.toList.length = 32 := by simp
  by_cases hr : 0 ≤ n.Kind ∧ n.Kind ≤ 3 ∧ 0 ≤ n.Mode ∧ n.Mode ≤ 7 ∧ 0 ≤ n.Links ∧ n.Links ≤ 65535 ∧ 0 ≤ n.Size ∧ n.Size ≤ 8192 ∧ 0 ≤ n.Time ∧ 0 ≤ n.Attr ∧ n.Attr ≤ 215
  · obtain ⟨a1, a2, a3, a4, a5, a6, a7, a8, a9, a10, a11⟩ := hr
    refine in_spec ?_
    rw [decide_eq_true ⟨a1, a2⟩, Bool.not_true, br_false]
    refine in_spec ?_
    rw [decide_eq_true ⟨a3, a4⟩, Bool.not_true, br_false]
    refine in_spec ?_
    rw [decide_eq_true ⟨a5, a6⟩, Bool.not_true, br_false]
    refine in_spec ?_
    rw [decide_eq_true ⟨a7, a8⟩, Bool.not_true, br_false, decide_eq_false (by omega), br_false]
    refine in_spec ?_
    rw [decide_eq_true ⟨a10, a11⟩, Bool.not_true, br_false]
    unfold mayS at H
    rw [decide_eq_true ⟨a1, a2, a3, a4, a5, a6, a7, a8, a9, a10, a11⟩, Bool.true_and] at H
    rw [br_iff]
    constructor
    · intro hk
      rw [if_pos (by simpa using hk)] at H
      rw [zero_cells]; exact H
    · intro hk
      rw [if_neg (by simpa using hk)] at H
      have hd : IntKind.wrap .i64 (Int.tdiv (IntKind.wrap .i64 ((IntKind.wrap .i64 (n.Size + (256 : Int))) - (1 : Int))) (256 : Int)) = (n.Size + 255) / 256 := by
        rw [wrap64 (n := n.Size + 256) (by omega) (by omega), wrap64 (n := n.Size + 256 - 1) (by omega) (by omega), Int.tdiv_eq_ediv_of_nonneg (by omega), wrap64 (by omega) (by omega)]
        congr 1; omega
      have key : ∀ (j i : Nat), i + j = 32 → (∀ i' < i, (decide (n.Pages.toList.getD i' 0 < 216) && (decide (n.Pages.toList.getD i' 0 = 0) || decide ((i' : Int) < (n.Size + 255) / 256))) = true) →
          inode_May_L3 Q n.Kind n.Mode n.Links n.Size n.Time n.Attr n.Pages n.Pages (i : Int) := by
        intro j
        induction j with
        | zero =>
          intro i e hi
          obtain rfl : i = 32 := by omega
          refine inode_May_L3_in _ _ _ _ _ _ _ _ _ _ ?_
          unfold inode_May_B3
          rw [decide_eq_false (by omega), br_false]
          have hp : pagesB n.Size n.Pages.toList = true := by
            unfold pagesB
            rw [List.all_eq_true]
            intro i' hi'
            exact hi i' (List.mem_range.1 hi')
          rw [hp, Bool.true_and] at H
          refine used_spec (n := ⟨n.Kind, n.Mode, n.Links, n.Size, n.Time, n.Attr, n.Pages⟩) hP (all_spec hP ?_)
          have e : (((usedS n.Attr n.Pages.toList).length : Int) == ((allS n.Attr n.Pages.toList).length : Int)) = ((usedS n.Attr n.Pages.toList).length == (allS n.Attr n.Pages.toList).length) := by
            rw [Bool.eq_iff_iff]; simp only [beq_iff_eq]; omega
          dsimp only
          rw [e]; exact H
        | succ j ih =>
          intro i e hi
          have hx := hP _ (List.getElem_mem (show i < n.Pages.toList.length by omega))
          have e1 : n.Pages.toList.getD i 0 = n.Pages.toList[i] := by rw [List.getD_eq_getElem?_getD, List.getElem?_eq_getElem (by omega)]; rfl
          refine inode_May_L3_in _ _ _ _ _ _ _ _ _ _ ?_
          unfold inode_May_B3 inode_May_K4
          rw [decide_eq_true (by omega), br_true]
          refine ⟨⟨by omega, by omega⟩, ?_⟩
          rw [Int.toNat_natCast, hd, wrap64 (n := (i : Int) + 1) (by omega) (by omega)]
          have hbad : (decide (n.Pages.toList.getD i 0 < 216) && (decide (n.Pages.toList.getD i 0 = 0) || decide ((i : Int) < (n.Size + 255) / 256))) = false → Q false := by
            intro hb
            have hp : pagesB n.Size n.Pages.toList = false := by
              cases hq : pagesB n.Size n.Pages.toList with
              | false => rfl
              | true =>
                unfold pagesB at hq
                rw [List.all_eq_true] at hq
                have := hq i (List.mem_range.2 (by omega))
                rw [hb] at this; cases this
            rw [hp, Bool.false_and] at H; exact H
          have hgood : (decide (n.Pages.toList.getD i 0 < 216) && (decide (n.Pages.toList.getD i 0 = 0) || decide ((i : Int) < (n.Size + 255) / 256))) = true → inode_May_L3 Q n.Kind n.Mode n.Links n.Size n.Time n.Attr n.Pages n.Pages ((i : Int) + 1) := by
            intro hg
            have := ih (i + 1) (by omega) fun i' hi' => by
              rcases Nat.lt_or_ge i' i with h | h
              · exact hi i' h
              · obtain rfl : i' = i := by omega
                exact hg
            exact this
          rw [wrap64 (n := n.Pages.toList.getD i 0) (by rw [e1]; omega) (by rw [e1]; omega)]
          rw [br_iff]
          constructor
          · intro h
            have h : n.Pages.toList.getD i 0 ≥ 216 := by simpa using h
            rw [br_true]
            exact hbad (by rw [decide_eq_false (by omega)]; rfl)
          · intro h
            have h : n.Pages.toList.getD i 0 < 216 := by rw [decide_eq_false_iff_not] at h; omega
            rw [br_iff]
            constructor
            · intro h0
              have h0 : n.Pages.toList.getD i 0 ≠ 0 := by simpa using h0
              rw [br_iff]
              constructor
              · intro hg
                have hg : (i : Int) ≥ (n.Size + 255) / 256 := by simpa using hg
                exact hbad (by rw [decide_eq_false h0, decide_eq_false (show ¬ ((i : Int) < (n.Size + 255) / 256) by omega)]; simp)
              · intro hg
                have hg : ¬ (i : Int) ≥ (n.Size + 255) / 256 := by simpa using hg
                exact hgood (by rw [decide_eq_true h, decide_eq_true (show ((i : Int) < (n.Size + 255) / 256) by omega)]; simp)
            · intro h0
              have h0 : n.Pages.toList.getD i 0 = 0 := by simpa using h0
              rw [br_false]
              exact hgood (by rw [decide_eq_true h, decide_eq_true h0]; rfl)
      exact key 32 0 (by omega) fun i' hi' => absurd hi' (Nat.not_lt_zero _)
  · have hm : mayS n = false := by unfold mayS; rw [decide_eq_false hr]; rfl
    rw [hm] at H
    refine in_spec ?_
    by_cases h1 : 0 ≤ n.Kind ∧ n.Kind ≤ 3
    · rw [decide_eq_true h1, Bool.not_true, br_false]
      refine in_spec ?_
      by_cases h2 : 0 ≤ n.Mode ∧ n.Mode ≤ 7
      · rw [decide_eq_true h2, Bool.not_true, br_false]
        refine in_spec ?_
        by_cases h3 : 0 ≤ n.Links ∧ n.Links ≤ 65535
        · rw [decide_eq_true h3, Bool.not_true, br_false]
          refine in_spec ?_
          by_cases h4 : 0 ≤ n.Size ∧ n.Size ≤ 8192
          · rw [decide_eq_true h4, Bool.not_true, br_false, br_iff]
            constructor
            · intro _; rw [br_true]; exact H
            · intro h5
              have h5 : ¬ n.Time < 0 := by simpa using h5
              refine in_spec ?_
              rw [decide_eq_false (fun h6 => hr ⟨h1.1, h1.2, h2.1, h2.2, h3.1, h3.2, h4.1, h4.2, by omega, h6.1, h6.2⟩), Bool.not_false, br_true]
              exact H
          · rw [decide_eq_false h4, Bool.not_false, br_true, br_true]; exact H
        · rw [decide_eq_false h3, Bool.not_false, br_true]; exact H
      · rw [decide_eq_false h2, Bool.not_false, br_true, br_true]; exact H
    · rw [decide_eq_false h1, Bool.not_false, br_true, br_true]; exact H

end Go.Pt
