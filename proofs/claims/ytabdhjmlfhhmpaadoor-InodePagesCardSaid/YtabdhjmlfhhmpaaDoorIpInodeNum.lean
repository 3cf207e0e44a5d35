import Derived.Test.YtabdhjmlfhhmpaaDoorIpPt
import Derived.Test.YtabdhjmlfhhmpaaDoorIpNum
set_option linter.unusedSimpArgs false
set_option linter.unusedVariables false
namespace Go.Pt
open Go Go.Wc Go.Pu

theorem clone_spec {l : List Int} {Q : List Int → Prop} (hB : l.length ≤ 4294967296) (H : Q l) : bytes_Clone l Q := ⟨hB, H⟩

theorem shr8 {n : Int} (h : 0 ≤ n) : Int.fdiv n (2 ^ (min (Int.toNat (8 : Int)) (IntKind.bits .u64))) = n / 256 := by
  have e : min (Int.toNat (8 : Int)) (IntKind.bits .u64) = 8 := by decide
  rw [e, Int.fdiv_eq_ediv_of_nonneg _ (by decide)]; rfl

theorem num_K7 {Q : List Int → Prop} {n : Int} {out : List Int} (hB : out.length ≤ 1000000) (H : Q (out ++ leB 1 n)) : pack_Num_K7 Q n out := by
  refine ⟨by simp only [Bnd, List.length_cons, List.length_nil]; omega, ?_⟩
  rw [wrap_u8]; exact H
theorem num_K6 {Q : List Int → Prop} {n : Int} {out : List Int} (h0 : 0 ≤ n) (hB : out.length ≤ 900000) (H : Q (out ++ leB 2 n)) : pack_Num_K6 Q n out := by
  refine ⟨by simp only [Bnd, List.length_cons, List.length_nil]; omega, ?_⟩
  rw [wrap_u8, shr8 h0]
  exact num_K7 (by simp only [List.length_append, List.length_cons, List.length_nil]; omega) (by simpa [leB] using H)
theorem num_K5 {Q : List Int → Prop} {n : Int} {out : List Int} (h0 : 0 ≤ n) (hB : out.length ≤ 800000) (H : Q (out ++ leB 3 n)) : pack_Num_K5 Q n out := by
  refine ⟨by simp only [Bnd, List.length_cons, List.length_nil]; omega, ?_⟩
  rw [wrap_u8, shr8 h0]
  exact num_K6 (by omega) (by simp only [List.length_append, List.length_cons, List.length_nil]; omega) (by simpa [leB] using H)
theorem num_K4 {Q : List Int → Prop} {n : Int} {out : List Int} (h0 : 0 ≤ n) (hB : out.length ≤ 700000) (H : Q (out ++ leB 4 n)) : pack_Num_K4 Q n out := by
  refine ⟨by simp only [Bnd, List.length_cons, List.length_nil]; omega, ?_⟩
  rw [wrap_u8, shr8 h0]
  exact num_K5 (by omega) (by simp only [List.length_append, List.length_cons, List.length_nil]; omega) (by simpa [leB] using H)
theorem num_K3 {Q : List Int → Prop} {n : Int} {out : List Int} (h0 : 0 ≤ n) (hB : out.length ≤ 600000) (H : Q (out ++ leB 5 n)) : pack_Num_K3 Q n out := by
  refine ⟨by simp only [Bnd, List.length_cons, List.length_nil]; omega, ?_⟩
  rw [wrap_u8, shr8 h0]
  exact num_K4 (by omega) (by simp only [List.length_append, List.length_cons, List.length_nil]; omega) (by simpa [leB] using H)
theorem num_K2 {Q : List Int → Prop} {n : Int} {out : List Int} (h0 : 0 ≤ n) (hB : out.length ≤ 500000) (H : Q (out ++ leB 6 n)) : pack_Num_K2 Q n out := by
  refine ⟨by simp only [Bnd, List.length_cons, List.length_nil]; omega, ?_⟩
  rw [wrap_u8, shr8 h0]
  exact num_K3 (by omega) (by simp only [List.length_append, List.length_cons, List.length_nil]; omega) (by simpa [leB] using H)
theorem num_K1 {Q : List Int → Prop} {n : Int} {out : List Int} (h0 : 0 ≤ n) (hB : out.length ≤ 400000) (H : Q (out ++ leB 7 n)) : pack_Num_K1 Q n out := by
  refine ⟨by simp only [Bnd, List.length_cons, List.length_nil]; omega, ?_⟩
  rw [wrap_u8, shr8 h0]
  exact num_K2 (by omega) (by simp only [List.length_append, List.length_cons, List.length_nil]; omega) (by simpa [leB] using H)

/-- P5.1: a number's lowest bytes behind what is there. -/
theorem pack_Num_spec {b : List Int} {n : Int} {k : Nat} {Q : List Int → Prop} (h0 : 0 ≤ n) (hk : 1 ≤ k ∧ k ≤ 8) (hB : b.length ≤ 300000) (H : Q (b ++ leB k n)) : pack_Num b n (k : Int) Q := by
  unfold pack_Num
  refine clone_spec (by omega) ?_
  unfold pack_sized
  have e : (if (8 : Int) < (if (1 : Int) > (k : Int) then (1 : Int) else (k : Int)) then (8 : Int) else (if (1 : Int) > (k : Int) then (1 : Int) else (k : Int))) = (k : Int) := by
    rw [if_neg (by omega), if_neg (by omega)]
  rw [e]
  obtain ⟨k1, k2⟩ := hk
  have : k = 1 ∨ k = 2 ∨ k = 3 ∨ k = 4 ∨ k = 5 ∨ k = 6 ∨ k = 7 ∨ k = 8 := by omega
  rcases this with rfl | rfl | rfl | rfl | rfl | rfl | rfl | rfl
  · exact num_K7 (by omega) H
  · exact num_K6 h0 (by omega) H
  · exact num_K5 h0 (by omega) H
  · exact num_K4 h0 (by omega) H
  · exact num_K3 h0 (by omega) H
  · exact num_K2 h0 (by omega) H
  · exact num_K1 h0 (by omega) H
  · show _ ∧ _
    refine ⟨by simp only [Bnd, List.length_cons, List.length_nil]; omega, ?_⟩
    rw [wrap_u8, shr8 h0]
    exact num_K1 (by omega) (by simp only [List.length_append, List.length_cons, List.length_nil]; omega) (by simpa [leB] using H)

/-- The document's. -/
theorem low_spec {n : Int} {k : Nat} {Q : List Int → Prop} (h0 : 0 ≤ n) (hk : k ≤ 8) (H : Q (leB k n)) : carlingref21_low n (k : Int) Q := by
  unfold carlingref21_low
  have key : ∀ (j i : Nat), i + j = k → carlingref21_low_L1 Q n (k : Int) (leB i n) (i : Int) := by
    intro j
    induction j with
    | zero =>
      intro i e
      obtain rfl : i = k := by omega
      refine carlingref21_low_L1_in _ _ _ _ _ ?_
      unfold carlingref21_low_B1
      rw [decide_eq_false (by omega), br_false]
      exact H
    | succ j ih =>
      intro i e
      refine carlingref21_low_L1_in _ _ _ _ _ ?_
      unfold carlingref21_low_B1
      have e1 : IntKind.wrap .i64 ((8 : Int) * (i : Int)) = ((8 * i : Nat) : Int) := by rw [wrap64 (by omega) (by omega)]; omega
      have e2 : min (8 * i) (IntKind.bits .u64) = 8 * i := by
        have : IntKind.bits .u64 = 64 := rfl
        rw [this]; omega
      have e3 : ((2 : Int) ^ (8 * i)) = 256 ^ i := by rw [Int.pow_mul]; rfl
      rw [decide_eq_true (by omega), br_true, e1]
      refine ⟨by omega, by rw [leB_length]; simp only [Bnd, List.length_cons, List.length_nil]; omega, ?_⟩
      rw [wrap_u8, Int.toNat_natCast, e2, e3, Int.fdiv_eq_ediv_of_nonneg _ (by exact Int.le_of_lt (Int.pow_pos (by decide))), ← leB_snoc, wrap64 (by omega) (by omega)]
      exact ih (i + 1) (by omega)
  exact key k 0 (by omega)

/-- The number of bytes. -/
theorem num_spec {b : List Int} {Q : Int → Prop} (hb : bytesL b) (hl : b.length ≤ 8) (H : Q (valB b)) : carlingref21_num b Q := by
  unfold carlingref21_num
  have key : ∀ (j : Nat), j ≤ b.length → carlingref21_num_L1 Q b (valB (b.drop j)) ((j : Int) - 1) := by
    intro j
    induction j with
    | zero =>
      intro _
      refine carlingref21_num_L1_in _ _ _ _ ?_
      unfold carlingref21_num_B1
      rw [decide_eq_false (by omega), br_false]
      exact H
    | succ j ih =>
      intro hj
      have hx := hb b[j] (List.getElem_mem (by omega))
      have e : b.drop j = b[j] :: b.drop (j + 1) := List.drop_eq_getElem_cons (by omega)
      have hv := valB_range (l := b.drop (j + 1)) fun x hx => hb x (List.mem_of_mem_drop hx)
      have hv2 : valB (b.drop (j + 1)) * 256 + 255 < 18446744073709551616 := by
        have h1 : (256 : Int) ^ (b.drop (j + 1)).length ≤ 256 ^ 7 := pow256_le (by rw [List.length_drop]; omega)
        have h2 : (256 : Int) ^ 7 = 72057594037927936 := by decide
        omega
      refine carlingref21_num_L1_in _ _ _ _ ?_
      unfold carlingref21_num_B1
      rw [decide_eq_true (by omega), br_true]
      have e1 : ((j + 1 : Nat) : Int) - 1 = (j : Int) := by omega
      rw [e1]
      refine ixP_nat (x := b[j]) (List.getElem?_eq_getElem (by omega)) ?_
      rw [wrap_u64 (n := b[j]) (by omega) (by omega), wrap_u64 (n := 256 * valB (b.drop (j + 1))) (by omega) (by omega), wrap_u64 (by omega) (by omega), wrap64 (by omega) (by omega)]
      have := ih (by omega)
      rw [e, valB, Int.add_comm] at this
      exact this
  have := key b.length (Nat.le_refl _)
  rw [List.drop_length] at this
  rw [wrap64 (by omega) (by omega)]
  exact this

end Go.Pt
