import Derived.Test.YtabdhjmlfhhmpaaDoorIpInodeNum
set_option linter.unusedSimpArgs false
set_option linter.unusedVariables false
namespace Go.Pt
open Go Go.Wc Go.Pu

/-! ### bytes.Trim of zeros -/
def allZ (l : List Int) : Prop := ∀ x ∈ l, x = 0
instance (l : List Int) : Decidable (allZ l) := by unfold allZ; exact inferInstance

theorem trimRight_spec {Q : List Int → Prop} : ∀ (n : Nat) (l : List Int), l.length = n → n ≤ 100000 → (∀ r, (allZ r ↔ allZ l) → r.length ≤ n → Q r) → bytes_trimRightByte l 0 Q := by
  intro n
  induction n with
  | zero =>
    intro l hl hn H
    obtain rfl := List.length_eq_zero_iff.1 hl
    unfold bytes_trimRightByte
    refine bytes_trimRightByte_L1_in _ _ _ ?_
    unfold bytes_trimRightByte_B1 bytes_trimRightByte_K2
    rw [decide_eq_false (by simp), br_false, br_false]
    exact H [] Iff.rfl (by simp)
  | succ n ih =>
    intro l hl hn H
    obtain ⟨m, y, rfl⟩ : ∃ m y, l = m ++ [y] := by
      rcases List.eq_nil_or_concat l with h | ⟨m, y, h⟩
      · subst h; simp at hl
      · exact ⟨m, y, by simpa using h⟩
    simp only [List.length_append, List.length_cons, List.length_nil] at hl
    unfold bytes_trimRightByte
    refine bytes_trimRightByte_L1_in _ _ _ ?_
    unfold bytes_trimRightByte_B1 bytes_trimRightByte_K2
    have e1 : IntKind.wrap .i64 (((m ++ [y]).length : Int) - 1) = (m.length : Int) := by
      rw [wrap64 (by simp only [List.length_append, List.length_cons, List.length_nil]; omega) (by simp only [List.length_append, List.length_cons, List.length_nil]; omega)]; simp
    rw [decide_eq_true (by simp only [List.length_append, List.length_cons, List.length_nil]; omega), br_true, e1]
    refine ixP_nat (x := y) (by rw [List.getElem?_append_right (Nat.le_refl _)]; simp) ?_
    rw [br_iff]
    constructor
    · intro h
      have h : y = 0 := by simpa using h
      subst h
      refine ⟨⟨by omega, by omega, by simp only [List.length_append, List.length_cons, List.length_nil]; omega⟩, ?_⟩
      have e2 : sub (m ++ [(0 : Int)]) 0 (m.length : Int) = m := by rw [sub_take]; simp
      rw [e2]
      have := ih m (by omega) (by omega) fun r hr hrl => H r (by
        rw [hr]; unfold allZ
        simp only [List.mem_append, List.mem_singleton]
        exact ⟨fun h x hx => hx.elim (h x) id, fun h x hx => h x (.inl hx)⟩) (by omega)
      exact this
    · intro h
      exact H _ Iff.rfl (by simp; omega)

theorem trimLeft_spec {Q : List Int → Prop} : ∀ (l : List Int), l.length ≤ 100000 → (∀ r, (r = [] ↔ allZ l) → Q r) → bytes_trimLeftByte l 0 Q := by
  intro l
  induction l with
  | nil =>
    intro hn H
    unfold bytes_trimLeftByte
    refine bytes_trimLeftByte_L1_in _ _ _ ?_
    unfold bytes_trimLeftByte_B1 bytes_trimLeftByte_K2
    rw [decide_eq_false (by simp), br_false, br_false]
    exact H [] (by simp [allZ])
  | cons y l ih =>
    intro hn H
    simp only [List.length_cons] at hn
    unfold bytes_trimLeftByte
    refine bytes_trimLeftByte_L1_in _ _ _ ?_
    unfold bytes_trimLeftByte_B1 bytes_trimLeftByte_K2
    rw [decide_eq_true (by simp only [List.length_cons]; omega), br_true]
    refine ixP_of (x := y) (by omega) rfl ?_
    rw [br_iff]
    constructor
    · intro h
      have h : y = 0 := by simpa using h
      subst h
      refine ⟨⟨by omega, by simp only [List.length_cons]; omega, by omega⟩, ?_⟩
      have e2 : sub ((0 : Int) :: l) 1 ((((0 : Int) :: l).length : Nat) : Int) = l := by rw [sub_drop]; rfl
      rw [e2]
      have := ih (by omega) fun r hr => H r (by rw [hr]; unfold allZ; simp)
      exact this
    · intro h
      have h : y ≠ 0 := by simpa using h
      have e : (((y :: l).length : Int) == 0) = false := by rw [beq_eq_false_iff_ne]; simp only [List.length_cons]; omega
      rw [e, br_false]
      exact H _ (by simp only [reduceCtorEq, false_iff]; intro hz; exact h (hz y (by simp)))

theorem zero_spec {l : List Int} {Q : Bool → Prop} (hl : l.length ≤ 100000) (H : Q (decide (allZ l))) : pack_zero l Q := by
  unfold pack_zero bytes_Trim
  have e0 : ((⟨#[0]⟩ : ByteArray).data.toList.getD (Int.toNat (0 : Int)) 0).toNat = 0 := by decide
  rw [br_iff]
  constructor
  · intro h
    have h : l = [] := by simp at h; exact h
    subst h
    simpa [allZ] using H
  · intro _
    have e1 : ((⟨#[0]⟩ : ByteArray).toList == (⟨#[]⟩ : ByteArray).toList) = false := by
      have a1 : (⟨#[0]⟩ : ByteArray).toList = [0] := by simp [ByteArray.toList, ByteArray.toList.loop, ByteArray.size, ByteArray.get!]
      have a2 : (⟨#[]⟩ : ByteArray).toList = [] := by simp [ByteArray.toList, ByteArray.toList.loop, ByteArray.size]
      rw [a1, a2]; rfl
    have e2 : (((⟨#[0]⟩ : ByteArray).size : Int) == 1) = true := by decide
    rw [e1, br_false, e2, br_true]
    refine ⟨by decide, ?_⟩
    unfold bytes_Trim_K1
    rw [e0]
    have e3 : decide (((0 : Nat) : Int) < 128) = true := by decide
    rw [e3, br_true]
    refine ⟨by decide, by decide, ?_⟩
    refine trimRight_spec l.length l rfl hl fun r hr hrl => ?_
    refine trimLeft_spec r (by omega) fun r2 hr2 => ?_
    have e : ((r2.length : Int) == 0) = decide (allZ l) := by
      rw [Bool.eq_iff_iff, decide_eq_true_iff, ← hr, ← hr2]
      simp
    show Q ((r2.length : Int) == 0)
    rw [e]; exact H

/-! ### The reader -/
variable {σ : St Obj} {p : Addr} {b : List Int} {e : Int}
theorem at_rd {r : pack_Reader} {K : pack_Reader → Prop} (hx : σ p = some (.pack_Reader r)) (H : K r) : at_pack_Reader σ p K := ⟨r, hx, H⟩

theorem err_spec {Q : Int → St Obj → Prop} (hx : σ p = some (.pack_Reader ⟨b, e⟩)) (H : Q e σ) : pack_Reader_Err (some p) σ Q := by
  unfold pack_Reader_Err
  rw [Option.isNone_some, br_false, nilW_some]
  exact at_rd hx H
theorem fail_spec {Q : St Obj → Prop} {k : Int} (hx : σ p = some (.pack_Reader ⟨b, 0⟩)) (H : Q (sset σ p (.pack_Reader ⟨b, k⟩))) : pack_Reader_fail (some p) k σ Q := by
  unfold pack_Reader_fail
  rw [nilW_some]
  refine at_rd hx ?_
  show br true _ _
  rw [br_true]; exact H

theorem bytes_ok {Q : List Int → St Obj → Prop} {n : Nat} (hx : σ p = some (.pack_Reader ⟨b, 0⟩)) (hn : n ≤ b.length) (hb : b.length ≤ 100000) (H : Q (b.take n) (sset σ p (.pack_Reader ⟨b.drop n, 0⟩))) : pack_Reader_Bytes (some p) (n : Int) σ Q := by
  unfold pack_Reader_Bytes
  refine err_spec hx ?_
  rw [bne_self_eq_false, br_false, nilW_some]
  refine at_rd hx ?_
  have e1 : (if (0 : Int) > (n : Int) then (0 : Int) else (n : Int)) = n := by rw [if_neg (by omega)]
  rw [e1]
  dsimp only
  rw [decide_eq_false (by omega), br_false]
  refine ⟨⟨by omega, by omega, by omega⟩, ⟨by omega, by omega, by omega⟩, ?_⟩
  have e2 : sub b 0 (n : Int) = b.take n := by rw [sub_take, Int.toNat_natCast]
  have e3 : sub b (n : Int) (b.length : Int) = b.drop n := by rw [sub_drop, Int.toNat_natCast]
  rw [e2, e3]
  exact clone_spec (by rw [List.length_take]; omega) H
theorem bytes_err {Q : List Int → St Obj → Prop} {n : Int} (hx : σ p = some (.pack_Reader ⟨b, e⟩)) (he : e ≠ 0) (H : Q [] σ) : pack_Reader_Bytes (some p) n σ Q := by
  unfold pack_Reader_Bytes
  refine err_spec hx ?_
  have : (e != 0) = true := by simpa using he
  rw [this, br_true]; exact H

theorem rnum_loop {Q : Int → St Obj → Prop} {most : Int} {l : List Int} {r : Option Addr} (hl : bytesL l) (hn : l.length ≤ 8)
    (H : pack_Reader_Err r σ fun r_16 σ_17 => br (r_16 == (0 : Int)) (pack_Reader_Num_K2 Q r (valB l) (decide (valB l > most)) σ_17) (pack_Reader_Num_K2 Q r (valB l) false σ_17)) :
    pack_Reader_Num_L1 Q r most 0 l (l.length : Int) 0 σ := by
  have key : ∀ (rest acc : List Int), l = acc ++ rest → pack_Reader_Num_L1 Q r most (valB acc) l (l.length : Int) (acc.length : Int) σ := by
    intro rest
    induction rest with
    | nil =>
      intro acc e
      have e' : l = acc := by simpa using e
      refine pack_Reader_Num_L1_in _ _ _ _ _ _ _ _ ?_
      unfold pack_Reader_Num_B1
      rw [decide_eq_false (by rw [e']; omega), br_false]
      rw [← e']; exact H
    | cons x rest ih =>
      intro acc e
      have hll : l.length = acc.length + (rest.length + 1) := by rw [e]; simp
      have hx := hl x (by rw [e]; simp)
      have ha := valB_range (l := acc) fun y hy => hl y (by rw [e]; simp [hy])
      have h7 : acc.length ≤ 7 := by omega
      have hp := pow256_le h7
      have h256 : (256 : Int) ^ 7 = 72057594037927936 := by decide
      have hpos : 0 < (256 : Int) ^ acc.length := Int.pow_pos (by decide)
      have hxp : x * 256 ^ acc.length ≤ 255 * 256 ^ acc.length := Int.mul_le_mul_of_nonneg_right (by omega) (by omega)
      have hxp0 : 0 ≤ x * 256 ^ acc.length := Int.mul_nonneg hx.1 (by omega)
      refine pack_Reader_Num_L1_in _ _ _ _ _ _ _ _ ?_
      unfold pack_Reader_Num_B1
      rw [decide_eq_true (by omega), br_true]
      refine ixP_nat (x := x) (by rw [e]; exact mid_get) ?_
      have e1 : IntKind.wrap .i64 ((8 : Int) * (acc.length : Int)) = ((8 * acc.length : Nat) : Int) := by rw [wrap64 (by omega) (by omega)]; omega
      have e2 : min (8 * acc.length) (IntKind.bits .u64) = 8 * acc.length := by
        have : IntKind.bits .u64 = 64 := rfl
        rw [this]; omega
      have e3 : ((2 : Int) ^ (8 * acc.length)) = 256 ^ acc.length := by rw [Int.pow_mul]; rfl
      rw [e1]
      refine ⟨by omega, ?_⟩
      have e4 : IntKind.bits .u64 = 64 := rfl
      rw [Int.toNat_natCast, e2, e3, wrap_u64 (n := x) (by omega) (by omega), wrap_u64 (n := x * 256 ^ acc.length) (by omega) (by omega), e4, or_shift ha hx (by omega), wrap_u64 (by omega) (by omega), wrap64 (by omega) (by omega)]
      have := ih (acc ++ [x]) (by rw [e]; simp)
      have e5 : valB (acc ++ [x]) = valB acc + x * 256 ^ acc.length := by rw [valB_append]; simp [valB, Int.mul_comm]
      rw [e5] at this
      simpa using this
  exact key l [] rfl

theorem rnum_ok {Q : Int → St Obj → Prop} {k : Nat} {most : Int} (hk : 1 ≤ k ∧ k ≤ 8) (hx : σ p = some (.pack_Reader ⟨b, 0⟩)) (hkb : k ≤ b.length) (hb : bytesL b) (hbl : b.length ≤ 100000)
    (H : if valB (b.take k) ≤ most then Q (valB (b.take k)) (sset σ p (.pack_Reader ⟨b.drop k, 0⟩)) else Q 0 (sset σ p (.pack_Reader ⟨b.drop k, 3⟩))) : pack_Reader_Num (some p) (k : Int) most σ Q := by
  unfold pack_Reader_Num pack_sized
  have e : (if (8 : Int) < (if (1 : Int) > (k : Int) then (1 : Int) else (k : Int)) then (8 : Int) else (if (1 : Int) > (k : Int) then (1 : Int) else (k : Int))) = (k : Int) := by
    rw [if_neg (by omega), if_neg (by omega)]
  rw [e]
  refine bytes_ok hx hkb hbl (rnum_loop (fun x hx => hb x (List.mem_of_mem_take hx)) (by rw [List.length_take]; omega) ?_)
  refine err_spec (sset_same _ _ _) ?_
  rw [beq_self_eq_true, br_true]
  unfold pack_Reader_Num_K2
  rw [br_iff]
  constructor
  · intro h
    rw [if_neg (by simpa using h)] at H
    refine fail_spec (sset_same _ _ _) ?_
    rw [sset_sset]; exact H
  · intro h
    rw [if_pos (by simpa using h)] at H
    exact H
theorem rnum_err {Q : Int → St Obj → Prop} {k most : Int} (hx : σ p = some (.pack_Reader ⟨b, e⟩)) (he : e ≠ 0) (H : Q 0 σ) : pack_Reader_Num (some p) k most σ Q := by
  unfold pack_Reader_Num pack_sized
  refine bytes_err hx he (rnum_loop (l := []) (fun x hx => by cases hx) (by simp) ?_)
  refine err_spec hx ?_
  have : (e == 0) = false := by simpa using he
  rw [this, br_false]
  unfold pack_Reader_Num_K2
  rw [br_false]; exact H

theorem rest_ok {Q : Int → St Obj → Prop} (hx : σ p = some (.pack_Reader ⟨b, 0⟩)) (hb : b.length ≤ 100000) (H : if allZ b then Q 0 σ else Q 3 (sset σ p (.pack_Reader ⟨b, 3⟩))) : pack_Reader_Rest (some p) σ Q := by
  unfold pack_Reader_Rest pack_Reader_Rest_K1 pack_Reader_Rest_K2
  refine err_spec hx ?_
  rw [beq_self_eq_true, br_true, nilW_some]
  refine at_rd hx (zero_spec hb ?_)
  by_cases hz : allZ b
  · rw [if_pos hz] at H
    rw [decide_eq_true hz, Bool.not_true, br_false]
    exact err_spec hx H
  · rw [if_neg hz] at H
    rw [decide_eq_false hz, Bool.not_false, br_true]
    exact fail_spec hx (err_spec (sset_same _ _ _) H)
theorem rest_err {Q : Int → St Obj → Prop} (hx : σ p = some (.pack_Reader ⟨b, e⟩)) (he : e ≠ 0) (H : Q e σ) : pack_Reader_Rest (some p) σ Q := by
  unfold pack_Reader_Rest pack_Reader_Rest_K1 pack_Reader_Rest_K2
  refine err_spec hx ?_
  have : (e == 0) = false := by simpa using he
  rw [this, br_false, br_false]
  exact err_spec hx H

end Go.Pt
