import Derived.Test.YtabdhjmlfhhmpaaDoorIpInodeLay
set_option linter.unusedSimpArgs false
set_option linter.unusedVariables false
namespace Go.Pt
open Go Go.Wc Go.Pu

def v32 (l : List Int) : Vector Int 32 := cpV (Vector.replicate 32 (0 : Int)) 0 l
theorem v32_toList {l : List Int} (h : l.length = 32) : (v32 l).toList = l := by
  unfold v32
  rw [cpV_toList]
  have : l.take 32 = l := List.take_of_length_le (by omega)
  simp [cpL, h, this]

def rawS (b : List Int) : inode_Inode :=
  ⟨b.getD 0 0, b.getD 1 0, valB ((b.drop 2).take 2), valB ((b.drop 4).take 4), IntKind.wrap .i64 (valB ((b.drop 8).take 8)), b.getD 16 0, v32 ((b.drop 17).take 32)⟩
def parseS (b : List Int) : inode_Inode × Int :=
  if b.length = 64 then (if mayS (rawS b) = true ∧ allZ (b.drop 49) then (rawS b, 0) else (zeroI, 9)) else (zeroI, 1)

variable {b : List Int}

theorem byte_at (hb : bytesL b) (i : Nat) : 0 ≤ b.getD i 0 ∧ b.getD i 0 < 256 := by
  rw [List.getD_eq_getElem?_getD]
  cases h : b[i]? with
  | none => simp
  | some x => exact hb x (List.mem_of_getElem? h)
theorem part_bytes (hb : bytesL b) (i k : Nat) : bytesL ((b.drop i).take k) := fun x hx => hb x (List.mem_of_mem_drop (List.mem_of_mem_take hx))
theorem val_one (hl : b.length = 64) (i : Nat) (hi : i < 64) : valB ((b.drop i).take 1) = b.getD i 0 := by
  rw [List.drop_eq_getElem_cons (show i < b.length by omega), List.getD_eq_getElem?_getD, List.getElem?_eq_getElem (by omega)]
  show valB [b[i]] = b[i]
  simp only [valB]; omega
theorem val_rng (hb : bytesL b) (i k : Nat) : 0 ≤ valB ((b.drop i).take k) ∧ valB ((b.drop i).take k) < 256 ^ k := by
  have h := valB_range (part_bytes hb i k)
  have h2 := pow256_le (show ((b.drop i).take k).length ≤ k by rw [List.length_take]; omega)
  omega
theorem raw_pages (hb : bytesL b) (hl : b.length = 64) : (rawS b).Pages.toList = (b.drop 17).take 32 := v32_toList (by rw [List.length_take, List.length_drop]; omega)

theorem parse_spec {σ : St Obj} {Q : inode_Inode → Int → St Obj → Prop} (hb : bytesL b) (H : ∀ σ', Q (parseS b).1 (parseS b).2 σ') : inode_Parse b σ Q := by
  unfold inode_Parse
  unfold parseS at H
  rw [br_iff]
  constructor
  · intro h
    have h : b.length ≠ 64 := by simp at h; omega
    rw [if_neg h] at H
    exact H _
  intro h
  have hl : b.length = 64 := by simp at h; omega
  rw [if_pos hl] at H
  intro p hp
  have p2 : (256 : Int) ^ 2 = 65536 := by decide
  have p4 : (256 : Int) ^ 4 = 4294967296 := by decide
  have p8 : (256 : Int) ^ 8 = 18446744073709551616 := by decide
  have r0 := byte_at hb 0
  have r1 := byte_at hb 1
  have r16 := byte_at hb 16
  have r2 := val_rng hb 2 2
  have r4 := val_rng hb 4 4
  have r8 := val_rng hb 8 8
  have bad : mayS (rawS b) = false → ∀ σ', Q zeroI 9 σ' := by
    intro hm σ'
    have := H σ'
    rw [hm, if_neg (by simp)] at this
    exact this
  have notMay : ¬ (0 ≤ (rawS b).Kind ∧ (rawS b).Kind ≤ 3 ∧ 0 ≤ (rawS b).Mode ∧ (rawS b).Mode ≤ 7 ∧ 0 ≤ (rawS b).Links ∧ (rawS b).Links ≤ 65535 ∧ 0 ≤ (rawS b).Size ∧ (rawS b).Size ≤ 8192 ∧ 0 ≤ (rawS b).Time ∧ 0 ≤ (rawS b).Attr ∧ (rawS b).Attr ≤ 215) → mayS (rawS b) = false := by
    intro hn
    cases hm : mayS (rawS b) with
    | false => rfl
    | true => exact absurd (may_rng hm) hn
  have fin : ∀ {v0 v1 v2 v3 v4 v5 : Int} {v6 : Vector Int 32} {n0 n1 n2 n3 n4 n5 : Int} {n6 : Vector Int 32} {σ' : St Obj}, mayS (rawS b) = false → inode_Parse_K1 Q v0 v1 v2 v3 v4 v5 v6 n0 n1 n2 n3 n4 n5 n6 true σ' := by
    intro v0 v1 v2 v3 v4 v5 v6 n0 n1 n2 n3 n4 n5 n6 σ' hm
    unfold inode_Parse_K1
    rw [br_true]; exact bad hm σ'
  have e30 : ((3 : Int) != 0) = true := by decide
  -- Kind
  refine rnum_ok (k := 1) (by omega) (sset_same _ _ _) (by omega) hb (by omega) ?_
  rw [show b.take 1 = (b.drop 0).take 1 by rfl, val_one hl 0 (by omega), sset_sset]
  by_cases c0 : b.getD 0 0 ≤ 3
  case neg =>
    rw [if_neg c0]
    refine rnum_err (sset_same _ _ _) (by decide) (rnum_err (sset_same _ _ _) (by decide) (rnum_err (sset_same _ _ _) (by decide) (rnum_err (sset_same _ _ _) (by decide) (rnum_err (sset_same _ _ _) (by decide) (bytes_err (sset_same _ _ _) (by decide) (rest_err (sset_same _ _ _) (by decide) ?_))))))
    rw [e30, br_true]
    exact fin (notMay fun hn => c0 hn.2.1)
  rw [if_pos c0]
  -- Mode
  refine rnum_ok (k := 1) (by omega) (sset_same _ _ _) (by rw [List.length_drop]; omega) (fun x hx => hb x (List.mem_of_mem_drop hx)) (by rw [List.length_drop]; omega) ?_
  rw [val_one hl 1 (by omega), sset_sset, List.drop_drop]
  by_cases c1 : b.getD 1 0 ≤ 7
  case neg =>
    rw [if_neg c1]
    refine rnum_err (sset_same _ _ _) (by decide) (rnum_err (sset_same _ _ _) (by decide) (rnum_err (sset_same _ _ _) (by decide) (rnum_err (sset_same _ _ _) (by decide) (bytes_err (sset_same _ _ _) (by decide) (rest_err (sset_same _ _ _) (by decide) ?_)))))
    rw [e30, br_true]
    exact fin (notMay fun hn => c1 hn.2.2.2.1)
  rw [if_pos c1]
  -- Links
  refine rnum_ok (k := 2) (by omega) (sset_same _ _ _) (by rw [List.length_drop]; omega) (fun x hx => hb x (List.mem_of_mem_drop hx)) (by rw [List.length_drop]; omega) ?_
  rw [sset_sset, List.drop_drop]
  rw [if_pos (by have := r2.2; rw [p2] at this; show valB ((b.drop 2).take 2) ≤ 65535; omega)]
  -- Size
  refine rnum_ok (k := 4) (by omega) (sset_same _ _ _) (by rw [List.length_drop]; omega) (fun x hx => hb x (List.mem_of_mem_drop hx)) (by rw [List.length_drop]; omega) ?_
  rw [sset_sset, List.drop_drop]
  by_cases c3 : valB ((b.drop 4).take 4) ≤ 8192
  case neg =>
    rw [if_neg (show ¬ valB ((b.drop (1 + 1 + 2)).take 4) ≤ 8192 from c3)]
    refine rnum_err (sset_same _ _ _) (by decide) (rnum_err (sset_same _ _ _) (by decide) (bytes_err (sset_same _ _ _) (by decide) (rest_err (sset_same _ _ _) (by decide) ?_)))
    rw [e30, br_true]
    exact fin (notMay fun hn => c3 hn.2.2.2.2.2.2.2.1)
  rw [if_pos (show valB ((b.drop (1 + 1 + 2)).take 4) ≤ 8192 from c3)]
  -- Time
  refine rnum_ok (k := 8) (by omega) (sset_same _ _ _) (by rw [List.length_drop]; omega) (fun x hx => hb x (List.mem_of_mem_drop hx)) (by rw [List.length_drop]; omega) ?_
  rw [sset_sset, List.drop_drop]
  by_cases c4 : valB ((b.drop 8).take 8) ≤ 9223372036854775807
  case neg =>
    rw [if_neg (show ¬ valB ((b.drop (1 + 1 + 2 + 4)).take 8) ≤ 9223372036854775807 from c4)]
    refine rnum_err (sset_same _ _ _) (by decide) (bytes_err (sset_same _ _ _) (by decide) (rest_err (sset_same _ _ _) (by decide) ?_))
    rw [e30, br_true]
    refine fin (notMay fun hn => ?_)
    have ht : 0 ≤ IntKind.wrap .i64 (valB ((b.drop 8).take 8)) := hn.2.2.2.2.2.2.2.2.1
    have hneg : IntKind.wrap .i64 (valB ((b.drop 8).take 8)) = valB ((b.drop 8).take 8) - 18446744073709551616 := by
      have h1 := r8.2
      rw [p8] at h1
      have e1 : (2 : Int) ^ 64 = 18446744073709551616 := by decide
      have e2 : (2 : Int) ^ (64 - 1) = 9223372036854775808 := by decide
      simp only [IntKind.wrap, IntKind.bits, IntKind.signed, Bool.true_and, decide_eq_true_eq, e1, e2]
      rw [Int.emod_eq_of_lt r8.1 h1, if_pos (by omega)]
    rw [hneg] at ht
    have h1 := r8.2
    rw [p8] at h1
    omega
  rw [if_pos (show valB ((b.drop (1 + 1 + 2 + 4)).take 8) ≤ 9223372036854775807 from c4)]
  -- Attr
  refine rnum_ok (k := 1) (by omega) (sset_same _ _ _) (by rw [List.length_drop]; omega) (fun x hx => hb x (List.mem_of_mem_drop hx)) (by rw [List.length_drop]; omega) ?_
  rw [sset_sset, List.drop_drop]
  have e16 : valB ((b.drop (1 + 1 + 2 + 4 + 8)).take 1) = b.getD 16 0 := val_one hl 16 (by omega)
  rw [e16, if_pos (by omega)]
  -- Pages
  refine bytes_ok (n := 32) (sset_same _ _ _) (by rw [List.length_drop]; omega) (by rw [List.length_drop]; omega) ?_
  rw [sset_sset, List.drop_drop]
  -- Rest
  refine rest_ok (sset_same _ _ _) (by rw [List.length_drop]; omega) ?_
  have w0 : IntKind.wrap .i64 (b.getD 0 0) = b.getD 0 0 := wrap64 (by omega) (by omega)
  have w1 : IntKind.wrap .i64 (b.getD 1 0) = b.getD 1 0 := wrap64 (by omega) (by omega)
  have w2 : IntKind.wrap .i64 (valB ((b.drop 2).take 2)) = valB ((b.drop 2).take 2) := wrap64 (by omega) (by omega)
  have w4 : IntKind.wrap .i64 (valB ((b.drop 4).take 4)) = valB ((b.drop 4).take 4) := wrap64 (by omega) (by omega)
  have w16 : IntKind.wrap .i64 (b.getD 16 0) = b.getD 16 0 := wrap64 (by omega) (by omega)
  by_cases hz : allZ (b.drop 49)
  · rw [if_pos (show allZ (b.drop (1 + 1 + 2 + 4 + 8 + 1 + 32)) from hz)]
    rw [bne_self_eq_false, br_false]
    have er : (⟨IntKind.wrap .i64 (b.getD 0 0), IntKind.wrap .i64 (b.getD 1 0), IntKind.wrap .i64 (valB ((b.drop (1 + 1)).take 2)), IntKind.wrap .i64 (valB ((b.drop (1 + 1 + 2)).take 4)), IntKind.wrap .i64 (valB ((b.drop (1 + 1 + 2 + 4)).take 8)), IntKind.wrap .i64 (b.getD 16 0), cpV (Vector.replicate 32 (0 : Int)) (Int.toNat (0 : Int)) ((b.drop (1 + 1 + 2 + 4 + 8 + 1)).take 32)⟩ : inode_Inode) = rawS b := by
      show (⟨IntKind.wrap .i64 (b.getD 0 0), IntKind.wrap .i64 (b.getD 1 0), IntKind.wrap .i64 (valB ((b.drop 2).take 2)), IntKind.wrap .i64 (valB ((b.drop 4).take 4)), IntKind.wrap .i64 (valB ((b.drop 8).take 8)), IntKind.wrap .i64 (b.getD 16 0), v32 ((b.drop 17).take 32)⟩ : inode_Inode) = rawS b
      rw [w0, w1, w2, w4, w16]; rfl
    rw [er]
    refine may_spec (by rw [raw_pages hb hl]; exact part_bytes hb 17 32) ?_
    have HH := H (sset σ p (.pack_Reader ⟨b.drop (1 + 1 + 2 + 4 + 8 + 1 + 32), 0⟩))
    unfold inode_Parse_K1
    cases hm : mayS (rawS b) with
    | false =>
      rw [Bool.not_false, br_true]; exact bad hm _
    | true =>
      rw [Bool.not_true, br_false, er]
      rw [hm, if_pos ⟨rfl, hz⟩] at HH
      exact HH
  · rw [if_neg (show ¬ allZ (b.drop (1 + 1 + 2 + 4 + 8 + 1 + 32)) from hz)]
    rw [e30, br_true, sset_sset]
    have HH := H (sset σ p (.pack_Reader ⟨b.drop (1 + 1 + 2 + 4 + 8 + 1 + 32), 3⟩))
    rw [if_neg (fun h => hz h.2)] at HH
    unfold inode_Parse_K1
    rw [br_true]; exact HH

end Go.Pt
