import Derived.Test.YtabdhjmlfhhmpaaDoorIpInodeParse
set_option linter.unusedSimpArgs false
set_option linter.unusedVariables false
namespace Go.Pt
open Go Go.Wc Go.Pu

def fromI (n : inode_Inode) : carlingref21_Inode := ⟨n.Kind, n.Mode, n.Links, n.Size, n.Time, n.Attr, n.Pages⟩
theorem toI_from (n : inode_Inode) : toI (fromI n) = n := rfl
theorem from_toI (n : carlingref21_Inode) : fromI (toI n) = n := rfl

variable {b : List Int}

theorem wrap_neg {v : Int} (h0 : 0 ≤ v) (h1 : v < 18446744073709551616) (h : 0 ≤ IntKind.wrap .i64 v) : IntKind.wrap .i64 v = v := by
  by_cases c : v < 9223372036854775808
  · exact wrap64 (by omega) c
  · have e1 : (2 : Int) ^ 64 = 18446744073709551616 := by decide
    have e2 : (2 : Int) ^ (64 - 1) = 9223372036854775808 := by decide
    have : IntKind.wrap .i64 v = v - 18446744073709551616 := by
      simp only [IntKind.wrap, IntKind.bits, IntKind.signed, Bool.true_and, decide_eq_true_eq, e1, e2]
      rw [Int.emod_eq_of_lt h0 h1, if_pos (by omega)]
    omega

theorem le_val (hb : bytesL b) (hl : b.length = 64) (i k : Nat) (h : i + k ≤ 64) : leB k (valB ((b.drop i).take k)) = (b.drop i).take k := by
  have := leB_val (part_bytes hb i k)
  rwa [show ((b.drop i).take k).length = k by rw [List.length_take, List.length_drop]; omega] at this

theorem bytes_raw (hb : bytesL b) (hl : b.length = 64) (hm : mayS (rawS b) = true) : bytesS (rawS b) = b.take 49 ++ List.replicate 15 0 := by
  have hr := may_rng hm
  have r8 := val_rng hb 8 8
  have p8 : (256 : Int) ^ 8 = 18446744073709551616 := by decide
  rw [p8] at r8
  have ht : (rawS b).Time = valB ((b.drop 8).take 8) := wrap_neg r8.1 r8.2 hr.2.2.2.2.2.2.2.2.1
  unfold bytesS
  rw [raw_pages hb hl, ht]
  show [b.getD 0 0, b.getD 1 0] ++ leB 2 (valB ((b.drop 2).take 2)) ++ leB 4 (valB ((b.drop 4).take 4)) ++ leB 8 (valB ((b.drop 8).take 8)) ++ [b.getD 16 0] ++ (b.drop 17).take 32 ++ List.replicate 15 0 = _
  rw [le_val hb hl 2 2 (by omega), le_val hb hl 4 4 (by omega), le_val hb hl 8 8 (by omega)]
  congr 1
  have one : ∀ i, i < 64 → (b.drop i).take 1 = [b.getD i 0] := by
    intro i hi
    rw [List.drop_eq_getElem_cons (show i < b.length by omega), List.getD_eq_getElem?_getD, List.getElem?_eq_getElem (by omega)]
    rfl
  have t1 : b.take 1 = [b.getD 0 0] := one 0 (by omega)
  have t2 : b.take 2 = [b.getD 0 0, b.getD 1 0] := by rw [show 2 = 1 + 1 from rfl, List.take_add, t1, one 1 (by omega)]; rfl
  rw [show 49 = 2 + 2 + 4 + 8 + 1 + 32 from rfl, List.take_add, List.take_add, List.take_add, List.take_add, List.take_add, t2, one (2 + 2 + 4 + 8) (by omega)]

/-! ### The document's Parse -/
theorem cmp_spec {Q : carlingref21_Inode → Int → Prop} {x : List Int} {v0 v1 v2 v3 v4 v5 n0 n1 n2 n3 n4 n5 : Int} {v6 n6 : Vector Int 32} (hl : b.length = 64) (hx : x.length = 64)
    (H : if x = b then Q ⟨n0, n1, n2, n3, n4, n5, n6⟩ 0 else Q (fromI zeroI) 9) : carlingref21_Parse_L2 Q b v0 v1 v2 v3 v4 v5 v6 n0 n1 n2 n3 n4 n5 n6 x 0 0 := by
  have bad : ∀ (i : Int) (e : Int), e ≠ 0 → Q (fromI zeroI) 9 → carlingref21_Parse_L2 Q b v0 v1 v2 v3 v4 v5 v6 n0 n1 n2 n3 n4 n5 n6 x e i := by
    intro i e he h
    refine carlingref21_Parse_L2_in _ _ _ _ _ _ _ _ _ _ _ _ _ _ _ _ _ _ _ ?_
    unfold carlingref21_Parse_B2 carlingref21_Parse_K3
    have e1 : (e == 0) = false := by simpa using he
    have e2 : (e != 0) = true := by simpa using he
    rw [e1, br_false, br_false, e2, br_true]
    exact h
  have key : ∀ (j i : Nat), i + j = 64 → x.take i = b.take i → carlingref21_Parse_L2 Q b v0 v1 v2 v3 v4 v5 v6 n0 n1 n2 n3 n4 n5 n6 x 0 (i : Int) := by
    intro j
    induction j with
    | zero =>
      intro i e ht
      obtain rfl : i = 64 := by omega
      rw [List.take_of_length_le (by omega), List.take_of_length_le (by omega)] at ht
      rw [if_pos ht] at H
      refine carlingref21_Parse_L2_in _ _ _ _ _ _ _ _ _ _ _ _ _ _ _ _ _ _ _ ?_
      unfold carlingref21_Parse_B2 carlingref21_Parse_K3
      rw [beq_self_eq_true, br_true, decide_eq_false (by omega), br_false, bne_self_eq_false, br_false]
      exact H
    | succ j ih =>
      intro i e ht
      refine carlingref21_Parse_L2_in _ _ _ _ _ _ _ _ _ _ _ _ _ _ _ _ _ _ _ ?_
      unfold carlingref21_Parse_B2 carlingref21_Parse_K3 carlingref21_Parse_K4
      rw [beq_self_eq_true, br_true, decide_eq_true (by omega), br_true]
      refine ixP_nat (x := x[i]) (List.getElem?_eq_getElem (by omega)) ?_
      refine ixP_nat (x := b[i]) (List.getElem?_eq_getElem (by omega)) ?_
      rw [wrap64 (n := (i : Int) + 1) (by omega) (by omega), br_iff]
      constructor
      · intro hne
        have hne : x[i] ≠ b[i] := by simpa using hne
        refine bad _ _ (by decide) ?_
        rw [if_neg (fun e => hne (by simp only [e]))] at H
        exact H
      · intro heq
        have heq : x[i] = b[i] := by simpa using heq
        have := ih (i + 1) (by omega) (by rw [List.take_succ_eq_append_getElem (by omega), List.take_succ_eq_append_getElem (by omega), ht, heq])
        exact this
  exact key 64 0 (by omega) rfl
theorem cmp_bad {Q : carlingref21_Inode → Int → Prop} {x : List Int} {v0 v1 v2 v3 v4 v5 n0 n1 n2 n3 n4 n5 e i : Int} {v6 n6 : Vector Int 32} (he : e ≠ 0) (H : Q (fromI zeroI) 9) : carlingref21_Parse_L2 Q b v0 v1 v2 v3 v4 v5 v6 n0 n1 n2 n3 n4 n5 n6 x e i := by
  refine carlingref21_Parse_L2_in _ _ _ _ _ _ _ _ _ _ _ _ _ _ _ _ _ _ _ ?_
  unfold carlingref21_Parse_B2 carlingref21_Parse_K3
  have e1 : (e == 0) = false := by simpa using he
  have e2 : (e != 0) = true := by simpa using he
  rw [e1, br_false, br_false, e2, br_true]
  exact H

theorem parseR_spec {Q : carlingref21_Inode → Int → Prop} (hb : bytesL b) (H : Q (fromI (parseS b).1) (parseS b).2) : carlingref21_Parse b Q := by
  unfold carlingref21_Parse
  unfold parseS at H
  rw [br_iff]
  constructor
  · intro h
    have h : b.length ≠ 64 := by simp at h; omega
    rw [if_neg h] at H
    exact H
  intro h
  have hl : b.length = 64 := by simp at h; omega
  rw [if_pos hl] at H
  have p2 : (256 : Int) ^ 2 = 65536 := by decide
  have p4 : (256 : Int) ^ 4 = 4294967296 := by decide
  have r0 := byte_at hb 0
  have r1 := byte_at hb 1
  have r16 := byte_at hb 16
  have r2 := val_rng hb 2 2
  have r4 := val_rng hb 4 4
  rw [p2] at r2
  rw [p4] at r4
  have g : ∀ i, i < 64 → b[i]? = some (b.getD i 0) := by
    intro i hi
    rw [List.getD_eq_getElem?_getD, List.getElem?_eq_getElem (by omega)]; rfl
  refine ixP_of (x := b.getD 0 0) (by omega) (g 0 (by omega)) ?_
  refine ixP_of (x := b.getD 1 0) (by omega) (g 1 (by omega)) ?_
  refine ⟨⟨by omega, by omega, by omega⟩, ⟨by omega, by omega, by omega⟩, ⟨by omega, by omega, by omega⟩, ?_⟩
  refine ixP_of (x := b.getD 16 0) (by omega) (g 16 (by omega)) ?_
  have s2 : sub b 2 4 = (b.drop 2).take 2 := by unfold sub; rw [List.drop_take]; rfl
  have s4 : sub b 4 8 = (b.drop 4).take 4 := by unfold sub; rw [List.drop_take]; rfl
  have s8 : sub b 8 16 = (b.drop 8).take 8 := by unfold sub; rw [List.drop_take]; rfl
  rw [s2, s4, s8]
  have hlen : ∀ i k, ((b.drop i).take k).length ≤ k := fun i k => by rw [List.length_take]; omega
  have n2 : ∀ {K : Int → Prop}, K (valB ((b.drop 2).take 2)) → carlingref21_num ((b.drop 2).take 2) K := fun h => num_spec (part_bytes hb 2 2) (by have := hlen 2 2; omega) h
  have n4 : ∀ {K : Int → Prop}, K (valB ((b.drop 4).take 4)) → carlingref21_num ((b.drop 4).take 4) K := fun h => num_spec (part_bytes hb 4 4) (by have := hlen 4 4; omega) h
  have n8 : ∀ {K : Int → Prop}, K (valB ((b.drop 8).take 8)) → carlingref21_num ((b.drop 8).take 8) K := fun h => num_spec (part_bytes hb 8 8) (by have := hlen 8 8; omega) h
  have fin : carlingref21_Parse_L1 Q b 0 0 0 0 0 0 (Vector.replicate 32 (0 : Int)) (IntKind.wrap .i64 (b.getD 0 0)) (IntKind.wrap .i64 (b.getD 1 0)) (IntKind.wrap .i64 (valB ((b.drop 2).take 2))) (IntKind.wrap .i64 (valB ((b.drop 4).take 4))) (IntKind.wrap .i64 (valB ((b.drop 8).take 8))) (IntKind.wrap .i64 (b.getD 16 0)) (Vector.replicate 32 (0 : Int)) 0 := by
    rw [wrap64 (n := b.getD 0 0) (by omega) (by omega), wrap64 (n := b.getD 1 0) (by omega) (by omega), wrap64 (n := valB ((b.drop 2).take 2)) (by omega) (by omega), wrap64 (n := valB ((b.drop 4).take 4)) (by omega) (by omega), wrap64 (n := b.getD 16 0) (by omega) (by omega)]
    have key : ∀ (j i : Nat) (v : Vector Int 32), i + j = 32 → v.toList = (b.drop 17).take i ++ List.replicate j 0 → carlingref21_Parse_L1 Q b 0 0 0 0 0 0 (Vector.replicate 32 (0 : Int)) (b.getD 0 0) (b.getD 1 0) (valB ((b.drop 2).take 2)) (valB ((b.drop 4).take 4)) (IntKind.wrap .i64 (valB ((b.drop 8).take 8))) (b.getD 16 0) v (i : Int) := by
      intro j
      induction j with
      | zero =>
        intro i v e hv
        obtain rfl : i = 32 := by omega
        have ev : v = v32 ((b.drop 17).take 32) := by
          rw [← Vector.toList_inj, hv, v32_toList (by rw [List.length_take, List.length_drop]; omega)]; simp
        subst ev
        refine carlingref21_Parse_L1_in _ _ _ _ _ _ _ _ _ _ _ _ _ _ _ _ _ ?_
        unfold carlingref21_Parse_B1
        rw [decide_eq_false (by omega), br_false]
        have r8 := val_rng hb 8 8
        have p8 : (256 : Int) ^ 8 = 18446744073709551616 := by decide
        rw [p8] at r8
        have hpg : bytesL (rawS b).Pages.toList := by rw [raw_pages hb hl]; exact part_bytes hb 17 32
        have htime : (rawS b).Time < 18446744073709551616 := by
          show IntKind.wrap .i64 (valB ((b.drop 8).take 8)) < 18446744073709551616
          by_cases c : 0 ≤ IntKind.wrap .i64 (valB ((b.drop 8).take 8))
          · rw [wrap_neg r8.1 r8.2 c]; exact r8.2
          · omega
        refine layR_spec (n := fromI (rawS b)) hpg htime ?_
        rw [toI_from]
        unfold layS
        cases hm : mayS (rawS b) with
        | false =>
          rw [if_neg (by simp)]
          rw [hm, if_neg (by simp)] at H
          exact cmp_bad (by decide) H
        | true =>
          rw [if_pos rfl]
          have hbr := bytes_raw hb hl hm
          refine cmp_spec hl (by rw [hbr, List.length_append, List.length_take, List.length_replicate]; omega) ?_
          have hiff : bytesS (rawS b) = b ↔ allZ (b.drop 49) := by
            rw [hbr]
            have hd15 : (b.drop 49).length = 15 := by rw [List.length_drop]; omega
            constructor
            · intro h x hx
              have h2 : b.drop 49 = List.replicate 15 0 := by
                have h3 := congrArg (List.drop 49) h
                rw [List.drop_append_of_le_length (by rw [List.length_take]; omega)] at h3
                have h4 : (b.take 49).drop 49 = [] := List.drop_eq_nil_of_le (by rw [List.length_take]; omega)
                rw [h4, List.nil_append] at h3
                exact h3.symm
              rw [h2] at hx
              exact (List.mem_replicate.1 hx).2
            · intro h
              have h2 : b.drop 49 = List.replicate 15 0 := List.eq_replicate_iff.2 ⟨hd15, h⟩
              rw [← h2, List.take_append_drop]
          by_cases hz : allZ (b.drop 49)
          · rw [if_pos (hiff.2 hz)]
            rw [hm, if_pos ⟨rfl, hz⟩] at H
            exact H
          · rw [if_neg (fun h => hz (hiff.1 h))]
            rw [if_neg (fun h => hz h.2)] at H
            exact H
      | succ j ih =>
        intro i v e hv
        refine carlingref21_Parse_L1_in _ _ _ _ _ _ _ _ _ _ _ _ _ _ _ _ _ ?_
        unfold carlingref21_Parse_B1
        rw [decide_eq_true (by omega), br_true]
        have ei : IntKind.wrap .i64 ((17 : Int) + (i : Int)) = ((17 + i : Nat) : Int) := by rw [wrap64 (by omega) (by omega)]; omega
        rw [ei]
        refine ixP_nat (x := b.getD (17 + i) 0) (g (17 + i) (by omega)) ?_
        refine ixP_nat (x := v.toList[i]'(by simp; omega)) (List.getElem?_eq_getElem (by simp; omega)) ?_
        rw [wrap64 (n := (i : Int) + 1) (by omega) (by omega), Int.toNat_natCast]
        refine ih (i + 1) _ (by omega) ?_
        have e1 : (v.setIfInBounds i (b.getD (17 + i) 0)).toList = v.toList.set i (b.getD (17 + i) 0) := by simp
        have hti : ((b.drop 17).take i).length = i := by rw [List.length_take, List.length_drop]; omega
        have hdl : i < (b.drop 17).length := by rw [List.length_drop]; omega
        rw [e1, hv, List.set_append_right _ _ (by omega), hti, Nat.sub_self, List.replicate_succ, List.set_cons_zero, List.take_succ_eq_append_getElem hdl, List.append_assoc, List.singleton_append]
        congr 2
        rw [List.getElem_drop, List.getD_eq_getElem?_getD, List.getElem?_eq_getElem (by omega)]; rfl
    have := key 32 0 (Vector.replicate 32 0) (by omega) (by simp)
    exact this
  refine ⟨n2 ⟨n4 ⟨n8 fin, n8 fin⟩, n4 (n8 fin)⟩, n2 (n4 (n8 fin))⟩

end Go.Pt
