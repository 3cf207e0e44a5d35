import Derived.Test.YtabdhjmlfhhmpaaDoorIpPt
import Derived.Test.YtabdhjmlfhhmpaaDoorIpLw1
set_option linter.unusedVariables false
set_option linter.unusedSimpArgs false
namespace Go.Pt
open Go Go.Wc Go.Pu Go.Laws

def N_carlingref21_Inode (x : carlingref21_Inode) : Prop := (fun n : Int => (Lit.int .i64 n).wf = true) x.Kind ∧ (fun n : Int => (Lit.int .i64 n).wf = true) x.Mode ∧ (fun n : Int => (Lit.int .i64 n).wf = true) x.Links ∧ (fun n : Int => (Lit.int .i64 n).wf = true) x.Size ∧ (fun n : Int => (Lit.int .i64 n).wf = true) x.Time ∧ (fun n : Int => (Lit.int .i64 n).wf = true) x.Attr ∧ (fun v : Vector Int 32 => ∀ x ∈ v.toList, (Lit.int .u8 x).wf = true) x.Pages
theorem opens_carlingref21_Inode {P : Program} {t t0 t1 t2 t3 t4 t5 t6 : TypeId} (hf : fieldsOf P t = [(t0, 0), (t1, 1), (t2, 2), (t3, 3), (t4, 4), (t5, 5), (t6, 6)]) (hc : P.cellsOf t = 38) (o0 : Opens P t0 (rI .i64) (fun n : Int => (Lit.int .i64 n).wf = true)) (o1 : Opens P t1 (rI .i64) (fun n : Int => (Lit.int .i64 n).wf = true)) (o2 : Opens P t2 (rI .i64) (fun n : Int => (Lit.int .i64 n).wf = true)) (o3 : Opens P t3 (rI .i64) (fun n : Int => (Lit.int .i64 n).wf = true)) (o4 : Opens P t4 (rI .i64) (fun n : Int => (Lit.int .i64 n).wf = true)) (o5 : Opens P t5 (rI .i64) (fun n : Int => (Lit.int .i64 n).wf = true)) (o6 : Opens P t6 (rV .u8 32) (fun v : Vector Int 32 => ∀ x ∈ v.toList, (Lit.int .u8 x).wf = true)) : Opens P t R_carlingref21_Inode N_carlingref21_Inode := by
  refine ⟨hc, fun {_ _ w _ _ _} hd => ?_⟩
  obtain ⟨hl, hfs⟩ := trod_fields hf (by simp) hd
  rw [hc] at hl
  obtain ⟨v0, r0, rfl, hl0⟩ := cells_succ hl
  obtain ⟨v1, r1, rfl, hl1⟩ := cells_succ hl0
  obtain ⟨v2, r2, rfl, hl2⟩ := cells_succ hl1
  obtain ⟨v3, r3, rfl, hl3⟩ := cells_succ hl2
  obtain ⟨v4, r4, rfl, hl4⟩ := cells_succ hl3
  obtain ⟨v5, r5, rfl, hl5⟩ := cells_succ hl4
  obtain ⟨u6, w6, rfl, hu6, hw6⟩ := cells_split (n := 32) (m := 0) hl5
  obtain rfl := List.length_eq_zero_iff.1 hw6
  obtain ⟨_, _, d0⟩ := hfs (t0, 0) (by simp)
  obtain ⟨x0, p0, q0⟩ := o0.2 d0
  dsimp only at p0
  rw [o0.1] at p0
  have e0 := p0
  have e0 : [v0] = [.int .i64 x0] := e0
  simp only [List.cons.injEq, and_true] at e0
  subst e0
  obtain ⟨_, _, d1⟩ := hfs (t1, 1) (by simp)
  obtain ⟨x1, p1, q1⟩ := o1.2 d1
  dsimp only at p1
  rw [o1.1] at p1
  have e1 := p1
  have e1 : [v1] = [.int .i64 x1] := e1
  simp only [List.cons.injEq, and_true] at e1
  subst e1
  obtain ⟨_, _, d2⟩ := hfs (t2, 2) (by simp)
  obtain ⟨x2, p2, q2⟩ := o2.2 d2
  dsimp only at p2
  rw [o2.1] at p2
  have e2 := p2
  have e2 : [v2] = [.int .i64 x2] := e2
  simp only [List.cons.injEq, and_true] at e2
  subst e2
  obtain ⟨_, _, d3⟩ := hfs (t3, 3) (by simp)
  obtain ⟨x3, p3, q3⟩ := o3.2 d3
  dsimp only at p3
  rw [o3.1] at p3
  have e3 := p3
  have e3 : [v3] = [.int .i64 x3] := e3
  simp only [List.cons.injEq, and_true] at e3
  subst e3
  obtain ⟨_, _, d4⟩ := hfs (t4, 4) (by simp)
  obtain ⟨x4, p4, q4⟩ := o4.2 d4
  dsimp only at p4
  rw [o4.1] at p4
  have e4 := p4
  have e4 : [v4] = [.int .i64 x4] := e4
  simp only [List.cons.injEq, and_true] at e4
  subst e4
  obtain ⟨_, _, d5⟩ := hfs (t5, 5) (by simp)
  obtain ⟨x5, p5, q5⟩ := o5.2 d5
  dsimp only at p5
  rw [o5.1] at p5
  have e5 := p5
  have e5 : [v5] = [.int .i64 x5] := e5
  simp only [List.cons.injEq, and_true] at e5
  subst e5
  obtain ⟨_, _, d6⟩ := hfs (t6, 6) (by simp)
  obtain ⟨x6, p6, q6⟩ := o6.2 d6
  dsimp only at p6
  rw [o6.1] at p6
  have e6 : u6 = lumpV .u8 32 x6.toList := by have q : List.take 32 _ = _ := p6; simpa [hu6, List.take_of_length_le (Nat.le_of_eq hu6)] using q
  subst e6
  exact ⟨⟨x0, x1, x2, x3, x4, x5, x6⟩, (by show _ = _; simp), q0, q1, q2, q3, q4, q5, q6⟩

theorem carlinglaw21_InodeParses_law {ρ : Ids} {h : Hp} {x0 : List Int} {a0 : Option Addr} {c0 : Nat} (h0 : SlE (rI .u8) h [] a0 c0 x0) (HP : carlinglaw21_InodeParses x0 st0 (fun b _ => b = true)) :
    Tx.carlinglaw21_InodeParses_S ρ [.slice a0 x0.length c0] h (fun v h' => v = .bool true ∧ Keep [] h h') := by
  unfold Tx.carlinglaw21_InodeParses_S
  dsimp only [List.cons_append, List.nil_append, List.toList_toArray, tI, tA, tN, tS, tB, tT, tP, tM, tV, tG, cnd, sameKind]
  have I : Inv h (roS (rI .u8) a0 x0.length c0 x0 :: hpA (obA ρ) st0 :: [leA h []]) := inv_law (A := [roS (rI .u8) a0 x0.length c0 x0, hpA (obA ρ) st0]) (by
    intro a ha
    simp only [List.mem_cons, List.not_mem_nil, or_false] at ha
    rcases ha with rfl | rfl
    · exact ro0 h0
    · exact hp0)
  refine carlinglaw21_InodeParses_r I HP fun r h' σ I H => ?_
  exact ⟨by rw [show r = true from H], inv_end (I.drop1)⟩

theorem carlinglaw21_InodeBack_law {ρ : Ids} {h : Hp} {x0 : carlingref21_Inode} {cs0 : Array Value} {x1 : List Int} {a1 : Option Addr} {c1 : Nat} (h0 : R_carlingref21_Inode.P h [] cs0.toList x0) (h1 : SlE (rI .u8) h [] a1 c1 x1) (HP : carlinglaw21_InodeBack x0 x1 st0 (fun b _ => b = true)) :
    Tx.carlinglaw21_InodeBack_S ρ [.agg cs0, .slice a1 x1.length c1] h (fun v h' => v = .bool true ∧ Keep [] h h') := by
  have e0 := h0
  obtain rfl : cs0 = (([.int .i64 x0.Kind, .int .i64 x0.Mode, .int .i64 x0.Links, .int .i64 x0.Size, .int .i64 x0.Time, .int .i64 x0.Attr] : List Value) ++ lumpV .u8 32 x0.Pages.toList).toArray := by rw [← e0]
  unfold Tx.carlinglaw21_InodeBack_S
  dsimp only [List.cons_append, List.nil_append, List.toList_toArray, tI, tA, tN, tS, tB, tT, tP, tM, tV, tG, cnd, sameKind]
  first | refine tL_in0 ?_ | refine tL_in ?_
  try dsimp only [List.cons_append, List.nil_append, tI, tA, tN, tS, tB, tT, tP, tM, tV, tG, cnd, sameKind]
  have I : Inv h (roS (rI .u8) a1 x1.length c1 x1 :: hpA (obA ρ) st0 :: [leA h []]) := inv_law (A := [roS (rI .u8) a1 x1.length c1 x1, hpA (obA ρ) st0]) (by
    intro a ha
    simp only [List.mem_cons, List.not_mem_nil, or_false] at ha
    rcases ha with rfl | rfl
    · exact ro0 h1
    · exact hp0)
  refine carlinglaw21_InodeBack_r I HP fun r h' σ I H => ?_
  exact ⟨by rw [show r = true from H], inv_end (I.drop1)⟩

theorem carlinglaw21_InodePages_law {ρ : Ids} {h : Hp} {x0 : List Int} {a0 : Option Addr} {c0 : Nat} {x1 : Int} {x2 : carlingref21_Inode} {cs2 : Array Value} (h0 : SlE (rI .u8) h [] a0 c0 x0) (h2 : R_carlingref21_Inode.P h [] cs2.toList x2) (HP : carlinglaw21_InodePages x0 x1 x2 st0 (fun b _ => b = true)) :
    Tx.carlinglaw21_InodePages_S ρ [.slice a0 x0.length c0, .int .i64 x1, .agg cs2] h (fun v h' => v = .bool true ∧ Keep [] h h') := by
  have e2 := h2
  obtain rfl : cs2 = (([.int .i64 x2.Kind, .int .i64 x2.Mode, .int .i64 x2.Links, .int .i64 x2.Size, .int .i64 x2.Time, .int .i64 x2.Attr] : List Value) ++ lumpV .u8 32 x2.Pages.toList).toArray := by rw [← e2]
  unfold Tx.carlinglaw21_InodePages_S
  dsimp only [List.cons_append, List.nil_append, List.toList_toArray, tI, tA, tN, tS, tB, tT, tP, tM, tV, tG, cnd, sameKind]
  first | refine tL_in0 ?_ | refine tL_in ?_
  try dsimp only [List.cons_append, List.nil_append, tI, tA, tN, tS, tB, tT, tP, tM, tV, tG, cnd, sameKind]
  have I : Inv h (roS (rI .u8) a0 x0.length c0 x0 :: hpA (obA ρ) st0 :: [leA h []]) := inv_law (A := [roS (rI .u8) a0 x0.length c0 x0, hpA (obA ρ) st0]) (by
    intro a ha
    simp only [List.mem_cons, List.not_mem_nil, or_false] at ha
    rcases ha with rfl | rfl
    · exact ro0 h0
    · exact hp0)
  refine carlinglaw21_InodePages_r I HP fun r h' σ I H => ?_
  exact ⟨by rw [show r = true from H], inv_end (I.drop1)⟩

end Go.Pt
