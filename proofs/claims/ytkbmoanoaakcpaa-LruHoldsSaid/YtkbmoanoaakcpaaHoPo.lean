import Derived.Test.YtkbmoanoaakcpaaHoPt
import Derived.Test.YtkbmoanoaakcpaaHoLw1
set_option linter.unusedVariables false
set_option linter.unusedSimpArgs false
namespace Go.Pt
open Go Go.Wc Go.Pu Go.Laws

def N_carlinglaw15_Step (x : carlinglaw15_Step) : Prop := (fun n : Int => (Lit.int .u8 n).wf = true) x.Kind ∧ (fun n : Int => (Lit.int .i64 n).wf = true) x.Item ∧ (fun l : List Int => l.length ≤ maxLen ∧ ∀ x ∈ l, (fun n : Int => (Lit.int .u8 n).wf = true) x) x.Page
theorem opens_carlinglaw15_Step {P : Program} {t t0 t1 t2 : TypeId} (hf : fieldsOf P t = [(t0, 0), (t1, 1), (t2, 2)]) (hc : P.cellsOf t = 3) (o0 : Opens P t0 (rI .u8) (fun n : Int => (Lit.int .u8 n).wf = true)) (o1 : Opens P t1 (rI .i64) (fun n : Int => (Lit.int .i64 n).wf = true)) (o2 : Opens P t2 (rS (rI .u8)) (fun l : List Int => l.length ≤ maxLen ∧ ∀ x ∈ l, (fun n : Int => (Lit.int .u8 n).wf = true) x)) : Opens P t R_carlinglaw15_Step N_carlinglaw15_Step := by
  refine ⟨hc, fun {_ _ w _ _ _} hd => ?_⟩
  obtain ⟨hl, hfs⟩ := trod_fields hf (by simp) hd
  rw [hc] at hl
  obtain ⟨v0, r0, rfl, hl0⟩ := cells_succ hl
  obtain ⟨v1, r1, rfl, hl1⟩ := cells_succ hl0
  obtain ⟨v2, r2, rfl, hl2⟩ := cells_succ hl1
  obtain rfl := List.length_eq_zero_iff.1 hl2
  obtain ⟨_, _, d0⟩ := hfs (t0, 0) (by simp)
  obtain ⟨x0, p0, q0⟩ := o0.2 d0
  dsimp only at p0
  rw [o0.1] at p0
  have e0 := p0
  have e0 : [v0] = [.int .u8 x0] := e0
  simp only [List.cons.injEq, and_true] at e0
  subst e0
  obtain ⟨_, _, d1⟩ := hfs (t1, 1) (by simp)
  obtain ⟨x1, p1, q1⟩ := o1.2 d1
  dsimp only at p1
  rw [o1.1] at p1
  have e1 := p1
  have e1 : [v1] = [.int .i64 x1] := e1
  simp only [List.cons.injEq, and_true] at e1
  subst e1
  obtain ⟨_, _, d2⟩ := hfs (t2, 2) (by simp)
  obtain ⟨x2, p2, q2⟩ := o2.2 d2
  dsimp only at p2
  rw [o2.1] at p2
  obtain ⟨a2, c2, e2, s2⟩ := p2
  change [v2] = _ at e2
  simp only [List.cons.injEq, and_true] at e2
  subst e2
  exact ⟨⟨x0, x1, x2⟩, ⟨a2, c2, rfl, s2⟩, q0, q1, q2⟩

theorem carlinglaw15_LruHolds_law {ρ : Ids} {h : Hp} {x0 : Int} {x1 : List carlinglaw15_Step} {a1 : Option Addr} {c1 : Nat} (h1 : SlE R_carlinglaw15_Step h [] a1 c1 x1) (HP : carlinglaw15_LruHolds x0 x1 st0 (fun b _ => b = true)) :
    Tx.carlinglaw15_LruHolds_S ρ [.int .u8 x0, .slice a1 x1.length c1] h (fun v h' => v = .bool true ∧ Keep [] h h') := by
  unfold Tx.carlinglaw15_LruHolds_S
  dsimp only [List.cons_append, List.nil_append, tI, tA, tN, tS, tB, tT, tP, tM, tV, tL, tG, cnd, sameKind]
  have I : Inv h (roS R_carlinglaw15_Step a1 x1.length c1 x1 :: hpA (obA ρ) st0 :: [leA h []]) := inv_law (A := [roS R_carlinglaw15_Step a1 x1.length c1 x1, hpA (obA ρ) st0]) (by
    intro a ha
    simp only [List.mem_cons, List.not_mem_nil, or_false] at ha
    rcases ha with rfl | rfl
    · exact ro0 h1
    · exact hp0)
  refine carlinglaw15_LruHolds_r rd_ro I HP fun r h' σ I H => ?_
  exact ⟨by rw [show r = true from H], inv_end (I.drop1.drop1)⟩

theorem carlinglaw15_LruPlays_law {ρ : Ids} {h : Hp} {x0 : Int} {x1 : List carlinglaw15_Step} {a1 : Option Addr} {c1 : Nat} (h1 : SlE R_carlinglaw15_Step h [] a1 c1 x1) (HP : carlinglaw15_LruPlays x0 x1 st0 (fun b _ => b = true)) :
    Tx.carlinglaw15_LruPlays_S ρ [.int .i64 x0, .slice a1 x1.length c1] h (fun v h' => v = .bool true ∧ Keep [] h h') := by
  unfold Tx.carlinglaw15_LruPlays_S
  dsimp only [List.cons_append, List.nil_append, tI, tA, tN, tS, tB, tT, tP, tM, tV, tL, tG, cnd, sameKind]
  have I : Inv h (roS R_carlinglaw15_Step a1 x1.length c1 x1 :: hpA (obA ρ) st0 :: [leA h []]) := inv_law (A := [roS R_carlinglaw15_Step a1 x1.length c1 x1, hpA (obA ρ) st0]) (by
    intro a ha
    simp only [List.mem_cons, List.not_mem_nil, or_false] at ha
    rcases ha with rfl | rfl
    · exact ro0 h1
    · exact hp0)
  refine carlinglaw15_LruPlays_r rd_ro I HP fun r h' σ I H => ?_
  exact ⟨by rw [show r = true from H], inv_end (I.drop1.drop1)⟩

theorem carlinglaw15_LruNobody_law {ρ : Ids} {h : Hp} {x0 : carlinglaw15_Step} {cs0 : Array Value} (h0 : R_carlinglaw15_Step.P h [] cs0.toList x0) (HP : carlinglaw15_LruNobody x0 st0 (fun b _ => b = true)) :
    Tx.carlinglaw15_LruNobody_S ρ [.agg cs0] h (fun v h' => v = .bool true ∧ Keep [] h h') := by
  obtain ⟨a0a0, a0c0, e0, sa0a0⟩ := h0
  obtain rfl : cs0 = ([.int .u8 x0.Kind, .int .i64 x0.Item, .slice a0a0 x0.Page.length a0c0]).toArray := by rw [← e0]
  unfold Tx.carlinglaw15_LruNobody_S
  dsimp only [List.cons_append, List.nil_append, tI, tA, tN, tS, tB, tT, tP, tM, tV, tL, tG, cnd, sameKind]
  have I : Inv h (roS (rI .u8) a0a0 x0.Page.length a0c0 x0.Page :: hpA (obA ρ) st0 :: [leA h []]) := inv_law (A := [roS (rI .u8) a0a0 x0.Page.length a0c0 x0.Page, hpA (obA ρ) st0]) (by
    intro a ha
    simp only [List.mem_cons, List.not_mem_nil, or_false] at ha
    rcases ha with rfl | rfl
    · exact ro0 sa0a0
    · exact hp0)
  refine carlinglaw15_LruNobody_r I HP fun r h' σ I H => ?_
  exact ⟨by rw [show r = true from H], inv_end (I.drop1)⟩

end Go.Pt
