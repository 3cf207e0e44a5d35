/-
  This file proves that 'carlinglaw.LruNobody' returns true, whatever it is given, and leaves what it is given as it was; no condition.
-/
import Derived.Test.YtkbmoanoaakcpaaRows
import Derived.WalkKit
import Derived.ProofKit
import Derived.OpenShut
import Derived.ShutString
import Derived.ChangeOld
import Derived.Below
import Derived.Test.YtkbmoanoaakcpaaNbLruNobodyOk
import Derived.Test.YtkbmoanoaakcpaaNbPo
import Derived.Test.YtkbmoanoaakcpaaNbLk
set_option linter.unusedSimpArgs false
namespace Go.Proofs.Ytkbmoanoaakcpaa.lruNobody
open Go.ChangeShapes Go.WideShapes Go.ChangeAt Go.RowKit
open Go.ChangeMaps (open_string shut_string)
set_option linter.unusedVariables false

theorem own : ownKnob Try.prog.godebug = none := by kernel_rfl
theorem laidOut : laidOutB Try.prog = true := by kernel_rfl

set_option maxRecDepth 100000 in
theorem lifted (os : Os) (started : os.Started) (H : Type) (enc : TypeId × Value → H) :
    ReturnsInHanded {} Try.checked os 6 .any (Rows.lruNobodySpec.pre6 enc Try.prog Try.f6 Rows.lruNobodyRow.domain false) (Rows.lruNobodySpec.post enc Try.prog Try.f6 false true false false) := by
  refine returnsInHanded_of_change (C := Try.checked) own started (by kernel_rfl) Try.func6
    (ChangeSpec.witness6 (enc := enc) (C := Try.checked) false ⟨#[], #[.agg #[.int .u8 0, .int .i64 0, .slice none 0 0]], []⟩ 8 (by kernel_rfl) (by kernel_rfl) (by kernel_rfl) (by kernel_rfl)) ?_
  intro W base args ds gs before hval0 hW hcnd _
  have hval : ∀ (j : Nat) t v, Try.f6.params[j]? = some t → args[j]? = some v → Value.okWide Try.prog W .any base t v := hval0
  have hW' := hW
  obtain ⟨p, q, hA0, hV, rfl, hfz, hnd⟩ := hW
  have hA : DataW.TrodAll enc Try.prog W 0 (fun _ => true) true Try.f6.params.toList args.toList ds p := hA0
  rw [Try.params6] at hA hval
  obtain ⟨v0, vs0, d0, ds0, p0, q0, hargs, rfl, rfl, h0, r0⟩ := trodAll_cons hA
  obtain ⟨rfl, rfl, rfl⟩ := trodAll_nil r0
  obtain rfl : args = #[v0] := by cases args; simp_all
  obtain ⟨rfl, rfl⟩ := trodVars_none hV
  have k0 := h0
  have lt0 : ∀ x ∈ p0, x.block < W.heap.size := by obtain ⟨m, hm⟩ := k0; exact DataW.trod_lt m _ _ _ hm
  obtain ⟨cs0, rfl⟩ := Laws.opens_agg (by rw [show Laws.fieldsOf Try.prog 39 = [(5, 0), (3, 1), (22, 2)] by kernel_rfl]; simp) (hval 0 39 v0 rfl rfl)
  obtain ⟨f0, hf0⟩ := h0
  obtain ⟨x0, s0, n0⟩ := (Pt.opens_carlinglaw15_Step (P := Try.prog) (t := 39) (t0 := 5) (t1 := 3) (t2 := 22) (by kernel_rfl) (by kernel_rfl) (Laws.opens_int (k := .u8) (by kernel_rfl) (by kernel_rfl)) (Laws.opens_int (k := .i64) (by kernel_rfl) (by kernel_rfl)) (Laws.opens_slice (e := 5) (by kernel_rfl) (by kernel_rfl) (Laws.opens_int (k := .u8) (by kernel_rfl) (by kernel_rfl)) (by decide))).2 hf0
  clear hA0 hval0
  have hlaw : Tx.carlinglaw15_LruNobody_S Lk.ρ [.agg cs0] W.heap (fun v h' => v = .bool true ∧ Wc.Keep [] W.heap h') := Pt.carlinglaw15_LruNobody_law s0 (Pt.carlinglaw15_LruNobody_ok x0 n0)
  have walk : Calls Try.prog 6 #[.agg cs0] W fun e w' => e = .returned (.bool true) ∧ Below W.heap.size W w' := by
    refine (Lk.ok6.2 [.agg cs0] (fun v h' => v = .bool true ∧ Wc.Keep [] W.heap h') W hlaw).mono ?_
    rintro e w' ⟨v, rfl, hs, rfl, hk⟩
    exact ⟨rfl, ⟨hs.1, hs.2.2, hs.2.1, hk.1, fun k hk2 => hk.2 k hk2 (by simp)⟩⟩
  refine walk.mono fun e W' ⟨he, bel⟩ => ?_
  subst he
  exact ⟨_, rfl, _, _, _, [], _, [], hW', trodAll_mk1 (shut_bool (by kernel_rfl) _), (trodAll_cons_mk (Below.trod laidOut (by kernel_rfl) (of_decide_eq_true (by kernel_rfl)) k0 bel lt0) trodAll_mk0), rfl, bel.frame _, fun h => by cases h⟩

theorem over : Rows.lruNobodyRow.holds Try.pinned (OpenSpec.ofChange Rows.lruNobodySpec) :=
  OpenClaim.holds_of_wide 6 Try.f6 rfl rfl rfl rfl rfl rfl rfl ⟨rfl, rfl, rfl, rfl, rfl⟩ rfl rfl rfl rfl rfl (by kernel_rfl) Try.func6 (by kernel_rfl)
    (of_decide_eq_true (by kernel_rfl)) (by unfold Func.isWrapper; first | (rw [if_pos (by decide +kernel)]; kernel_rfl) | (rw [if_neg (by decide +kernel)]; exact ⟨rfl, rfl⟩))
    (fun os started H enc _ => lifted os started H enc)

/-- The statement. -/
theorem proved : Rows.LruNobodySaid := over
#print axioms proved
end Go.Proofs.Ytkbmoanoaakcpaa.lruNobody
