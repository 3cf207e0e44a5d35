/-
  This file proves that 'carlinglaw.LruHolds' returns true, whatever it is given, and leaves what it is given as it was; no condition.
-/
import Derived.Test.YtkbmoanoaakcpaaRows
import Derived.WalkKit
import Derived.ProofKit
import Derived.OpenShut
import Derived.ShutString
import Derived.ChangeOld
import Derived.Below
import Derived.Test.YtkbmoanoaakcpaaHoLruHoldsOk
import Derived.Test.YtkbmoanoaakcpaaHoPo
import Derived.Test.YtkbmoanoaakcpaaHoLk
set_option linter.unusedSimpArgs false
namespace Go.Proofs.Ytkbmoanoaakcpaa.lruHolds
open Go.ChangeShapes Go.WideShapes Go.ChangeAt Go.RowKit
open Go.ChangeMaps (open_string shut_string)
set_option linter.unusedVariables false

theorem own : ownKnob Try.prog.godebug = none := by kernel_rfl
theorem laidOut : laidOutB Try.prog = true := by kernel_rfl

set_option maxRecDepth 100000 in
theorem lifted (os : Os) (started : os.Started) (H : Type) (enc : TypeId × Value → H) :
    ReturnsInHanded {} Try.checked os 4 .any (Rows.lruHoldsSpec.pre6 enc Try.prog Try.f4 Rows.lruHoldsRow.domain false) (Rows.lruHoldsSpec.post enc Try.prog Try.f4 false true false false) := by
  refine returnsInHanded_of_change (C := Try.checked) own started (by kernel_rfl) Try.func4
    (ChangeSpec.witness6 (enc := enc) (C := Try.checked) false ⟨#[], #[.int .u8 0, .slice none 0 0], []⟩ 8 (by kernel_rfl) (by kernel_rfl) (by kernel_rfl) (by kernel_rfl)) ?_
  intro W base args ds gs before hval0 hW hcnd _
  have hval : ∀ (j : Nat) t v, Try.f4.params[j]? = some t → args[j]? = some v → Value.okWide Try.prog W .any base t v := hval0
  have hW' := hW
  obtain ⟨p, q, hA0, hV, rfl, hfz, hnd⟩ := hW
  have hA : DataW.TrodAll enc Try.prog W 0 (fun _ => true) true Try.f4.params.toList args.toList ds p := hA0
  rw [Try.params4] at hA hval
  obtain ⟨v0, vs0, d0, ds0, p0, q0, hargs, rfl, rfl, h0, r0⟩ := trodAll_cons hA
  obtain ⟨v1, vs1, d1, ds1, p1, q1, rfl, rfl, rfl, h1, r1⟩ := trodAll_cons r0
  obtain ⟨rfl, rfl, rfl⟩ := trodAll_nil r1
  obtain rfl : args = #[v0, v1] := by cases args; simp_all
  obtain ⟨rfl, rfl⟩ := trodVars_none hV
  obtain ⟨a0, rfl, rfl, rfl, w0⟩ := open_int (k := .u8) (by kernel_rfl) (hval 0 5 v0 rfl rfl) h0
  have k1 := h1
  have lt1 : ∀ x ∈ p1, x.block < W.heap.size := by obtain ⟨m, hm⟩ := k1; exact DataW.trod_lt m _ _ _ hm
  obtain ⟨a1, len1, cap1, rfl⟩ := okWide_slice (e := 39) (by kernel_rfl) (hval 1 34 v1 rfl rfl)
  obtain ⟨f1, hf1⟩ := h1
  obtain ⟨x1, ⟨a1', c1', e1, s1⟩, n1⟩ := (Laws.opens_slice (e := 39) (by kernel_rfl) (by kernel_rfl) (Pt.opens_carlinglaw15_Step (P := Try.prog) (t := 39) (t0 := 5) (t1 := 3) (t2 := 22) (by kernel_rfl) (by kernel_rfl) (Laws.opens_int (k := .u8) (by kernel_rfl) (by kernel_rfl)) (Laws.opens_int (k := .i64) (by kernel_rfl) (by kernel_rfl)) (Laws.opens_slice (e := 5) (by kernel_rfl) (by kernel_rfl) (Laws.opens_int (k := .u8) (by kernel_rfl) (by kernel_rfl)) (by decide))) (by decide)).2 hf1
  have e1 : [Value.slice a1 len1 cap1] = [.slice a1' x1.length c1'] := e1
  simp only [List.cons.injEq, Value.slice.injEq, and_true] at e1
  obtain ⟨rfl, rfl, rfl⟩ := e1
  clear hA0 hval0
  have hlaw : Tx.carlinglaw15_LruHolds_S Lk.ρ [.int .u8 a0, .slice a1 x1.length cap1] W.heap (fun v h' => v = .bool true ∧ Wc.Keep [] W.heap h') := Pt.carlinglaw15_LruHolds_law s1 (Pt.carlinglaw15_LruHolds_ok a0 w0 x1 n1)
  have walk : Calls Try.prog 4 #[.int .u8 a0, .slice a1 x1.length cap1] W fun e w' => e = .returned (.bool true) ∧ Below W.heap.size W w' := by
    refine (Lk.ok4.2 [.int .u8 a0, .slice a1 x1.length cap1] (fun v h' => v = .bool true ∧ Wc.Keep [] W.heap h') W hlaw).mono ?_
    rintro e w' ⟨v, rfl, hs, rfl, hk⟩
    exact ⟨rfl, ⟨hs.1, hs.2.2, hs.2.1, hk.1, fun k hk2 => hk.2 k hk2 (by simp)⟩⟩
  refine walk.mono fun e W' ⟨he, bel⟩ => ?_
  subst he
  exact ⟨_, rfl, _, _, _, [], _, [], hW', trodAll_mk1 (shut_bool (by kernel_rfl) _), (trodAll_cons_mk (shut_int (by kernel_rfl) w0) (trodAll_cons_mk (Below.trod laidOut (by kernel_rfl) (of_decide_eq_true (by kernel_rfl)) k1 bel lt1) trodAll_mk0)), rfl, bel.frame _, fun h => by cases h⟩

theorem over : Rows.lruHoldsRow.holds Try.pinned (OpenSpec.ofChange Rows.lruHoldsSpec) :=
  OpenClaim.holds_of_wide 4 Try.f4 rfl rfl rfl rfl rfl rfl rfl ⟨rfl, rfl, rfl, rfl, rfl⟩ rfl rfl rfl rfl rfl (by kernel_rfl) Try.func4 (by kernel_rfl)
    (of_decide_eq_true (by kernel_rfl)) (by unfold Func.isWrapper; first | (rw [if_pos (by decide +kernel)]; kernel_rfl) | (rw [if_neg (by decide +kernel)]; exact ⟨rfl, rfl⟩))
    (fun os started H enc _ => lifted os started H enc)

/-- The statement. -/
theorem proved : Rows.LruHoldsSaid := over
#print axioms proved
end Go.Proofs.Ytkbmoanoaakcpaa.lruHolds
