/-
  This file proves that 'carlinglaw.InodePages' returns true, whatever it is given, and leaves what it is given as it was; the package's variables that its library names are laid as the program's text lays them (the card ties them).
-/
import Derived.Test.YtabdhjmlfhhmpaaDoorRows
import Derived.Test.YtabdhjmlfhhmpaaDoorCards
import Derived.Test.YtabdhjmlfhhmpaaDoorTie
import Derived.WalkKit
import Derived.ProofKit
import Derived.OpenShut
import Derived.ShutString
import Derived.ChangeOld
import Derived.Below
import Derived.LaidMore
import Derived.Lay
import Derived.SevenTiedAt
import Derived.Stop.Joined
import Derived.Test.YtabdhjmlfhhmpaaDoorIpInodePagesOk
import Derived.Test.YtabdhjmlfhhmpaaDoorIpPo
import Derived.Test.YtabdhjmlfhhmpaaDoorIpLk
set_option linter.unusedSimpArgs false
namespace Go.Proofs.YtabdhjmlfhhmpaaDoor.inodePages
open Go.ChangeShapes Go.WideShapes Go.ChangeAt Go.RowKit
open Go.ChangeMaps (open_string shut_string)
set_option linter.unusedVariables false

theorem own : ownKnob Tryd.prog.godebug = none := by kernel_rfl
theorem laidOut : laidOutB Tryd.prog = true := by kernel_rfl

set_option maxRecDepth 100000 in
theorem lifted (os : Os) (started : os.Started) (H : Type) (enc : TypeId × Value → H) :
    ReturnsInHanded {} Tryd.checked os 5 .any (fun w args => (Rows.inodePagesSpec.pre enc Tryd.prog Tryd.f5 Rows.inodePagesRow.domain false w args ∧ laidMetH Tryd.prog Rows.inodePagesRow.laid w) ∧ sizedMet enc Tryd.prog Tryd.f5 (OpenSpec.ofChange Rows.inodePagesSpec) false w args)
      (Rows.inodePagesSpec.post enc Tryd.prog Tryd.f5 false true false false) := by
  refine returnsInHanded_of_change_and (C := Tryd.checked) (X := fun w _ => laidMetH Tryd.prog Rows.inodePagesRow.laid w) (fun _ _ _ hh h => h.of_heap hh) own started (by kernel_rfl) Tryd.func5
    (ChangeSpec.witness_shaped (enc := enc) (C := Tryd.checked) (os := os) (X := fun w _ => laidMetH Tryd.prog Rows.inodePagesRow.laid w) false (World.laidAll Tryd.prog os Rows.inodePagesRow.laid) #[.slice none 0 0, .int .i64 0, .agg #[.int .i64 0, .int .i64 0, .int .i64 0, .int .i64 0, .int .i64 0, .int .i64 0, .int .u8 0, .int .u8 0, .int .u8 0, .int .u8 0, .int .u8 0, .int .u8 0, .int .u8 0, .int .u8 0, .int .u8 0, .int .u8 0, .int .u8 0, .int .u8 0, .int .u8 0, .int .u8 0, .int .u8 0, .int .u8 0, .int .u8 0, .int .u8 0, .int .u8 0, .int .u8 0, .int .u8 0, .int .u8 0, .int .u8 0, .int .u8 0, .int .u8 0, .int .u8 0, .int .u8 0, .int .u8 0, .int .u8 0, .int .u8 0, .int .u8 0, .int .u8 0]] 8 (World.laidAll_os _ _ _)
      (World.shaped_of_ZipB (by kernel_rfl) (by kernel_rfl)) (by kernel_rfl) (by kernel_rfl) (by kernel_rfl)
      (by rw [MakeChecks.laidMetH_plain _ _ _ (by kernel_rfl)]; exact laidMet_laidAll _ (by kernel_rfl) (by kernel_rfl))) ?_
  intro W base args ds gs before hval0 hW hcnd _ hL _
  have hval : ∀ (j : Nat) t v, Tryd.f5.params[j]? = some t → args[j]? = some v → Value.okWide Tryd.prog W .any base t v := hval0
  have hW' := hW
  obtain ⟨p, q, hA0, hV, rfl, hfz, hnd⟩ := hW
  have hA : DataW.TrodAll enc Tryd.prog W 0 (fun _ => true) true Tryd.f5.params.toList args.toList ds p := hA0
  rw [Tryd.params5] at hA hval
  obtain ⟨v0, vs0, d0, ds0, p0, q0, hargs, rfl, rfl, h0, r0⟩ := trodAll_cons hA
  obtain ⟨v1, vs1, d1, ds1, p1, q1, rfl, rfl, rfl, h1, r1⟩ := trodAll_cons r0
  obtain ⟨v2, vs2, d2, ds2, p2, q2, rfl, rfl, rfl, h2, r2⟩ := trodAll_cons r1
  obtain ⟨rfl, rfl, rfl⟩ := trodAll_nil r2
  obtain rfl : args = #[v0, v1, v2] := by cases args; simp_all
  obtain ⟨rfl, rfl⟩ := trodVars_none hV
  have k0 := h0
  have lt0 : ∀ x ∈ p0, x.block < W.heap.size := by obtain ⟨m, hm⟩ := k0; exact DataW.trod_lt m _ _ _ hm
  obtain ⟨a0, len0, cap0, rfl⟩ := okWide_slice (e := 5) (by kernel_rfl) (hval 0 22 v0 rfl rfl)
  obtain ⟨f0, hf0⟩ := h0
  obtain ⟨x0, ⟨a0', c0', e0, s0⟩, n0⟩ := (Laws.opens_slice (e := 5) (by kernel_rfl) (by kernel_rfl) (Laws.opens_int (k := .u8) (by kernel_rfl) (by kernel_rfl)) (by decide)).2 hf0
  have e0 : [Value.slice a0 len0 cap0] = [.slice a0' x0.length c0'] := e0
  simp only [List.cons.injEq, Value.slice.injEq, and_true] at e0
  obtain ⟨rfl, rfl, rfl⟩ := e0
  obtain ⟨a1, rfl, rfl, rfl, w1⟩ := open_int (k := .i64) (by kernel_rfl) (hval 1 3 v1 rfl rfl) h1
  have k2 := h2
  have lt2 : ∀ x ∈ p2, x.block < W.heap.size := by obtain ⟨m, hm⟩ := k2; exact DataW.trod_lt m _ _ _ hm
  obtain ⟨cs2, rfl⟩ := Laws.opens_agg (by rw [show Laws.fieldsOf Tryd.prog 29 = [(3, 0), (3, 1), (3, 2), (3, 3), (2, 4), (3, 5), (23, 6)] by kernel_rfl]; simp) (hval 2 29 v2 rfl rfl)
  obtain ⟨f2, hf2⟩ := h2
  obtain ⟨x2, s2, n2⟩ := (Pt.opens_carlingref21_Inode (P := Tryd.prog) (t := 29) (t0 := 3) (t1 := 3) (t2 := 3) (t3 := 3) (t4 := 2) (t5 := 3) (t6 := 23) (by kernel_rfl) (by kernel_rfl) (Laws.opens_int (k := .i64) (by kernel_rfl) (by kernel_rfl)) (Laws.opens_int (k := .i64) (by kernel_rfl) (by kernel_rfl)) (Laws.opens_int (k := .i64) (by kernel_rfl) (by kernel_rfl)) (Laws.opens_int (k := .i64) (by kernel_rfl) (by kernel_rfl)) (Laws.opens_int (k := .i64) (by kernel_rfl) (by kernel_rfl)) (Laws.opens_int (k := .i64) (by kernel_rfl) (by kernel_rfl)) (Laws.opens_array (e := 5) (k := .u8) (by kernel_rfl) (by kernel_rfl) (by kernel_rfl) (by kernel_rfl))).2 hf2
  clear hA0 hval0
  have hlaw : Tx.carlinglaw21_InodePages_S Lk.ρ [.slice a0 x0.length cap0, .int .i64 a1, .agg cs2] W.heap (fun v h' => v = .bool true ∧ Wc.Keep [] W.heap h') := Pt.carlinglaw21_InodePages_law s0 s2 (Pt.carlinglaw21_InodePages_ok x0 n0 a1 w1 x2 n2)
  have walk : Calls Tryd.prog 5 #[.slice a0 x0.length cap0, .int .i64 a1, .agg cs2] W fun e w' => e = .returned (.bool true) ∧ Below W.heap.size W w' := by
    refine (Lk.ok5.2 [.slice a0 x0.length cap0, .int .i64 a1, .agg cs2] (fun v h' => v = .bool true ∧ Wc.Keep [] W.heap h') W hlaw).mono ?_
    rintro e w' ⟨v, rfl, hs, rfl, hk⟩
    exact ⟨rfl, ⟨hs.1, hs.2.2, hs.2.1, hk.1, fun k hk2 => hk.2 k hk2 (by simp)⟩⟩
  refine walk.mono fun e W' ⟨he, bel⟩ => ?_
  subst he
  exact ⟨_, rfl, _, _, _, [], _, [], hW', trodAll_mk1 (shut_bool (by kernel_rfl) _), (trodAll_cons_mk (Below.trod laidOut (by kernel_rfl) (of_decide_eq_true (by kernel_rfl)) k0 bel lt0) (trodAll_cons_mk (shut_int (by kernel_rfl) w1) (trodAll_cons_mk (Below.trod laidOut (by kernel_rfl) (of_decide_eq_true (by kernel_rfl)) k2 bel lt2) trodAll_mk0))), rfl, bel.frame _, fun h => by cases h⟩

theorem over : Rows.inodePagesRow.holds Tryd.pinned (OpenSpec.ofChange Rows.inodePagesSpec) :=
  OpenClaim.holds_of_wide 5 Tryd.f5 rfl rfl rfl rfl rfl rfl rfl ⟨rfl, rfl, rfl, rfl, rfl⟩ rfl rfl rfl rfl rfl (by kernel_rfl) Tryd.func5 (by kernel_rfl)
    (of_decide_eq_true (by kernel_rfl)) (by unfold Func.isWrapper; first | (rw [if_pos (by decide +kernel)]; kernel_rfl) | (rw [if_neg (by decide +kernel)]; exact ⟨rfl, rfl⟩))
    (fun os started H enc _ => lifted os started H enc)

/-- The statement. -/
theorem proved : Rows.InodePagesCardSaid :=
  Claim7.holds_tied_plain_at .later [] [.data, .pinned] true (true, "0e5ec0de433119fb403251081d7ce38da5897db51d0b430d34296803340ab26d") false over (fun _ h => by cases h) (by kernel_rfl) (fun _ h => by cases h) inodePages_row_tie rfl ⟨rfl, rfl⟩ (by kernel_rfl) rfl
    (fun f fn hf hfn => by
      obtain rfl : f = 5 := Option.some.inj ((show Tryd.prog.funcNamed "carling/carlinglaw21.InodePages" = some 5 by kernel_rfl).symm.trans hf) |>.symm
      obtain rfl : fn = Tryd.f5 := (Option.some.inj (Tryd.func5.symm.trans hfn)).symm
      exact ⟨by kernel_rfl, fun j t ht => by
        rw [Tryd.params5] at ht
        have hm : t ∈ [22, 3, 29] := by simpa using Array.mem_of_getElem? ht
        have hall : ([22, 3, 29].all fun u => !Tryd.prog.wantsStandIn u) = true := by kernel_rfl
        exact (show Tryd.prog.wantsStandIn t = false by simpa using List.all_eq_true.1 hall t hm)⟩)
    (by kernel_rfl)
#print axioms proved
end Go.Proofs.YtabdhjmlfhhmpaaDoor.inodePages
