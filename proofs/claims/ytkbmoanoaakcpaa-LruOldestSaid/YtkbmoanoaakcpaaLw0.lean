import Derived.Test.YtkbmoanoaakcpaaSp7
import GoSem.Claim
import GoSem.ClaimJoined
namespace Go.Laws
open Go Go.Wc Go.Tx

theorem spot_of {h : Hp} {a : Addr} {v : Value} (H : hcell h a = some v) : a.spot = none := by
  unfold hcell at H
  split at H
  · cases hs : a.spot with
    | none => rfl
    | some y => rw [hs] at H; exact absurd H (by simp)
  · cases H
theorem add_zero (x : Addr) : x.add 0 = x := by unfold Addr.add; rw [if_pos rfl]
/-- A row of integers that came in, as a slice that is read. -/
theorem slv_row {k : IntKind} {w : World} {x : Addr} {len cap : Nat} {zs : List Int} (hl : len ≤ cap) (hz : zs.length = cap) (hc : ∀ i, i < zs.length → w.cell? (x.add i) = some (.int k (zs.getD i 0))) :
    SlV w.heap ⟨some x, len, cap⟩ 1 ((zs.take len).map (Value.int k)) := by
  have hc2 : ∀ i, i < zs.length → hcell w.heap (x.add i) = some (.int k (zs.getD i 0)) := hc
  refine ⟨by simp; omega, fun hne => ?_, fun i hi => ?_⟩
  · have hp : 0 < zs.length := by
      cases zs with
      | nil => simp at hne
      | cons a b => simp
    have := hc2 0 hp
    rw [add_zero] at this
    exact spot_of this
  · simp only [List.length_map, List.length_take] at hi
    have hi2 : i < zs.length := by omega
    have h0 := hc2 0 (by omega)
    rw [add_zero] at h0
    have hs := spot_of h0
    obtain ⟨b, o, sp⟩ := x
    simp only at hs; subst hs
    have := hc2 i hi2
    rw [add_mk] at this
    rw [this]
    simp [hi2]

theorem u8_rng {n : Int} (h : (Lit.int .u8 n).wf = true) : 0 ≤ n ∧ n < 256 := by
  have e1 : IntKind.min .u8 = 0 := by decide
  have e2 : IntKind.max .u8 = 255 := by decide
  simp only [Lit.wf, e1, e2, Bool.and_eq_true, decide_eq_true_eq] at h
  omega

theorem carlinglaw15_LruOldest_law {ρ : Ids} {h : Hp} {a0 : Int} {a1 : Option Addr} {len1 cap1 : Nat} {z1 : List Int} (w0 : (Lit.int .u8 a0).wf = true) (s1 : SlV h ⟨a1, len1, cap1⟩ 1 ((z1.take len1).map (Value.int .u8)))
    (c1 : len1 ≤ cap1) (f1 : cap1 ≤ maxLen ∧ ∀ n ∈ z1.take len1, (Lit.int .u8 n).wf = true) :
    carlinglaw15_LruOldest_S ρ [.int .u8 a0, .slice a1 len1 cap1] h (fun v h' => v = .bool true ∧ Keep [] h h') := by
  unfold carlinglaw15_LruOldest_S
  have r := u8_rng w0
  show carlinglaw15_LruOldest ρ a0 ⟨a1, len1, cap1⟩ h _
  exact (LruOldest_spec r.1 r.2 s1 c1 (fun x hx => u8_rng (f1.2 x hx)) fun h' k => ⟨rfl, k⟩)

end Go.Laws
