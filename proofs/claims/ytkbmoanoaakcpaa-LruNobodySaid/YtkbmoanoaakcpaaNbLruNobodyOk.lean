import Derived.Test.YtkbmoanoaakcpaaNbPo
import Derived.Test.YtkbmoanoaakcpaaNbLruSpec2
set_option linter.unusedSimpArgs false
set_option linter.unusedVariables false
namespace Go.Pt
open Go Go.Wc Go.Pu Go.Laws

/-- A cache that nobody made. -/
def Bad (c : Option Addr) (σ : St Obj) : Prop := c = none ∨ ∃ p x, c = some p ∧ σ p = some (.lru_Cache x) ∧ x.pages = none

variable {c : Option Addr} {σ : St Obj}
theorem bad_ok {Q : Bool → St Obj → Prop} (hb : Bad c σ) (H : Q false σ) : lru_Cache_ok c σ Q := by
  rcases hb with rfl | ⟨p, x, rfl, hx, hn⟩
  · unfold lru_Cache_ok
    rw [Option.isNone_none, Bool.not_true, br_false]; exact H
  · refine lru_ok_spec hx ?_
    rw [hn]; exact H
theorem bad_has {Q : Bool → St Obj → Prop} {k : Int} (hb : Bad c σ) (H : Q false σ) : lru_Cache_Has c k σ Q := by
  unfold lru_Cache_Has
  refine bad_ok hb ?_
  rw [Bool.not_false, br_true]; exact H
theorem bad_put {Q : Int → Int → St Obj → Prop} {k : Int} {page : List Int} (hb : Bad c σ) (H : Q (-1) 2 σ) : lru_Cache_Put c k page σ Q := by
  unfold lru_Cache_Put
  refine bad_ok hb ?_
  rw [Bool.not_false, br_true]; exact H
theorem bad_get {Q : List Int → Bool → St Obj → Prop} {k : Int} (hb : Bad c σ) (H : Q [] false σ) : lru_Cache_Get c k σ Q := by
  unfold lru_Cache_Get
  refine bad_has hb ?_
  rw [Bool.not_false, br_true]; exact H
theorem bad_unpin {Q : Int → Bool → St Obj → Prop} {k : Int} (hb : Bad c σ) (H : Q (-1) false σ) : lru_Cache_Unpin c k σ Q := by
  unfold lru_Cache_Unpin lru_Cache_Unpin_K1
  refine bad_has hb ?_
  rw [Bool.not_false, br_true, br_true]; exact H
theorem bad_pin {Q : Int → St Obj → Prop} {k : Int} {page : List Int} (hb : Bad c σ) (H : Q 2 σ) : lru_Cache_Pin c k page σ Q := by
  unfold lru_Cache_Pin
  refine bad_ok hb ?_
  rw [Bool.not_false, br_true]; exact H
theorem bad_drop {Q : Bool → St Obj → Prop} {k : Int} (hb : Bad c σ) (H : Q false σ) : lru_Cache_Drop c k σ Q := by
  unfold lru_Cache_Drop
  refine bad_has hb ?_
  rw [Bool.not_false, br_true]; exact H
theorem bad_order {Q : List Int → St Obj → Prop} (hb : Bad c σ) (H : Q [] σ) : lru_Cache_Order c σ Q := by
  unfold lru_Cache_Order
  refine bad_ok hb ?_
  rw [Bool.not_false, br_true]; exact H
theorem bad_len {Q : Int → St Obj → Prop} (hb : Bad c σ) (H : Q 0 σ) : lru_Cache_Len c σ Q := by
  unfold lru_Cache_Len
  exact bad_order hb H
theorem bad_room {Q : Int → St Obj → Prop} (hb : Bad c σ) (H : Q 0 σ) : lru_Cache_Room c σ Q := by
  unfold lru_Cache_Room
  refine bad_ok hb ?_
  rw [Bool.not_false, br_true]; exact H
theorem bad_pinned {Q : List Int → St Obj → Prop} (hb : Bad c σ) (H : Q [] σ) : lru_Cache_Pinned c σ Q := by
  unfold lru_Cache_Pinned
  exact bad_order hb ⟨by decide, show delP _ [] [] _ _ from ⟨by decide, by simpa using H⟩⟩

theorem nobody_round {S : Int → Int → List Int → List (Option Addr) → Int → Int → St Obj → Prop} {Q : Bool → St Obj → Prop} {a b n i : Int} {l : List Int} {cs : List (Option Addr)} (hi : 0 ≤ i ∧ i < n) (hn : n ≤ 2) (hc : cs[i.toNat]? = some c) (hb : Bad c σ)
    (H : S a b l cs n (i + 1) σ) : carlinglaw15_LruNobody_B1 S Q a b l cs n i σ := by
  unfold carlinglaw15_LruNobody_B1 carlinglaw15_LruNobody_K2
  rw [decide_eq_true hi.2, br_true]
  refine ⟨hi.1, c, hc, ?_⟩
  refine bad_put hb (bad_get hb (bad_unpin hb ?_))
  simp only [bne_self_eq_false, br_false, List.length_nil, Int.natCast_zero]
  refine bad_pin hb ?_
  rw [bne_self_eq_false, br_false]
  refine bad_has hb ?_
  rw [br_false]
  refine bad_drop hb ?_
  rw [br_false]
  refine bad_pinned hb (bad_order hb (bad_len hb (bad_room hb ?_)))
  rw [show (IntKind.wrap .i64 (IntKind.wrap .i64 (IntKind.wrap .i64 ((([] : List Int).length : Int) + (([] : List Int).length : Int)) + 0) + 0) != (0 : Int)) = false by decide, br_false, wrap64 (by omega) (by omega)]
  exact H

theorem carlinglaw15_LruNobody_ok (x0 : carlinglaw15_Step) (n0 : N_carlinglaw15_Step x0) : carlinglaw15_LruNobody x0 st0 fun b _ => b = true := by
  intro p hp
  have h1 : Bad none (sset st0 p (.lru_Cache ⟨0, none, []⟩) : St Obj) := .inl rfl
  have h2 : Bad (some p) (sset st0 p (.lru_Cache ⟨0, none, []⟩) : St Obj) := .inr ⟨p, _, rfl, sset_same _ _ _, rfl⟩
  refine carlinglaw15_LruNobody_L1_in _ _ _ _ _ _ _ _ (nobody_round (by omega) (by omega) rfl h1 ?_)
  refine carlinglaw15_LruNobody_L1_in _ _ _ _ _ _ _ _ (nobody_round (by omega) (by omega) rfl h2 ?_)
  refine carlinglaw15_LruNobody_L1_in _ _ _ _ _ _ _ _ ?_
  unfold carlinglaw15_LruNobody_B1
  rw [decide_eq_false (by omega), br_false]
  refine lru_new_spec (by omega) fun q hq => ?_
  rw [Option.isNone_some, br_false, bne_self_eq_false]
  unfold carlinglaw15_LruNobody_K3
  rw [br_false]
  have o0 := new_ok 2
  have o1 : CacheOk (putX ⟨2, some [], []⟩ 1 [7]).2 := (o0.add _ (by decide)).fit
  refine lru_put_spec (sset_same _ _ _) o0 (by decide) (by decide) ?_
  rw [if_pos (by decide), sset_sset]
  refine ⟨by decide, 7, rfl, ?_⟩
  refine lru_get_spec (sset_same _ _ _) o1 (by decide) ?_
  rw [if_pos (by decide), sset_sset]
  have e1 : (heldOf (putX ⟨2, some [], []⟩ 1 [7]).2 1).page = [7] := by decide
  rw [e1]
  show br false _ _
  rw [br_false]
  refine ⟨by decide, 7, rfl, ?_⟩
  unfold carlinglaw15_LruNobody_K4
  show br false _ _
  rw [br_false]
  refine ⟨by decide, 7, rfl, ?_⟩
  have o2 : CacheOk (touchX (putX ⟨2, some [], []⟩ 1 [7]).2 1) := o1.touch (by decide)
  refine lru_get_spec (sset_same _ _ _) o2 (by decide) ?_
  rw [if_pos (by decide), sset_sset]
  have e2 : (heldOf (touchX (putX ⟨2, some [], []⟩ 1 [7]).2 1) 1).page = [7] := by decide
  rw [e2]
  show br true (br true _ _) _
  rw [br_true, br_true]
  refine ⟨by decide, 7, rfl, ?_⟩
  show br true _ _
  rw [br_true]
  exact alive_spec fun _ => rfl

end Go.Pt
