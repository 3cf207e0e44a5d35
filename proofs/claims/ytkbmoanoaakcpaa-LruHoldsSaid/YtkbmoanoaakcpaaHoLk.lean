import Derived.Test.YtkbmoanoaakcpaaHoTx
import Derived.Test.YtkbmoanoaakcpaaHoSh1
import Derived.Test.YtkbmoanoaakcpaaHoSort
import Derived.Test.YtkbmoanoaakcpaaProg
set_option linter.unusedSimpArgs false
set_option linter.unusedVariables false
namespace Go.Proofs.Ytkbmoanoaakcpaa.Lk
open Go Go.Wc Go.Proofs.Ytkbmoanoaakcpaa

def τ : Tys := [
(3, ⟨.int .i64, 1, 8, (.int .i64 (0 : Int)), [.int .i64], true⟩),
(4, ⟨.bool, 1, 1, (.bool false), [.bool], true⟩),
(5, ⟨.int .u8, 1, 1, (.int .u8 (0 : Int)), [.int .u8], true⟩),
(22, ⟨.slice 5, 1, 24, (.slice none 0 0), [.sl], true⟩),
(23, ⟨.ptr 60, 1, 8, (.pointer none), [.ptr], true⟩),
(27, ⟨.slice 3, 1, 24, (.slice none 0 0), [.sl], true⟩),
(34, ⟨.slice 39, 1, 24, (.slice none 0 0), [.sl], true⟩),
(35, ⟨.map 3 22, 1, 8, (.map none), [.map], true⟩),
(36, ⟨.map 3 4, 1, 8, (.map none), [.map], true⟩),
(39, ⟨.struct [(5, 0), (3, 1), (22, 2)], 3, 40, (.agg [(.int .u8 (0 : Int)), (.int .i64 (0 : Int)), (.slice none 0 0)].toArray), [.int .u8, .int .i64, .sl], true⟩),
(48, ⟨.slice 56, 1, 24, (.slice none 0 0), [.sl], true⟩),
(50, ⟨.struct [(3, 0), (48, 1)], 2, 32, (.agg [(.int .i64 (0 : Int)), (.slice none 0 0)].toArray), [.int .i64, .sl], true⟩),
(56, ⟨.struct [(3, 0), (22, 1), (4, 2)], 3, 40, (.agg [(.int .i64 (0 : Int)), (.slice none 0 0), (.bool false)].toArray), [.int .i64, .sl, .bool], true⟩),
(58, ⟨.map 3 65, 1, 8, (.map none), [.map], true⟩),
(60, ⟨.struct [(3, 0), (58, 1), (27, 2)], 3, 40, (.agg [(.int .i64 (0 : Int)), (.map none), (.slice none 0 0)].toArray), [.int .i64, .map, .sl], true⟩),
(61, ⟨.slice 23, 1, 24, (.slice none 0 0), [.sl], true⟩),
(65, ⟨.struct [(22, 0), (4, 1)], 2, 32, (.agg [(.slice none 0 0), (.bool false)].toArray), [.sl, .bool], true⟩)]
theorem agree : Agree Try.prog τ := agree_of _ _ (by kernel_rfl) (by kernel_rfl)
theorem mixed : Try.prog.follows .mixedOrders = true := by kernel_rfl
def ρ : Ids := ids [(0, 3), (1, 5), (2, 60), (3, 23), (4, 65), (5, 39), (6, 50), (7, 56)] [(0, 32), (1, 33), (2, 7), (3, 11), (4, 10), (5, 8), (6, 9), (7, 27), (8, 28), (9, 29), (10, 30), (11, 31), (12, 43), (13, 44), (14, 17), (15, 24), (16, 41), (17, 42), (18, 15), (19, 13), (20, 16), (21, 18), (22, 25), (23, 35), (24, 34), (25, 36), (26, 12), (27, 19), (28, 14), (29, 20), (30, 21), (31, 22), (32, 23), (33, 26), (34, 37), (35, 40), (36, 38), (37, 39)]

noncomputable def c7 : Code := Try.f7.body.getD .skip
def A7 : Ann := (.seq .leaf (.seq (.join 1 [0, 9] .leaf (.cond (.seq .leaf .leaf) .leaf)) (.seq .leaf .leaf)))
def src7 (K : Value → Hp → Prop) : Src
  | 1, [], vals, h => (tI .i64 fun room0 => tB fun v9 => tN (Tx.lru_New_K1 ρ  (fun r0 r1 h => K (.tuple [(.pointer r0), (.int .i64 r1)].toArray) h) room0 v9 h)) vals
  | _, _, _, _ => False
theorem ok7 : SpecOk Try.prog 7 (Tx.lru_New_S ρ) := by
  refine spec_ok (c := c7) agree specsOk_nil specsOk_nil mixed Try.func7 (by kernel_rfl) (by kernel_rfl) A7 (by kernel_rfl) (src7) ?_ ?_
  · intro args h K H
    unfold Tx.lru_New_S at H
    obtain ⟨room0, rr, rfl, H1⟩ := tI_elim H
    obtain ⟨rfl, H2⟩ := tN_elim H1
    exact ⟨ble_le (by kernel_rfl), cast (by kernel_rfl) H2⟩
  · intro K k inner vals h hk hin H
    rw [show pts A7 = [1] from by kernel_rfl] at hk
    simp only [List.mem_cons, List.not_mem_nil, or_false] at hk
    rcases hk with rfl
    · rw [show depth 1 A7 = 0 from by kernel_rfl] at hin
      obtain rfl := len0 hin
      have H : src7 K 1 [] vals h := H
      simp only [src7] at H
      obtain ⟨room0, rr, rfl, H1⟩ := tI_elim H
      obtain ⟨v9, rr, rfl, H2⟩ := tB_elim H1
      obtain ⟨rfl, H3⟩ := tN_elim H2
      exact cast (by kernel_rfl) H3


noncomputable def c27 : Code := Try.f27.body.getD .skip
def A27 : Ann := (.seq .leaf (.seq .leaf .leaf))
def src27 (_ : Value → Hp → Prop) : Src := fun _ _ _ _ => False
theorem ok27 : SpecOk Try.prog 27 (Tx.lru_Cache_ok_S ρ) := by
  refine spec_ok (c := c27) agree specsOk_nil specsOk_nil mixed Try.func27 (by kernel_rfl) (by kernel_rfl) A27 (by kernel_rfl) (src27) ?_ ?_
  · intro args h K H
    unfold Tx.lru_Cache_ok_S at H
    obtain ⟨c0, rr, rfl, H1⟩ := tP_elim H
    obtain ⟨rfl, H2⟩ := tN_elim H1
    exact ⟨ble_le (by kernel_rfl), cast (by kernel_rfl) H2⟩
  · intro K k inner vals h hk hin H
    exact H.elim


noncomputable def c28 : Code := Try.f28.body.getD .skip
def A28 : Ann := (.seq .leaf (.seq .leaf .leaf))
def src28 (_ : Value → Hp → Prop) : Src := fun _ _ _ _ => False
theorem ok28 : SpecOk Try.prog 28 (Tx.lru_isItem_S ρ) := by
  refine spec_ok (c := c28) agree specsOk_nil specsOk_nil mixed Try.func28 (by kernel_rfl) (by kernel_rfl) A28 (by kernel_rfl) (src28) ?_ ?_
  · intro args h K H
    unfold Tx.lru_isItem_S at H
    obtain ⟨n0, rr, rfl, H1⟩ := tI_elim H
    obtain ⟨rfl, H2⟩ := tN_elim H1
    exact ⟨ble_le (by kernel_rfl), cast (by kernel_rfl) H2⟩
  · intro K k inner vals h hk hin H
    exact H.elim


noncomputable def c29 : Code := Try.f29.body.getD .skip
def A29 : Ann := (.seq .leaf (.seq (.seq .leaf (.cond (.seq .leaf .leaf) .leaf)) (.seq .leaf .leaf)))
def src29 (_ : Value → Hp → Prop) : Src := fun _ _ _ _ => False
theorem ok29 : SpecOk Try.prog 29 (Tx.bytes_Clone_S ρ) := by
  refine spec_ok (c := c29) agree specsOk_nil specsOk_nil mixed Try.func29 (by kernel_rfl) (by kernel_rfl) A29 (by kernel_rfl) (src29) ?_ ?_
  · intro args h K H
    unfold Tx.bytes_Clone_S at H
    obtain ⟨b0, rr, rfl, H1⟩ := tS_elim H
    obtain ⟨rfl, H2⟩ := tN_elim H1
    exact ⟨ble_le (by kernel_rfl), cast (by kernel_rfl) H2⟩
  · intro K k inner vals h hk hin H
    exact H.elim


noncomputable def c32 : Code := Try.f32.body.getD .skip
def A32 : Ann := (.seq .leaf (.seq (.seq .leaf (.block (.loop 1 [0, 1, 7, 8] (.seq .leaf (.seq (.cond .leaf .leaf) (.seq (.block (.seq .leaf (.seq .leaf (.cond (.seq .leaf .leaf) .leaf)))) .leaf)))))) (.seq .leaf .leaf)))
def src32 (K : Value → Hp → Prop) : Src
  | 1, [T1], vals, h => (tS fun s0 => tI .i64 fun v1 => tI .i64 fun v7 => tI .i64 fun v8 => tN (Tx.slices_Index_int_int_B1 ρ (fun s0 v1 v7 v8 hh => T1 [(.slice s0.a s0.len s0.cap), (.int .i64 v1), (.int .i64 v7), (.int .i64 v8)] hh) (fun r0 h => K (.int .i64 r0) h) s0 v1 v7 v8 h)) vals
  | _, _, _, _ => False
theorem ok32 : SpecOk Try.prog 32 (Tx.slices_Index_int_int_S ρ) := by
  refine spec_ok (c := c32) agree specsOk_nil specsOk_nil mixed Try.func32 (by kernel_rfl) (by kernel_rfl) A32 (by kernel_rfl) (src32) ?_ ?_
  · intro args h K H
    unfold Tx.slices_Index_int_int_S at H
    obtain ⟨s0, rr, rfl, H1⟩ := tS_elim H
    obtain ⟨v1, rr, rfl, H2⟩ := tI_elim H1
    obtain ⟨rfl, H3⟩ := tN_elim H2
    exact ⟨ble_le (by kernel_rfl), cast (by kernel_rfl) H3⟩
  · intro K k inner vals h hk hin H
    rw [show pts A32 = [1] from by kernel_rfl] at hk
    simp only [List.mem_cons, List.not_mem_nil, or_false] at hk
    rcases hk with rfl
    · rw [show depth 1 A32 = 1 from by kernel_rfl] at hin
      obtain ⟨T1, rfl⟩ := len1 hin
      have H : src32 K 1 [T1] vals h := H
      simp only [src32] at H
      obtain ⟨s0, rr, rfl, H1⟩ := tS_elim H
      obtain ⟨v1, rr, rfl, H2⟩ := tI_elim H1
      obtain ⟨v7, rr, rfl, H3⟩ := tI_elim H2
      obtain ⟨v8, rr, rfl, H4⟩ := tI_elim H3
      obtain ⟨rfl, H5⟩ := tN_elim H4
      exact cast (by kernel_rfl) H5


noncomputable def c33 : Code := Try.f33.body.getD .skip
def A33 : Ann := (.seq .leaf (.seq .leaf (.seq (.seq .leaf (.cond (.seq .leaf .leaf) .leaf)) (.seq .leaf (.seq (.plan (.take 0 [6] (.take 1 [6] (.take 2 [6] (.take 3 [6] (.take 4 [6] (.take 5 [6] (.all (.alt 6 (.take 7 [] .done) .nil))))))))) (.seq .leaf (.seq .leaf .leaf)))))))
def src33 (_ : Value → Hp → Prop) : Src := fun _ _ _ _ => False
theorem ok33 : SpecOk Try.prog 33 (Tx.slices_Delete_int_int_S ρ) := by
  refine spec_ok (c := c33) agree specsOk_nil specsOk_nil mixed Try.func33 (by kernel_rfl) (by kernel_rfl) A33 (by kernel_rfl) (src33) ?_ ?_
  · intro args h K H
    unfold Tx.slices_Delete_int_int_S at H
    obtain ⟨s0, rr, rfl, H1⟩ := tS_elim H
    obtain ⟨i1, rr, rfl, H2⟩ := tI_elim H1
    obtain ⟨j2, rr, rfl, H3⟩ := tI_elim H2
    obtain ⟨rfl, H4⟩ := tN_elim H3
    exact ⟨ble_le (by kernel_rfl), cast (by kernel_rfl) H4⟩
  · intro K k inner vals h hk hin H
    exact H.elim


noncomputable def c30 : Code := Try.f30.body.getD .skip
def A30 : Ann := (.join 1 [0, 1] (.seq .leaf (.seq .leaf (.cond .leaf .leaf))) .leaf)
def src30 (K : Value → Hp → Prop) : Src
  | 1, [], vals, h => (tP fun c0 => tI .i64 fun item1 => tN (Tx.lru_Cache_touch_K1 ρ  (fun h => K (.tuple [].toArray) h) c0 item1 h)) vals
  | _, _, _, _ => False
theorem ok30 : SpecOk Try.prog 30 (Tx.lru_Cache_touch_S ρ) := by
  refine spec_ok (c := c30) agree (specsOk_cons ok33 (specsOk_cons ok32 specsOk_nil)) specsOk_nil mixed Try.func30 (by kernel_rfl) (by kernel_rfl) A30 (by kernel_rfl) (src30) ?_ ?_
  · intro args h K H
    unfold Tx.lru_Cache_touch_S at H
    obtain ⟨c0, rr, rfl, H1⟩ := tP_elim H
    obtain ⟨item1, rr, rfl, H2⟩ := tI_elim H1
    obtain ⟨rfl, H3⟩ := tN_elim H2
    exact ⟨ble_le (by kernel_rfl), cast (by kernel_rfl) H3⟩
  · intro K k inner vals h hk hin H
    rw [show pts A30 = [1] from by kernel_rfl] at hk
    simp only [List.mem_cons, List.not_mem_nil, or_false] at hk
    rcases hk with rfl
    · rw [show depth 1 A30 = 0 from by kernel_rfl] at hin
      obtain rfl := len0 hin
      have H : src30 K 1 [] vals h := H
      simp only [src30] at H
      obtain ⟨c0, rr, rfl, H1⟩ := tP_elim H
      obtain ⟨item1, rr, rfl, H2⟩ := tI_elim H1
      obtain ⟨rfl, H3⟩ := tN_elim H2
      exact cast (by kernel_rfl) H3


noncomputable def c10 : Code := Try.f10.body.getD .skip
def A10 : Ann := (.seq .leaf (.seq (.seq .leaf (.cond (.seq .leaf .leaf) .leaf)) (.seq .leaf (.seq .leaf .leaf))))
def src10 (_ : Value → Hp → Prop) : Src := fun _ _ _ _ => False
theorem ok10 : SpecOk Try.prog 10 (Tx.lru_Cache_Has_S ρ) := by
  refine spec_ok (c := c10) agree (specsOk_cons ok27 specsOk_nil) specsOk_nil mixed Try.func10 (by kernel_rfl) (by kernel_rfl) A10 (by kernel_rfl) (src10) ?_ ?_
  · intro args h K H
    unfold Tx.lru_Cache_Has_S at H
    obtain ⟨c0, rr, rfl, H1⟩ := tP_elim H
    obtain ⟨item1, rr, rfl, H2⟩ := tI_elim H1
    obtain ⟨rfl, H3⟩ := tN_elim H2
    exact ⟨ble_le (by kernel_rfl), cast (by kernel_rfl) H3⟩
  · intro K k inner vals h hk hin H
    exact H.elim


noncomputable def c17 : Code := Try.f17.body.getD .skip
def A17 : Ann := (.seq .leaf (.seq (.seq .leaf (.cond (.seq .leaf .leaf) .leaf)) (.seq .leaf (.seq .leaf (.seq .leaf (.seq .leaf .leaf))))))
def src17 (_ : Value → Hp → Prop) : Src := fun _ _ _ _ => False
theorem ok17 : SpecOk Try.prog 17 (Tx.lru_Cache_Drop_S ρ) := by
  refine spec_ok (c := c17) agree (specsOk_cons ok33 (specsOk_cons ok32 (specsOk_cons ok10 specsOk_nil))) specsOk_nil mixed Try.func17 (by kernel_rfl) (by kernel_rfl) A17 (by kernel_rfl) (src17) ?_ ?_
  · intro args h K H
    unfold Tx.lru_Cache_Drop_S at H
    obtain ⟨c0, rr, rfl, H1⟩ := tP_elim H
    obtain ⟨item1, rr, rfl, H2⟩ := tI_elim H1
    obtain ⟨rfl, H3⟩ := tN_elim H2
    exact ⟨ble_le (by kernel_rfl), cast (by kernel_rfl) H3⟩
  · intro K k inner vals h hk hin H
    exact H.elim


noncomputable def c43 : Code := Try.f43.body.getD .skip
def A43 : Ann := (.seq .leaf (.seq .leaf .leaf))
def src43 (_ : Value → Hp → Prop) : Src := fun _ _ _ _ => False
theorem ok43 : SpecOk Try.prog 43 (Tx.lru_Cache_fit_1_S ρ) := by
  refine spec_ok (c := c43) agree specsOk_nil specsOk_nil mixed Try.func43 (by kernel_rfl) (by kernel_rfl) A43 (by kernel_rfl) (src43) ?_ ?_
  · intro args h K H
    unfold Tx.lru_Cache_fit_1_S at H
    obtain ⟨item0, rr, rfl, H1⟩ := tI_elim H
    obtain ⟨v1, rr, rfl, H2⟩ := tA_elim H1
    obtain ⟨rfl, H3⟩ := tN_elim H2
    exact ⟨ble_le (by kernel_rfl), cast (by kernel_rfl) H3⟩
  · intro K k inner vals h hk hin H
    exact H.elim


noncomputable def c44 : Code := Try.f44.body.getD .skip
def A44 : Ann := (.seq .leaf (.seq (.seq .leaf (.block (.loop 1 [0, 1, 7, 8] (.seq .leaf (.seq (.cond .leaf .leaf) (.seq (.block (.seq .leaf (.seq .leaf (.cond (.seq .leaf .leaf) .leaf)))) .leaf)))))) (.seq .leaf .leaf)))
def src44 (cl : Specs) (K : Value → Hp → Prop) : Src
  | 1, [T1], vals, h => (tS fun s0 => tV fun f1 => tI .i64 fun v7 => tI .i64 fun v8 => tN (Tx.slices_IndexFunc_int_int_B1 ρ (phi cl) (fun s0 f1 v7 v8 hh => T1 [(.slice s0.a s0.len s0.cap), f1, (.int .i64 v7), (.int .i64 v8)] hh) (fun r0 h => K (.int .i64 r0) h) s0 f1 v7 v8 h)) vals
  | _, _, _, _ => False
theorem ok44 (cl : Specs) (hcl : SpecsOk Try.prog cl) : SpecOk Try.prog 44 (Tx.slices_IndexFunc_int_int_S ρ (phi cl)) := by
  refine spec_ok (c := c44) agree specsOk_nil hcl mixed Try.func44 (by kernel_rfl) (by kernel_rfl) A44 (by kernel_rfl) (src44 cl) ?_ ?_
  · intro args h K H
    unfold Tx.slices_IndexFunc_int_int_S at H
    obtain ⟨s0, rr, rfl, H1⟩ := tS_elim H
    obtain ⟨f1, rr, rfl, H2⟩ := tV_elim H1
    obtain ⟨rfl, H3⟩ := tN_elim H2
    exact ⟨ble_le (by kernel_rfl), cast (by kernel_rfl) H3⟩
  · intro K k inner vals h hk hin H
    rw [show pts A44 = [1] from by kernel_rfl] at hk
    simp only [List.mem_cons, List.not_mem_nil, or_false] at hk
    rcases hk with rfl
    · rw [show depth 1 A44 = 1 from by kernel_rfl] at hin
      obtain ⟨T1, rfl⟩ := len1 hin
      have H : src44 cl K 1 [T1] vals h := H
      simp only [src44] at H
      obtain ⟨s0, rr, rfl, H1⟩ := tS_elim H
      obtain ⟨f1, rr, rfl, H2⟩ := tV_elim H1
      obtain ⟨v7, rr, rfl, H3⟩ := tI_elim H2
      obtain ⟨v8, rr, rfl, H4⟩ := tI_elim H3
      obtain ⟨rfl, H5⟩ := tN_elim H4
      exact cast (by kernel_rfl) H5


noncomputable def c31 : Code := Try.f31.body.getD .skip
def A31 : Ann := (.seq .leaf (.seq .leaf (.seq .leaf (.seq (.seq .leaf (.block (.loop 1 [1, 3, 4, 12, 13, 14] (.seq .leaf (.seq (.cond .leaf .leaf) (.join 2 [1, 3, 4, 12, 13, 14] (.block (.seq .leaf (.seq .leaf (.cond .leaf .leaf)))) .leaf)))))) (.seq (.seq .leaf (.cond (.seq .leaf .leaf) .leaf)) (.seq (.plan (.take 0 [] (.take 1 [] (.take 2 [] (.take 3 [] (.take 4 [9] (.take 5 [9] (.take 6 [9] (.take 7 [9] (.take 8 [9] (.all (.alt 9 (.take 10 [] (.take 11 [] (.take 12 [] .done))) .nil)))))))))))) (.seq .leaf (.seq .leaf .leaf))))))))
def src31 (K : Value → Hp → Prop) : Src
  | 1, [T1], vals, h => (tA fun c1 => tF (ρ.G 12) fun cells1 rest1 => (tA fun loose3_0 => tN ((tI .i64 fun many4 => tS fun v12 => tI .i64 fun v13 => tI .i64 fun v14 => tN (Tx.lru_Cache_fit_B1 ρ (fun c1 loose3_0 many4 v12 v13 v14 hh => T1 [(.pointer (some c1)), (.func (.func (ρ.G 12)) #[] #[(.pointer (some loose3_0))]), (.int .i64 many4), (.slice v12.a v12.len v12.cap), (.int .i64 v13), (.int .i64 v14)] hh) (fun r0 h => K (.int .i64 r0) h) c1 loose3_0 many4 v12 v13 v14 h)) rest1)) cells1) vals
  | 2, [T1], vals, h => (tA fun c1 => tF (ρ.G 12) fun cells1 rest1 => (tA fun loose3_0 => tN ((tI .i64 fun many4 => tS fun v12 => tI .i64 fun v13 => tI .i64 fun v14 => tN (Tx.lru_Cache_fit_K2 ρ (fun c1 loose3_0 many4 v12 v13 v14 hh => T1 [(.pointer (some c1)), (.func (.func (ρ.G 12)) #[] #[(.pointer (some loose3_0))]), (.int .i64 many4), (.slice v12.a v12.len v12.cap), (.int .i64 v13), (.int .i64 v14)] hh) (fun r0 h => K (.int .i64 r0) h) c1 loose3_0 many4 v12 v13 v14 h)) rest1)) cells1) vals
  | _, _, _, _ => False
theorem ok31 : SpecOk Try.prog 31 (Tx.lru_Cache_fit_S ρ) := by
  refine spec_ok (c := c31) agree (specsOk_cons (ok44 _ (specsOk_cons ok43 specsOk_nil)) (specsOk_cons ok17 specsOk_nil)) (specsOk_cons ok43 specsOk_nil) mixed Try.func31 (by kernel_rfl) (by kernel_rfl) A31 (by kernel_rfl) (src31) ?_ ?_
  · intro args h K H
    unfold Tx.lru_Cache_fit_S at H
    obtain ⟨c0, rr, rfl, H1⟩ := tP_elim H
    obtain ⟨rfl, H2⟩ := tN_elim H1
    exact ⟨ble_le (by kernel_rfl), cast (by kernel_rfl) H2⟩
  · intro K k inner vals h hk hin H
    rw [show pts A31 = [1, 2] from by kernel_rfl] at hk
    simp only [List.mem_cons, List.not_mem_nil, or_false] at hk
    rcases hk with rfl | rfl
    · rw [show depth 1 A31 = 1 from by kernel_rfl] at hin
      obtain ⟨T1, rfl⟩ := len1 hin
      have H : src31 K 1 [T1] vals h := H
      simp only [src31] at H
      obtain ⟨c1, rr, rfl, H1⟩ := tA_elim H
      obtain ⟨cc1, rr1, rfl, H2⟩ := tF_elim H1
      obtain ⟨loose3_0, qq, rfl, H3⟩ := tA_elim H2
      obtain ⟨rfl, H4⟩ := tN_elim H3
      obtain ⟨many4, rr, rfl, H5⟩ := tI_elim H4
      obtain ⟨v12, rr, rfl, H6⟩ := tS_elim H5
      obtain ⟨v13, rr, rfl, H7⟩ := tI_elim H6
      obtain ⟨v14, rr, rfl, H8⟩ := tI_elim H7
      obtain ⟨rfl, H9⟩ := tN_elim H8
      exact cast (by kernel_rfl) H9
    · rw [show depth 2 A31 = 1 from by kernel_rfl] at hin
      obtain ⟨T1, rfl⟩ := len1 hin
      have H : src31 K 2 [T1] vals h := H
      simp only [src31] at H
      obtain ⟨c1, rr, rfl, H1⟩ := tA_elim H
      obtain ⟨cc1, rr1, rfl, H2⟩ := tF_elim H1
      obtain ⟨loose3_0, qq, rfl, H3⟩ := tA_elim H2
      obtain ⟨rfl, H4⟩ := tN_elim H3
      obtain ⟨many4, rr, rfl, H5⟩ := tI_elim H4
      obtain ⟨v12, rr, rfl, H6⟩ := tS_elim H5
      obtain ⟨v13, rr, rfl, H7⟩ := tI_elim H6
      obtain ⟨v14, rr, rfl, H8⟩ := tI_elim H7
      obtain ⟨rfl, H9⟩ := tN_elim H8
      exact cast (by kernel_rfl) H9


noncomputable def c8 : Code := Try.f8.body.getD .skip
def A8 : Ann := (.seq .leaf (.seq (.block (.seq .leaf (.cond (.seq .leaf .leaf) (.seq .leaf (.cond (.seq .leaf .leaf) .leaf))))) (.seq (.plan (.take 0 [15] (.take 1 [15] (.take 2 [15] (.take 3 [15] (.take 4 [15] (.take 5 [6, 15] (.take 7 [15] (.take 8 [15] (.take 9 [15] (.take 10 [15] (.take 11 [15] (.take 12 [15] (.take 13 [15] (.all (.alt 6 (.take 14 [15] (.all (.alt 15 .done .nil))) .nil)))))))))))))))) (.seq .leaf (.seq .leaf .leaf)))))
def src8 (_ : Value → Hp → Prop) : Src := fun _ _ _ _ => False
theorem ok8 : SpecOk Try.prog 8 (Tx.lru_Cache_Put_S ρ) := by
  refine spec_ok (c := c8) agree (specsOk_cons ok31 (specsOk_cons ok30 (specsOk_cons ok29 (specsOk_cons ok28 (specsOk_cons ok27 specsOk_nil))))) specsOk_nil mixed Try.func8 (by kernel_rfl) (by kernel_rfl) A8 (by kernel_rfl) (src8) ?_ ?_
  · intro args h K H
    unfold Tx.lru_Cache_Put_S at H
    obtain ⟨c0, rr, rfl, H1⟩ := tP_elim H
    obtain ⟨item1, rr, rfl, H2⟩ := tI_elim H1
    obtain ⟨page2, rr, rfl, H3⟩ := tS_elim H2
    obtain ⟨rfl, H4⟩ := tN_elim H3
    exact ⟨ble_le (by kernel_rfl), cast (by kernel_rfl) H4⟩
  · intro K k inner vals h hk hin H
    exact H.elim


noncomputable def c41 : Code := Try.f41.body.getD .skip
def A41 : Ann := (.seq .leaf (.seq (.seq .leaf (.cond (.seq .leaf .leaf) .leaf)) (.seq .leaf .leaf)))
def src41 (_ : Value → Hp → Prop) : Src := fun _ _ _ _ => False
theorem ok41 : SpecOk Try.prog 41 (Tx.slices_Clone_int_int_S ρ) := by
  refine spec_ok (c := c41) agree specsOk_nil specsOk_nil mixed Try.func41 (by kernel_rfl) (by kernel_rfl) A41 (by kernel_rfl) (src41) ?_ ?_
  · intro args h K H
    unfold Tx.slices_Clone_int_int_S at H
    obtain ⟨s0, rr, rfl, H1⟩ := tS_elim H
    obtain ⟨rfl, H2⟩ := tN_elim H1
    exact ⟨ble_le (by kernel_rfl), cast (by kernel_rfl) H2⟩
  · intro K k inner vals h hk hin H
    exact H.elim


noncomputable def c42 : Code := Try.f42.body.getD .skip
def A42 : Ann := (.seq .leaf (.block (.loop 1 [0, 2, 3] (.seq (.seq .leaf (.cond .leaf .leaf)) (.seq (.block (.plan (.take 0 [13, 15] (.take 1 [13, 15] (.take 2 [15] (.take 3 [15] (.take 4 [13, 15] (.take 5 [13, 15] (.take 6 [13, 15] (.take 7 [13, 15] (.take 8 [13, 15] (.take 9 [13, 15] (.take 10 [13, 15] (.take 11 [13, 15] (.take 12 [13, 15] (.all (.alt 13 (.take 14 [15] (.all (.alt 15 .done .nil))) .nil))))))))))))))))) .leaf)))))
def src42 (K : Value → Hp → Prop) : Src
  | 1, [T1], vals, h => (tS fun s0 => tI .i64 fun i2 => tI .i64 fun j3 => tN (Tx.slices_Reverse_int_int_B1 ρ (fun s0 i2 j3 hh => T1 [(.slice s0.a s0.len s0.cap), (.int .i64 i2), (.int .i64 j3)] hh) (fun h => K (.tuple [].toArray) h) s0 i2 j3 h)) vals
  | _, _, _, _ => False
theorem ok42 : SpecOk Try.prog 42 (Tx.slices_Reverse_int_int_S ρ) := by
  refine spec_ok (c := c42) agree specsOk_nil specsOk_nil mixed Try.func42 (by kernel_rfl) (by kernel_rfl) A42 (by kernel_rfl) (src42) ?_ ?_
  · intro args h K H
    unfold Tx.slices_Reverse_int_int_S at H
    obtain ⟨s0, rr, rfl, H1⟩ := tS_elim H
    obtain ⟨rfl, H2⟩ := tN_elim H1
    exact ⟨ble_le (by kernel_rfl), cast (by kernel_rfl) H2⟩
  · intro K k inner vals h hk hin H
    rw [show pts A42 = [1] from by kernel_rfl] at hk
    simp only [List.mem_cons, List.not_mem_nil, or_false] at hk
    rcases hk with rfl
    · rw [show depth 1 A42 = 1 from by kernel_rfl] at hin
      obtain ⟨T1, rfl⟩ := len1 hin
      have H : src42 K 1 [T1] vals h := H
      simp only [src42] at H
      obtain ⟨s0, rr, rfl, H1⟩ := tS_elim H
      obtain ⟨i2, rr, rfl, H2⟩ := tI_elim H1
      obtain ⟨j3, rr, rfl, H3⟩ := tI_elim H2
      obtain ⟨rfl, H4⟩ := tN_elim H3
      exact cast (by kernel_rfl) H4


noncomputable def c24 : Code := Try.f24.body.getD .skip
def A24 : Ann := (.seq .leaf (.seq (.seq .leaf (.cond (.seq .leaf .leaf) .leaf)) (.seq .leaf (.seq .leaf (.seq .leaf .leaf)))))
def src24 (_ : Value → Hp → Prop) : Src := fun _ _ _ _ => False
theorem ok24 : SpecOk Try.prog 24 (Tx.lru_Cache_Order_S ρ) := by
  refine spec_ok (c := c24) agree (specsOk_cons ok42 (specsOk_cons ok41 (specsOk_cons ok27 specsOk_nil))) specsOk_nil mixed Try.func24 (by kernel_rfl) (by kernel_rfl) A24 (by kernel_rfl) (src24) ?_ ?_
  · intro args h K H
    unfold Tx.lru_Cache_Order_S at H
    obtain ⟨c0, rr, rfl, H1⟩ := tP_elim H
    obtain ⟨rfl, H2⟩ := tN_elim H1
    exact ⟨ble_le (by kernel_rfl), cast (by kernel_rfl) H2⟩
  · intro K k inner vals h hk hin H
    exact H.elim


noncomputable def c9 : Code := Try.f9.body.getD .skip
def A9 : Ann := (.seq .leaf (.seq .leaf .leaf))
def src9 (_ : Value → Hp → Prop) : Src := fun _ _ _ _ => False
theorem ok9 : SpecOk Try.prog 9 (Tx.lru_Cache_Len_S ρ) := by
  refine spec_ok (c := c9) agree (specsOk_cons ok24 specsOk_nil) specsOk_nil mixed Try.func9 (by kernel_rfl) (by kernel_rfl) A9 (by kernel_rfl) (src9) ?_ ?_
  · intro args h K H
    unfold Tx.lru_Cache_Len_S at H
    obtain ⟨c0, rr, rfl, H1⟩ := tP_elim H
    obtain ⟨rfl, H2⟩ := tN_elim H1
    exact ⟨ble_le (by kernel_rfl), cast (by kernel_rfl) H2⟩
  · intro K k inner vals h hk hin H
    exact H.elim


noncomputable def c15 : Code := Try.f15.body.getD .skip
def A15 : Ann := (.seq .leaf (.seq (.block (.seq .leaf (.cond (.seq .leaf .leaf) (.seq .leaf (.cond (.seq .leaf .leaf) .leaf))))) (.seq (.plan (.take 0 [8] (.take 1 [8] (.take 2 [8] (.take 3 [8] (.take 4 [8] (.take 5 [6, 8] (.all (.alt 6 (.take 7 [8] (.all (.alt 8 .done .nil))) .nil))))))))) (.seq .leaf (.seq .leaf .leaf)))))
def src15 (_ : Value → Hp → Prop) : Src := fun _ _ _ _ => False
theorem ok15 : SpecOk Try.prog 15 (Tx.lru_Cache_Pin_S ρ) := by
  refine spec_ok (c := c15) agree (specsOk_cons ok30 (specsOk_cons ok29 (specsOk_cons ok28 (specsOk_cons ok27 specsOk_nil)))) specsOk_nil mixed Try.func15 (by kernel_rfl) (by kernel_rfl) A15 (by kernel_rfl) (src15) ?_ ?_
  · intro args h K H
    unfold Tx.lru_Cache_Pin_S at H
    obtain ⟨c0, rr, rfl, H1⟩ := tP_elim H
    obtain ⟨item1, rr, rfl, H2⟩ := tI_elim H1
    obtain ⟨page2, rr, rfl, H3⟩ := tS_elim H2
    obtain ⟨rfl, H4⟩ := tN_elim H3
    exact ⟨ble_le (by kernel_rfl), cast (by kernel_rfl) H4⟩
  · intro K k inner vals h hk hin H
    exact H.elim


noncomputable def c11 : Code := Try.f11.body.getD .skip
def A11 : Ann := (.seq .leaf (.seq .leaf (.seq (.join 1 [1, 18] .leaf (.cond (.seq .leaf .leaf) .leaf)) (.seq .leaf (.seq .leaf (.seq .leaf (.seq .leaf (.seq .leaf .leaf))))))))
def src11 (K : Value → Hp → Prop) : Src
  | 1, [], vals, h => (tP fun c1 => tB fun v18 => tN (Tx.carlinglaw15_alive_K1 ρ  (fun r0 h => K (.bool r0) h) c1 v18 h)) vals
  | _, _, _, _ => False
theorem ok11 : SpecOk Try.prog 11 (Tx.carlinglaw15_alive_S ρ) := by
  refine spec_ok (c := c11) agree (specsOk_cons ok24 (specsOk_cons ok15 (specsOk_cons ok10 (specsOk_cons ok8 (specsOk_cons ok7 specsOk_nil))))) specsOk_nil mixed Try.func11 (by kernel_rfl) (by kernel_rfl) A11 (by kernel_rfl) (src11) ?_ ?_
  · intro args h K H
    unfold Tx.carlinglaw15_alive_S at H
    obtain ⟨rfl, H1⟩ := tN_elim H
    exact ⟨ble_le (by kernel_rfl), cast (by kernel_rfl) H1⟩
  · intro K k inner vals h hk hin H
    rw [show pts A11 = [1] from by kernel_rfl] at hk
    simp only [List.mem_cons, List.not_mem_nil, or_false] at hk
    rcases hk with rfl
    · rw [show depth 1 A11 = 0 from by kernel_rfl] at hin
      obtain rfl := len0 hin
      have H : src11 K 1 [] vals h := H
      simp only [src11] at H
      obtain ⟨c1, rr, rfl, H1⟩ := tP_elim H
      obtain ⟨v18, rr, rfl, H2⟩ := tB_elim H1
      obtain ⟨rfl, H3⟩ := tN_elim H2
      exact cast (by kernel_rfl) H3


noncomputable def c3 : Code := Try.f3.body.getD .skip
def A3 : Ann := (.seq .leaf (.seq .leaf (.seq .leaf (.seq (.join 1 [1, 5, 6, 34] .leaf (.cond (.seq .leaf .leaf) .leaf)) (.seq .leaf (.seq (.seq .leaf (.block (.loop 2 [5, 6, 8, 39, 40, 41] (.seq .leaf (.seq (.cond .leaf .leaf) (.seq (.block (.seq .leaf (.seq .leaf (.seq .leaf (.seq (.seq .leaf (.block (.loop 3 [5, 6, 10, 11, 12, 39, 40, 41, 48, 49, 50] (.seq .leaf (.seq (.cond .leaf .leaf) (.join 4 [5, 6, 10, 11, 12, 39, 40, 41, 48, 49, 50] (.block (.seq .leaf (.seq .leaf (.cond .leaf .leaf)))) .leaf)))))) (.seq .leaf (.join 7 [5, 6, 10, 11, 12, 15, 39, 40, 41] (.seq .leaf (.cond (.seq .leaf .leaf) .leaf)) (.seq .leaf (.seq .leaf (.seq (.join 5 [5, 6, 8, 39, 40, 41, 96] .leaf (.cond (.seq .leaf .leaf) .leaf)) (.seq .leaf (.block (.loop 6 [5, 6, 8, 39, 40, 41, 97, 98, 99] (.seq .leaf (.seq (.cond .leaf .leaf) (.seq (.block (.seq .leaf (.seq .leaf (.cond (.seq .leaf .leaf) .leaf)))) .leaf)))))))))))))))) .leaf)))))) (.seq .leaf .leaf)))))))
def src3 (K : Value → Hp → Prop) : Src
  | 1, [], vals, h => (tS fun items1 => tI .i64 fun n5 => tP fun c6 => tB fun v34 => tN (Tx.carlinglaw15_LruOldest_K1 ρ  (fun r0 h => K (.bool r0) h) items1 n5 c6 v34 h)) vals
  | 2, [T2], vals, h => (tI .i64 fun n5 => tP fun c6 => tS fun used8 => tS fun v39 => tI .i64 fun v40 => tI .i64 fun v41 => tN (Tx.carlinglaw15_LruOldest_B2 ρ (fun n5 c6 used8 v39 v40 v41 hh => T2 [(.int .i64 n5), (.pointer c6), (.slice used8.a used8.len used8.cap), (.slice v39.a v39.len v39.cap), (.int .i64 v40), (.int .i64 v41)] hh) (fun r0 h => K (.bool r0) h) n5 c6 used8 v39 v40 v41 h)) vals
  | 3, [T3, T2], vals, h => (tI .i64 fun n5 => tP fun c6 => tI .u8 fun x10 => tI .i64 fun item11 => tS fun rest12 => tS fun v39 => tI .i64 fun v40 => tI .i64 fun v41 => tS fun v48 => tI .i64 fun v49 => tI .i64 fun v50 => tN (Tx.carlinglaw15_LruOldest_B3 ρ (fun n5 c6 used8 v39 v40 v41 hh => T2 [(.int .i64 n5), (.pointer c6), (.slice used8.a used8.len used8.cap), (.slice v39.a v39.len v39.cap), (.int .i64 v40), (.int .i64 v41)] hh) (fun n5 c6 x10 item11 rest12 v39 v40 v41 v48 v49 v50 hh => T3 [(.int .i64 n5), (.pointer c6), (.int .u8 x10), (.int .i64 item11), (.slice rest12.a rest12.len rest12.cap), (.slice v39.a v39.len v39.cap), (.int .i64 v40), (.int .i64 v41), (.slice v48.a v48.len v48.cap), (.int .i64 v49), (.int .i64 v50)] hh) (fun r0 h => K (.bool r0) h) n5 c6 x10 item11 rest12 v39 v40 v41 v48 v49 v50 h)) vals
  | 4, [T3, T2], vals, h => (tI .i64 fun n5 => tP fun c6 => tI .u8 fun x10 => tI .i64 fun item11 => tS fun rest12 => tS fun v39 => tI .i64 fun v40 => tI .i64 fun v41 => tS fun v48 => tI .i64 fun v49 => tI .i64 fun v50 => tN (Tx.carlinglaw15_LruOldest_K4 ρ (fun n5 c6 used8 v39 v40 v41 hh => T2 [(.int .i64 n5), (.pointer c6), (.slice used8.a used8.len used8.cap), (.slice v39.a v39.len v39.cap), (.int .i64 v40), (.int .i64 v41)] hh) (fun n5 c6 x10 item11 rest12 v39 v40 v41 v48 v49 v50 hh => T3 [(.int .i64 n5), (.pointer c6), (.int .u8 x10), (.int .i64 item11), (.slice rest12.a rest12.len rest12.cap), (.slice v39.a v39.len v39.cap), (.int .i64 v40), (.int .i64 v41), (.slice v48.a v48.len v48.cap), (.int .i64 v49), (.int .i64 v50)] hh) (fun r0 h => K (.bool r0) h) n5 c6 x10 item11 rest12 v39 v40 v41 v48 v49 v50 h)) vals
  | 5, [T2], vals, h => (tI .i64 fun n5 => tP fun c6 => tS fun used8 => tS fun v39 => tI .i64 fun v40 => tI .i64 fun v41 => tB fun v96 => tN (Tx.carlinglaw15_LruOldest_K5 ρ (fun n5 c6 used8 v39 v40 v41 hh => T2 [(.int .i64 n5), (.pointer c6), (.slice used8.a used8.len used8.cap), (.slice v39.a v39.len v39.cap), (.int .i64 v40), (.int .i64 v41)] hh) (fun r0 h => K (.bool r0) h) n5 c6 used8 v39 v40 v41 v96 h)) vals
  | 6, [T6, T2], vals, h => (tI .i64 fun n5 => tP fun c6 => tS fun used8 => tS fun v39 => tI .i64 fun v40 => tI .i64 fun v41 => tS fun v97 => tI .i64 fun v98 => tI .i64 fun v99 => tN (Tx.carlinglaw15_LruOldest_B6 ρ (fun n5 c6 used8 v39 v40 v41 hh => T2 [(.int .i64 n5), (.pointer c6), (.slice used8.a used8.len used8.cap), (.slice v39.a v39.len v39.cap), (.int .i64 v40), (.int .i64 v41)] hh) (fun n5 c6 used8 v39 v40 v41 v97 v98 v99 hh => T6 [(.int .i64 n5), (.pointer c6), (.slice used8.a used8.len used8.cap), (.slice v39.a v39.len v39.cap), (.int .i64 v40), (.int .i64 v41), (.slice v97.a v97.len v97.cap), (.int .i64 v98), (.int .i64 v99)] hh) (fun r0 h => K (.bool r0) h) n5 c6 used8 v39 v40 v41 v97 v98 v99 h)) vals
  | 7, [T2], vals, h => (tI .i64 fun n5 => tP fun c6 => tI .u8 fun x10 => tI .i64 fun item11 => tS fun rest12 => tI .i64 fun want15 => tS fun v39 => tI .i64 fun v40 => tI .i64 fun v41 => tN (Tx.carlinglaw15_LruOldest_K7 ρ (fun n5 c6 used8 v39 v40 v41 hh => T2 [(.int .i64 n5), (.pointer c6), (.slice used8.a used8.len used8.cap), (.slice v39.a v39.len v39.cap), (.int .i64 v40), (.int .i64 v41)] hh) (fun r0 h => K (.bool r0) h) n5 c6 x10 item11 rest12 want15 v39 v40 v41 h)) vals
  | _, _, _, _ => False
theorem ok3 : SpecOk Try.prog 3 (Tx.carlinglaw15_LruOldest_S ρ) := by
  refine spec_ok (c := c3) agree (specsOk_cons ok11 (specsOk_cons ok10 (specsOk_cons ok9 (specsOk_cons ok8 (specsOk_cons ok7 specsOk_nil))))) specsOk_nil mixed Try.func3 (by kernel_rfl) (by kernel_rfl) A3 (by kernel_rfl) (src3) ?_ ?_
  · intro args h K H
    unfold Tx.carlinglaw15_LruOldest_S at H
    obtain ⟨room0, rr, rfl, H1⟩ := tI_elim H
    obtain ⟨items1, rr, rfl, H2⟩ := tS_elim H1
    obtain ⟨rfl, H3⟩ := tN_elim H2
    exact ⟨ble_le (by kernel_rfl), cast (by kernel_rfl) H3⟩
  · intro K k inner vals h hk hin H
    rw [show pts A3 = [1, 2, 3, 4, 7, 5, 6] from by kernel_rfl] at hk
    simp only [List.mem_cons, List.not_mem_nil, or_false] at hk
    rcases hk with rfl | rfl | rfl | rfl | rfl | rfl | rfl
    · rw [show depth 1 A3 = 0 from by kernel_rfl] at hin
      obtain rfl := len0 hin
      have H : src3 K 1 [] vals h := H
      simp only [src3] at H
      obtain ⟨items1, rr, rfl, H1⟩ := tS_elim H
      obtain ⟨n5, rr, rfl, H2⟩ := tI_elim H1
      obtain ⟨c6, rr, rfl, H3⟩ := tP_elim H2
      obtain ⟨v34, rr, rfl, H4⟩ := tB_elim H3
      obtain ⟨rfl, H5⟩ := tN_elim H4
      exact cast (by kernel_rfl) H5
    · rw [show depth 2 A3 = 1 from by kernel_rfl] at hin
      obtain ⟨T2, rfl⟩ := len1 hin
      have H : src3 K 2 [T2] vals h := H
      simp only [src3] at H
      obtain ⟨n5, rr, rfl, H1⟩ := tI_elim H
      obtain ⟨c6, rr, rfl, H2⟩ := tP_elim H1
      obtain ⟨used8, rr, rfl, H3⟩ := tS_elim H2
      obtain ⟨v39, rr, rfl, H4⟩ := tS_elim H3
      obtain ⟨v40, rr, rfl, H5⟩ := tI_elim H4
      obtain ⟨v41, rr, rfl, H6⟩ := tI_elim H5
      obtain ⟨rfl, H7⟩ := tN_elim H6
      exact cast (by kernel_rfl) H7
    · rw [show depth 3 A3 = 2 from by kernel_rfl] at hin
      obtain ⟨T2, T3, rfl⟩ := len2 hin
      have H : src3 K 3 [T3, T2] vals h := H
      simp only [src3] at H
      obtain ⟨n5, rr, rfl, H1⟩ := tI_elim H
      obtain ⟨c6, rr, rfl, H2⟩ := tP_elim H1
      obtain ⟨x10, rr, rfl, H3⟩ := tI_elim H2
      obtain ⟨item11, rr, rfl, H4⟩ := tI_elim H3
      obtain ⟨rest12, rr, rfl, H5⟩ := tS_elim H4
      obtain ⟨v39, rr, rfl, H6⟩ := tS_elim H5
      obtain ⟨v40, rr, rfl, H7⟩ := tI_elim H6
      obtain ⟨v41, rr, rfl, H8⟩ := tI_elim H7
      obtain ⟨v48, rr, rfl, H9⟩ := tS_elim H8
      obtain ⟨v49, rr, rfl, H10⟩ := tI_elim H9
      obtain ⟨v50, rr, rfl, H11⟩ := tI_elim H10
      obtain ⟨rfl, H12⟩ := tN_elim H11
      exact cast (by kernel_rfl) H12
    · rw [show depth 4 A3 = 2 from by kernel_rfl] at hin
      obtain ⟨T2, T3, rfl⟩ := len2 hin
      have H : src3 K 4 [T3, T2] vals h := H
      simp only [src3] at H
      obtain ⟨n5, rr, rfl, H1⟩ := tI_elim H
      obtain ⟨c6, rr, rfl, H2⟩ := tP_elim H1
      obtain ⟨x10, rr, rfl, H3⟩ := tI_elim H2
      obtain ⟨item11, rr, rfl, H4⟩ := tI_elim H3
      obtain ⟨rest12, rr, rfl, H5⟩ := tS_elim H4
      obtain ⟨v39, rr, rfl, H6⟩ := tS_elim H5
      obtain ⟨v40, rr, rfl, H7⟩ := tI_elim H6
      obtain ⟨v41, rr, rfl, H8⟩ := tI_elim H7
      obtain ⟨v48, rr, rfl, H9⟩ := tS_elim H8
      obtain ⟨v49, rr, rfl, H10⟩ := tI_elim H9
      obtain ⟨v50, rr, rfl, H11⟩ := tI_elim H10
      obtain ⟨rfl, H12⟩ := tN_elim H11
      exact cast (by kernel_rfl) H12
    · rw [show depth 7 A3 = 1 from by kernel_rfl] at hin
      obtain ⟨T2, rfl⟩ := len1 hin
      have H : src3 K 7 [T2] vals h := H
      simp only [src3] at H
      obtain ⟨n5, rr, rfl, H1⟩ := tI_elim H
      obtain ⟨c6, rr, rfl, H2⟩ := tP_elim H1
      obtain ⟨x10, rr, rfl, H3⟩ := tI_elim H2
      obtain ⟨item11, rr, rfl, H4⟩ := tI_elim H3
      obtain ⟨rest12, rr, rfl, H5⟩ := tS_elim H4
      obtain ⟨want15, rr, rfl, H6⟩ := tI_elim H5
      obtain ⟨v39, rr, rfl, H7⟩ := tS_elim H6
      obtain ⟨v40, rr, rfl, H8⟩ := tI_elim H7
      obtain ⟨v41, rr, rfl, H9⟩ := tI_elim H8
      obtain ⟨rfl, H10⟩ := tN_elim H9
      exact cast (by kernel_rfl) H10
    · rw [show depth 5 A3 = 1 from by kernel_rfl] at hin
      obtain ⟨T2, rfl⟩ := len1 hin
      have H : src3 K 5 [T2] vals h := H
      simp only [src3] at H
      obtain ⟨n5, rr, rfl, H1⟩ := tI_elim H
      obtain ⟨c6, rr, rfl, H2⟩ := tP_elim H1
      obtain ⟨used8, rr, rfl, H3⟩ := tS_elim H2
      obtain ⟨v39, rr, rfl, H4⟩ := tS_elim H3
      obtain ⟨v40, rr, rfl, H5⟩ := tI_elim H4
      obtain ⟨v41, rr, rfl, H6⟩ := tI_elim H5
      obtain ⟨v96, rr, rfl, H7⟩ := tB_elim H6
      obtain ⟨rfl, H8⟩ := tN_elim H7
      exact cast (by kernel_rfl) H8
    · rw [show depth 6 A3 = 2 from by kernel_rfl] at hin
      obtain ⟨T2, T6, rfl⟩ := len2 hin
      have H : src3 K 6 [T6, T2] vals h := H
      simp only [src3] at H
      obtain ⟨n5, rr, rfl, H1⟩ := tI_elim H
      obtain ⟨c6, rr, rfl, H2⟩ := tP_elim H1
      obtain ⟨used8, rr, rfl, H3⟩ := tS_elim H2
      obtain ⟨v39, rr, rfl, H4⟩ := tS_elim H3
      obtain ⟨v40, rr, rfl, H5⟩ := tI_elim H4
      obtain ⟨v41, rr, rfl, H6⟩ := tI_elim H5
      obtain ⟨v97, rr, rfl, H7⟩ := tS_elim H6
      obtain ⟨v98, rr, rfl, H8⟩ := tI_elim H7
      obtain ⟨v99, rr, rfl, H9⟩ := tI_elim H8
      obtain ⟨rfl, H10⟩ := tN_elim H9
      exact cast (by kernel_rfl) H10


noncomputable def c12 : Code := Try.f12.body.getD .skip
def A12 : Ann := (.seq .leaf (.seq .leaf (.seq (.seq .leaf (.block (.loop 1 [3, 10, 11, 12] (.seq .leaf (.seq (.cond .leaf .leaf) (.seq (.block (.seq .leaf (.seq .leaf .leaf))) .leaf)))))) (.seq .leaf .leaf))))
def src12 (K : Value → Hp → Prop) : Src
  | 1, [T1], vals, h => (tS fun out3 => tS fun v10 => tI .i64 fun v11 => tI .i64 fun v12 => tN (Tx.carlinglaw15_short_B1 ρ (fun out3 v10 v11 v12 hh => T1 [(.slice out3.a out3.len out3.cap), (.slice v10.a v10.len v10.cap), (.int .i64 v11), (.int .i64 v12)] hh) (fun r0 h => K (.slice r0.a r0.len r0.cap) h) out3 v10 v11 v12 h)) vals
  | _, _, _, _ => False
theorem ok12 : SpecOk Try.prog 12 (Tx.carlinglaw15_short_S ρ) := by
  refine spec_ok (c := c12) agree specsOk_nil specsOk_nil mixed Try.func12 (by kernel_rfl) (by kernel_rfl) A12 (by kernel_rfl) (src12) ?_ ?_
  · intro args h K H
    unfold Tx.carlinglaw15_short_S at H
    obtain ⟨l0, rr, rfl, H1⟩ := tS_elim H
    obtain ⟨rfl, H2⟩ := tN_elim H1
    exact ⟨ble_le (by kernel_rfl), cast (by kernel_rfl) H2⟩
  · intro K k inner vals h hk hin H
    rw [show pts A12 = [1] from by kernel_rfl] at hk
    simp only [List.mem_cons, List.not_mem_nil, or_false] at hk
    rcases hk with rfl
    · rw [show depth 1 A12 = 1 from by kernel_rfl] at hin
      obtain ⟨T1, rfl⟩ := len1 hin
      have H : src12 K 1 [T1] vals h := H
      simp only [src12] at H
      obtain ⟨out3, rr, rfl, H1⟩ := tS_elim H
      obtain ⟨v10, rr, rfl, H2⟩ := tS_elim H1
      obtain ⟨v11, rr, rfl, H3⟩ := tI_elim H2
      obtain ⟨v12, rr, rfl, H4⟩ := tI_elim H3
      obtain ⟨rfl, H5⟩ := tN_elim H4
      exact cast (by kernel_rfl) H5


noncomputable def c13 : Code := Try.f13.body.getD .skip
def A13 : Ann := (.seq .leaf (.seq (.seq .leaf (.cond (.seq .leaf .leaf) .leaf)) (.seq .leaf (.seq .leaf .leaf))))
def src13 (_ : Value → Hp → Prop) : Src := fun _ _ _ _ => False
theorem ok13 : SpecOk Try.prog 13 (Tx.lru_Cache_Get_S ρ) := by
  refine spec_ok (c := c13) agree (specsOk_cons ok30 (specsOk_cons ok29 (specsOk_cons ok10 specsOk_nil))) specsOk_nil mixed Try.func13 (by kernel_rfl) (by kernel_rfl) A13 (by kernel_rfl) (src13) ?_ ?_
  · intro args h K H
    unfold Tx.lru_Cache_Get_S at H
    obtain ⟨c0, rr, rfl, H1⟩ := tP_elim H
    obtain ⟨item1, rr, rfl, H2⟩ := tI_elim H1
    obtain ⟨rfl, H3⟩ := tN_elim H2
    exact ⟨ble_le (by kernel_rfl), cast (by kernel_rfl) H3⟩
  · intro K k inner vals h hk hin H
    exact H.elim


noncomputable def c14 : Code := Try.f14.body.getD .skip
def A14 : Ann := (.seq .leaf (.seq (.seq .leaf (.cond (.seq .leaf .leaf) .leaf)) (.seq (.seq .leaf (.block (.loop 1 [0, 1, 5] (.seq (.seq .leaf (.cond .leaf .leaf)) (.seq (.block (.seq (.plan (.take 0 [] (.take 1 [] (.take 2 [] (.take 3 [] (.take 4 [] (.take 5 [] (.take 6 [] (.take 7 [] (.take 8 [] .done)))))))))) (.cond (.seq .leaf .leaf) .leaf))) .leaf))))) (.seq .leaf .leaf))))
def src14 (K : Value → Hp → Prop) : Src
  | 1, [T1], vals, h => (tS fun a0 => tS fun b1 => tI .i64 fun i5 => tN (Tx.carlingref02_Same_B1 ρ (fun a0 b1 i5 hh => T1 [(.slice a0.a a0.len a0.cap), (.slice b1.a b1.len b1.cap), (.int .i64 i5)] hh) (fun r0 h => K (.bool r0) h) a0 b1 i5 h)) vals
  | _, _, _, _ => False
theorem ok14 : SpecOk Try.prog 14 (Tx.carlingref02_Same_S ρ) := by
  refine spec_ok (c := c14) agree specsOk_nil specsOk_nil mixed Try.func14 (by kernel_rfl) (by kernel_rfl) A14 (by kernel_rfl) (src14) ?_ ?_
  · intro args h K H
    unfold Tx.carlingref02_Same_S at H
    obtain ⟨a0, rr, rfl, H1⟩ := tS_elim H
    obtain ⟨b1, rr, rfl, H2⟩ := tS_elim H1
    obtain ⟨rfl, H3⟩ := tN_elim H2
    exact ⟨ble_le (by kernel_rfl), cast (by kernel_rfl) H3⟩
  · intro K k inner vals h hk hin H
    rw [show pts A14 = [1] from by kernel_rfl] at hk
    simp only [List.mem_cons, List.not_mem_nil, or_false] at hk
    rcases hk with rfl
    · rw [show depth 1 A14 = 1 from by kernel_rfl] at hin
      obtain ⟨T1, rfl⟩ := len1 hin
      have H : src14 K 1 [T1] vals h := H
      simp only [src14] at H
      obtain ⟨a0, rr, rfl, H1⟩ := tS_elim H
      obtain ⟨b1, rr, rfl, H2⟩ := tS_elim H1
      obtain ⟨i5, rr, rfl, H3⟩ := tI_elim H2
      obtain ⟨rfl, H4⟩ := tN_elim H3
      exact cast (by kernel_rfl) H4


noncomputable def c16 : Code := Try.f16.body.getD .skip
def A16 : Ann := (.seq .leaf (.seq (.join 1 [0, 1, 19] .leaf (.cond (.seq .leaf .leaf) .leaf)) (.seq (.plan (.take 0 [13] (.take 1 [13] (.take 2 [13] (.take 3 [13] (.take 4 [13] (.take 5 [13] (.take 6 [13] (.take 7 [13] (.take 8 [13] (.take 9 [13] (.take 10 [13] (.take 11 [13] (.take 12 [13] (.all (.alt 13 .done .nil)))))))))))))))) (.seq .leaf (.seq .leaf .leaf)))))
def src16 (K : Value → Hp → Prop) : Src
  | 1, [], vals, h => (tP fun c0 => tI .i64 fun item1 => tB fun v19 => tN (Tx.lru_Cache_Unpin_K1 ρ  (fun r0 r1 h => K (.tuple [(.int .i64 r0), (.bool r1)].toArray) h) c0 item1 v19 h)) vals
  | _, _, _, _ => False
theorem ok16 : SpecOk Try.prog 16 (Tx.lru_Cache_Unpin_S ρ) := by
  refine spec_ok (c := c16) agree (specsOk_cons ok31 (specsOk_cons ok30 (specsOk_cons ok10 specsOk_nil))) specsOk_nil mixed Try.func16 (by kernel_rfl) (by kernel_rfl) A16 (by kernel_rfl) (src16) ?_ ?_
  · intro args h K H
    unfold Tx.lru_Cache_Unpin_S at H
    obtain ⟨c0, rr, rfl, H1⟩ := tP_elim H
    obtain ⟨item1, rr, rfl, H2⟩ := tI_elim H1
    obtain ⟨rfl, H3⟩ := tN_elim H2
    exact ⟨ble_le (by kernel_rfl), cast (by kernel_rfl) H3⟩
  · intro K k inner vals h hk hin H
    rw [show pts A16 = [1] from by kernel_rfl] at hk
    simp only [List.mem_cons, List.not_mem_nil, or_false] at hk
    rcases hk with rfl
    · rw [show depth 1 A16 = 0 from by kernel_rfl] at hin
      obtain rfl := len0 hin
      have H : src16 K 1 [] vals h := H
      simp only [src16] at H
      obtain ⟨c0, rr, rfl, H1⟩ := tP_elim H
      obtain ⟨item1, rr, rfl, H2⟩ := tI_elim H1
      obtain ⟨v19, rr, rfl, H3⟩ := tB_elim H2
      obtain ⟨rfl, H4⟩ := tN_elim H3
      exact cast (by kernel_rfl) H4


noncomputable def c34 : Code := Try.f34.body.getD .skip
def A34 : Ann := (.seq .leaf (.seq .leaf (.seq (.seq .leaf (.cond (.seq .leaf .leaf) .leaf)) (.seq (.seq .leaf (.block (.loop 1 [0, 1, 5, 6] (.seq (.seq .leaf (.cond .leaf .leaf)) (.join 2 [0, 1, 5, 6] (.block (.seq .leaf (.seq .leaf (.cond (.seq .leaf .leaf) .leaf)))) .leaf))))) (.seq .leaf (.seq .leaf .leaf))))))
def src34 (cl : Specs) (K : Value → Hp → Prop) : Src
  | 1, [T1], vals, h => (tS fun s0 => tV fun del1 => tI .i64 fun i5 => tI .i64 fun j6 => tN (Tx.slices_DeleteFunc_int_int_B1 ρ (phi cl) (fun s0 del1 i5 j6 hh => T1 [(.slice s0.a s0.len s0.cap), del1, (.int .i64 i5), (.int .i64 j6)] hh) (fun r0 h => K (.slice r0.a r0.len r0.cap) h) s0 del1 i5 j6 h)) vals
  | 2, [T1], vals, h => (tS fun s0 => tV fun del1 => tI .i64 fun i5 => tI .i64 fun j6 => tN (Tx.slices_DeleteFunc_int_int_K2 ρ (phi cl) (fun s0 del1 i5 j6 hh => T1 [(.slice s0.a s0.len s0.cap), del1, (.int .i64 i5), (.int .i64 j6)] hh) (fun r0 h => K (.slice r0.a r0.len r0.cap) h) s0 del1 i5 j6 h)) vals
  | _, _, _, _ => False
theorem ok34 (cl : Specs) (hcl : SpecsOk Try.prog cl) : SpecOk Try.prog 34 (Tx.slices_DeleteFunc_int_int_S ρ (phi cl)) := by
  refine spec_ok (c := c34) agree (specsOk_cons (ok44 _ hcl) specsOk_nil) hcl mixed Try.func34 (by kernel_rfl) (by kernel_rfl) A34 (by kernel_rfl) (src34 cl) ?_ ?_
  · intro args h K H
    unfold Tx.slices_DeleteFunc_int_int_S at H
    obtain ⟨s0, rr, rfl, H1⟩ := tS_elim H
    obtain ⟨del1, rr, rfl, H2⟩ := tV_elim H1
    obtain ⟨rfl, H3⟩ := tN_elim H2
    exact ⟨ble_le (by kernel_rfl), cast (by kernel_rfl) H3⟩
  · intro K k inner vals h hk hin H
    rw [show pts A34 = [1, 2] from by kernel_rfl] at hk
    simp only [List.mem_cons, List.not_mem_nil, or_false] at hk
    rcases hk with rfl | rfl
    · rw [show depth 1 A34 = 1 from by kernel_rfl] at hin
      obtain ⟨T1, rfl⟩ := len1 hin
      have H : src34 cl K 1 [T1] vals h := H
      simp only [src34] at H
      obtain ⟨s0, rr, rfl, H1⟩ := tS_elim H
      obtain ⟨del1, rr, rfl, H2⟩ := tV_elim H1
      obtain ⟨i5, rr, rfl, H3⟩ := tI_elim H2
      obtain ⟨j6, rr, rfl, H4⟩ := tI_elim H3
      obtain ⟨rfl, H5⟩ := tN_elim H4
      exact cast (by kernel_rfl) H5
    · rw [show depth 2 A34 = 1 from by kernel_rfl] at hin
      obtain ⟨T1, rfl⟩ := len1 hin
      have H : src34 cl K 2 [T1] vals h := H
      simp only [src34] at H
      obtain ⟨s0, rr, rfl, H1⟩ := tS_elim H
      obtain ⟨del1, rr, rfl, H2⟩ := tV_elim H1
      obtain ⟨i5, rr, rfl, H3⟩ := tI_elim H2
      obtain ⟨j6, rr, rfl, H4⟩ := tI_elim H3
      obtain ⟨rfl, H5⟩ := tN_elim H4
      exact cast (by kernel_rfl) H5


noncomputable def c35 : Code := Try.f35.body.getD .skip
def A35 : Ann := (.seq .leaf (.seq .leaf .leaf))
def src35 (_ : Value → Hp → Prop) : Src := fun _ _ _ _ => False
theorem ok35 : SpecOk Try.prog 35 (Tx.lru_Cache_Pinned_1_S ρ) := by
  refine spec_ok (c := c35) agree specsOk_nil specsOk_nil mixed Try.func35 (by kernel_rfl) (by kernel_rfl) A35 (by kernel_rfl) (src35) ?_ ?_
  · intro args h K H
    unfold Tx.lru_Cache_Pinned_1_S at H
    obtain ⟨item0, rr, rfl, H1⟩ := tI_elim H
    obtain ⟨v1, rr, rfl, H2⟩ := tA_elim H1
    obtain ⟨rfl, H3⟩ := tN_elim H2
    exact ⟨ble_le (by kernel_rfl), cast (by kernel_rfl) H3⟩
  · intro K k inner vals h hk hin H
    exact H.elim


theorem ok36 : SpecOk Try.prog 36 (Tx.slices_Sort_int_int_S ρ) := sort_int_ok (P := Try.prog) (R := Try.lays189_ren) Try.lays189 ⟨_, Try.func36, by kernel_rfl, by kernel_rfl⟩


noncomputable def c18 : Code := Try.f18.body.getD .skip
def A18 : Ann := (.seq .leaf (.seq .leaf (.seq .leaf (.seq .leaf .leaf))))
def src18 (_ : Value → Hp → Prop) : Src := fun _ _ _ _ => False
theorem ok18 : SpecOk Try.prog 18 (Tx.lru_Cache_Pinned_S ρ) := by
  refine spec_ok (c := c18) agree (specsOk_cons ok36 (specsOk_cons (ok34 _ (specsOk_cons ok35 specsOk_nil)) (specsOk_cons ok24 specsOk_nil))) specsOk_nil mixed Try.func18 (by kernel_rfl) (by kernel_rfl) A18 (by kernel_rfl) (src18) ?_ ?_
  · intro args h K H
    unfold Tx.lru_Cache_Pinned_S at H
    obtain ⟨c0, rr, rfl, H1⟩ := tP_elim H
    obtain ⟨rfl, H2⟩ := tN_elim H1
    exact ⟨ble_le (by kernel_rfl), cast (by kernel_rfl) H2⟩
  · intro K k inner vals h hk hin H
    exact H.elim


noncomputable def c4 : Code := Try.f4.body.getD .skip
def A4 : Ann := (.seq .leaf (.seq .leaf (.seq .leaf (.seq (.join 1 [1, 5, 6, 34] .leaf (.cond (.seq .leaf .leaf) .leaf)) (.seq .leaf (.seq .leaf (.seq (.seq .leaf (.block (.loop 2 [5, 6, 8, 9, 38, 39, 40] (.seq .leaf (.seq (.cond .leaf .leaf) (.seq (.block (.seq .leaf (.seq .leaf (.join 6 [5, 6, 8, 9, 38, 39, 40] (.seq .leaf (.block (.seq .leaf (.cond (.seq .leaf (.join 3 [5, 6, 8, 9, 38, 39, 40, 84] .leaf (.cond (.seq .leaf .leaf) .leaf))) (.seq .leaf (.cond (.seq .leaf .leaf) (.seq .leaf (.cond (.seq (.seq .leaf (.seq .leaf (.cond (.seq .leaf .leaf) .leaf))) .leaf) (.seq .leaf (.cond (.seq .leaf .leaf) (.seq .leaf .leaf))))))))))) (.seq .leaf (.seq (.seq .leaf (.cond (.seq .leaf .leaf) .leaf)) (.seq .leaf (.block (.loop 4 [5, 6, 8, 9, 17, 38, 39, 40, 129, 130, 131] (.seq .leaf (.seq (.cond .leaf .leaf) (.seq (.block (.seq .leaf (.join 5 [5, 6, 8, 9, 17, 38, 39, 40, 129, 130, 131, 158] .leaf (.cond (.seq .leaf .leaf) .leaf)))) .leaf)))))))))))) .leaf)))))) (.seq .leaf .leaf))))))))
def src4 (K : Value → Hp → Prop) : Src
  | 1, [], vals, h => (tS fun l1 => tI .i64 fun n5 => tP fun c6 => tB fun v34 => tN (Tx.carlinglaw15_LruHolds_K1 ρ  (fun r0 h => K (.bool r0) h) l1 n5 c6 v34 h)) vals
  | 2, [T2], vals, h => (tI .i64 fun n5 => tP fun c6 => tM fun last8 => tM fun pins9 => tS fun v38 => tI .i64 fun v39 => tI .i64 fun v40 => tN (Tx.carlinglaw15_LruHolds_B2 ρ (fun n5 c6 last8 pins9 v38 v39 v40 hh => T2 [(.int .i64 n5), (.pointer c6), (.map last8), (.map pins9), (.slice v38.a v38.len v38.cap), (.int .i64 v39), (.int .i64 v40)] hh) (fun r0 h => K (.bool r0) h) n5 c6 last8 pins9 v38 v39 v40 h)) vals
  | 3, [T2], vals, h => (tI .i64 fun n5 => tP fun c6 => tM fun last8 => tM fun pins9 => tS fun v38 => tI .i64 fun v39 => tI .i64 fun v40 => tB fun v84 => tN (Tx.carlinglaw15_LruHolds_K3 ρ (fun n5 c6 last8 pins9 v38 v39 v40 hh => T2 [(.int .i64 n5), (.pointer c6), (.map last8), (.map pins9), (.slice v38.a v38.len v38.cap), (.int .i64 v39), (.int .i64 v40)] hh) (fun r0 h => K (.bool r0) h) n5 c6 last8 pins9 v38 v39 v40 v84 h)) vals
  | 4, [T4, T2], vals, h => (tI .i64 fun n5 => tP fun c6 => tM fun last8 => tM fun pins9 => tS fun pinned17 => tS fun v38 => tI .i64 fun v39 => tI .i64 fun v40 => tS fun v129 => tI .i64 fun v130 => tI .i64 fun v131 => tN (Tx.carlinglaw15_LruHolds_B4 ρ (fun n5 c6 last8 pins9 v38 v39 v40 hh => T2 [(.int .i64 n5), (.pointer c6), (.map last8), (.map pins9), (.slice v38.a v38.len v38.cap), (.int .i64 v39), (.int .i64 v40)] hh) (fun n5 c6 last8 pins9 pinned17 v38 v39 v40 v129 v130 v131 hh => T4 [(.int .i64 n5), (.pointer c6), (.map last8), (.map pins9), (.slice pinned17.a pinned17.len pinned17.cap), (.slice v38.a v38.len v38.cap), (.int .i64 v39), (.int .i64 v40), (.slice v129.a v129.len v129.cap), (.int .i64 v130), (.int .i64 v131)] hh) (fun r0 h => K (.bool r0) h) n5 c6 last8 pins9 pinned17 v38 v39 v40 v129 v130 v131 h)) vals
  | 5, [T4, T2], vals, h => (tI .i64 fun n5 => tP fun c6 => tM fun last8 => tM fun pins9 => tS fun pinned17 => tS fun v38 => tI .i64 fun v39 => tI .i64 fun v40 => tS fun v129 => tI .i64 fun v130 => tI .i64 fun v131 => tB fun v158 => tN (Tx.carlinglaw15_LruHolds_K5 ρ (fun n5 c6 last8 pins9 v38 v39 v40 hh => T2 [(.int .i64 n5), (.pointer c6), (.map last8), (.map pins9), (.slice v38.a v38.len v38.cap), (.int .i64 v39), (.int .i64 v40)] hh) (fun n5 c6 last8 pins9 pinned17 v38 v39 v40 v129 v130 v131 hh => T4 [(.int .i64 n5), (.pointer c6), (.map last8), (.map pins9), (.slice pinned17.a pinned17.len pinned17.cap), (.slice v38.a v38.len v38.cap), (.int .i64 v39), (.int .i64 v40), (.slice v129.a v129.len v129.cap), (.int .i64 v130), (.int .i64 v131)] hh) (fun r0 h => K (.bool r0) h) n5 c6 last8 pins9 pinned17 v38 v39 v40 v129 v130 v131 v158 h)) vals
  | 6, [T2], vals, h => (tI .i64 fun n5 => tP fun c6 => tM fun last8 => tM fun pins9 => tS fun v38 => tI .i64 fun v39 => tI .i64 fun v40 => tN (Tx.carlinglaw15_LruHolds_K6 ρ (fun n5 c6 last8 pins9 v38 v39 v40 hh => T2 [(.int .i64 n5), (.pointer c6), (.map last8), (.map pins9), (.slice v38.a v38.len v38.cap), (.int .i64 v39), (.int .i64 v40)] hh) (fun r0 h => K (.bool r0) h) n5 c6 last8 pins9 v38 v39 v40 h)) vals
  | _, _, _, _ => False
theorem ok4 : SpecOk Try.prog 4 (Tx.carlinglaw15_LruHolds_S ρ) := by
  refine spec_ok (c := c4) agree (specsOk_cons ok18 (specsOk_cons ok17 (specsOk_cons ok16 (specsOk_cons ok15 (specsOk_cons ok14 (specsOk_cons ok13 (specsOk_cons ok12 (specsOk_cons ok11 (specsOk_cons ok10 (specsOk_cons ok9 (specsOk_cons ok8 (specsOk_cons ok7 specsOk_nil)))))))))))) specsOk_nil mixed Try.func4 (by kernel_rfl) (by kernel_rfl) A4 (by kernel_rfl) (src4) ?_ ?_
  · intro args h K H
    unfold Tx.carlinglaw15_LruHolds_S at H
    obtain ⟨room0, rr, rfl, H1⟩ := tI_elim H
    obtain ⟨l1, rr, rfl, H2⟩ := tS_elim H1
    obtain ⟨rfl, H3⟩ := tN_elim H2
    exact ⟨ble_le (by kernel_rfl), cast (by kernel_rfl) H3⟩
  · intro K k inner vals h hk hin H
    rw [show pts A4 = [1, 2, 6, 3, 4, 5] from by kernel_rfl] at hk
    simp only [List.mem_cons, List.not_mem_nil, or_false] at hk
    rcases hk with rfl | rfl | rfl | rfl | rfl | rfl
    · rw [show depth 1 A4 = 0 from by kernel_rfl] at hin
      obtain rfl := len0 hin
      have H : src4 K 1 [] vals h := H
      simp only [src4] at H
      obtain ⟨l1, rr, rfl, H1⟩ := tS_elim H
      obtain ⟨n5, rr, rfl, H2⟩ := tI_elim H1
      obtain ⟨c6, rr, rfl, H3⟩ := tP_elim H2
      obtain ⟨v34, rr, rfl, H4⟩ := tB_elim H3
      obtain ⟨rfl, H5⟩ := tN_elim H4
      exact cast (by kernel_rfl) H5
    · rw [show depth 2 A4 = 1 from by kernel_rfl] at hin
      obtain ⟨T2, rfl⟩ := len1 hin
      have H : src4 K 2 [T2] vals h := H
      simp only [src4] at H
      obtain ⟨n5, rr, rfl, H1⟩ := tI_elim H
      obtain ⟨c6, rr, rfl, H2⟩ := tP_elim H1
      obtain ⟨last8, rr, rfl, H3⟩ := tM_elim H2
      obtain ⟨pins9, rr, rfl, H4⟩ := tM_elim H3
      obtain ⟨v38, rr, rfl, H5⟩ := tS_elim H4
      obtain ⟨v39, rr, rfl, H6⟩ := tI_elim H5
      obtain ⟨v40, rr, rfl, H7⟩ := tI_elim H6
      obtain ⟨rfl, H8⟩ := tN_elim H7
      exact cast (by kernel_rfl) H8
    · rw [show depth 6 A4 = 1 from by kernel_rfl] at hin
      obtain ⟨T2, rfl⟩ := len1 hin
      have H : src4 K 6 [T2] vals h := H
      simp only [src4] at H
      obtain ⟨n5, rr, rfl, H1⟩ := tI_elim H
      obtain ⟨c6, rr, rfl, H2⟩ := tP_elim H1
      obtain ⟨last8, rr, rfl, H3⟩ := tM_elim H2
      obtain ⟨pins9, rr, rfl, H4⟩ := tM_elim H3
      obtain ⟨v38, rr, rfl, H5⟩ := tS_elim H4
      obtain ⟨v39, rr, rfl, H6⟩ := tI_elim H5
      obtain ⟨v40, rr, rfl, H7⟩ := tI_elim H6
      obtain ⟨rfl, H8⟩ := tN_elim H7
      exact cast (by kernel_rfl) H8
    · rw [show depth 3 A4 = 1 from by kernel_rfl] at hin
      obtain ⟨T2, rfl⟩ := len1 hin
      have H : src4 K 3 [T2] vals h := H
      simp only [src4] at H
      obtain ⟨n5, rr, rfl, H1⟩ := tI_elim H
      obtain ⟨c6, rr, rfl, H2⟩ := tP_elim H1
      obtain ⟨last8, rr, rfl, H3⟩ := tM_elim H2
      obtain ⟨pins9, rr, rfl, H4⟩ := tM_elim H3
      obtain ⟨v38, rr, rfl, H5⟩ := tS_elim H4
      obtain ⟨v39, rr, rfl, H6⟩ := tI_elim H5
      obtain ⟨v40, rr, rfl, H7⟩ := tI_elim H6
      obtain ⟨v84, rr, rfl, H8⟩ := tB_elim H7
      obtain ⟨rfl, H9⟩ := tN_elim H8
      exact cast (by kernel_rfl) H9
    · rw [show depth 4 A4 = 2 from by kernel_rfl] at hin
      obtain ⟨T2, T4, rfl⟩ := len2 hin
      have H : src4 K 4 [T4, T2] vals h := H
      simp only [src4] at H
      obtain ⟨n5, rr, rfl, H1⟩ := tI_elim H
      obtain ⟨c6, rr, rfl, H2⟩ := tP_elim H1
      obtain ⟨last8, rr, rfl, H3⟩ := tM_elim H2
      obtain ⟨pins9, rr, rfl, H4⟩ := tM_elim H3
      obtain ⟨pinned17, rr, rfl, H5⟩ := tS_elim H4
      obtain ⟨v38, rr, rfl, H6⟩ := tS_elim H5
      obtain ⟨v39, rr, rfl, H7⟩ := tI_elim H6
      obtain ⟨v40, rr, rfl, H8⟩ := tI_elim H7
      obtain ⟨v129, rr, rfl, H9⟩ := tS_elim H8
      obtain ⟨v130, rr, rfl, H10⟩ := tI_elim H9
      obtain ⟨v131, rr, rfl, H11⟩ := tI_elim H10
      obtain ⟨rfl, H12⟩ := tN_elim H11
      exact cast (by kernel_rfl) H12
    · rw [show depth 5 A4 = 2 from by kernel_rfl] at hin
      obtain ⟨T2, T4, rfl⟩ := len2 hin
      have H : src4 K 5 [T4, T2] vals h := H
      simp only [src4] at H
      obtain ⟨n5, rr, rfl, H1⟩ := tI_elim H
      obtain ⟨c6, rr, rfl, H2⟩ := tP_elim H1
      obtain ⟨last8, rr, rfl, H3⟩ := tM_elim H2
      obtain ⟨pins9, rr, rfl, H4⟩ := tM_elim H3
      obtain ⟨pinned17, rr, rfl, H5⟩ := tS_elim H4
      obtain ⟨v38, rr, rfl, H6⟩ := tS_elim H5
      obtain ⟨v39, rr, rfl, H7⟩ := tI_elim H6
      obtain ⟨v40, rr, rfl, H8⟩ := tI_elim H7
      obtain ⟨v129, rr, rfl, H9⟩ := tS_elim H8
      obtain ⟨v130, rr, rfl, H10⟩ := tI_elim H9
      obtain ⟨v131, rr, rfl, H11⟩ := tI_elim H10
      obtain ⟨v158, rr, rfl, H12⟩ := tB_elim H11
      obtain ⟨rfl, H13⟩ := tN_elim H12
      exact cast (by kernel_rfl) H13


noncomputable def c26 : Code := Try.f26.body.getD .skip
def A26 : Ann := (.seq .leaf (.seq (.seq .leaf (.block (.loop 1 [0, 1, 5] (.seq (.seq .leaf (.cond .leaf .leaf)) (.seq (.block (.seq .leaf (.cond (.seq .leaf .leaf) .leaf))) .leaf))))) (.seq .leaf .leaf)))
def src26 (K : Value → Hp → Prop) : Src
  | 1, [T1], vals, h => (tP fun c0 => tI .i64 fun item1 => tI .i64 fun i5 => tN (Tx.carlingref15_Cache_Find_B1 ρ (fun c0 item1 i5 hh => T1 [(.pointer c0), (.int .i64 item1), (.int .i64 i5)] hh) (fun r0 h => K (.int .i64 r0) h) c0 item1 i5 h)) vals
  | _, _, _, _ => False
theorem ok26 : SpecOk Try.prog 26 (Tx.carlingref15_Cache_Find_S ρ) := by
  refine spec_ok (c := c26) agree specsOk_nil specsOk_nil mixed Try.func26 (by kernel_rfl) (by kernel_rfl) A26 (by kernel_rfl) (src26) ?_ ?_
  · intro args h K H
    unfold Tx.carlingref15_Cache_Find_S at H
    obtain ⟨c0, rr, rfl, H1⟩ := tP_elim H
    obtain ⟨item1, rr, rfl, H2⟩ := tI_elim H1
    obtain ⟨rfl, H3⟩ := tN_elim H2
    exact ⟨ble_le (by kernel_rfl), cast (by kernel_rfl) H3⟩
  · intro K k inner vals h hk hin H
    rw [show pts A26 = [1] from by kernel_rfl] at hk
    simp only [List.mem_cons, List.not_mem_nil, or_false] at hk
    rcases hk with rfl
    · rw [show depth 1 A26 = 1 from by kernel_rfl] at hin
      obtain ⟨T1, rfl⟩ := len1 hin
      have H : src26 K 1 [T1] vals h := H
      simp only [src26] at H
      obtain ⟨c0, rr, rfl, H1⟩ := tP_elim H
      obtain ⟨item1, rr, rfl, H2⟩ := tI_elim H1
      obtain ⟨i5, rr, rfl, H3⟩ := tI_elim H2
      obtain ⟨rfl, H4⟩ := tN_elim H3
      exact cast (by kernel_rfl) H4


noncomputable def c40 : Code := Try.f40.body.getD .skip
def A40 : Ann := (.seq .leaf (.seq (.plan (.take 0 [6, 14] (.take 1 [6, 14] (.take 2 [6, 14] (.take 3 [6, 14] (.take 4 [6, 14] (.take 5 [6, 14] (.take 7 [14] (.take 8 [14] (.take 9 [14] (.take 10 [14] (.take 11 [14] (.take 12 [14] (.take 13 [14] (.all (.alt 6 (.all (.alt 14 (.take 15 [] .done) .nil)) .nil)))))))))))))))) .leaf))
def src40 (_ : Value → Hp → Prop) : Src := fun _ _ _ _ => False
theorem ok40 : SpecOk Try.prog 40 (Tx.carlingref15_Cache_without_S ρ) := by
  refine spec_ok (c := c40) agree specsOk_nil specsOk_nil mixed Try.func40 (by kernel_rfl) (by kernel_rfl) A40 (by kernel_rfl) (src40) ?_ ?_
  · intro args h K H
    unfold Tx.carlingref15_Cache_without_S at H
    obtain ⟨c0, rr, rfl, H1⟩ := tP_elim H
    obtain ⟨at1, rr, rfl, H2⟩ := tI_elim H1
    obtain ⟨rfl, H3⟩ := tN_elim H2
    exact ⟨ble_le (by kernel_rfl), cast (by kernel_rfl) H3⟩
  · intro K k inner vals h hk hin H
    exact H.elim


noncomputable def c37 : Code := Try.f37.body.getD .skip
def A37 : Ann := (.seq .leaf (.join 1 [0, 3] (.seq .leaf (.seq .leaf (.cond .leaf .leaf))) (.plan (.take 0 [10] (.take 1 [2, 7, 10] (.take 3 [7, 10] (.take 4 [7, 10] (.take 5 [7, 10] (.take 6 [7, 10] (.all (.alt 2 (.all (.alt 7 (.take 8 [10] (.take 9 [10] (.all (.alt 10 .done .nil)))) .nil)) .nil)))))))))))
def src37 (K : Value → Hp → Prop) : Src
  | 1, [], vals, h => (tP fun c0 => tA fun h3 => tN (Tx.carlingref15_Cache_first_K1 ρ  (fun h => K (.tuple [].toArray) h) c0 h3 h)) vals
  | _, _, _, _ => False
theorem ok37 : SpecOk Try.prog 37 (Tx.carlingref15_Cache_first_S ρ) := by
  refine spec_ok (c := c37) agree (specsOk_cons ok40 (specsOk_cons ok26 specsOk_nil)) specsOk_nil mixed Try.func37 (by kernel_rfl) (by kernel_rfl) A37 (by kernel_rfl) (src37) ?_ ?_
  · intro args h K H
    unfold Tx.carlingref15_Cache_first_S at H
    obtain ⟨c0, rr, rfl, H1⟩ := tP_elim H
    obtain ⟨cc1, rr1, rfl, H2⟩ := tG_elim H1
    obtain ⟨h1_0, qq, rfl, H3⟩ := tI_elim H2
    obtain ⟨h1_1, qq, rfl, H4⟩ := tS_elim H3
    obtain ⟨h1_2, qq, rfl, H5⟩ := tB_elim H4
    obtain ⟨rfl, H6⟩ := tN_elim H5
    obtain ⟨rfl, H7⟩ := tN_elim H6
    exact ⟨ble_le (by kernel_rfl), cast (by kernel_rfl) H7⟩
  · intro K k inner vals h hk hin H
    rw [show pts A37 = [1] from by kernel_rfl] at hk
    simp only [List.mem_cons, List.not_mem_nil, or_false] at hk
    rcases hk with rfl
    · rw [show depth 1 A37 = 0 from by kernel_rfl] at hin
      obtain rfl := len0 hin
      have H : src37 K 1 [] vals h := H
      simp only [src37] at H
      obtain ⟨c0, rr, rfl, H1⟩ := tP_elim H
      obtain ⟨h3, rr, rfl, H2⟩ := tA_elim H1
      obtain ⟨rfl, H3⟩ := tN_elim H2
      exact cast (by kernel_rfl) H3


noncomputable def c19 : Code := Try.f19.body.getD .skip
def A19 : Ann := (.seq .leaf (.seq .leaf (.seq (.seq .leaf (.cond (.seq .leaf .leaf) .leaf)) (.seq .leaf (.seq .leaf (.seq .leaf .leaf))))))
def src19 (_ : Value → Hp → Prop) : Src := fun _ _ _ _ => False
theorem ok19 : SpecOk Try.prog 19 (Tx.carlingref15_Cache_Get_S ρ) := by
  refine spec_ok (c := c19) agree (specsOk_cons ok37 (specsOk_cons ok26 specsOk_nil)) specsOk_nil mixed Try.func19 (by kernel_rfl) (by kernel_rfl) A19 (by kernel_rfl) (src19) ?_ ?_
  · intro args h K H
    unfold Tx.carlingref15_Cache_Get_S at H
    obtain ⟨c0, rr, rfl, H1⟩ := tP_elim H
    obtain ⟨item1, rr, rfl, H2⟩ := tI_elim H1
    obtain ⟨rfl, H3⟩ := tN_elim H2
    exact ⟨ble_le (by kernel_rfl), cast (by kernel_rfl) H3⟩
  · intro K k inner vals h hk hin H
    exact H.elim


noncomputable def c38 : Code := Try.f38.body.getD .skip
def A38 : Ann := (.seq .leaf (.seq .leaf .leaf))
def src38 (_ : Value → Hp → Prop) : Src := fun _ _ _ _ => False
theorem ok38 : SpecOk Try.prog 38 (Tx.carlingref15_is_S ρ) := by
  refine spec_ok (c := c38) agree specsOk_nil specsOk_nil mixed Try.func38 (by kernel_rfl) (by kernel_rfl) A38 (by kernel_rfl) (src38) ?_ ?_
  · intro args h K H
    unfold Tx.carlingref15_is_S at H
    obtain ⟨item0, rr, rfl, H1⟩ := tI_elim H
    obtain ⟨rfl, H2⟩ := tN_elim H1
    exact ⟨ble_le (by kernel_rfl), cast (by kernel_rfl) H2⟩
  · intro K k inner vals h hk hin H
    exact H.elim


noncomputable def c20 : Code := Try.f20.body.getD .skip
def A20 : Ann := (.seq .leaf (.seq (.seq .leaf (.cond (.seq .leaf .leaf) .leaf)) (.seq .leaf (.seq .leaf .leaf))))
def src20 (_ : Value → Hp → Prop) : Src := fun _ _ _ _ => False
theorem ok20 : SpecOk Try.prog 20 (Tx.carlingref15_Cache_Pin_S ρ) := by
  refine spec_ok (c := c20) agree (specsOk_cons ok38 (specsOk_cons ok37 specsOk_nil)) specsOk_nil mixed Try.func20 (by kernel_rfl) (by kernel_rfl) A20 (by kernel_rfl) (src20) ?_ ?_
  · intro args h K H
    unfold Tx.carlingref15_Cache_Pin_S at H
    obtain ⟨c0, rr, rfl, H1⟩ := tP_elim H
    obtain ⟨item1, rr, rfl, H2⟩ := tI_elim H1
    obtain ⟨page2, rr, rfl, H3⟩ := tS_elim H2
    obtain ⟨rfl, H4⟩ := tN_elim H3
    exact ⟨ble_le (by kernel_rfl), cast (by kernel_rfl) H4⟩
  · intro K k inner vals h hk hin H
    exact H.elim


noncomputable def c39 : Code := Try.f39.body.getD .skip
def A39 : Ann := (.seq .leaf (.seq .leaf (.seq (.seq .leaf (.block (.loop 1 [0, 3, 4, 5] (.seq (.seq .leaf (.cond .leaf .leaf)) (.join 2 [0, 3, 4, 5] (.block (.seq .leaf (.cond (.seq .leaf .leaf) .leaf))) .leaf))))) (.seq (.seq .leaf (.cond (.seq .leaf .leaf) .leaf)) (.seq .leaf (.seq .leaf (.seq .leaf .leaf)))))))
def src39 (K : Value → Hp → Prop) : Src
  | 1, [T1], vals, h => (tP fun c0 => tI .i64 fun n3 => tI .i64 fun last4 => tI .i64 fun i5 => tN (Tx.carlingref15_Cache_fit_B1 ρ (fun c0 n3 last4 i5 hh => T1 [(.pointer c0), (.int .i64 n3), (.int .i64 last4), (.int .i64 i5)] hh) (fun r0 h => K (.int .i64 r0) h) c0 n3 last4 i5 h)) vals
  | 2, [T1], vals, h => (tP fun c0 => tI .i64 fun n3 => tI .i64 fun last4 => tI .i64 fun i5 => tN (Tx.carlingref15_Cache_fit_K2 ρ (fun c0 n3 last4 i5 hh => T1 [(.pointer c0), (.int .i64 n3), (.int .i64 last4), (.int .i64 i5)] hh) (fun r0 h => K (.int .i64 r0) h) c0 n3 last4 i5 h)) vals
  | _, _, _, _ => False
theorem ok39 : SpecOk Try.prog 39 (Tx.carlingref15_Cache_fit_S ρ) := by
  refine spec_ok (c := c39) agree (specsOk_cons ok40 specsOk_nil) specsOk_nil mixed Try.func39 (by kernel_rfl) (by kernel_rfl) A39 (by kernel_rfl) (src39) ?_ ?_
  · intro args h K H
    unfold Tx.carlingref15_Cache_fit_S at H
    obtain ⟨c0, rr, rfl, H1⟩ := tP_elim H
    obtain ⟨rfl, H2⟩ := tN_elim H1
    exact ⟨ble_le (by kernel_rfl), cast (by kernel_rfl) H2⟩
  · intro K k inner vals h hk hin H
    rw [show pts A39 = [1, 2] from by kernel_rfl] at hk
    simp only [List.mem_cons, List.not_mem_nil, or_false] at hk
    rcases hk with rfl | rfl
    · rw [show depth 1 A39 = 1 from by kernel_rfl] at hin
      obtain ⟨T1, rfl⟩ := len1 hin
      have H : src39 K 1 [T1] vals h := H
      simp only [src39] at H
      obtain ⟨c0, rr, rfl, H1⟩ := tP_elim H
      obtain ⟨n3, rr, rfl, H2⟩ := tI_elim H1
      obtain ⟨last4, rr, rfl, H3⟩ := tI_elim H2
      obtain ⟨i5, rr, rfl, H4⟩ := tI_elim H3
      obtain ⟨rfl, H5⟩ := tN_elim H4
      exact cast (by kernel_rfl) H5
    · rw [show depth 2 A39 = 1 from by kernel_rfl] at hin
      obtain ⟨T1, rfl⟩ := len1 hin
      have H : src39 K 2 [T1] vals h := H
      simp only [src39] at H
      obtain ⟨c0, rr, rfl, H1⟩ := tP_elim H
      obtain ⟨n3, rr, rfl, H2⟩ := tI_elim H1
      obtain ⟨last4, rr, rfl, H3⟩ := tI_elim H2
      obtain ⟨i5, rr, rfl, H4⟩ := tI_elim H3
      obtain ⟨rfl, H5⟩ := tN_elim H4
      exact cast (by kernel_rfl) H5


noncomputable def c21 : Code := Try.f21.body.getD .skip
def A21 : Ann := (.seq .leaf (.seq .leaf (.seq (.join 1 [0, 6, 23] .leaf (.cond (.seq .leaf .leaf) .leaf)) (.seq .leaf (.seq .leaf (.seq .leaf (.seq .leaf .leaf)))))))
def src21 (K : Value → Hp → Prop) : Src
  | 1, [], vals, h => (tP fun c0 => tI .i64 fun at6 => tB fun v23 => tN (Tx.carlingref15_Cache_Unpin_K1 ρ  (fun r0 r1 h => K (.tuple [(.int .i64 r0), (.bool r1)].toArray) h) c0 at6 v23 h)) vals
  | _, _, _, _ => False
theorem ok21 : SpecOk Try.prog 21 (Tx.carlingref15_Cache_Unpin_S ρ) := by
  refine spec_ok (c := c21) agree (specsOk_cons ok39 (specsOk_cons ok37 (specsOk_cons ok26 specsOk_nil))) specsOk_nil mixed Try.func21 (by kernel_rfl) (by kernel_rfl) A21 (by kernel_rfl) (src21) ?_ ?_
  · intro args h K H
    unfold Tx.carlingref15_Cache_Unpin_S at H
    obtain ⟨c0, rr, rfl, H1⟩ := tP_elim H
    obtain ⟨item1, rr, rfl, H2⟩ := tI_elim H1
    obtain ⟨rfl, H3⟩ := tN_elim H2
    exact ⟨ble_le (by kernel_rfl), cast (by kernel_rfl) H3⟩
  · intro K k inner vals h hk hin H
    rw [show pts A21 = [1] from by kernel_rfl] at hk
    simp only [List.mem_cons, List.not_mem_nil, or_false] at hk
    rcases hk with rfl
    · rw [show depth 1 A21 = 0 from by kernel_rfl] at hin
      obtain rfl := len0 hin
      have H : src21 K 1 [] vals h := H
      simp only [src21] at H
      obtain ⟨c0, rr, rfl, H1⟩ := tP_elim H
      obtain ⟨at6, rr, rfl, H2⟩ := tI_elim H1
      obtain ⟨v23, rr, rfl, H3⟩ := tB_elim H2
      obtain ⟨rfl, H4⟩ := tN_elim H3
      exact cast (by kernel_rfl) H4


noncomputable def c22 : Code := Try.f22.body.getD .skip
def A22 : Ann := (.seq .leaf (.seq .leaf (.seq (.seq .leaf (.cond (.seq .leaf .leaf) .leaf)) (.seq .leaf (.seq .leaf .leaf)))))
def src22 (_ : Value → Hp → Prop) : Src := fun _ _ _ _ => False
theorem ok22 : SpecOk Try.prog 22 (Tx.carlingref15_Cache_Drop_S ρ) := by
  refine spec_ok (c := c22) agree (specsOk_cons ok40 (specsOk_cons ok26 specsOk_nil)) specsOk_nil mixed Try.func22 (by kernel_rfl) (by kernel_rfl) A22 (by kernel_rfl) (src22) ?_ ?_
  · intro args h K H
    unfold Tx.carlingref15_Cache_Drop_S at H
    obtain ⟨c0, rr, rfl, H1⟩ := tP_elim H
    obtain ⟨item1, rr, rfl, H2⟩ := tI_elim H1
    obtain ⟨rfl, H3⟩ := tN_elim H2
    exact ⟨ble_le (by kernel_rfl), cast (by kernel_rfl) H3⟩
  · intro K k inner vals h hk hin H
    exact H.elim


noncomputable def c23 : Code := Try.f23.body.getD .skip
def A23 : Ann := (.seq .leaf (.seq (.seq .leaf (.cond (.seq .leaf .leaf) .leaf)) (.seq .leaf (.join 1 [0] .leaf (.seq .leaf .leaf)))))
def src23 (K : Value → Hp → Prop) : Src
  | 1, [], vals, h => (tP fun c0 => tN (Tx.carlingref15_Cache_Put_K1 ρ  (fun r0 r1 h => K (.tuple [(.int .i64 r0), (.int .i64 r1)].toArray) h) c0 h)) vals
  | _, _, _, _ => False
theorem ok23 : SpecOk Try.prog 23 (Tx.carlingref15_Cache_Put_S ρ) := by
  refine spec_ok (c := c23) agree (specsOk_cons ok39 (specsOk_cons ok38 (specsOk_cons ok37 (specsOk_cons ok26 specsOk_nil)))) specsOk_nil mixed Try.func23 (by kernel_rfl) (by kernel_rfl) A23 (by kernel_rfl) (src23) ?_ ?_
  · intro args h K H
    unfold Tx.carlingref15_Cache_Put_S at H
    obtain ⟨c0, rr, rfl, H1⟩ := tP_elim H
    obtain ⟨item1, rr, rfl, H2⟩ := tI_elim H1
    obtain ⟨page2, rr, rfl, H3⟩ := tS_elim H2
    obtain ⟨rfl, H4⟩ := tN_elim H3
    exact ⟨ble_le (by kernel_rfl), cast (by kernel_rfl) H4⟩
  · intro K k inner vals h hk hin H
    rw [show pts A23 = [1] from by kernel_rfl] at hk
    simp only [List.mem_cons, List.not_mem_nil, or_false] at hk
    rcases hk with rfl
    · rw [show depth 1 A23 = 0 from by kernel_rfl] at hin
      obtain rfl := len0 hin
      have H : src23 K 1 [] vals h := H
      simp only [src23] at H
      obtain ⟨c0, rr, rfl, H1⟩ := tP_elim H
      obtain ⟨rfl, H2⟩ := tN_elim H1
      exact cast (by kernel_rfl) H2


noncomputable def c25 : Code := Try.f25.body.getD .skip
def A25 : Ann := (.seq .leaf (.seq (.seq .leaf (.cond (.seq .leaf .leaf) .leaf)) (.seq .leaf .leaf)))
def src25 (_ : Value → Hp → Prop) : Src := fun _ _ _ _ => False
theorem ok25 : SpecOk Try.prog 25 (Tx.lru_Cache_Room_S ρ) := by
  refine spec_ok (c := c25) agree (specsOk_cons ok27 specsOk_nil) specsOk_nil mixed Try.func25 (by kernel_rfl) (by kernel_rfl) A25 (by kernel_rfl) (src25) ?_ ?_
  · intro args h K H
    unfold Tx.lru_Cache_Room_S at H
    obtain ⟨c0, rr, rfl, H1⟩ := tP_elim H
    obtain ⟨rfl, H2⟩ := tN_elim H1
    exact ⟨ble_le (by kernel_rfl), cast (by kernel_rfl) H2⟩
  · intro K k inner vals h hk hin H
    exact H.elim


noncomputable def c5 : Code := Try.f5.body.getD .skip
def A5 : Ann := (.seq .leaf (.seq .leaf (.seq (.join 2 [0, 1, 5, 6, 7] .leaf (.join 1 [0, 1, 5, 6, 7, 44] .leaf (.cond (.seq .leaf .leaf) .leaf))) (.seq .leaf (.seq (.seq .leaf (.block (.loop 3 [0, 5, 8, 61, 62, 63] (.seq .leaf (.seq (.cond .leaf .leaf) (.seq (.block (.seq .leaf (.seq .leaf (.join 7 [0, 5, 8, 10, 11, 61, 62, 63] (.seq .leaf (.block (.seq .leaf (.cond (.seq .leaf (.seq .leaf .leaf)) (.seq .leaf (.cond (.plan (.take 0 [5, 10] (.take 1 [5, 10] (.take 2 [5, 10] (.take 3 [5, 10] (.take 4 [5, 10] (.take 6 [10] (.take 7 [10] (.take 8 [10] (.take 9 [10] (.all (.alt 5 (.all (.alt 10 (.take 11 [] (.take 12 [] .done)) .nil)) .nil)))))))))))) (.seq .leaf (.cond (.seq .leaf (.seq .leaf .leaf)) (.seq .leaf (.cond (.plan (.take 0 [3, 6] (.take 1 [3, 6] (.take 2 [3, 6] (.take 4 [6] (.take 5 [6] (.all (.alt 3 (.all (.alt 6 (.take 7 [] (.take 8 [] .done)) .nil)) .nil)))))))) (.seq .leaf (.seq .leaf .leaf)))))))))))) (.seq .leaf (.seq (.join 4 [0, 5, 8, 24, 61, 62, 63, 201] (.plan (.take 0 [12, 20, 28, 31] (.take 1 [12, 20, 28, 31] (.take 2 [12, 20, 28, 31] (.take 3 [12, 20, 28, 31] (.take 4 [12, 20, 28, 31] (.take 5 [12, 20, 28, 31] (.take 6 [12, 20, 28, 31] (.take 7 [12, 20, 28, 31] (.take 8 [12, 20, 28, 31] (.take 9 [12, 20, 28, 31] (.take 10 [12, 20, 28, 31] (.take 11 [12, 20, 28, 31] (.take 13 [20, 28, 31] (.take 14 [20, 28, 31] (.take 15 [20, 28, 31] (.all (.alt 12 (.take 16 [20, 28, 31] (.take 17 [20, 28, 31] (.take 18 [20, 28, 31] (.take 19 [20, 28, 31] (.take 21 [28, 31] (.all (.alt 20 (.take 22 [28, 31] (.take 23 [28, 31] (.take 24 [28, 31] (.take 25 [28, 31] (.take 26 [28, 31] (.take 27 [28, 31] (.take 29 [31] (.take 30 [31] (.all (.alt 28 (.all (.alt 31 (.take 32 [] (.take 33 [] (.take 34 [] .done))) .nil)) .nil)))))))))) .nil))))))) .nil)))))))))))))))))) (.cond (.seq .leaf .leaf) .leaf)) (.seq .leaf (.seq (.seq .leaf (.block (.loop 5 [0, 5, 8, 24, 25, 61, 62, 63, 203, 204, 205] (.seq .leaf (.seq (.cond .leaf .leaf) (.join 6 [0, 5, 8, 24, 25, 61, 62, 63, 203, 204, 205] (.block (.seq .leaf (.seq (.seq (.plan (.take 0 [] (.take 1 [] (.take 2 [] (.take 3 [] (.take 4 [] (.take 5 [] (.take 6 [] .done)))))))) (.cond (.seq .leaf .leaf) .leaf)) (.seq .leaf (.cond .leaf .leaf))))) .leaf)))))) (.seq .leaf (.cond (.seq .leaf .leaf) .leaf)))))))))) .leaf)))))) (.seq .leaf .leaf))))))
def src5 (K : Value → Hp → Prop) : Src
  | 1, [], vals, h => (tI .i64 fun room0 => tS fun l1 => tP fun c5 => tI .i64 fun e6 => tB fun may7 => tB fun v44 => tN (Tx.carlinglaw15_LruPlays_K1 ρ  (fun r0 h => K (.bool r0) h) room0 l1 c5 e6 may7 v44 h)) vals
  | 2, [], vals, h => (tI .i64 fun room0 => tS fun l1 => tP fun c5 => tI .i64 fun e6 => tB fun may7 => tN (Tx.carlinglaw15_LruPlays_K2 ρ  (fun r0 h => K (.bool r0) h) room0 l1 c5 e6 may7 h)) vals
  | 3, [T3], vals, h => (tI .i64 fun room0 => tP fun c5 => tA fun r8 => tS fun v61 => tI .i64 fun v62 => tI .i64 fun v63 => tN (Tx.carlinglaw15_LruPlays_B3 ρ (fun room0 c5 r8 v61 v62 v63 hh => T3 [(.int .i64 room0), (.pointer c5), (.pointer (some r8)), (.slice v61.a v61.len v61.cap), (.int .i64 v62), (.int .i64 v63)] hh) (fun r0 h => K (.bool r0) h) room0 c5 r8 v61 v62 v63 h)) vals
  | 4, [T3], vals, h => (tI .i64 fun room0 => tP fun c5 => tA fun r8 => tS fun order24 => tS fun v61 => tI .i64 fun v62 => tI .i64 fun v63 => tB fun v201 => tN (Tx.carlinglaw15_LruPlays_K4 ρ (fun room0 c5 r8 v61 v62 v63 hh => T3 [(.int .i64 room0), (.pointer c5), (.pointer (some r8)), (.slice v61.a v61.len v61.cap), (.int .i64 v62), (.int .i64 v63)] hh) (fun r0 h => K (.bool r0) h) room0 c5 r8 order24 v61 v62 v63 v201 h)) vals
  | 5, [T5, T3], vals, h => (tI .i64 fun room0 => tP fun c5 => tA fun r8 => tS fun order24 => tI .i64 fun pinned25 => tS fun v61 => tI .i64 fun v62 => tI .i64 fun v63 => tS fun v203 => tI .i64 fun v204 => tI .i64 fun v205 => tN (Tx.carlinglaw15_LruPlays_B5 ρ (fun room0 c5 r8 v61 v62 v63 hh => T3 [(.int .i64 room0), (.pointer c5), (.pointer (some r8)), (.slice v61.a v61.len v61.cap), (.int .i64 v62), (.int .i64 v63)] hh) (fun room0 c5 r8 order24 pinned25 v61 v62 v63 v203 v204 v205 hh => T5 [(.int .i64 room0), (.pointer c5), (.pointer (some r8)), (.slice order24.a order24.len order24.cap), (.int .i64 pinned25), (.slice v61.a v61.len v61.cap), (.int .i64 v62), (.int .i64 v63), (.slice v203.a v203.len v203.cap), (.int .i64 v204), (.int .i64 v205)] hh) (fun r0 h => K (.bool r0) h) room0 c5 r8 order24 pinned25 v61 v62 v63 v203 v204 v205 h)) vals
  | 6, [T5, T3], vals, h => (tI .i64 fun room0 => tP fun c5 => tA fun r8 => tS fun order24 => tI .i64 fun pinned25 => tS fun v61 => tI .i64 fun v62 => tI .i64 fun v63 => tS fun v203 => tI .i64 fun v204 => tI .i64 fun v205 => tN (Tx.carlinglaw15_LruPlays_K6 ρ (fun room0 c5 r8 v61 v62 v63 hh => T3 [(.int .i64 room0), (.pointer c5), (.pointer (some r8)), (.slice v61.a v61.len v61.cap), (.int .i64 v62), (.int .i64 v63)] hh) (fun room0 c5 r8 order24 pinned25 v61 v62 v63 v203 v204 v205 hh => T5 [(.int .i64 room0), (.pointer c5), (.pointer (some r8)), (.slice order24.a order24.len order24.cap), (.int .i64 pinned25), (.slice v61.a v61.len v61.cap), (.int .i64 v62), (.int .i64 v63), (.slice v203.a v203.len v203.cap), (.int .i64 v204), (.int .i64 v205)] hh) (fun r0 h => K (.bool r0) h) room0 c5 r8 order24 pinned25 v61 v62 v63 v203 v204 v205 h)) vals
  | 7, [T3], vals, h => (tI .i64 fun room0 => tP fun c5 => tA fun r8 => tA fun s10 => tB fun ok11 => tS fun v61 => tI .i64 fun v62 => tI .i64 fun v63 => tN (Tx.carlinglaw15_LruPlays_K7 ρ (fun room0 c5 r8 v61 v62 v63 hh => T3 [(.int .i64 room0), (.pointer c5), (.pointer (some r8)), (.slice v61.a v61.len v61.cap), (.int .i64 v62), (.int .i64 v63)] hh) (fun r0 h => K (.bool r0) h) room0 c5 r8 s10 ok11 v61 v62 v63 h)) vals
  | _, _, _, _ => False
theorem ok5 : SpecOk Try.prog 5 (Tx.carlinglaw15_LruPlays_S ρ) := by
  refine spec_ok (c := c5) agree (specsOk_cons ok26 (specsOk_cons ok25 (specsOk_cons ok24 (specsOk_cons ok23 (specsOk_cons ok22 (specsOk_cons ok21 (specsOk_cons ok20 (specsOk_cons ok19 (specsOk_cons ok18 (specsOk_cons ok17 (specsOk_cons ok16 (specsOk_cons ok15 (specsOk_cons ok14 (specsOk_cons ok13 (specsOk_cons ok12 (specsOk_cons ok11 (specsOk_cons ok10 (specsOk_cons ok9 (specsOk_cons ok8 (specsOk_cons ok7 specsOk_nil)))))))))))))))))))) specsOk_nil mixed Try.func5 (by kernel_rfl) (by kernel_rfl) A5 (by kernel_rfl) (src5) ?_ ?_
  · intro args h K H
    unfold Tx.carlinglaw15_LruPlays_S at H
    obtain ⟨room0, rr, rfl, H1⟩ := tI_elim H
    obtain ⟨l1, rr, rfl, H2⟩ := tS_elim H1
    obtain ⟨rfl, H3⟩ := tN_elim H2
    exact ⟨ble_le (by kernel_rfl), cast (by kernel_rfl) H3⟩
  · intro K k inner vals h hk hin H
    rw [show pts A5 = [2, 1, 3, 7, 4, 5, 6] from by kernel_rfl] at hk
    simp only [List.mem_cons, List.not_mem_nil, or_false] at hk
    rcases hk with rfl | rfl | rfl | rfl | rfl | rfl | rfl
    · rw [show depth 2 A5 = 0 from by kernel_rfl] at hin
      obtain rfl := len0 hin
      have H : src5 K 2 [] vals h := H
      simp only [src5] at H
      obtain ⟨room0, rr, rfl, H1⟩ := tI_elim H
      obtain ⟨l1, rr, rfl, H2⟩ := tS_elim H1
      obtain ⟨c5, rr, rfl, H3⟩ := tP_elim H2
      obtain ⟨e6, rr, rfl, H4⟩ := tI_elim H3
      obtain ⟨may7, rr, rfl, H5⟩ := tB_elim H4
      obtain ⟨rfl, H6⟩ := tN_elim H5
      exact cast (by kernel_rfl) H6
    · rw [show depth 1 A5 = 0 from by kernel_rfl] at hin
      obtain rfl := len0 hin
      have H : src5 K 1 [] vals h := H
      simp only [src5] at H
      obtain ⟨room0, rr, rfl, H1⟩ := tI_elim H
      obtain ⟨l1, rr, rfl, H2⟩ := tS_elim H1
      obtain ⟨c5, rr, rfl, H3⟩ := tP_elim H2
      obtain ⟨e6, rr, rfl, H4⟩ := tI_elim H3
      obtain ⟨may7, rr, rfl, H5⟩ := tB_elim H4
      obtain ⟨v44, rr, rfl, H6⟩ := tB_elim H5
      obtain ⟨rfl, H7⟩ := tN_elim H6
      exact cast (by kernel_rfl) H7
    · rw [show depth 3 A5 = 1 from by kernel_rfl] at hin
      obtain ⟨T3, rfl⟩ := len1 hin
      have H : src5 K 3 [T3] vals h := H
      simp only [src5] at H
      obtain ⟨room0, rr, rfl, H1⟩ := tI_elim H
      obtain ⟨c5, rr, rfl, H2⟩ := tP_elim H1
      obtain ⟨r8, rr, rfl, H3⟩ := tA_elim H2
      obtain ⟨v61, rr, rfl, H4⟩ := tS_elim H3
      obtain ⟨v62, rr, rfl, H5⟩ := tI_elim H4
      obtain ⟨v63, rr, rfl, H6⟩ := tI_elim H5
      obtain ⟨rfl, H7⟩ := tN_elim H6
      exact cast (by kernel_rfl) H7
    · rw [show depth 7 A5 = 1 from by kernel_rfl] at hin
      obtain ⟨T3, rfl⟩ := len1 hin
      have H : src5 K 7 [T3] vals h := H
      simp only [src5] at H
      obtain ⟨room0, rr, rfl, H1⟩ := tI_elim H
      obtain ⟨c5, rr, rfl, H2⟩ := tP_elim H1
      obtain ⟨r8, rr, rfl, H3⟩ := tA_elim H2
      obtain ⟨s10, rr, rfl, H4⟩ := tA_elim H3
      obtain ⟨ok11, rr, rfl, H5⟩ := tB_elim H4
      obtain ⟨v61, rr, rfl, H6⟩ := tS_elim H5
      obtain ⟨v62, rr, rfl, H7⟩ := tI_elim H6
      obtain ⟨v63, rr, rfl, H8⟩ := tI_elim H7
      obtain ⟨rfl, H9⟩ := tN_elim H8
      exact cast (by kernel_rfl) H9
    · rw [show depth 4 A5 = 1 from by kernel_rfl] at hin
      obtain ⟨T3, rfl⟩ := len1 hin
      have H : src5 K 4 [T3] vals h := H
      simp only [src5] at H
      obtain ⟨room0, rr, rfl, H1⟩ := tI_elim H
      obtain ⟨c5, rr, rfl, H2⟩ := tP_elim H1
      obtain ⟨r8, rr, rfl, H3⟩ := tA_elim H2
      obtain ⟨order24, rr, rfl, H4⟩ := tS_elim H3
      obtain ⟨v61, rr, rfl, H5⟩ := tS_elim H4
      obtain ⟨v62, rr, rfl, H6⟩ := tI_elim H5
      obtain ⟨v63, rr, rfl, H7⟩ := tI_elim H6
      obtain ⟨v201, rr, rfl, H8⟩ := tB_elim H7
      obtain ⟨rfl, H9⟩ := tN_elim H8
      exact cast (by kernel_rfl) H9
    · rw [show depth 5 A5 = 2 from by kernel_rfl] at hin
      obtain ⟨T3, T5, rfl⟩ := len2 hin
      have H : src5 K 5 [T5, T3] vals h := H
      simp only [src5] at H
      obtain ⟨room0, rr, rfl, H1⟩ := tI_elim H
      obtain ⟨c5, rr, rfl, H2⟩ := tP_elim H1
      obtain ⟨r8, rr, rfl, H3⟩ := tA_elim H2
      obtain ⟨order24, rr, rfl, H4⟩ := tS_elim H3
      obtain ⟨pinned25, rr, rfl, H5⟩ := tI_elim H4
      obtain ⟨v61, rr, rfl, H6⟩ := tS_elim H5
      obtain ⟨v62, rr, rfl, H7⟩ := tI_elim H6
      obtain ⟨v63, rr, rfl, H8⟩ := tI_elim H7
      obtain ⟨v203, rr, rfl, H9⟩ := tS_elim H8
      obtain ⟨v204, rr, rfl, H10⟩ := tI_elim H9
      obtain ⟨v205, rr, rfl, H11⟩ := tI_elim H10
      obtain ⟨rfl, H12⟩ := tN_elim H11
      exact cast (by kernel_rfl) H12
    · rw [show depth 6 A5 = 2 from by kernel_rfl] at hin
      obtain ⟨T3, T5, rfl⟩ := len2 hin
      have H : src5 K 6 [T5, T3] vals h := H
      simp only [src5] at H
      obtain ⟨room0, rr, rfl, H1⟩ := tI_elim H
      obtain ⟨c5, rr, rfl, H2⟩ := tP_elim H1
      obtain ⟨r8, rr, rfl, H3⟩ := tA_elim H2
      obtain ⟨order24, rr, rfl, H4⟩ := tS_elim H3
      obtain ⟨pinned25, rr, rfl, H5⟩ := tI_elim H4
      obtain ⟨v61, rr, rfl, H6⟩ := tS_elim H5
      obtain ⟨v62, rr, rfl, H7⟩ := tI_elim H6
      obtain ⟨v63, rr, rfl, H8⟩ := tI_elim H7
      obtain ⟨v203, rr, rfl, H9⟩ := tS_elim H8
      obtain ⟨v204, rr, rfl, H10⟩ := tI_elim H9
      obtain ⟨v205, rr, rfl, H11⟩ := tI_elim H10
      obtain ⟨rfl, H12⟩ := tN_elim H11
      exact cast (by kernel_rfl) H12


noncomputable def c6 : Code := Try.f6.body.getD .skip
def A6 : Ann := (.seq .leaf (.seq (.seq .leaf (.block (.loop 1 [1, 20, 21, 22] (.seq .leaf (.seq (.cond .leaf .leaf) (.seq (.block (.seq .leaf (.seq .leaf (.seq .leaf (.seq .leaf (.join 2 [1, 20, 21, 22, 106] .leaf (.cond (.seq .leaf .leaf) .leaf))))))) .leaf)))))) (.seq .leaf (.seq (.join 3 [11, 117] .leaf (.cond (.seq .leaf .leaf) .leaf)) (.seq .leaf (.seq .leaf (.seq .leaf (.seq .leaf (.seq (.join 4 [11, 14, 137] .leaf (.cond (.seq .leaf .leaf) .leaf)) (.seq .leaf (.seq .leaf (.seq .leaf .leaf))))))))))))
def src6 (K : Value → Hp → Prop) : Src
  | 1, [T1], vals, h => (tA fun s1 => tS fun v20 => tI .i64 fun v21 => tI .i64 fun v22 => tN (Tx.carlinglaw15_LruNobody_B1 ρ (fun s1 v20 v21 v22 hh => T1 [(.pointer (some s1)), (.slice v20.a v20.len v20.cap), (.int .i64 v21), (.int .i64 v22)] hh) (fun r0 h => K (.bool r0) h) s1 v20 v21 v22 h)) vals
  | 2, [T1], vals, h => (tA fun s1 => tS fun v20 => tI .i64 fun v21 => tI .i64 fun v22 => tB fun v106 => tN (Tx.carlinglaw15_LruNobody_K2 ρ (fun s1 v20 v21 v22 hh => T1 [(.pointer (some s1)), (.slice v20.a v20.len v20.cap), (.int .i64 v21), (.int .i64 v22)] hh) (fun r0 h => K (.bool r0) h) s1 v20 v21 v22 v106 h)) vals
  | 3, [], vals, h => (tP fun c11 => tB fun v117 => tN (Tx.carlinglaw15_LruNobody_K3 ρ  (fun r0 h => K (.bool r0) h) c11 v117 h)) vals
  | 4, [], vals, h => (tP fun c11 => tS fun b14 => tB fun v137 => tN (Tx.carlinglaw15_LruNobody_K4 ρ  (fun r0 h => K (.bool r0) h) c11 b14 v137 h)) vals
  | _, _, _, _ => False
theorem ok6 : SpecOk Try.prog 6 (Tx.carlinglaw15_LruNobody_S ρ) := by
  refine spec_ok (c := c6) agree (specsOk_cons ok25 (specsOk_cons ok24 (specsOk_cons ok18 (specsOk_cons ok17 (specsOk_cons ok16 (specsOk_cons ok15 (specsOk_cons ok13 (specsOk_cons ok11 (specsOk_cons ok10 (specsOk_cons ok9 (specsOk_cons ok8 (specsOk_cons ok7 specsOk_nil)))))))))))) specsOk_nil mixed Try.func6 (by kernel_rfl) (by kernel_rfl) A6 (by kernel_rfl) (src6) ?_ ?_
  · intro args h K H
    unfold Tx.carlinglaw15_LruNobody_S at H
    obtain ⟨cc0, rr0, rfl, H1⟩ := tG_elim H
    obtain ⟨s0_0, qq, rfl, H2⟩ := tI_elim H1
    obtain ⟨s0_1, qq, rfl, H3⟩ := tI_elim H2
    obtain ⟨s0_2, qq, rfl, H4⟩ := tS_elim H3
    obtain ⟨rfl, H5⟩ := tN_elim H4
    obtain ⟨rfl, H6⟩ := tN_elim H5
    exact ⟨ble_le (by kernel_rfl), cast (by kernel_rfl) H6⟩
  · intro K k inner vals h hk hin H
    rw [show pts A6 = [1, 2, 3, 4] from by kernel_rfl] at hk
    simp only [List.mem_cons, List.not_mem_nil, or_false] at hk
    rcases hk with rfl | rfl | rfl | rfl
    · rw [show depth 1 A6 = 1 from by kernel_rfl] at hin
      obtain ⟨T1, rfl⟩ := len1 hin
      have H : src6 K 1 [T1] vals h := H
      simp only [src6] at H
      obtain ⟨s1, rr, rfl, H1⟩ := tA_elim H
      obtain ⟨v20, rr, rfl, H2⟩ := tS_elim H1
      obtain ⟨v21, rr, rfl, H3⟩ := tI_elim H2
      obtain ⟨v22, rr, rfl, H4⟩ := tI_elim H3
      obtain ⟨rfl, H5⟩ := tN_elim H4
      exact cast (by kernel_rfl) H5
    · rw [show depth 2 A6 = 1 from by kernel_rfl] at hin
      obtain ⟨T1, rfl⟩ := len1 hin
      have H : src6 K 2 [T1] vals h := H
      simp only [src6] at H
      obtain ⟨s1, rr, rfl, H1⟩ := tA_elim H
      obtain ⟨v20, rr, rfl, H2⟩ := tS_elim H1
      obtain ⟨v21, rr, rfl, H3⟩ := tI_elim H2
      obtain ⟨v22, rr, rfl, H4⟩ := tI_elim H3
      obtain ⟨v106, rr, rfl, H5⟩ := tB_elim H4
      obtain ⟨rfl, H6⟩ := tN_elim H5
      exact cast (by kernel_rfl) H6
    · rw [show depth 3 A6 = 0 from by kernel_rfl] at hin
      obtain rfl := len0 hin
      have H : src6 K 3 [] vals h := H
      simp only [src6] at H
      obtain ⟨c11, rr, rfl, H1⟩ := tP_elim H
      obtain ⟨v117, rr, rfl, H2⟩ := tB_elim H1
      obtain ⟨rfl, H3⟩ := tN_elim H2
      exact cast (by kernel_rfl) H3
    · rw [show depth 4 A6 = 0 from by kernel_rfl] at hin
      obtain rfl := len0 hin
      have H : src6 K 4 [] vals h := H
      simp only [src6] at H
      obtain ⟨c11, rr, rfl, H1⟩ := tP_elim H
      obtain ⟨b14, rr, rfl, H2⟩ := tS_elim H1
      obtain ⟨v137, rr, rfl, H3⟩ := tB_elim H2
      obtain ⟨rfl, H4⟩ := tN_elim H3
      exact cast (by kernel_rfl) H4


end Go.Proofs.Ytkbmoanoaakcpaa.Lk
