import Derived.Test.YtkbmoanoaakcpaaTx
import Derived.Test.YtkbmoanoaakcpaaProg
set_option linter.unusedVariables false
namespace Go.Proofs.Ytkbmoanoaakcpaa.Lk
open Go Go.Wc Go.Proofs.Ytkbmoanoaakcpaa

def τ : Tys := [
(3, ⟨.int .i64, 1, 8, (.int .i64 (0 : Int)), [.int .i64]⟩),
(4, ⟨.bool, 1, 1, (.bool false), [.bool]⟩),
(5, ⟨.int .u8, 1, 1, (.int .u8 (0 : Int)), [.int .u8]⟩),
(22, ⟨.slice 5, 1, 24, (.slice none 0 0), [.sl]⟩),
(23, ⟨.ptr 60, 1, 8, (.pointer none), [.ptr]⟩),
(27, ⟨.slice 3, 1, 24, (.slice none 0 0), [.sl]⟩),
(58, ⟨.map 3 65, 1, 8, (.map none), [.map]⟩),
(60, ⟨.struct [(3, 0), (58, 1), (27, 2)], 3, 40, (.agg [(.int .i64 (0 : Int)), (.map none), (.slice none 0 0)].toArray), [.int .i64, .map, .sl]⟩),
(65, ⟨.struct [(22, 0), (4, 1)], 2, 32, (.agg [(.slice none 0 0), (.bool false)].toArray), [.sl, .bool]⟩)]
theorem agree : Agree Try.prog τ := agree_of _ _ (by kernel_rfl) (by kernel_rfl)
theorem mixed : Try.prog.follows .mixedOrders = true := by kernel_rfl
def ρ : Ids := ids [(0, 3), (1, 5), (2, 60), (3, 23), (4, 65)] [(0, 32), (1, 33), (2, 7), (3, 11), (4, 10), (5, 8), (6, 9), (7, 27), (8, 28), (9, 29), (10, 30), (11, 31), (12, 43), (13, 44), (14, 17), (15, 24), (16, 41), (17, 42), (18, 15)]

noncomputable def c7 : Code := Try.f7.body.getD .skip
def A7 : Ann := (.seq .leaf (.seq (.join 1 [0, 9] .leaf (.cond (.seq .leaf .leaf) .leaf)) (.seq .leaf .leaf)))
def src7 (K : Value → Hp → Prop) : Src
  | 1, [], vals, h => (tI .i64 fun room0 => tB fun v9 => tN (Tx.lru_New_K1 ρ  (fun r0 r1 h => K (.tuple [(.pointer r0), (.int .i64 r1)].toArray) h) room0 v9 h)) vals
  | _, _, _, _ => False
theorem ok7 : SpecOk Try.prog 7 (Tx.lru_New_S ρ) := by
  refine spec_ok (c := c7) agree specsOk_nil specsOk_nil mixed Try.func7 (by kernel_rfl) (by kernel_rfl) A7 (by kernel_rfl) (src7) ?_ ?_
  · intro args h K H
    obtain ⟨room0, rr, rfl, H1⟩ := tI_elim H
    obtain ⟨rfl, H2⟩ := tN_elim H1
    exact ⟨ble_le (by kernel_rfl), cast (by kernel_rfl) H2⟩
  · intro K k inner vals h hk hin H
    rw [show pts A7 = [1] from by kernel_rfl] at hk
    simp only [List.mem_cons, List.not_mem_nil, or_false] at hk
    rcases hk with rfl
    · rw [show depth 1 A7 = 0 from by kernel_rfl] at hin
      obtain rfl := len0 hin
      have H : src7 K 1 [] vals h := H
      simp only [src7] at H
      obtain ⟨room0, rr, rfl, H1⟩ := tI_elim H
      obtain ⟨v9, rr, rfl, H2⟩ := tB_elim H1
      obtain ⟨rfl, H3⟩ := tN_elim H2
      exact cast (by kernel_rfl) H3


noncomputable def c27 : Code := Try.f27.body.getD .skip
def A27 : Ann := (.seq .leaf (.seq .leaf .leaf))
def src27 (_ : Value → Hp → Prop) : Src := fun _ _ _ _ => False
theorem ok27 : SpecOk Try.prog 27 (Tx.lru_Cache_ok_S ρ) := by
  refine spec_ok (c := c27) agree specsOk_nil specsOk_nil mixed Try.func27 (by kernel_rfl) (by kernel_rfl) A27 (by kernel_rfl) (src27) ?_ ?_
  · intro args h K H
    obtain ⟨c0, rr, rfl, H1⟩ := tP_elim H
    obtain ⟨rfl, H2⟩ := tN_elim H1
    exact ⟨ble_le (by kernel_rfl), cast (by kernel_rfl) H2⟩
  · intro K k inner vals h hk hin H
    exact H.elim


noncomputable def c28 : Code := Try.f28.body.getD .skip
def A28 : Ann := (.seq .leaf (.seq .leaf .leaf))
def src28 (_ : Value → Hp → Prop) : Src := fun _ _ _ _ => False
theorem ok28 : SpecOk Try.prog 28 (Tx.lru_isItem_S ρ) := by
  refine spec_ok (c := c28) agree specsOk_nil specsOk_nil mixed Try.func28 (by kernel_rfl) (by kernel_rfl) A28 (by kernel_rfl) (src28) ?_ ?_
  · intro args h K H
    obtain ⟨n0, rr, rfl, H1⟩ := tI_elim H
    obtain ⟨rfl, H2⟩ := tN_elim H1
    exact ⟨ble_le (by kernel_rfl), cast (by kernel_rfl) H2⟩
  · intro K k inner vals h hk hin H
    exact H.elim


noncomputable def c29 : Code := Try.f29.body.getD .skip
def A29 : Ann := (.seq .leaf (.seq (.seq .leaf (.cond (.seq .leaf .leaf) .leaf)) (.seq .leaf .leaf)))
def src29 (_ : Value → Hp → Prop) : Src := fun _ _ _ _ => False
theorem ok29 : SpecOk Try.prog 29 (Tx.bytes_Clone_S ρ) := by
  refine spec_ok (c := c29) agree specsOk_nil specsOk_nil mixed Try.func29 (by kernel_rfl) (by kernel_rfl) A29 (by kernel_rfl) (src29) ?_ ?_
  · intro args h K H
    obtain ⟨b0, rr, rfl, H1⟩ := tS_elim H
    obtain ⟨rfl, H2⟩ := tN_elim H1
    exact ⟨ble_le (by kernel_rfl), cast (by kernel_rfl) H2⟩
  · intro K k inner vals h hk hin H
    exact H.elim


noncomputable def c32 : Code := Try.f32.body.getD .skip
def A32 : Ann := (.seq .leaf (.seq (.seq .leaf (.block (.loop 1 [0, 1, 7, 8] (.seq .leaf (.seq (.cond .leaf .leaf) (.seq (.block (.seq .leaf (.seq .leaf (.cond (.seq .leaf .leaf) .leaf)))) .leaf)))))) (.seq .leaf .leaf)))
def src32 (K : Value → Hp → Prop) : Src
  | 1, [T1], vals, h => (tS fun s0 => tI .i64 fun v1 => tI .i64 fun v7 => tI .i64 fun v8 => tN (Tx.slices_Index_int_int_B1 ρ (fun s0 v1 v7 v8 hh => T1 [(.slice s0.a s0.len s0.cap), (.int .i64 v1), (.int .i64 v7), (.int .i64 v8)] hh) (fun r0 h => K (.int .i64 r0) h) s0 v1 v7 v8 h)) vals
  | _, _, _, _ => False
theorem ok32 : SpecOk Try.prog 32 (Tx.slices_Index_int_int_S ρ) := by
  refine spec_ok (c := c32) agree specsOk_nil specsOk_nil mixed Try.func32 (by kernel_rfl) (by kernel_rfl) A32 (by kernel_rfl) (src32) ?_ ?_
  · intro args h K H
    obtain ⟨s0, rr, rfl, H1⟩ := tS_elim H
    obtain ⟨v1, rr, rfl, H2⟩ := tI_elim H1
    obtain ⟨rfl, H3⟩ := tN_elim H2
    exact ⟨ble_le (by kernel_rfl), cast (by kernel_rfl) H3⟩
  · intro K k inner vals h hk hin H
    rw [show pts A32 = [1] from by kernel_rfl] at hk
    simp only [List.mem_cons, List.not_mem_nil, or_false] at hk
    rcases hk with rfl
    · rw [show depth 1 A32 = 1 from by kernel_rfl] at hin
      obtain ⟨T1, rfl⟩ := len1 hin
      have H : src32 K 1 [T1] vals h := H
      simp only [src32] at H
      obtain ⟨s0, rr, rfl, H1⟩ := tS_elim H
      obtain ⟨v1, rr, rfl, H2⟩ := tI_elim H1
      obtain ⟨v7, rr, rfl, H3⟩ := tI_elim H2
      obtain ⟨v8, rr, rfl, H4⟩ := tI_elim H3
      obtain ⟨rfl, H5⟩ := tN_elim H4
      exact cast (by kernel_rfl) H5


noncomputable def c33 : Code := Try.f33.body.getD .skip
def A33 : Ann := (.seq .leaf (.seq .leaf (.seq (.seq .leaf (.cond (.seq .leaf .leaf) .leaf)) (.seq .leaf (.seq (.plan (.take 0 [6] (.take 1 [6] (.take 2 [6] (.take 3 [6] (.take 4 [6] (.take 5 [6] (.all (.alt 6 (.take 7 [] .done) .nil))))))))) (.seq .leaf (.seq .leaf .leaf)))))))
def src33 (_ : Value → Hp → Prop) : Src := fun _ _ _ _ => False
theorem ok33 : SpecOk Try.prog 33 (Tx.slices_Delete_int_int_S ρ) := by
  refine spec_ok (c := c33) agree specsOk_nil specsOk_nil mixed Try.func33 (by kernel_rfl) (by kernel_rfl) A33 (by kernel_rfl) (src33) ?_ ?_
  · intro args h K H
    obtain ⟨s0, rr, rfl, H1⟩ := tS_elim H
    obtain ⟨i1, rr, rfl, H2⟩ := tI_elim H1
    obtain ⟨j2, rr, rfl, H3⟩ := tI_elim H2
    obtain ⟨rfl, H4⟩ := tN_elim H3
    exact ⟨ble_le (by kernel_rfl), cast (by kernel_rfl) H4⟩
  · intro K k inner vals h hk hin H
    exact H.elim


noncomputable def c30 : Code := Try.f30.body.getD .skip
def A30 : Ann := (.join 1 [0, 1] (.seq .leaf (.seq .leaf (.cond .leaf .leaf))) .leaf)
def src30 (K : Value → Hp → Prop) : Src
  | 1, [], vals, h => (tP fun c0 => tI .i64 fun item1 => tN (Tx.lru_Cache_touch_K1 ρ  (fun h => K (.tuple [].toArray) h) c0 item1 h)) vals
  | _, _, _, _ => False
theorem ok30 : SpecOk Try.prog 30 (Tx.lru_Cache_touch_S ρ) := by
  refine spec_ok (c := c30) agree (specsOk_cons ok33 (specsOk_cons ok32 specsOk_nil)) specsOk_nil mixed Try.func30 (by kernel_rfl) (by kernel_rfl) A30 (by kernel_rfl) (src30) ?_ ?_
  · intro args h K H
    obtain ⟨c0, rr, rfl, H1⟩ := tP_elim H
    obtain ⟨item1, rr, rfl, H2⟩ := tI_elim H1
    obtain ⟨rfl, H3⟩ := tN_elim H2
    exact ⟨ble_le (by kernel_rfl), cast (by kernel_rfl) H3⟩
  · intro K k inner vals h hk hin H
    rw [show pts A30 = [1] from by kernel_rfl] at hk
    simp only [List.mem_cons, List.not_mem_nil, or_false] at hk
    rcases hk with rfl
    · rw [show depth 1 A30 = 0 from by kernel_rfl] at hin
      obtain rfl := len0 hin
      have H : src30 K 1 [] vals h := H
      simp only [src30] at H
      obtain ⟨c0, rr, rfl, H1⟩ := tP_elim H
      obtain ⟨item1, rr, rfl, H2⟩ := tI_elim H1
      obtain ⟨rfl, H3⟩ := tN_elim H2
      exact cast (by kernel_rfl) H3


noncomputable def c10 : Code := Try.f10.body.getD .skip
def A10 : Ann := (.seq .leaf (.seq (.seq .leaf (.cond (.seq .leaf .leaf) .leaf)) (.seq .leaf (.seq .leaf .leaf))))
def src10 (_ : Value → Hp → Prop) : Src := fun _ _ _ _ => False
theorem ok10 : SpecOk Try.prog 10 (Tx.lru_Cache_Has_S ρ) := by
  refine spec_ok (c := c10) agree (specsOk_cons ok27 specsOk_nil) specsOk_nil mixed Try.func10 (by kernel_rfl) (by kernel_rfl) A10 (by kernel_rfl) (src10) ?_ ?_
  · intro args h K H
    obtain ⟨c0, rr, rfl, H1⟩ := tP_elim H
    obtain ⟨item1, rr, rfl, H2⟩ := tI_elim H1
    obtain ⟨rfl, H3⟩ := tN_elim H2
    exact ⟨ble_le (by kernel_rfl), cast (by kernel_rfl) H3⟩
  · intro K k inner vals h hk hin H
    exact H.elim


noncomputable def c17 : Code := Try.f17.body.getD .skip
def A17 : Ann := (.seq .leaf (.seq (.seq .leaf (.cond (.seq .leaf .leaf) .leaf)) (.seq .leaf (.seq .leaf (.seq .leaf (.seq .leaf .leaf))))))
def src17 (_ : Value → Hp → Prop) : Src := fun _ _ _ _ => False
theorem ok17 : SpecOk Try.prog 17 (Tx.lru_Cache_Drop_S ρ) := by
  refine spec_ok (c := c17) agree (specsOk_cons ok33 (specsOk_cons ok32 (specsOk_cons ok10 specsOk_nil))) specsOk_nil mixed Try.func17 (by kernel_rfl) (by kernel_rfl) A17 (by kernel_rfl) (src17) ?_ ?_
  · intro args h K H
    obtain ⟨c0, rr, rfl, H1⟩ := tP_elim H
    obtain ⟨item1, rr, rfl, H2⟩ := tI_elim H1
    obtain ⟨rfl, H3⟩ := tN_elim H2
    exact ⟨ble_le (by kernel_rfl), cast (by kernel_rfl) H3⟩
  · intro K k inner vals h hk hin H
    exact H.elim


noncomputable def c43 : Code := Try.f43.body.getD .skip
def A43 : Ann := (.seq .leaf (.seq .leaf .leaf))
def src43 (_ : Value → Hp → Prop) : Src := fun _ _ _ _ => False
theorem ok43 : SpecOk Try.prog 43 (Tx.lru_Cache_fit_1_S ρ) := by
  refine spec_ok (c := c43) agree specsOk_nil specsOk_nil mixed Try.func43 (by kernel_rfl) (by kernel_rfl) A43 (by kernel_rfl) (src43) ?_ ?_
  · intro args h K H
    obtain ⟨item0, rr, rfl, H1⟩ := tI_elim H
    obtain ⟨v1, rr, rfl, H2⟩ := tA_elim H1
    obtain ⟨rfl, H3⟩ := tN_elim H2
    exact ⟨ble_le (by kernel_rfl), cast (by kernel_rfl) H3⟩
  · intro K k inner vals h hk hin H
    exact H.elim


noncomputable def c44 : Code := Try.f44.body.getD .skip
def A44 : Ann := (.seq .leaf (.seq (.seq .leaf (.block (.loop 1 [0, 1, 7, 8] (.seq .leaf (.seq (.cond .leaf .leaf) (.seq (.block (.seq .leaf (.seq .leaf (.cond (.seq .leaf .leaf) .leaf)))) .leaf)))))) (.seq .leaf .leaf)))
def src44 (cl : Specs) (K : Value → Hp → Prop) : Src
  | 1, [T1], vals, h => (tS fun s0 => tV fun f1 => tI .i64 fun v7 => tI .i64 fun v8 => tN (Tx.slices_IndexFunc_int_int_B1 ρ (phi cl) (fun s0 f1 v7 v8 hh => T1 [(.slice s0.a s0.len s0.cap), f1, (.int .i64 v7), (.int .i64 v8)] hh) (fun r0 h => K (.int .i64 r0) h) s0 f1 v7 v8 h)) vals
  | _, _, _, _ => False
theorem ok44 (cl : Specs) (hcl : SpecsOk Try.prog cl) : SpecOk Try.prog 44 (Tx.slices_IndexFunc_int_int_S ρ (phi cl)) := by
  refine spec_ok (c := c44) agree specsOk_nil hcl mixed Try.func44 (by kernel_rfl) (by kernel_rfl) A44 (by kernel_rfl) (src44 cl) ?_ ?_
  · intro args h K H
    obtain ⟨s0, rr, rfl, H1⟩ := tS_elim H
    obtain ⟨f1, rr, rfl, H2⟩ := tV_elim H1
    obtain ⟨rfl, H3⟩ := tN_elim H2
    exact ⟨ble_le (by kernel_rfl), cast (by kernel_rfl) H3⟩
  · intro K k inner vals h hk hin H
    rw [show pts A44 = [1] from by kernel_rfl] at hk
    simp only [List.mem_cons, List.not_mem_nil, or_false] at hk
    rcases hk with rfl
    · rw [show depth 1 A44 = 1 from by kernel_rfl] at hin
      obtain ⟨T1, rfl⟩ := len1 hin
      have H : src44 cl K 1 [T1] vals h := H
      simp only [src44] at H
      obtain ⟨s0, rr, rfl, H1⟩ := tS_elim H
      obtain ⟨f1, rr, rfl, H2⟩ := tV_elim H1
      obtain ⟨v7, rr, rfl, H3⟩ := tI_elim H2
      obtain ⟨v8, rr, rfl, H4⟩ := tI_elim H3
      obtain ⟨rfl, H5⟩ := tN_elim H4
      exact cast (by kernel_rfl) H5


noncomputable def c31 : Code := Try.f31.body.getD .skip
def A31 : Ann := (.seq .leaf (.seq .leaf (.seq .leaf (.seq (.seq .leaf (.block (.loop 1 [1, 3, 4, 12, 13, 14] (.seq .leaf (.seq (.cond .leaf .leaf) (.join 2 [1, 3, 4, 12, 13, 14] (.block (.seq .leaf (.seq .leaf (.cond .leaf .leaf)))) .leaf)))))) (.seq (.seq .leaf (.cond (.seq .leaf .leaf) .leaf)) (.seq (.plan (.take 0 [] (.take 1 [] (.take 2 [] (.take 3 [] (.take 4 [9] (.take 5 [9] (.take 6 [9] (.take 7 [9] (.take 8 [9] (.all (.alt 9 (.take 10 [] (.take 11 [] (.take 12 [] .done))) .nil)))))))))))) (.seq .leaf (.seq .leaf .leaf))))))))
def src31 (K : Value → Hp → Prop) : Src
  | 1, [T1], vals, h => (tA fun c1 => tF (ρ.G 12) fun cells1 rest1 => (tA fun loose3_0 => tN ((tI .i64 fun many4 => tS fun v12 => tI .i64 fun v13 => tI .i64 fun v14 => tN (Tx.lru_Cache_fit_B1 ρ (fun c1 loose3_0 many4 v12 v13 v14 hh => T1 [(.pointer (some c1)), (.func (.func (ρ.G 12)) #[] #[(.pointer (some loose3_0))]), (.int .i64 many4), (.slice v12.a v12.len v12.cap), (.int .i64 v13), (.int .i64 v14)] hh) (fun r0 h => K (.int .i64 r0) h) c1 loose3_0 many4 v12 v13 v14 h)) rest1)) cells1) vals
  | 2, [T1], vals, h => (tA fun c1 => tF (ρ.G 12) fun cells1 rest1 => (tA fun loose3_0 => tN ((tI .i64 fun many4 => tS fun v12 => tI .i64 fun v13 => tI .i64 fun v14 => tN (Tx.lru_Cache_fit_K2 ρ (fun c1 loose3_0 many4 v12 v13 v14 hh => T1 [(.pointer (some c1)), (.func (.func (ρ.G 12)) #[] #[(.pointer (some loose3_0))]), (.int .i64 many4), (.slice v12.a v12.len v12.cap), (.int .i64 v13), (.int .i64 v14)] hh) (fun r0 h => K (.int .i64 r0) h) c1 loose3_0 many4 v12 v13 v14 h)) rest1)) cells1) vals
  | _, _, _, _ => False
theorem ok31 : SpecOk Try.prog 31 (Tx.lru_Cache_fit_S ρ) := by
  refine spec_ok (c := c31) agree (specsOk_cons (ok44 _ (specsOk_cons ok43 specsOk_nil)) (specsOk_cons ok17 specsOk_nil)) (specsOk_cons ok43 specsOk_nil) mixed Try.func31 (by kernel_rfl) (by kernel_rfl) A31 (by kernel_rfl) (src31) ?_ ?_
  · intro args h K H
    obtain ⟨c0, rr, rfl, H1⟩ := tP_elim H
    obtain ⟨rfl, H2⟩ := tN_elim H1
    exact ⟨ble_le (by kernel_rfl), cast (by kernel_rfl) H2⟩
  · intro K k inner vals h hk hin H
    rw [show pts A31 = [1, 2] from by kernel_rfl] at hk
    simp only [List.mem_cons, List.not_mem_nil, or_false] at hk
    rcases hk with rfl | rfl
    · rw [show depth 1 A31 = 1 from by kernel_rfl] at hin
      obtain ⟨T1, rfl⟩ := len1 hin
      have H : src31 K 1 [T1] vals h := H
      simp only [src31] at H
      obtain ⟨c1, rr, rfl, H1⟩ := tA_elim H
      obtain ⟨cc1, rr1, rfl, H2⟩ := tF_elim H1
      obtain ⟨loose3_0, qq, rfl, H3⟩ := tA_elim H2
      obtain ⟨rfl, H4⟩ := tN_elim H3
      obtain ⟨many4, rr, rfl, H5⟩ := tI_elim H4
      obtain ⟨v12, rr, rfl, H6⟩ := tS_elim H5
      obtain ⟨v13, rr, rfl, H7⟩ := tI_elim H6
      obtain ⟨v14, rr, rfl, H8⟩ := tI_elim H7
      obtain ⟨rfl, H9⟩ := tN_elim H8
      exact cast (by kernel_rfl) H9
    · rw [show depth 2 A31 = 1 from by kernel_rfl] at hin
      obtain ⟨T1, rfl⟩ := len1 hin
      have H : src31 K 2 [T1] vals h := H
      simp only [src31] at H
      obtain ⟨c1, rr, rfl, H1⟩ := tA_elim H
      obtain ⟨cc1, rr1, rfl, H2⟩ := tF_elim H1
      obtain ⟨loose3_0, qq, rfl, H3⟩ := tA_elim H2
      obtain ⟨rfl, H4⟩ := tN_elim H3
      obtain ⟨many4, rr, rfl, H5⟩ := tI_elim H4
      obtain ⟨v12, rr, rfl, H6⟩ := tS_elim H5
      obtain ⟨v13, rr, rfl, H7⟩ := tI_elim H6
      obtain ⟨v14, rr, rfl, H8⟩ := tI_elim H7
      obtain ⟨rfl, H9⟩ := tN_elim H8
      exact cast (by kernel_rfl) H9


noncomputable def c8 : Code := Try.f8.body.getD .skip
def A8 : Ann := (.seq .leaf (.seq (.block (.seq .leaf (.cond (.seq .leaf .leaf) (.seq .leaf (.cond (.seq .leaf .leaf) .leaf))))) (.seq (.plan (.take 0 [15] (.take 1 [15] (.take 2 [15] (.take 3 [15] (.take 4 [15] (.take 5 [6, 15] (.take 7 [15] (.take 8 [15] (.take 9 [15] (.take 10 [15] (.take 11 [15] (.take 12 [15] (.take 13 [15] (.all (.alt 6 (.take 14 [15] (.all (.alt 15 .done .nil))) .nil)))))))))))))))) (.seq .leaf (.seq .leaf .leaf)))))
def src8 (_ : Value → Hp → Prop) : Src := fun _ _ _ _ => False
theorem ok8 : SpecOk Try.prog 8 (Tx.lru_Cache_Put_S ρ) := by
  refine spec_ok (c := c8) agree (specsOk_cons ok31 (specsOk_cons ok30 (specsOk_cons ok29 (specsOk_cons ok28 (specsOk_cons ok27 specsOk_nil))))) specsOk_nil mixed Try.func8 (by kernel_rfl) (by kernel_rfl) A8 (by kernel_rfl) (src8) ?_ ?_
  · intro args h K H
    obtain ⟨c0, rr, rfl, H1⟩ := tP_elim H
    obtain ⟨item1, rr, rfl, H2⟩ := tI_elim H1
    obtain ⟨page2, rr, rfl, H3⟩ := tS_elim H2
    obtain ⟨rfl, H4⟩ := tN_elim H3
    exact ⟨ble_le (by kernel_rfl), cast (by kernel_rfl) H4⟩
  · intro K k inner vals h hk hin H
    exact H.elim


noncomputable def c41 : Code := Try.f41.body.getD .skip
def A41 : Ann := (.seq .leaf (.seq (.seq .leaf (.cond (.seq .leaf .leaf) .leaf)) (.seq .leaf .leaf)))
def src41 (_ : Value → Hp → Prop) : Src := fun _ _ _ _ => False
theorem ok41 : SpecOk Try.prog 41 (Tx.slices_Clone_int_int_S ρ) := by
  refine spec_ok (c := c41) agree specsOk_nil specsOk_nil mixed Try.func41 (by kernel_rfl) (by kernel_rfl) A41 (by kernel_rfl) (src41) ?_ ?_
  · intro args h K H
    obtain ⟨s0, rr, rfl, H1⟩ := tS_elim H
    obtain ⟨rfl, H2⟩ := tN_elim H1
    exact ⟨ble_le (by kernel_rfl), cast (by kernel_rfl) H2⟩
  · intro K k inner vals h hk hin H
    exact H.elim


noncomputable def c42 : Code := Try.f42.body.getD .skip
def A42 : Ann := (.seq .leaf (.block (.loop 1 [0, 2, 3] (.seq (.seq .leaf (.cond .leaf .leaf)) (.seq (.block (.plan (.take 0 [13, 15] (.take 1 [13, 15] (.take 2 [15] (.take 3 [15] (.take 4 [13, 15] (.take 5 [13, 15] (.take 6 [13, 15] (.take 7 [13, 15] (.take 8 [13, 15] (.take 9 [13, 15] (.take 10 [13, 15] (.take 11 [13, 15] (.take 12 [13, 15] (.all (.alt 13 (.take 14 [15] (.all (.alt 15 .done .nil))) .nil))))))))))))))))) .leaf)))))
def src42 (K : Value → Hp → Prop) : Src
  | 1, [T1], vals, h => (tS fun s0 => tI .i64 fun i2 => tI .i64 fun j3 => tN (Tx.slices_Reverse_int_int_B1 ρ (fun s0 i2 j3 hh => T1 [(.slice s0.a s0.len s0.cap), (.int .i64 i2), (.int .i64 j3)] hh) (fun h => K (.tuple [].toArray) h) s0 i2 j3 h)) vals
  | _, _, _, _ => False
theorem ok42 : SpecOk Try.prog 42 (Tx.slices_Reverse_int_int_S ρ) := by
  refine spec_ok (c := c42) agree specsOk_nil specsOk_nil mixed Try.func42 (by kernel_rfl) (by kernel_rfl) A42 (by kernel_rfl) (src42) ?_ ?_
  · intro args h K H
    obtain ⟨s0, rr, rfl, H1⟩ := tS_elim H
    obtain ⟨rfl, H2⟩ := tN_elim H1
    exact ⟨ble_le (by kernel_rfl), cast (by kernel_rfl) H2⟩
  · intro K k inner vals h hk hin H
    rw [show pts A42 = [1] from by kernel_rfl] at hk
    simp only [List.mem_cons, List.not_mem_nil, or_false] at hk
    rcases hk with rfl
    · rw [show depth 1 A42 = 1 from by kernel_rfl] at hin
      obtain ⟨T1, rfl⟩ := len1 hin
      have H : src42 K 1 [T1] vals h := H
      simp only [src42] at H
      obtain ⟨s0, rr, rfl, H1⟩ := tS_elim H
      obtain ⟨i2, rr, rfl, H2⟩ := tI_elim H1
      obtain ⟨j3, rr, rfl, H3⟩ := tI_elim H2
      obtain ⟨rfl, H4⟩ := tN_elim H3
      exact cast (by kernel_rfl) H4


noncomputable def c24 : Code := Try.f24.body.getD .skip
def A24 : Ann := (.seq .leaf (.seq (.seq .leaf (.cond (.seq .leaf .leaf) .leaf)) (.seq .leaf (.seq .leaf (.seq .leaf .leaf)))))
def src24 (_ : Value → Hp → Prop) : Src := fun _ _ _ _ => False
theorem ok24 : SpecOk Try.prog 24 (Tx.lru_Cache_Order_S ρ) := by
  refine spec_ok (c := c24) agree (specsOk_cons ok42 (specsOk_cons ok41 (specsOk_cons ok27 specsOk_nil))) specsOk_nil mixed Try.func24 (by kernel_rfl) (by kernel_rfl) A24 (by kernel_rfl) (src24) ?_ ?_
  · intro args h K H
    obtain ⟨c0, rr, rfl, H1⟩ := tP_elim H
    obtain ⟨rfl, H2⟩ := tN_elim H1
    exact ⟨ble_le (by kernel_rfl), cast (by kernel_rfl) H2⟩
  · intro K k inner vals h hk hin H
    exact H.elim


noncomputable def c9 : Code := Try.f9.body.getD .skip
def A9 : Ann := (.seq .leaf (.seq .leaf .leaf))
def src9 (_ : Value → Hp → Prop) : Src := fun _ _ _ _ => False
theorem ok9 : SpecOk Try.prog 9 (Tx.lru_Cache_Len_S ρ) := by
  refine spec_ok (c := c9) agree (specsOk_cons ok24 specsOk_nil) specsOk_nil mixed Try.func9 (by kernel_rfl) (by kernel_rfl) A9 (by kernel_rfl) (src9) ?_ ?_
  · intro args h K H
    obtain ⟨c0, rr, rfl, H1⟩ := tP_elim H
    obtain ⟨rfl, H2⟩ := tN_elim H1
    exact ⟨ble_le (by kernel_rfl), cast (by kernel_rfl) H2⟩
  · intro K k inner vals h hk hin H
    exact H.elim


noncomputable def c15 : Code := Try.f15.body.getD .skip
def A15 : Ann := (.seq .leaf (.seq (.block (.seq .leaf (.cond (.seq .leaf .leaf) (.seq .leaf (.cond (.seq .leaf .leaf) .leaf))))) (.seq (.plan (.take 0 [8] (.take 1 [8] (.take 2 [8] (.take 3 [8] (.take 4 [8] (.take 5 [6, 8] (.all (.alt 6 (.take 7 [8] (.all (.alt 8 .done .nil))) .nil))))))))) (.seq .leaf (.seq .leaf .leaf)))))
def src15 (_ : Value → Hp → Prop) : Src := fun _ _ _ _ => False
theorem ok15 : SpecOk Try.prog 15 (Tx.lru_Cache_Pin_S ρ) := by
  refine spec_ok (c := c15) agree (specsOk_cons ok30 (specsOk_cons ok29 (specsOk_cons ok28 (specsOk_cons ok27 specsOk_nil)))) specsOk_nil mixed Try.func15 (by kernel_rfl) (by kernel_rfl) A15 (by kernel_rfl) (src15) ?_ ?_
  · intro args h K H
    obtain ⟨c0, rr, rfl, H1⟩ := tP_elim H
    obtain ⟨item1, rr, rfl, H2⟩ := tI_elim H1
    obtain ⟨page2, rr, rfl, H3⟩ := tS_elim H2
    obtain ⟨rfl, H4⟩ := tN_elim H3
    exact ⟨ble_le (by kernel_rfl), cast (by kernel_rfl) H4⟩
  · intro K k inner vals h hk hin H
    exact H.elim


noncomputable def c11 : Code := Try.f11.body.getD .skip
def A11 : Ann := (.seq .leaf (.seq .leaf (.seq (.join 1 [1, 18] .leaf (.cond (.seq .leaf .leaf) .leaf)) (.seq .leaf (.seq .leaf (.seq .leaf (.seq .leaf (.seq .leaf .leaf))))))))
def src11 (K : Value → Hp → Prop) : Src
  | 1, [], vals, h => (tP fun c1 => tB fun v18 => tN (Tx.carlinglaw15_alive_K1 ρ  (fun r0 h => K (.bool r0) h) c1 v18 h)) vals
  | _, _, _, _ => False
theorem ok11 : SpecOk Try.prog 11 (Tx.carlinglaw15_alive_S ρ) := by
  refine spec_ok (c := c11) agree (specsOk_cons ok24 (specsOk_cons ok15 (specsOk_cons ok10 (specsOk_cons ok8 (specsOk_cons ok7 specsOk_nil))))) specsOk_nil mixed Try.func11 (by kernel_rfl) (by kernel_rfl) A11 (by kernel_rfl) (src11) ?_ ?_
  · intro args h K H
    obtain ⟨rfl, H1⟩ := tN_elim H
    exact ⟨ble_le (by kernel_rfl), cast (by kernel_rfl) H1⟩
  · intro K k inner vals h hk hin H
    rw [show pts A11 = [1] from by kernel_rfl] at hk
    simp only [List.mem_cons, List.not_mem_nil, or_false] at hk
    rcases hk with rfl
    · rw [show depth 1 A11 = 0 from by kernel_rfl] at hin
      obtain rfl := len0 hin
      have H : src11 K 1 [] vals h := H
      simp only [src11] at H
      obtain ⟨c1, rr, rfl, H1⟩ := tP_elim H
      obtain ⟨v18, rr, rfl, H2⟩ := tB_elim H1
      obtain ⟨rfl, H3⟩ := tN_elim H2
      exact cast (by kernel_rfl) H3


noncomputable def c3 : Code := Try.f3.body.getD .skip
def A3 : Ann := (.seq .leaf (.seq .leaf (.seq .leaf (.seq (.join 1 [1, 5, 6, 34] .leaf (.cond (.seq .leaf .leaf) .leaf)) (.seq .leaf (.seq (.seq .leaf (.block (.loop 2 [5, 6, 8, 39, 40, 41] (.seq .leaf (.seq (.cond .leaf .leaf) (.seq (.block (.seq .leaf (.seq .leaf (.seq .leaf (.seq (.seq .leaf (.block (.loop 3 [5, 6, 10, 11, 12, 39, 40, 41, 48, 49, 50] (.seq .leaf (.seq (.cond .leaf .leaf) (.join 4 [5, 6, 10, 11, 12, 39, 40, 41, 48, 49, 50] (.block (.seq .leaf (.seq .leaf (.cond .leaf .leaf)))) .leaf)))))) (.seq .leaf (.join 7 [5, 6, 10, 11, 12, 15, 39, 40, 41] (.seq .leaf (.cond (.seq .leaf .leaf) .leaf)) (.seq .leaf (.seq .leaf (.seq (.join 5 [5, 6, 8, 39, 40, 41, 96] .leaf (.cond (.seq .leaf .leaf) .leaf)) (.seq .leaf (.block (.loop 6 [5, 6, 8, 39, 40, 41, 97, 98, 99] (.seq .leaf (.seq (.cond .leaf .leaf) (.seq (.block (.seq .leaf (.seq .leaf (.cond (.seq .leaf .leaf) .leaf)))) .leaf)))))))))))))))) .leaf)))))) (.seq .leaf .leaf)))))))
def src3 (K : Value → Hp → Prop) : Src
  | 1, [], vals, h => (tS fun items1 => tI .i64 fun n5 => tP fun c6 => tB fun v34 => tN (Tx.carlinglaw15_LruOldest_K1 ρ  (fun r0 h => K (.bool r0) h) items1 n5 c6 v34 h)) vals
  | 2, [T2], vals, h => (tI .i64 fun n5 => tP fun c6 => tS fun used8 => tS fun v39 => tI .i64 fun v40 => tI .i64 fun v41 => tN (Tx.carlinglaw15_LruOldest_B2 ρ (fun n5 c6 used8 v39 v40 v41 hh => T2 [(.int .i64 n5), (.pointer c6), (.slice used8.a used8.len used8.cap), (.slice v39.a v39.len v39.cap), (.int .i64 v40), (.int .i64 v41)] hh) (fun r0 h => K (.bool r0) h) n5 c6 used8 v39 v40 v41 h)) vals
  | 3, [T3, T2], vals, h => (tI .i64 fun n5 => tP fun c6 => tI .u8 fun x10 => tI .i64 fun item11 => tS fun rest12 => tS fun v39 => tI .i64 fun v40 => tI .i64 fun v41 => tS fun v48 => tI .i64 fun v49 => tI .i64 fun v50 => tN (Tx.carlinglaw15_LruOldest_B3 ρ (fun n5 c6 used8 v39 v40 v41 hh => T2 [(.int .i64 n5), (.pointer c6), (.slice used8.a used8.len used8.cap), (.slice v39.a v39.len v39.cap), (.int .i64 v40), (.int .i64 v41)] hh) (fun n5 c6 x10 item11 rest12 v39 v40 v41 v48 v49 v50 hh => T3 [(.int .i64 n5), (.pointer c6), (.int .u8 x10), (.int .i64 item11), (.slice rest12.a rest12.len rest12.cap), (.slice v39.a v39.len v39.cap), (.int .i64 v40), (.int .i64 v41), (.slice v48.a v48.len v48.cap), (.int .i64 v49), (.int .i64 v50)] hh) (fun r0 h => K (.bool r0) h) n5 c6 x10 item11 rest12 v39 v40 v41 v48 v49 v50 h)) vals
  | 4, [T3, T2], vals, h => (tI .i64 fun n5 => tP fun c6 => tI .u8 fun x10 => tI .i64 fun item11 => tS fun rest12 => tS fun v39 => tI .i64 fun v40 => tI .i64 fun v41 => tS fun v48 => tI .i64 fun v49 => tI .i64 fun v50 => tN (Tx.carlinglaw15_LruOldest_K4 ρ (fun n5 c6 used8 v39 v40 v41 hh => T2 [(.int .i64 n5), (.pointer c6), (.slice used8.a used8.len used8.cap), (.slice v39.a v39.len v39.cap), (.int .i64 v40), (.int .i64 v41)] hh) (fun n5 c6 x10 item11 rest12 v39 v40 v41 v48 v49 v50 hh => T3 [(.int .i64 n5), (.pointer c6), (.int .u8 x10), (.int .i64 item11), (.slice rest12.a rest12.len rest12.cap), (.slice v39.a v39.len v39.cap), (.int .i64 v40), (.int .i64 v41), (.slice v48.a v48.len v48.cap), (.int .i64 v49), (.int .i64 v50)] hh) (fun r0 h => K (.bool r0) h) n5 c6 x10 item11 rest12 v39 v40 v41 v48 v49 v50 h)) vals
  | 5, [T2], vals, h => (tI .i64 fun n5 => tP fun c6 => tS fun used8 => tS fun v39 => tI .i64 fun v40 => tI .i64 fun v41 => tB fun v96 => tN (Tx.carlinglaw15_LruOldest_K5 ρ (fun n5 c6 used8 v39 v40 v41 hh => T2 [(.int .i64 n5), (.pointer c6), (.slice used8.a used8.len used8.cap), (.slice v39.a v39.len v39.cap), (.int .i64 v40), (.int .i64 v41)] hh) (fun r0 h => K (.bool r0) h) n5 c6 used8 v39 v40 v41 v96 h)) vals
  | 6, [T6, T2], vals, h => (tI .i64 fun n5 => tP fun c6 => tS fun used8 => tS fun v39 => tI .i64 fun v40 => tI .i64 fun v41 => tS fun v97 => tI .i64 fun v98 => tI .i64 fun v99 => tN (Tx.carlinglaw15_LruOldest_B6 ρ (fun n5 c6 used8 v39 v40 v41 hh => T2 [(.int .i64 n5), (.pointer c6), (.slice used8.a used8.len used8.cap), (.slice v39.a v39.len v39.cap), (.int .i64 v40), (.int .i64 v41)] hh) (fun n5 c6 used8 v39 v40 v41 v97 v98 v99 hh => T6 [(.int .i64 n5), (.pointer c6), (.slice used8.a used8.len used8.cap), (.slice v39.a v39.len v39.cap), (.int .i64 v40), (.int .i64 v41), (.slice v97.a v97.len v97.cap), (.int .i64 v98), (.int .i64 v99)] hh) (fun r0 h => K (.bool r0) h) n5 c6 used8 v39 v40 v41 v97 v98 v99 h)) vals
  | 7, [T2], vals, h => (tI .i64 fun n5 => tP fun c6 => tI .u8 fun x10 => tI .i64 fun item11 => tS fun rest12 => tI .i64 fun want15 => tS fun v39 => tI .i64 fun v40 => tI .i64 fun v41 => tN (Tx.carlinglaw15_LruOldest_K7 ρ (fun n5 c6 used8 v39 v40 v41 hh => T2 [(.int .i64 n5), (.pointer c6), (.slice used8.a used8.len used8.cap), (.slice v39.a v39.len v39.cap), (.int .i64 v40), (.int .i64 v41)] hh) (fun r0 h => K (.bool r0) h) n5 c6 x10 item11 rest12 want15 v39 v40 v41 h)) vals
  | _, _, _, _ => False
theorem ok3 : SpecOk Try.prog 3 (Tx.carlinglaw15_LruOldest_S ρ) := by
  refine spec_ok (c := c3) agree (specsOk_cons ok11 (specsOk_cons ok10 (specsOk_cons ok9 (specsOk_cons ok8 (specsOk_cons ok7 specsOk_nil))))) specsOk_nil mixed Try.func3 (by kernel_rfl) (by kernel_rfl) A3 (by kernel_rfl) (src3) ?_ ?_
  · intro args h K H
    obtain ⟨room0, rr, rfl, H1⟩ := tI_elim H
    obtain ⟨items1, rr, rfl, H2⟩ := tS_elim H1
    obtain ⟨rfl, H3⟩ := tN_elim H2
    exact ⟨ble_le (by kernel_rfl), cast (by kernel_rfl) H3⟩
  · intro K k inner vals h hk hin H
    rw [show pts A3 = [1, 2, 3, 4, 7, 5, 6] from by kernel_rfl] at hk
    simp only [List.mem_cons, List.not_mem_nil, or_false] at hk
    rcases hk with rfl | rfl | rfl | rfl | rfl | rfl | rfl
    · rw [show depth 1 A3 = 0 from by kernel_rfl] at hin
      obtain rfl := len0 hin
      have H : src3 K 1 [] vals h := H
      simp only [src3] at H
      obtain ⟨items1, rr, rfl, H1⟩ := tS_elim H
      obtain ⟨n5, rr, rfl, H2⟩ := tI_elim H1
      obtain ⟨c6, rr, rfl, H3⟩ := tP_elim H2
      obtain ⟨v34, rr, rfl, H4⟩ := tB_elim H3
      obtain ⟨rfl, H5⟩ := tN_elim H4
      exact cast (by kernel_rfl) H5
    · rw [show depth 2 A3 = 1 from by kernel_rfl] at hin
      obtain ⟨T2, rfl⟩ := len1 hin
      have H : src3 K 2 [T2] vals h := H
      simp only [src3] at H
      obtain ⟨n5, rr, rfl, H1⟩ := tI_elim H
      obtain ⟨c6, rr, rfl, H2⟩ := tP_elim H1
      obtain ⟨used8, rr, rfl, H3⟩ := tS_elim H2
      obtain ⟨v39, rr, rfl, H4⟩ := tS_elim H3
      obtain ⟨v40, rr, rfl, H5⟩ := tI_elim H4
      obtain ⟨v41, rr, rfl, H6⟩ := tI_elim H5
      obtain ⟨rfl, H7⟩ := tN_elim H6
      exact cast (by kernel_rfl) H7
    · rw [show depth 3 A3 = 2 from by kernel_rfl] at hin
      obtain ⟨T2, T3, rfl⟩ := len2 hin
      have H : src3 K 3 [T3, T2] vals h := H
      simp only [src3] at H
      obtain ⟨n5, rr, rfl, H1⟩ := tI_elim H
      obtain ⟨c6, rr, rfl, H2⟩ := tP_elim H1
      obtain ⟨x10, rr, rfl, H3⟩ := tI_elim H2
      obtain ⟨item11, rr, rfl, H4⟩ := tI_elim H3
      obtain ⟨rest12, rr, rfl, H5⟩ := tS_elim H4
      obtain ⟨v39, rr, rfl, H6⟩ := tS_elim H5
      obtain ⟨v40, rr, rfl, H7⟩ := tI_elim H6
      obtain ⟨v41, rr, rfl, H8⟩ := tI_elim H7
      obtain ⟨v48, rr, rfl, H9⟩ := tS_elim H8
      obtain ⟨v49, rr, rfl, H10⟩ := tI_elim H9
      obtain ⟨v50, rr, rfl, H11⟩ := tI_elim H10
      obtain ⟨rfl, H12⟩ := tN_elim H11
      exact cast (by kernel_rfl) H12
    · rw [show depth 4 A3 = 2 from by kernel_rfl] at hin
      obtain ⟨T2, T3, rfl⟩ := len2 hin
      have H : src3 K 4 [T3, T2] vals h := H
      simp only [src3] at H
      obtain ⟨n5, rr, rfl, H1⟩ := tI_elim H
      obtain ⟨c6, rr, rfl, H2⟩ := tP_elim H1
      obtain ⟨x10, rr, rfl, H3⟩ := tI_elim H2
      obtain ⟨item11, rr, rfl, H4⟩ := tI_elim H3
      obtain ⟨rest12, rr, rfl, H5⟩ := tS_elim H4
      obtain ⟨v39, rr, rfl, H6⟩ := tS_elim H5
      obtain ⟨v40, rr, rfl, H7⟩ := tI_elim H6
      obtain ⟨v41, rr, rfl, H8⟩ := tI_elim H7
      obtain ⟨v48, rr, rfl, H9⟩ := tS_elim H8
      obtain ⟨v49, rr, rfl, H10⟩ := tI_elim H9
      obtain ⟨v50, rr, rfl, H11⟩ := tI_elim H10
      obtain ⟨rfl, H12⟩ := tN_elim H11
      exact cast (by kernel_rfl) H12
    · rw [show depth 7 A3 = 1 from by kernel_rfl] at hin
      obtain ⟨T2, rfl⟩ := len1 hin
      have H : src3 K 7 [T2] vals h := H
      simp only [src3] at H
      obtain ⟨n5, rr, rfl, H1⟩ := tI_elim H
      obtain ⟨c6, rr, rfl, H2⟩ := tP_elim H1
      obtain ⟨x10, rr, rfl, H3⟩ := tI_elim H2
      obtain ⟨item11, rr, rfl, H4⟩ := tI_elim H3
      obtain ⟨rest12, rr, rfl, H5⟩ := tS_elim H4
      obtain ⟨want15, rr, rfl, H6⟩ := tI_elim H5
      obtain ⟨v39, rr, rfl, H7⟩ := tS_elim H6
      obtain ⟨v40, rr, rfl, H8⟩ := tI_elim H7
      obtain ⟨v41, rr, rfl, H9⟩ := tI_elim H8
      obtain ⟨rfl, H10⟩ := tN_elim H9
      exact cast (by kernel_rfl) H10
    · rw [show depth 5 A3 = 1 from by kernel_rfl] at hin
      obtain ⟨T2, rfl⟩ := len1 hin
      have H : src3 K 5 [T2] vals h := H
      simp only [src3] at H
      obtain ⟨n5, rr, rfl, H1⟩ := tI_elim H
      obtain ⟨c6, rr, rfl, H2⟩ := tP_elim H1
      obtain ⟨used8, rr, rfl, H3⟩ := tS_elim H2
      obtain ⟨v39, rr, rfl, H4⟩ := tS_elim H3
      obtain ⟨v40, rr, rfl, H5⟩ := tI_elim H4
      obtain ⟨v41, rr, rfl, H6⟩ := tI_elim H5
      obtain ⟨v96, rr, rfl, H7⟩ := tB_elim H6
      obtain ⟨rfl, H8⟩ := tN_elim H7
      exact cast (by kernel_rfl) H8
    · rw [show depth 6 A3 = 2 from by kernel_rfl] at hin
      obtain ⟨T2, T6, rfl⟩ := len2 hin
      have H : src3 K 6 [T6, T2] vals h := H
      simp only [src3] at H
      obtain ⟨n5, rr, rfl, H1⟩ := tI_elim H
      obtain ⟨c6, rr, rfl, H2⟩ := tP_elim H1
      obtain ⟨used8, rr, rfl, H3⟩ := tS_elim H2
      obtain ⟨v39, rr, rfl, H4⟩ := tS_elim H3
      obtain ⟨v40, rr, rfl, H5⟩ := tI_elim H4
      obtain ⟨v41, rr, rfl, H6⟩ := tI_elim H5
      obtain ⟨v97, rr, rfl, H7⟩ := tS_elim H6
      obtain ⟨v98, rr, rfl, H8⟩ := tI_elim H7
      obtain ⟨v99, rr, rfl, H9⟩ := tI_elim H8
      obtain ⟨rfl, H10⟩ := tN_elim H9
      exact cast (by kernel_rfl) H10


end Go.Proofs.Ytkbmoanoaakcpaa.Lk
