import Derived.Test.YtabdhjmlfhhmpaaDoorIpTx
import Derived.Test.YtabdhjmlfhhmpaaDoorIpSh1
import Derived.Test.YtabdhjmlfhhmpaaDoorIpSort
import Derived.Test.YtabdhjmlfhhmpaaDoorProg
set_option linter.unusedSimpArgs false
set_option linter.unusedVariables false
namespace Go.Proofs.YtabdhjmlfhhmpaaDoor.Lk
open Go Go.Wc Go.Proofs.YtabdhjmlfhhmpaaDoor

def τ : Tys := [
(2, ⟨.int .i64, 1, 8, (.int .i64 (0 : Int)), [.int .i64], true⟩),
(3, ⟨.int .i64, 1, 8, (.int .i64 (0 : Int)), [.int .i64], true⟩),
(4, ⟨.bool, 1, 1, (.bool false), [.bool], true⟩),
(5, ⟨.int .u8, 1, 1, (.int .u8 (0 : Int)), [.int .u8], true⟩),
(9, ⟨.str, 1, 16, (.string (⟨#[]⟩ : ByteArray)), [.str], true⟩),
(22, ⟨.slice 5, 1, 24, (.slice none 0 0), [.sl], true⟩),
(23, ⟨.arr 32 5, 32, 32, (.agg (lumpV .u8 32 (List.replicate 32 0)).toArray), [.lump .u8 32], true⟩),
(25, ⟨.struct [(3, 0), (3, 1), (3, 2), (3, 3), (2, 4), (3, 5), (23, 6)], 38, 80, (.agg (([(.int .i64 (0 : Int)), (.int .i64 (0 : Int)), (.int .i64 (0 : Int)), (.int .i64 (0 : Int)), (.int .i64 (0 : Int)), (.int .i64 (0 : Int))] : List Value) ++ lumpV .u8 32 (List.replicate 32 0)).toArray), [.int .i64, .int .i64, .int .i64, .int .i64, .int .i64, .int .i64, .lump .u8 32], true⟩),
(26, ⟨.int .i64, 1, 8, (.int .i64 (0 : Int)), [.int .i64], true⟩),
(29, ⟨.struct [(3, 0), (3, 1), (3, 2), (3, 3), (2, 4), (3, 5), (23, 6)], 38, 80, (.agg (([(.int .i64 (0 : Int)), (.int .i64 (0 : Int)), (.int .i64 (0 : Int)), (.int .i64 (0 : Int)), (.int .i64 (0 : Int)), (.int .i64 (0 : Int))] : List Value) ++ lumpV .u8 32 (List.replicate 32 0)).toArray), [.int .i64, .int .i64, .int .i64, .int .i64, .int .i64, .int .i64, .lump .u8 32], true⟩),
(46, ⟨.ptr 61, 1, 8, (.pointer none), [.ptr], true⟩),
(48, ⟨.int .u64, 1, 8, (.int .u64 (0 : Int)), [.int .u64], true⟩),
(55, ⟨.slice 3, 1, 24, (.slice none 0 0), [.sl], true⟩),
(61, ⟨.struct [(22, 0), (26, 1)], 2, 32, (.agg [(.slice none 0 0), (.int .i64 (0 : Int))].toArray), [.sl, .int .i64], true⟩)]
theorem agree : Agree Tryd.prog τ := agree_of _ _ (by kernel_rfl) (by kernel_rfl)
theorem mixed : Tryd.prog.follows .mixedOrders = true := by kernel_rfl
def ρ : Ids := ids [(0, 3), (1, 5), (8, 25), (9, 29), (10, 61)] [(9, 27), (13, 45), (24, 38), (25, 36), (28, 12), (38, 6), (39, 7), (40, 8), (41, 9), (42, 17), (43, 18), (44, 19), (45, 20), (46, 21), (47, 28), (48, 29), (49, 30), (50, 31), (51, 40), (52, 47), (53, 46), (54, 48), (55, 32), (56, 24), (57, 33), (58, 37), (59, 39), (60, 41), (61, 22), (62, 23), (63, 34), (64, 35), (65, 42), (66, 10), (67, 25), (68, 26), (69, 11), (70, 13), (71, 14), (72, 15), (73, 16)]

noncomputable def c17 : Code := Tryd.f17.body.getD .skip
def A17 : Ann := (.seq .leaf (.seq .leaf .leaf))
def src17 (_ : Value → Hp → Prop) : Src := fun _ _ _ _ => False
theorem ok17 : SpecOk Tryd.prog 17 (Tx.pack_Read_S ρ) := by
  refine spec_ok (c := c17) agree specsOk_nil specsOk_nil mixed Tryd.func17 (by kernel_rfl) (by kernel_rfl) A17 (by kernel_rfl) (src17) ?_ ?_
  · intro args h K H
    unfold Tx.pack_Read_S at H
    obtain ⟨b0, rr, rfl, H1⟩ := tS_elim H
    obtain ⟨rfl, H2⟩ := tN_elim H1
    exact ⟨ble_le (by kernel_rfl), cast (by kernel_rfl) H2⟩
  · intro K k inner vals h hk hin H
    exact H.elim


noncomputable def c27 : Code := Tryd.f27.body.getD .skip
def A27 : Ann := (.seq .leaf (.seq (.seq .leaf (.cond (.seq .leaf .leaf) .leaf)) (.seq .leaf .leaf)))
def src27 (_ : Value → Hp → Prop) : Src := fun _ _ _ _ => False
theorem ok27 : SpecOk Tryd.prog 27 (Tx.bytes_Clone_S ρ) := by
  refine spec_ok (c := c27) agree specsOk_nil specsOk_nil mixed Tryd.func27 (by kernel_rfl) (by kernel_rfl) A27 (by kernel_rfl) (src27) ?_ ?_
  · intro args h K H
    unfold Tx.bytes_Clone_S at H
    obtain ⟨b0, rr, rfl, H1⟩ := tS_elim H
    obtain ⟨rfl, H2⟩ := tN_elim H1
    exact ⟨ble_le (by kernel_rfl), cast (by kernel_rfl) H2⟩
  · intro K k inner vals h hk hin H
    exact H.elim


noncomputable def c29 : Code := Tryd.f29.body.getD .skip
def A29 : Ann := (.seq .leaf (.seq (.seq .leaf (.cond (.seq .leaf .leaf) .leaf)) (.seq .leaf .leaf)))
def src29 (_ : Value → Hp → Prop) : Src := fun _ _ _ _ => False
theorem ok29 : SpecOk Tryd.prog 29 (Tx.pack_Reader_Err_S ρ) := by
  refine spec_ok (c := c29) agree specsOk_nil specsOk_nil mixed Tryd.func29 (by kernel_rfl) (by kernel_rfl) A29 (by kernel_rfl) (src29) ?_ ?_
  · intro args h K H
    unfold Tx.pack_Reader_Err_S at H
    obtain ⟨r0, rr, rfl, H1⟩ := tP_elim H
    obtain ⟨rfl, H2⟩ := tN_elim H1
    exact ⟨ble_le (by kernel_rfl), cast (by kernel_rfl) H2⟩
  · intro K k inner vals h hk hin H
    exact H.elim


noncomputable def c30 : Code := Tryd.f30.body.getD .skip
def A30 : Ann := (.seq .leaf (.cond .leaf .leaf))
def src30 (_ : Value → Hp → Prop) : Src := fun _ _ _ _ => False
theorem ok30 : SpecOk Tryd.prog 30 (Tx.pack_Reader_fail_S ρ) := by
  refine spec_ok (c := c30) agree specsOk_nil specsOk_nil mixed Tryd.func30 (by kernel_rfl) (by kernel_rfl) A30 (by kernel_rfl) (src30) ?_ ?_
  · intro args h K H
    unfold Tx.pack_Reader_fail_S at H
    obtain ⟨r0, rr, rfl, H1⟩ := tP_elim H
    obtain ⟨e1, rr, rfl, H2⟩ := tI_elim H1
    obtain ⟨rfl, H3⟩ := tN_elim H2
    exact ⟨ble_le (by kernel_rfl), cast (by kernel_rfl) H3⟩
  · intro K k inner vals h hk hin H
    exact H.elim


noncomputable def c19 : Code := Tryd.f19.body.getD .skip
def A19 : Ann := (.seq .leaf (.seq .leaf (.seq (.block (.seq .leaf (.cond (.seq .leaf .leaf) (.seq .leaf (.cond (.seq .leaf (.seq .leaf .leaf)) .leaf))))) (.seq .leaf (.seq .leaf (.seq .leaf .leaf))))))
def src19 (_ : Value → Hp → Prop) : Src := fun _ _ _ _ => False
theorem ok19 : SpecOk Tryd.prog 19 (Tx.pack_Reader_Bytes_S ρ) := by
  refine spec_ok (c := c19) agree (specsOk_cons ok30 (specsOk_cons ok29 (specsOk_cons ok27 specsOk_nil))) specsOk_nil mixed Tryd.func19 (by kernel_rfl) (by kernel_rfl) A19 (by kernel_rfl) (src19) ?_ ?_
  · intro args h K H
    unfold Tx.pack_Reader_Bytes_S at H
    obtain ⟨r0, rr, rfl, H1⟩ := tP_elim H
    obtain ⟨n1, rr, rfl, H2⟩ := tI_elim H1
    obtain ⟨rfl, H3⟩ := tN_elim H2
    exact ⟨ble_le (by kernel_rfl), cast (by kernel_rfl) H3⟩
  · intro K k inner vals h hk hin H
    exact H.elim


noncomputable def c28 : Code := Tryd.f28.body.getD .skip
def A28 : Ann := (.seq .leaf (.seq .leaf .leaf))
def src28 (_ : Value → Hp → Prop) : Src := fun _ _ _ _ => False
theorem ok28 : SpecOk Tryd.prog 28 (Tx.pack_sized_S ρ) := by
  refine spec_ok (c := c28) agree specsOk_nil specsOk_nil mixed Tryd.func28 (by kernel_rfl) (by kernel_rfl) A28 (by kernel_rfl) (src28) ?_ ?_
  · intro args h K H
    unfold Tx.pack_sized_S at H
    obtain ⟨size0, rr, rfl, H1⟩ := tI_elim H
    obtain ⟨rfl, H2⟩ := tN_elim H1
    exact ⟨ble_le (by kernel_rfl), cast (by kernel_rfl) H2⟩
  · intro K k inner vals h hk hin H
    exact H.elim


noncomputable def c18 : Code := Tryd.f18.body.getD .skip
def A18 : Ann := (.seq .leaf (.seq .leaf (.seq (.seq .leaf (.block (.loop 1 [0, 2, 7, 13, 14, 15] (.seq .leaf (.seq (.cond .leaf .leaf) (.seq (.block (.seq .leaf .leaf)) .leaf)))))) (.seq (.join 2 [0, 7, 35] .leaf (.cond (.seq .leaf (.seq .leaf .leaf)) .leaf)) (.seq .leaf .leaf)))))
def src18 (K : Value → Hp → Prop) : Src
  | 1, [T1], vals, h => (tP fun r0 => tI .u64 fun most2 => tI .u64 fun n7 => tS fun v13 => tI .i64 fun v14 => tI .i64 fun v15 => tN (Tx.pack_Reader_Num_B1 ρ (fun r0 most2 n7 v13 v14 v15 hh => T1 [(.pointer r0), (.int .u64 most2), (.int .u64 n7), (.slice v13.a v13.len v13.cap), (.int .i64 v14), (.int .i64 v15)] hh) (fun r0 h => K (.int .u64 r0) h) r0 most2 n7 v13 v14 v15 h)) vals
  | 2, [], vals, h => (tP fun r0 => tI .u64 fun n7 => tB fun v35 => tN (Tx.pack_Reader_Num_K2 ρ  (fun r0 h => K (.int .u64 r0) h) r0 n7 v35 h)) vals
  | _, _, _, _ => False
theorem ok18 : SpecOk Tryd.prog 18 (Tx.pack_Reader_Num_S ρ) := by
  refine spec_ok (c := c18) agree (specsOk_cons ok30 (specsOk_cons ok29 (specsOk_cons ok28 (specsOk_cons ok19 specsOk_nil)))) specsOk_nil mixed Tryd.func18 (by kernel_rfl) (by kernel_rfl) A18 (by kernel_rfl) (src18) ?_ ?_
  · intro args h K H
    unfold Tx.pack_Reader_Num_S at H
    obtain ⟨r0, rr, rfl, H1⟩ := tP_elim H
    obtain ⟨size1, rr, rfl, H2⟩ := tI_elim H1
    obtain ⟨most2, rr, rfl, H3⟩ := tI_elim H2
    obtain ⟨rfl, H4⟩ := tN_elim H3
    exact ⟨ble_le (by kernel_rfl), cast (by kernel_rfl) H4⟩
  · intro K k inner vals h hk hin H
    rw [show pts A18 = [1, 2] from by kernel_rfl] at hk
    simp only [List.mem_cons, List.not_mem_nil, or_false] at hk
    rcases hk with rfl | rfl
    · rw [show depth 1 A18 = 1 from by kernel_rfl] at hin
      obtain ⟨T1, rfl⟩ := len1 hin
      have H : src18 K 1 [T1] vals h := H
      simp only [src18] at H
      obtain ⟨r0, rr, rfl, H1⟩ := tP_elim H
      obtain ⟨most2, rr, rfl, H2⟩ := tI_elim H1
      obtain ⟨n7, rr, rfl, H3⟩ := tI_elim H2
      obtain ⟨v13, rr, rfl, H4⟩ := tS_elim H3
      obtain ⟨v14, rr, rfl, H5⟩ := tI_elim H4
      obtain ⟨v15, rr, rfl, H6⟩ := tI_elim H5
      obtain ⟨rfl, H7⟩ := tN_elim H6
      exact cast (by kernel_rfl) H7
    · rw [show depth 2 A18 = 0 from by kernel_rfl] at hin
      obtain rfl := len0 hin
      have H : src18 K 2 [] vals h := H
      simp only [src18] at H
      obtain ⟨r0, rr, rfl, H1⟩ := tP_elim H
      obtain ⟨n7, rr, rfl, H2⟩ := tI_elim H1
      obtain ⟨v35, rr, rfl, H3⟩ := tB_elim H2
      obtain ⟨rfl, H4⟩ := tN_elim H3
      exact cast (by kernel_rfl) H4


noncomputable def c46 : Code := Tryd.f46.body.getD .skip
def A46 : Ann := (.seq .leaf (.seq (.block (.loop 1 [0, 1] (.seq (.join 2 [0, 1, 14] .leaf (.cond .leaf .leaf)) (.block .leaf)))) (.seq (.seq .leaf (.cond (.seq .leaf .leaf) .leaf)) (.seq .leaf .leaf))))
def src46 (K : Value → Hp → Prop) : Src
  | 1, [T1], vals, h => (tS fun s0 => tI .u8 fun c1 => tN (Tx.bytes_trimLeftByte_B1 ρ (fun s0 c1 hh => T1 [(.slice s0.a s0.len s0.cap), (.int .u8 c1)] hh) (fun r0 h => K (.slice r0.a r0.len r0.cap) h) s0 c1 h)) vals
  | 2, [T1], vals, h => (tS fun s0 => tI .u8 fun c1 => tB fun v14 => tN (Tx.bytes_trimLeftByte_K2 ρ (fun s0 c1 hh => T1 [(.slice s0.a s0.len s0.cap), (.int .u8 c1)] hh) (fun r0 h => K (.slice r0.a r0.len r0.cap) h) s0 c1 v14 h)) vals
  | _, _, _, _ => False
theorem ok46 : SpecOk Tryd.prog 46 (Tx.bytes_trimLeftByte_S ρ) := by
  refine spec_ok (c := c46) agree specsOk_nil specsOk_nil mixed Tryd.func46 (by kernel_rfl) (by kernel_rfl) A46 (by kernel_rfl) (src46) ?_ ?_
  · intro args h K H
    unfold Tx.bytes_trimLeftByte_S at H
    obtain ⟨s0, rr, rfl, H1⟩ := tS_elim H
    obtain ⟨c1, rr, rfl, H2⟩ := tI_elim H1
    obtain ⟨rfl, H3⟩ := tN_elim H2
    exact ⟨ble_le (by kernel_rfl), cast (by kernel_rfl) H3⟩
  · intro K k inner vals h hk hin H
    rw [show pts A46 = [1, 2] from by kernel_rfl] at hk
    simp only [List.mem_cons, List.not_mem_nil, or_false] at hk
    rcases hk with rfl | rfl
    · rw [show depth 1 A46 = 1 from by kernel_rfl] at hin
      obtain ⟨T1, rfl⟩ := len1 hin
      have H : src46 K 1 [T1] vals h := H
      simp only [src46] at H
      obtain ⟨s0, rr, rfl, H1⟩ := tS_elim H
      obtain ⟨c1, rr, rfl, H2⟩ := tI_elim H1
      obtain ⟨rfl, H3⟩ := tN_elim H2
      exact cast (by kernel_rfl) H3
    · rw [show depth 2 A46 = 1 from by kernel_rfl] at hin
      obtain ⟨T1, rfl⟩ := len1 hin
      have H : src46 K 2 [T1] vals h := H
      simp only [src46] at H
      obtain ⟨s0, rr, rfl, H1⟩ := tS_elim H
      obtain ⟨c1, rr, rfl, H2⟩ := tI_elim H1
      obtain ⟨v14, rr, rfl, H3⟩ := tB_elim H2
      obtain ⟨rfl, H4⟩ := tN_elim H3
      exact cast (by kernel_rfl) H4


noncomputable def c47 : Code := Tryd.f47.body.getD .skip
def A47 : Ann := (.seq .leaf (.seq (.block (.loop 1 [0, 1] (.seq (.join 2 [0, 1, 17] .leaf (.cond .leaf .leaf)) (.block .leaf)))) (.seq .leaf .leaf)))
def src47 (K : Value → Hp → Prop) : Src
  | 1, [T1], vals, h => (tS fun s0 => tI .u8 fun c1 => tN (Tx.bytes_trimRightByte_B1 ρ (fun s0 c1 hh => T1 [(.slice s0.a s0.len s0.cap), (.int .u8 c1)] hh) (fun r0 h => K (.slice r0.a r0.len r0.cap) h) s0 c1 h)) vals
  | 2, [T1], vals, h => (tS fun s0 => tI .u8 fun c1 => tB fun v17 => tN (Tx.bytes_trimRightByte_K2 ρ (fun s0 c1 hh => T1 [(.slice s0.a s0.len s0.cap), (.int .u8 c1)] hh) (fun r0 h => K (.slice r0.a r0.len r0.cap) h) s0 c1 v17 h)) vals
  | _, _, _, _ => False
theorem ok47 : SpecOk Tryd.prog 47 (Tx.bytes_trimRightByte_S ρ) := by
  refine spec_ok (c := c47) agree specsOk_nil specsOk_nil mixed Tryd.func47 (by kernel_rfl) (by kernel_rfl) A47 (by kernel_rfl) (src47) ?_ ?_
  · intro args h K H
    unfold Tx.bytes_trimRightByte_S at H
    obtain ⟨s0, rr, rfl, H1⟩ := tS_elim H
    obtain ⟨c1, rr, rfl, H2⟩ := tI_elim H1
    obtain ⟨rfl, H3⟩ := tN_elim H2
    exact ⟨ble_le (by kernel_rfl), cast (by kernel_rfl) H3⟩
  · intro K k inner vals h hk hin H
    rw [show pts A47 = [1, 2] from by kernel_rfl] at hk
    simp only [List.mem_cons, List.not_mem_nil, or_false] at hk
    rcases hk with rfl | rfl
    · rw [show depth 1 A47 = 1 from by kernel_rfl] at hin
      obtain ⟨T1, rfl⟩ := len1 hin
      have H : src47 K 1 [T1] vals h := H
      simp only [src47] at H
      obtain ⟨s0, rr, rfl, H1⟩ := tS_elim H
      obtain ⟨c1, rr, rfl, H2⟩ := tI_elim H1
      obtain ⟨rfl, H3⟩ := tN_elim H2
      exact cast (by kernel_rfl) H3
    · rw [show depth 2 A47 = 1 from by kernel_rfl] at hin
      obtain ⟨T1, rfl⟩ := len1 hin
      have H : src47 K 2 [T1] vals h := H
      simp only [src47] at H
      obtain ⟨s0, rr, rfl, H1⟩ := tS_elim H
      obtain ⟨c1, rr, rfl, H2⟩ := tI_elim H1
      obtain ⟨v17, rr, rfl, H3⟩ := tB_elim H2
      obtain ⟨rfl, H4⟩ := tN_elim H3
      exact cast (by kernel_rfl) H4


noncomputable def c40 : Code := Tryd.f40.body.getD .skip
def A40 : Ann := (.seq .leaf (.seq (.seq .leaf (.cond (.seq .leaf .leaf) .leaf)) (.seq (.seq .leaf (.cond (.seq .leaf .leaf) .leaf)) (.seq (.join 1 [0, 1, 20] .leaf (.cond (.seq (.plan (.take 0 [3, 6] (.take 1 [3, 6] (.take 2 [3, 6] (.take 4 [6] (.take 5 [6] (.all (.alt 3 (.all (.alt 6 (.take 7 [] .done) .nil)) .nil)))))))) .leaf) .leaf)) (.seq (.seq .leaf (.seq .leaf (.cond (.seq .leaf .leaf) .leaf))) (.seq .leaf .leaf))))))
def src40 (K : Value → Hp → Prop) : Src
  | 1, [], vals, h => (tS fun s0 => tT fun cutset1 => tB fun v20 => tN (Tx.bytes_Trim_K1 ρ  (fun r0 h => K (.slice r0.a r0.len r0.cap) h) s0 cutset1 v20 h)) vals
  | _, _, _, _ => False
theorem ok40 : SpecOk Tryd.prog 40 (Tx.bytes_Trim_S ρ) := by
  refine spec_ok (c := c40) agree (specsOk_cons ok47 (specsOk_cons ok46 specsOk_nil)) specsOk_nil mixed Tryd.func40 (by kernel_rfl) (by kernel_rfl) A40 (by kernel_rfl) (src40) ?_ ?_
  · intro args h K H
    unfold Tx.bytes_Trim_S at H
    obtain ⟨s0, rr, rfl, H1⟩ := tS_elim H
    obtain ⟨cutset1, rr, rfl, H2⟩ := tT_elim H1
    obtain ⟨rfl, H3⟩ := tN_elim H2
    exact ⟨ble_le (by kernel_rfl), cast (by kernel_rfl) H3⟩
  · intro K k inner vals h hk hin H
    rw [show pts A40 = [1] from by kernel_rfl] at hk
    simp only [List.mem_cons, List.not_mem_nil, or_false] at hk
    rcases hk with rfl
    · rw [show depth 1 A40 = 0 from by kernel_rfl] at hin
      obtain rfl := len0 hin
      have H : src40 K 1 [] vals h := H
      simp only [src40] at H
      obtain ⟨s0, rr, rfl, H1⟩ := tS_elim H
      obtain ⟨cutset1, rr, rfl, H2⟩ := tT_elim H1
      obtain ⟨v20, rr, rfl, H3⟩ := tB_elim H2
      obtain ⟨rfl, H4⟩ := tN_elim H3
      exact cast (by kernel_rfl) H4


noncomputable def c31 : Code := Tryd.f31.body.getD .skip
def A31 : Ann := (.seq .leaf (.seq .leaf .leaf))
def src31 (_ : Value → Hp → Prop) : Src := fun _ _ _ _ => False
theorem ok31 : SpecOk Tryd.prog 31 (Tx.pack_zero_S ρ) := by
  refine spec_ok (c := c31) agree (specsOk_cons ok40 specsOk_nil) specsOk_nil mixed Tryd.func31 (by kernel_rfl) (by kernel_rfl) A31 (by kernel_rfl) (src31) ?_ ?_
  · intro args h K H
    unfold Tx.pack_zero_S at H
    obtain ⟨b0, rr, rfl, H1⟩ := tS_elim H
    obtain ⟨rfl, H2⟩ := tN_elim H1
    exact ⟨ble_le (by kernel_rfl), cast (by kernel_rfl) H2⟩
  · intro K k inner vals h hk hin H
    exact H.elim


noncomputable def c20 : Code := Tryd.f20.body.getD .skip
def A20 : Ann := (.seq .leaf (.join 2 [0] (.join 1 [0, 13] .leaf (.cond .leaf .leaf)) (.seq .leaf .leaf)))
def src20 (K : Value → Hp → Prop) : Src
  | 1, [], vals, h => (tP fun r0 => tB fun v13 => tN (Tx.pack_Reader_Rest_K1 ρ  (fun r0 h => K (.int .i64 r0) h) r0 v13 h)) vals
  | 2, [], vals, h => (tP fun r0 => tN (Tx.pack_Reader_Rest_K2 ρ  (fun r0 h => K (.int .i64 r0) h) r0 h)) vals
  | _, _, _, _ => False
theorem ok20 : SpecOk Tryd.prog 20 (Tx.pack_Reader_Rest_S ρ) := by
  refine spec_ok (c := c20) agree (specsOk_cons ok31 (specsOk_cons ok30 (specsOk_cons ok29 specsOk_nil))) specsOk_nil mixed Tryd.func20 (by kernel_rfl) (by kernel_rfl) A20 (by kernel_rfl) (src20) ?_ ?_
  · intro args h K H
    unfold Tx.pack_Reader_Rest_S at H
    obtain ⟨r0, rr, rfl, H1⟩ := tP_elim H
    obtain ⟨rfl, H2⟩ := tN_elim H1
    exact ⟨ble_le (by kernel_rfl), cast (by kernel_rfl) H2⟩
  · intro K k inner vals h hk hin H
    rw [show pts A20 = [2, 1] from by kernel_rfl] at hk
    simp only [List.mem_cons, List.not_mem_nil, or_false] at hk
    rcases hk with rfl | rfl
    · rw [show depth 2 A20 = 0 from by kernel_rfl] at hin
      obtain rfl := len0 hin
      have H : src20 K 2 [] vals h := H
      simp only [src20] at H
      obtain ⟨r0, rr, rfl, H1⟩ := tP_elim H
      obtain ⟨rfl, H2⟩ := tN_elim H1
      exact cast (by kernel_rfl) H2
    · rw [show depth 1 A20 = 0 from by kernel_rfl] at hin
      obtain rfl := len0 hin
      have H : src20 K 1 [] vals h := H
      simp only [src20] at H
      obtain ⟨r0, rr, rfl, H1⟩ := tP_elim H
      obtain ⟨v13, rr, rfl, H2⟩ := tB_elim H1
      obtain ⟨rfl, H3⟩ := tN_elim H2
      exact cast (by kernel_rfl) H3


noncomputable def c45 : Code := Tryd.f45.body.getD .skip
def A45 : Ann := (.seq .leaf (.seq (.seq .leaf (.block (.loop 1 [0, 1, 7, 8] (.seq .leaf (.seq (.cond .leaf .leaf) (.seq (.block (.seq .leaf (.seq .leaf (.cond (.seq .leaf .leaf) .leaf)))) .leaf)))))) (.seq .leaf .leaf)))
def src45 (cl : Specs) (K : Value → Hp → Prop) : Src
  | 1, [T1], vals, h => (tS fun s0 => tV fun f1 => tI .i64 fun v7 => tI .i64 fun v8 => tN (Tx.slices_IndexFunc_int_int_B1 ρ (phi cl) (fun s0 f1 v7 v8 hh => T1 [(.slice s0.a s0.len s0.cap), f1, (.int .i64 v7), (.int .i64 v8)] hh) (fun r0 h => K (.int .i64 r0) h) s0 f1 v7 v8 h)) vals
  | _, _, _, _ => False
theorem ok45 (cl : Specs) (hcl : SpecsOk Tryd.prog cl) : SpecOk Tryd.prog 45 (Tx.slices_IndexFunc_int_int_S ρ (phi cl)) := by
  refine spec_ok (c := c45) agree specsOk_nil hcl mixed Tryd.func45 (by kernel_rfl) (by kernel_rfl) A45 (by kernel_rfl) (src45 cl) ?_ ?_
  · intro args h K H
    unfold Tx.slices_IndexFunc_int_int_S at H
    obtain ⟨s0, rr, rfl, H1⟩ := tS_elim H
    obtain ⟨f1, rr, rfl, H2⟩ := tV_elim H1
    obtain ⟨rfl, H3⟩ := tN_elim H2
    exact ⟨ble_le (by kernel_rfl), cast (by kernel_rfl) H3⟩
  · intro K k inner vals h hk hin H
    rw [show pts A45 = [1] from by kernel_rfl] at hk
    simp only [List.mem_cons, List.not_mem_nil, or_false] at hk
    rcases hk with rfl
    · rw [show depth 1 A45 = 1 from by kernel_rfl] at hin
      obtain ⟨T1, rfl⟩ := len1 hin
      have H : src45 cl K 1 [T1] vals h := H
      simp only [src45] at H
      obtain ⟨s0, rr, rfl, H1⟩ := tS_elim H
      obtain ⟨f1, rr, rfl, H2⟩ := tV_elim H1
      obtain ⟨v7, rr, rfl, H3⟩ := tI_elim H2
      obtain ⟨v8, rr, rfl, H4⟩ := tI_elim H3
      obtain ⟨rfl, H5⟩ := tN_elim H4
      exact cast (by kernel_rfl) H5


noncomputable def c38 : Code := Tryd.f38.body.getD .skip
def A38 : Ann := (.seq .leaf (.seq .leaf (.seq (.seq .leaf (.cond (.seq .leaf .leaf) .leaf)) (.seq (.seq .leaf (.block (.loop 1 [0, 1, 5, 6] (.seq (.seq .leaf (.cond .leaf .leaf)) (.join 2 [0, 1, 5, 6] (.block (.seq .leaf (.seq .leaf (.cond (.seq .leaf .leaf) .leaf)))) .leaf))))) (.seq .leaf (.seq .leaf .leaf))))))
def src38 (cl : Specs) (K : Value → Hp → Prop) : Src
  | 1, [T1], vals, h => (tS fun s0 => tV fun del1 => tI .i64 fun i5 => tI .i64 fun j6 => tN (Tx.slices_DeleteFunc_int_int_B1 ρ (phi cl) (fun s0 del1 i5 j6 hh => T1 [(.slice s0.a s0.len s0.cap), del1, (.int .i64 i5), (.int .i64 j6)] hh) (fun r0 h => K (.slice r0.a r0.len r0.cap) h) s0 del1 i5 j6 h)) vals
  | 2, [T1], vals, h => (tS fun s0 => tV fun del1 => tI .i64 fun i5 => tI .i64 fun j6 => tN (Tx.slices_DeleteFunc_int_int_K2 ρ (phi cl) (fun s0 del1 i5 j6 hh => T1 [(.slice s0.a s0.len s0.cap), del1, (.int .i64 i5), (.int .i64 j6)] hh) (fun r0 h => K (.slice r0.a r0.len r0.cap) h) s0 del1 i5 j6 h)) vals
  | _, _, _, _ => False
theorem ok38 (cl : Specs) (hcl : SpecsOk Tryd.prog cl) : SpecOk Tryd.prog 38 (Tx.slices_DeleteFunc_int_int_S ρ (phi cl)) := by
  refine spec_ok (c := c38) agree (specsOk_cons (ok45 _ hcl) specsOk_nil) hcl mixed Tryd.func38 (by kernel_rfl) (by kernel_rfl) A38 (by kernel_rfl) (src38 cl) ?_ ?_
  · intro args h K H
    unfold Tx.slices_DeleteFunc_int_int_S at H
    obtain ⟨s0, rr, rfl, H1⟩ := tS_elim H
    obtain ⟨del1, rr, rfl, H2⟩ := tV_elim H1
    obtain ⟨rfl, H3⟩ := tN_elim H2
    exact ⟨ble_le (by kernel_rfl), cast (by kernel_rfl) H3⟩
  · intro K k inner vals h hk hin H
    rw [show pts A38 = [1, 2] from by kernel_rfl] at hk
    simp only [List.mem_cons, List.not_mem_nil, or_false] at hk
    rcases hk with rfl | rfl
    · rw [show depth 1 A38 = 1 from by kernel_rfl] at hin
      obtain ⟨T1, rfl⟩ := len1 hin
      have H : src38 cl K 1 [T1] vals h := H
      simp only [src38] at H
      obtain ⟨s0, rr, rfl, H1⟩ := tS_elim H
      obtain ⟨del1, rr, rfl, H2⟩ := tV_elim H1
      obtain ⟨i5, rr, rfl, H3⟩ := tI_elim H2
      obtain ⟨j6, rr, rfl, H4⟩ := tI_elim H3
      obtain ⟨rfl, H5⟩ := tN_elim H4
      exact cast (by kernel_rfl) H5
    · rw [show depth 2 A38 = 1 from by kernel_rfl] at hin
      obtain ⟨T1, rfl⟩ := len1 hin
      have H : src38 cl K 2 [T1] vals h := H
      simp only [src38] at H
      obtain ⟨s0, rr, rfl, H1⟩ := tS_elim H
      obtain ⟨del1, rr, rfl, H2⟩ := tV_elim H1
      obtain ⟨i5, rr, rfl, H3⟩ := tI_elim H2
      obtain ⟨j6, rr, rfl, H4⟩ := tI_elim H3
      obtain ⟨rfl, H5⟩ := tN_elim H4
      exact cast (by kernel_rfl) H5


noncomputable def c41 : Code := Tryd.f41.body.getD .skip
def A41 : Ann := (.seq .leaf (.seq .leaf .leaf))
def src41 (_ : Value → Hp → Prop) : Src := fun _ _ _ _ => False
theorem ok41 : SpecOk Tryd.prog 41 (Tx.inode_Inode_all_1_S ρ) := by
  refine spec_ok (c := c41) agree specsOk_nil specsOk_nil mixed Tryd.func41 (by kernel_rfl) (by kernel_rfl) A41 (by kernel_rfl) (src41) ?_ ?_
  · intro args h K H
    unfold Tx.inode_Inode_all_1_S at H
    obtain ⟨p0, rr, rfl, H1⟩ := tI_elim H
    obtain ⟨rfl, H2⟩ := tN_elim H1
    exact ⟨ble_le (by kernel_rfl), cast (by kernel_rfl) H2⟩
  · intro K k inner vals h hk hin H
    exact H.elim


noncomputable def c33 : Code := Tryd.f33.body.getD .skip
def A33 : Ann := (.seq .leaf (.seq .leaf (.seq (.seq .leaf (.block (.loop 1 [3, 10, 11] (.seq .leaf (.seq (.cond .leaf .leaf) (.seq (.block (.seq .leaf .leaf)) .leaf)))))) (.seq .leaf .leaf))))
def src33 (K : Value → Hp → Prop) : Src
  | 1, [T1], vals, h => (tS fun l3 => tG fun cells1 rest1 => (tL .u8 32 fun v10_0 => tN ((tI .i64 fun v11 => tN (Tx.inode_Inode_all_B1 ρ (fun l3 v10_0 v11 hh => T1 [(.slice l3.a l3.len l3.cap), (.agg (lumpV .u8 32 v10_0).toArray), (.int .i64 v11)] hh) (fun r0 h => K (.slice r0.a r0.len r0.cap) h) l3 v10_0 v11 h)) rest1)) cells1) vals
  | _, _, _, _ => False
theorem ok33 : SpecOk Tryd.prog 33 (Tx.inode_Inode_all_S ρ) := by
  refine spec_ok (c := c33) agree (specsOk_cons (ok38 _ (specsOk_cons ok41 specsOk_nil)) specsOk_nil) specsOk_nil mixed Tryd.func33 (by kernel_rfl) (by kernel_rfl) A33 (by kernel_rfl) (src33) ?_ ?_
  · intro args h K H
    unfold Tx.inode_Inode_all_S at H
    obtain ⟨cc0, rr0, rfl, H1⟩ := tG_elim H
    obtain ⟨n0_0, qq, rfl, H2⟩ := tI_elim H1
    obtain ⟨n0_1, qq, rfl, H3⟩ := tI_elim H2
    obtain ⟨n0_2, qq, rfl, H4⟩ := tI_elim H3
    obtain ⟨n0_3, qq, rfl, H5⟩ := tI_elim H4
    obtain ⟨n0_4, qq, rfl, H6⟩ := tI_elim H5
    obtain ⟨n0_5, qq, rfl, H7⟩ := tI_elim H6
    obtain ⟨n0_6, qq, rfl, H8⟩ := tL_elim H7
    obtain ⟨rfl, H9⟩ := tN_elim H8
    obtain ⟨rfl, H10⟩ := tN_elim H9
    exact ⟨ble_le (by kernel_rfl), cast (by kernel_rfl) H10⟩
  · intro K k inner vals h hk hin H
    rw [show pts A33 = [1] from by kernel_rfl] at hk
    simp only [List.mem_cons, List.not_mem_nil, or_false] at hk
    rcases hk with rfl
    · rw [show depth 1 A33 = 1 from by kernel_rfl] at hin
      obtain ⟨T1, rfl⟩ := len1 hin
      have H : src33 K 1 [T1] vals h := H
      simp only [src33] at H
      obtain ⟨l3, rr, rfl, H1⟩ := tS_elim H
      obtain ⟨cc1, rr1, rfl, H2⟩ := tG_elim H1
      obtain ⟨v10_0, qq, rfl, H3⟩ := tL_elim H2
      obtain ⟨rfl, H4⟩ := tN_elim H3
      obtain ⟨v11, rr, rfl, H5⟩ := tI_elim H4
      obtain ⟨rfl, H6⟩ := tN_elim H5
      exact cast (by kernel_rfl) H6


theorem ok36 : SpecOk Tryd.prog 36 (Tx.slices_Sort_int_int_S ρ) := sort_int_ok (P := Tryd.prog) (R := Tryd.lays189_ren) Tryd.lays189 ⟨_, Tryd.func36, by kernel_rfl, by kernel_rfl⟩


noncomputable def c37 : Code := Tryd.f37.body.getD .skip
def A37 : Ann := (.seq .leaf (.seq (.seq .leaf (.cond (.seq .leaf .leaf) .leaf)) (.seq (.seq .leaf (.block (.loop 1 [0, 3] (.seq (.seq .leaf (.cond .leaf .leaf)) (.seq (.block (.seq (.plan (.take 0 [] (.take 1 [] (.take 2 [] (.take 3 [] (.take 4 [] (.take 5 [] (.take 6 [] (.take 7 [] (.take 8 [] (.take 9 [] .done))))))))))) (.cond (.seq .leaf (.seq (.seq .leaf (.block (.loop 2 [0, 3, 4, 5] (.seq (.seq .leaf (.cond .leaf .leaf)) (.join 3 [0, 3, 4, 5] (.block (.seq (.plan (.take 0 [] (.take 1 [] (.take 2 [] (.take 3 [] (.take 4 [] (.take 5 [] (.take 6 [] (.take 7 [] (.take 8 [] (.take 9 [] .done))))))))))) (.cond (.seq .leaf .leaf) .leaf))) .leaf))))) (.seq .leaf (.seq .leaf .leaf)))) .leaf))) .leaf))))) (.seq .leaf .leaf))))
def src37 (K : Value → Hp → Prop) : Src
  | 1, [T1], vals, h => (tS fun s0 => tI .i64 fun k3 => tN (Tx.slices_Compact_int_int_B1 ρ (fun s0 k3 hh => T1 [(.slice s0.a s0.len s0.cap), (.int .i64 k3)] hh) (fun r0 h => K (.slice r0.a r0.len r0.cap) h) s0 k3 h)) vals
  | 2, [T2, T1], vals, h => (tS fun s0 => tI .i64 fun k3 => tS fun s24 => tI .i64 fun k25 => tN (Tx.slices_Compact_int_int_B2 ρ (fun s0 k3 hh => T1 [(.slice s0.a s0.len s0.cap), (.int .i64 k3)] hh) (fun s0 k3 s24 k25 hh => T2 [(.slice s0.a s0.len s0.cap), (.int .i64 k3), (.slice s24.a s24.len s24.cap), (.int .i64 k25)] hh) (fun r0 h => K (.slice r0.a r0.len r0.cap) h) s0 k3 s24 k25 h)) vals
  | 3, [T2, T1], vals, h => (tS fun s0 => tI .i64 fun k3 => tS fun s24 => tI .i64 fun k25 => tN (Tx.slices_Compact_int_int_K3 ρ (fun s0 k3 hh => T1 [(.slice s0.a s0.len s0.cap), (.int .i64 k3)] hh) (fun s0 k3 s24 k25 hh => T2 [(.slice s0.a s0.len s0.cap), (.int .i64 k3), (.slice s24.a s24.len s24.cap), (.int .i64 k25)] hh) (fun r0 h => K (.slice r0.a r0.len r0.cap) h) s0 k3 s24 k25 h)) vals
  | _, _, _, _ => False
theorem ok37 : SpecOk Tryd.prog 37 (Tx.slices_Compact_int_int_S ρ) := by
  refine spec_ok (c := c37) agree specsOk_nil specsOk_nil mixed Tryd.func37 (by kernel_rfl) (by kernel_rfl) A37 (by kernel_rfl) (src37) ?_ ?_
  · intro args h K H
    unfold Tx.slices_Compact_int_int_S at H
    obtain ⟨s0, rr, rfl, H1⟩ := tS_elim H
    obtain ⟨rfl, H2⟩ := tN_elim H1
    exact ⟨ble_le (by kernel_rfl), cast (by kernel_rfl) H2⟩
  · intro K k inner vals h hk hin H
    rw [show pts A37 = [1, 2, 3] from by kernel_rfl] at hk
    simp only [List.mem_cons, List.not_mem_nil, or_false] at hk
    rcases hk with rfl | rfl | rfl
    · rw [show depth 1 A37 = 1 from by kernel_rfl] at hin
      obtain ⟨T1, rfl⟩ := len1 hin
      have H : src37 K 1 [T1] vals h := H
      simp only [src37] at H
      obtain ⟨s0, rr, rfl, H1⟩ := tS_elim H
      obtain ⟨k3, rr, rfl, H2⟩ := tI_elim H1
      obtain ⟨rfl, H3⟩ := tN_elim H2
      exact cast (by kernel_rfl) H3
    · rw [show depth 2 A37 = 2 from by kernel_rfl] at hin
      obtain ⟨T1, T2, rfl⟩ := len2 hin
      have H : src37 K 2 [T2, T1] vals h := H
      simp only [src37] at H
      obtain ⟨s0, rr, rfl, H1⟩ := tS_elim H
      obtain ⟨k3, rr, rfl, H2⟩ := tI_elim H1
      obtain ⟨s24, rr, rfl, H3⟩ := tS_elim H2
      obtain ⟨k25, rr, rfl, H4⟩ := tI_elim H3
      obtain ⟨rfl, H5⟩ := tN_elim H4
      exact cast (by kernel_rfl) H5
    · rw [show depth 3 A37 = 2 from by kernel_rfl] at hin
      obtain ⟨T1, T2, rfl⟩ := len2 hin
      have H : src37 K 3 [T2, T1] vals h := H
      simp only [src37] at H
      obtain ⟨s0, rr, rfl, H1⟩ := tS_elim H
      obtain ⟨k3, rr, rfl, H2⟩ := tI_elim H1
      obtain ⟨s24, rr, rfl, H3⟩ := tS_elim H2
      obtain ⟨k25, rr, rfl, H4⟩ := tI_elim H3
      obtain ⟨rfl, H5⟩ := tN_elim H4
      exact cast (by kernel_rfl) H5


noncomputable def c32 : Code := Tryd.f32.body.getD .skip
def A32 : Ann := (.seq .leaf (.seq .leaf .leaf))
def src32 (_ : Value → Hp → Prop) : Src := fun _ _ _ _ => False
theorem ok32 : SpecOk Tryd.prog 32 (Tx.inode_in_S ρ) := by
  refine spec_ok (c := c32) agree specsOk_nil specsOk_nil mixed Tryd.func32 (by kernel_rfl) (by kernel_rfl) A32 (by kernel_rfl) (src32) ?_ ?_
  · intro args h K H
    unfold Tx.inode_in_S at H
    obtain ⟨n0, rr, rfl, H1⟩ := tI_elim H
    obtain ⟨least1, rr, rfl, H2⟩ := tI_elim H1
    obtain ⟨most2, rr, rfl, H3⟩ := tI_elim H2
    obtain ⟨rfl, H4⟩ := tN_elim H3
    exact ⟨ble_le (by kernel_rfl), cast (by kernel_rfl) H4⟩
  · intro K k inner vals h hk hin H
    exact H.elim


noncomputable def c39 : Code := Tryd.f39.body.getD .skip
def A39 : Ann := (.seq .leaf (.seq .leaf .leaf))
def src39 (_ : Value → Hp → Prop) : Src := fun _ _ _ _ => False
theorem ok39 : SpecOk Tryd.prog 39 (Tx.inode_Used_1_S ρ) := by
  refine spec_ok (c := c39) agree (specsOk_cons ok32 specsOk_nil) specsOk_nil mixed Tryd.func39 (by kernel_rfl) (by kernel_rfl) A39 (by kernel_rfl) (src39) ?_ ?_
  · intro args h K H
    unfold Tx.inode_Used_1_S at H
    obtain ⟨p0, rr, rfl, H1⟩ := tI_elim H
    obtain ⟨rfl, H2⟩ := tN_elim H1
    exact ⟨ble_le (by kernel_rfl), cast (by kernel_rfl) H2⟩
  · intro K k inner vals h hk hin H
    exact H.elim


noncomputable def c24 : Code := Tryd.f24.body.getD .skip
def A24 : Ann := (.seq .leaf (.seq .leaf (.seq .leaf (.seq .leaf (.seq .leaf .leaf)))))
def src24 (_ : Value → Hp → Prop) : Src := fun _ _ _ _ => False
theorem ok24 : SpecOk Tryd.prog 24 (Tx.inode_Used_S ρ) := by
  refine spec_ok (c := c24) agree (specsOk_cons (ok38 _ (specsOk_cons ok39 specsOk_nil)) (specsOk_cons ok37 (specsOk_cons ok36 (specsOk_cons ok33 specsOk_nil)))) specsOk_nil mixed Tryd.func24 (by kernel_rfl) (by kernel_rfl) A24 (by kernel_rfl) (src24) ?_ ?_
  · intro args h K H
    unfold Tx.inode_Used_S at H
    obtain ⟨cc0, rr0, rfl, H1⟩ := tG_elim H
    obtain ⟨n0_0, qq, rfl, H2⟩ := tI_elim H1
    obtain ⟨n0_1, qq, rfl, H3⟩ := tI_elim H2
    obtain ⟨n0_2, qq, rfl, H4⟩ := tI_elim H3
    obtain ⟨n0_3, qq, rfl, H5⟩ := tI_elim H4
    obtain ⟨n0_4, qq, rfl, H6⟩ := tI_elim H5
    obtain ⟨n0_5, qq, rfl, H7⟩ := tI_elim H6
    obtain ⟨n0_6, qq, rfl, H8⟩ := tL_elim H7
    obtain ⟨rfl, H9⟩ := tN_elim H8
    obtain ⟨rfl, H10⟩ := tN_elim H9
    exact ⟨ble_le (by kernel_rfl), cast (by kernel_rfl) H10⟩
  · intro K k inner vals h hk hin H
    exact H.elim


noncomputable def c21 : Code := Tryd.f21.body.getD .skip
def A21 : Ann := (.seq .leaf (.seq (.block (.join 2 [1, 5] .leaf (.cond (.seq .leaf .leaf) (.join 1 [1, 22] .leaf (.cond (.seq .leaf .leaf) (.seq .leaf (.cond (.seq .leaf .leaf) .leaf))))))) (.seq (.seq .leaf (.block (.loop 3 [1, 46, 47] (.seq .leaf (.seq (.cond .leaf .leaf) (.seq (.block (.seq .leaf (.join 4 [1, 46, 47, 66] .leaf (.cond (.seq .leaf .leaf) .leaf)))) .leaf)))))) (.seq (.plan (.take 0 [1, 4] (.take 3 [4] (.all (.alt 1 (.take 2 [] (.all (.alt 4 (.take 5 [] (.take 6 [] (.take 7 [] .done))) .nil))) .nil))))) .leaf))))
def src21 (K : Value → Hp → Prop) : Src
  | 1, [], vals, h => (tA fun n1 => tB fun v22 => tN (Tx.inode_May_K1 ρ  (fun r0 h => K (.bool r0) h) n1 v22 h)) vals
  | 2, [], vals, h => (tA fun n1 => tB fun v5 => tN (Tx.inode_May_K2 ρ  (fun r0 h => K (.bool r0) h) n1 v5 h)) vals
  | 3, [T3], vals, h => (tA fun n1 => tG fun cells1 rest1 => (tL .u8 32 fun v46_0 => tN ((tI .i64 fun v47 => tN (Tx.inode_May_B3 ρ (fun n1 v46_0 v47 hh => T3 [(.pointer (some n1)), (.agg (lumpV .u8 32 v46_0).toArray), (.int .i64 v47)] hh) (fun r0 h => K (.bool r0) h) n1 v46_0 v47 h)) rest1)) cells1) vals
  | 4, [T3], vals, h => (tA fun n1 => tG fun cells1 rest1 => (tL .u8 32 fun v46_0 => tN ((tI .i64 fun v47 => tB fun v66 => tN (Tx.inode_May_K4 ρ (fun n1 v46_0 v47 hh => T3 [(.pointer (some n1)), (.agg (lumpV .u8 32 v46_0).toArray), (.int .i64 v47)] hh) (fun r0 h => K (.bool r0) h) n1 v46_0 v47 v66 h)) rest1)) cells1) vals
  | _, _, _, _ => False
theorem ok21 : SpecOk Tryd.prog 21 (Tx.inode_May_S ρ) := by
  refine spec_ok (c := c21) agree (specsOk_cons ok33 (specsOk_cons ok32 (specsOk_cons ok24 specsOk_nil))) specsOk_nil mixed Tryd.func21 (by kernel_rfl) (by kernel_rfl) A21 (by kernel_rfl) (src21) ?_ ?_
  · intro args h K H
    unfold Tx.inode_May_S at H
    obtain ⟨cc0, rr0, rfl, H1⟩ := tG_elim H
    obtain ⟨n0_0, qq, rfl, H2⟩ := tI_elim H1
    obtain ⟨n0_1, qq, rfl, H3⟩ := tI_elim H2
    obtain ⟨n0_2, qq, rfl, H4⟩ := tI_elim H3
    obtain ⟨n0_3, qq, rfl, H5⟩ := tI_elim H4
    obtain ⟨n0_4, qq, rfl, H6⟩ := tI_elim H5
    obtain ⟨n0_5, qq, rfl, H7⟩ := tI_elim H6
    obtain ⟨n0_6, qq, rfl, H8⟩ := tL_elim H7
    obtain ⟨rfl, H9⟩ := tN_elim H8
    obtain ⟨rfl, H10⟩ := tN_elim H9
    exact ⟨ble_le (by kernel_rfl), cast (by kernel_rfl) H10⟩
  · intro K k inner vals h hk hin H
    rw [show pts A21 = [2, 1, 3, 4] from by kernel_rfl] at hk
    simp only [List.mem_cons, List.not_mem_nil, or_false] at hk
    rcases hk with rfl | rfl | rfl | rfl
    · rw [show depth 2 A21 = 0 from by kernel_rfl] at hin
      obtain rfl := len0 hin
      have H : src21 K 2 [] vals h := H
      simp only [src21] at H
      obtain ⟨n1, rr, rfl, H1⟩ := tA_elim H
      obtain ⟨v5, rr, rfl, H2⟩ := tB_elim H1
      obtain ⟨rfl, H3⟩ := tN_elim H2
      exact cast (by kernel_rfl) H3
    · rw [show depth 1 A21 = 0 from by kernel_rfl] at hin
      obtain rfl := len0 hin
      have H : src21 K 1 [] vals h := H
      simp only [src21] at H
      obtain ⟨n1, rr, rfl, H1⟩ := tA_elim H
      obtain ⟨v22, rr, rfl, H2⟩ := tB_elim H1
      obtain ⟨rfl, H3⟩ := tN_elim H2
      exact cast (by kernel_rfl) H3
    · rw [show depth 3 A21 = 1 from by kernel_rfl] at hin
      obtain ⟨T3, rfl⟩ := len1 hin
      have H : src21 K 3 [T3] vals h := H
      simp only [src21] at H
      obtain ⟨n1, rr, rfl, H1⟩ := tA_elim H
      obtain ⟨cc1, rr1, rfl, H2⟩ := tG_elim H1
      obtain ⟨v46_0, qq, rfl, H3⟩ := tL_elim H2
      obtain ⟨rfl, H4⟩ := tN_elim H3
      obtain ⟨v47, rr, rfl, H5⟩ := tI_elim H4
      obtain ⟨rfl, H6⟩ := tN_elim H5
      exact cast (by kernel_rfl) H6
    · rw [show depth 4 A21 = 1 from by kernel_rfl] at hin
      obtain ⟨T3, rfl⟩ := len1 hin
      have H : src21 K 4 [T3] vals h := H
      simp only [src21] at H
      obtain ⟨n1, rr, rfl, H1⟩ := tA_elim H
      obtain ⟨cc1, rr1, rfl, H2⟩ := tG_elim H1
      obtain ⟨v46_0, qq, rfl, H3⟩ := tL_elim H2
      obtain ⟨rfl, H4⟩ := tN_elim H3
      obtain ⟨v47, rr, rfl, H5⟩ := tI_elim H4
      obtain ⟨v66, rr, rfl, H6⟩ := tB_elim H5
      obtain ⟨rfl, H7⟩ := tN_elim H6
      exact cast (by kernel_rfl) H7


noncomputable def c6 : Code := Tryd.f6.body.getD .skip
def A6 : Ann := (.seq .leaf (.seq (.seq .leaf (.cond (.seq .leaf .leaf) .leaf)) (.seq .leaf (.seq .leaf (.seq (.plan (.take 0 [4] (.take 1 [4] (.take 2 [3, 4] (.all (.alt 3 (.all (.alt 4 .done .nil)) .nil)))))) (.seq (.join 1 [2, 5, 43] .leaf (.cond (.seq .leaf .leaf) .leaf)) (.seq .leaf .leaf)))))))
def src6 (K : Value → Hp → Prop) : Src
  | 1, [], vals, h => (tA fun v2 => tA fun n5 => tB fun v43 => tN (Tx.inode_Parse_K1 ρ  (fun r0 r1 r2 r3 r4 r5 r6 r7 h => K (.tuple [(.agg (([(.int .i64 r0), (.int .i64 r1), (.int .i64 r2), (.int .i64 r3), (.int .i64 r4), (.int .i64 r5)] : List Value) ++ lumpV .u8 32 r6).toArray), (.int .i64 r7)].toArray) h) v2 n5 v43 h)) vals
  | _, _, _, _ => False
theorem ok6 : SpecOk Tryd.prog 6 (Tx.inode_Parse_S ρ) := by
  refine spec_ok (c := c6) agree (specsOk_cons ok21 (specsOk_cons ok20 (specsOk_cons ok19 (specsOk_cons ok18 (specsOk_cons ok17 specsOk_nil))))) specsOk_nil mixed Tryd.func6 (by kernel_rfl) (by kernel_rfl) A6 (by kernel_rfl) (src6) ?_ ?_
  · intro args h K H
    unfold Tx.inode_Parse_S at H
    obtain ⟨b0, rr, rfl, H1⟩ := tS_elim H
    obtain ⟨rfl, H2⟩ := tN_elim H1
    exact ⟨ble_le (by kernel_rfl), cast (by kernel_rfl) H2⟩
  · intro K k inner vals h hk hin H
    rw [show pts A6 = [1] from by kernel_rfl] at hk
    simp only [List.mem_cons, List.not_mem_nil, or_false] at hk
    rcases hk with rfl
    · rw [show depth 1 A6 = 0 from by kernel_rfl] at hin
      obtain rfl := len0 hin
      have H : src6 K 1 [] vals h := H
      simp only [src6] at H
      obtain ⟨v2, rr, rfl, H1⟩ := tA_elim H
      obtain ⟨n5, rr, rfl, H2⟩ := tA_elim H1
      obtain ⟨v43, rr, rfl, H3⟩ := tB_elim H2
      obtain ⟨rfl, H4⟩ := tN_elim H3
      exact cast (by kernel_rfl) H4


noncomputable def c22 : Code := Tryd.f22.body.getD .skip
def A22 : Ann := (.seq .leaf (.seq .leaf (.seq (.seq .leaf (.block (.loop 1 [0, 3, 4] (.seq (.seq .leaf (.cond .leaf .leaf)) (.seq (.block .leaf) .leaf))))) (.seq .leaf .leaf))))
def src22 (K : Value → Hp → Prop) : Src
  | 1, [T1], vals, h => (tS fun b0 => tI .u64 fun n3 => tI .i64 fun i4 => tN (Tx.carlingref21_num_B1 ρ (fun b0 n3 i4 hh => T1 [(.slice b0.a b0.len b0.cap), (.int .u64 n3), (.int .i64 i4)] hh) (fun r0 h => K (.int .u64 r0) h) b0 n3 i4 h)) vals
  | _, _, _, _ => False
theorem ok22 : SpecOk Tryd.prog 22 (Tx.carlingref21_num_S ρ) := by
  refine spec_ok (c := c22) agree specsOk_nil specsOk_nil mixed Tryd.func22 (by kernel_rfl) (by kernel_rfl) A22 (by kernel_rfl) (src22) ?_ ?_
  · intro args h K H
    unfold Tx.carlingref21_num_S at H
    obtain ⟨b0, rr, rfl, H1⟩ := tS_elim H
    obtain ⟨rfl, H2⟩ := tN_elim H1
    exact ⟨ble_le (by kernel_rfl), cast (by kernel_rfl) H2⟩
  · intro K k inner vals h hk hin H
    rw [show pts A22 = [1] from by kernel_rfl] at hk
    simp only [List.mem_cons, List.not_mem_nil, or_false] at hk
    rcases hk with rfl
    · rw [show depth 1 A22 = 1 from by kernel_rfl] at hin
      obtain ⟨T1, rfl⟩ := len1 hin
      have H : src22 K 1 [T1] vals h := H
      simp only [src22] at H
      obtain ⟨b0, rr, rfl, H1⟩ := tS_elim H
      obtain ⟨n3, rr, rfl, H2⟩ := tI_elim H1
      obtain ⟨i4, rr, rfl, H3⟩ := tI_elim H2
      obtain ⟨rfl, H4⟩ := tN_elim H3
      exact cast (by kernel_rfl) H4


noncomputable def c42 : Code := Tryd.f42.body.getD .skip
def A42 : Ann := (.seq .leaf (.seq .leaf (.seq (.seq .leaf (.block (.loop 1 [1, 3, 4] (.seq (.seq .leaf (.cond .leaf .leaf)) (.join 4 [1, 3, 4] (.block (.seq .leaf (.seq (.seq .leaf (.block (.loop 2 [1, 3, 4, 5, 6] (.seq (.seq .leaf (.cond .leaf .leaf)) (.join 3 [1, 3, 4, 5, 6] (.block .leaf) .leaf))))) (.seq .leaf (.cond .leaf .leaf))))) .leaf))))) (.seq .leaf .leaf))))
def src42 (K : Value → Hp → Prop) : Src
  | 1, [T1], vals, h => (tA fun n1 => tS fun out3 => tI .i64 fun p4 => tN (Tx.carlingref21_Used_B1 ρ (fun n1 out3 p4 hh => T1 [(.pointer (some n1)), (.slice out3.a out3.len out3.cap), (.int .i64 p4)] hh) (fun r0 h => K (.slice r0.a r0.len r0.cap) h) n1 out3 p4 h)) vals
  | 2, [T2, T1], vals, h => (tA fun n1 => tS fun out3 => tI .i64 fun p4 => tB fun is5 => tI .i64 fun i6 => tN (Tx.carlingref21_Used_B2 ρ (fun n1 out3 p4 hh => T1 [(.pointer (some n1)), (.slice out3.a out3.len out3.cap), (.int .i64 p4)] hh) (fun n1 out3 p4 is5 i6 hh => T2 [(.pointer (some n1)), (.slice out3.a out3.len out3.cap), (.int .i64 p4), (.bool is5), (.int .i64 i6)] hh) (fun r0 h => K (.slice r0.a r0.len r0.cap) h) n1 out3 p4 is5 i6 h)) vals
  | 3, [T2, T1], vals, h => (tA fun n1 => tS fun out3 => tI .i64 fun p4 => tB fun is5 => tI .i64 fun i6 => tN (Tx.carlingref21_Used_K3 ρ (fun n1 out3 p4 hh => T1 [(.pointer (some n1)), (.slice out3.a out3.len out3.cap), (.int .i64 p4)] hh) (fun n1 out3 p4 is5 i6 hh => T2 [(.pointer (some n1)), (.slice out3.a out3.len out3.cap), (.int .i64 p4), (.bool is5), (.int .i64 i6)] hh) (fun r0 h => K (.slice r0.a r0.len r0.cap) h) n1 out3 p4 is5 i6 h)) vals
  | 4, [T1], vals, h => (tA fun n1 => tS fun out3 => tI .i64 fun p4 => tN (Tx.carlingref21_Used_K4 ρ (fun n1 out3 p4 hh => T1 [(.pointer (some n1)), (.slice out3.a out3.len out3.cap), (.int .i64 p4)] hh) (fun r0 h => K (.slice r0.a r0.len r0.cap) h) n1 out3 p4 h)) vals
  | _, _, _, _ => False
theorem ok42 : SpecOk Tryd.prog 42 (Tx.carlingref21_Used_S ρ) := by
  refine spec_ok (c := c42) agree specsOk_nil specsOk_nil mixed Tryd.func42 (by kernel_rfl) (by kernel_rfl) A42 (by kernel_rfl) (src42) ?_ ?_
  · intro args h K H
    unfold Tx.carlingref21_Used_S at H
    obtain ⟨cc0, rr0, rfl, H1⟩ := tG_elim H
    obtain ⟨n0_0, qq, rfl, H2⟩ := tI_elim H1
    obtain ⟨n0_1, qq, rfl, H3⟩ := tI_elim H2
    obtain ⟨n0_2, qq, rfl, H4⟩ := tI_elim H3
    obtain ⟨n0_3, qq, rfl, H5⟩ := tI_elim H4
    obtain ⟨n0_4, qq, rfl, H6⟩ := tI_elim H5
    obtain ⟨n0_5, qq, rfl, H7⟩ := tI_elim H6
    obtain ⟨n0_6, qq, rfl, H8⟩ := tL_elim H7
    obtain ⟨rfl, H9⟩ := tN_elim H8
    obtain ⟨rfl, H10⟩ := tN_elim H9
    exact ⟨ble_le (by kernel_rfl), cast (by kernel_rfl) H10⟩
  · intro K k inner vals h hk hin H
    rw [show pts A42 = [1, 4, 2, 3] from by kernel_rfl] at hk
    simp only [List.mem_cons, List.not_mem_nil, or_false] at hk
    rcases hk with rfl | rfl | rfl | rfl
    · rw [show depth 1 A42 = 1 from by kernel_rfl] at hin
      obtain ⟨T1, rfl⟩ := len1 hin
      have H : src42 K 1 [T1] vals h := H
      simp only [src42] at H
      obtain ⟨n1, rr, rfl, H1⟩ := tA_elim H
      obtain ⟨out3, rr, rfl, H2⟩ := tS_elim H1
      obtain ⟨p4, rr, rfl, H3⟩ := tI_elim H2
      obtain ⟨rfl, H4⟩ := tN_elim H3
      exact cast (by kernel_rfl) H4
    · rw [show depth 4 A42 = 1 from by kernel_rfl] at hin
      obtain ⟨T1, rfl⟩ := len1 hin
      have H : src42 K 4 [T1] vals h := H
      simp only [src42] at H
      obtain ⟨n1, rr, rfl, H1⟩ := tA_elim H
      obtain ⟨out3, rr, rfl, H2⟩ := tS_elim H1
      obtain ⟨p4, rr, rfl, H3⟩ := tI_elim H2
      obtain ⟨rfl, H4⟩ := tN_elim H3
      exact cast (by kernel_rfl) H4
    · rw [show depth 2 A42 = 2 from by kernel_rfl] at hin
      obtain ⟨T1, T2, rfl⟩ := len2 hin
      have H : src42 K 2 [T2, T1] vals h := H
      simp only [src42] at H
      obtain ⟨n1, rr, rfl, H1⟩ := tA_elim H
      obtain ⟨out3, rr, rfl, H2⟩ := tS_elim H1
      obtain ⟨p4, rr, rfl, H3⟩ := tI_elim H2
      obtain ⟨is5, rr, rfl, H4⟩ := tB_elim H3
      obtain ⟨i6, rr, rfl, H5⟩ := tI_elim H4
      obtain ⟨rfl, H6⟩ := tN_elim H5
      exact cast (by kernel_rfl) H6
    · rw [show depth 3 A42 = 2 from by kernel_rfl] at hin
      obtain ⟨T1, T2, rfl⟩ := len2 hin
      have H : src42 K 3 [T2, T1] vals h := H
      simp only [src42] at H
      obtain ⟨n1, rr, rfl, H1⟩ := tA_elim H
      obtain ⟨out3, rr, rfl, H2⟩ := tS_elim H1
      obtain ⟨p4, rr, rfl, H3⟩ := tI_elim H2
      obtain ⟨is5, rr, rfl, H4⟩ := tB_elim H3
      obtain ⟨i6, rr, rfl, H5⟩ := tI_elim H4
      obtain ⟨rfl, H6⟩ := tN_elim H5
      exact cast (by kernel_rfl) H6


noncomputable def c34 : Code := Tryd.f34.body.getD .skip
def A34 : Ann := (.seq .leaf (.seq (.join 1 [1, 57] .leaf (.cond (.seq .leaf .leaf) .leaf)) (.seq (.seq .leaf (.cond (.seq .leaf .leaf) .leaf)) (.seq .leaf (.join 5 [1, 3] (.seq .leaf (.cond .leaf .leaf)) (.seq (.seq .leaf (.block (.loop 2 [1, 3, 4] (.seq (.seq .leaf (.cond .leaf .leaf)) (.join 4 [1, 3, 4] (.block (.seq (.seq .leaf (.cond .leaf .leaf)) (.seq .leaf (.join 3 [1, 3, 4, 91] .leaf (.cond (.seq .leaf .leaf) .leaf))))) .leaf))))) (.seq .leaf .leaf)))))))
def src34 (K : Value → Hp → Prop) : Src
  | 1, [], vals, h => (tA fun n1 => tB fun v57 => tN (Tx.carlingref21_May_K1 ρ  (fun r0 h => K (.bool r0) h) n1 v57 h)) vals
  | 2, [T2], vals, h => (tA fun n1 => tI .i64 fun many3 => tI .i64 fun i4 => tN (Tx.carlingref21_May_B2 ρ (fun n1 many3 i4 hh => T2 [(.pointer (some n1)), (.int .i64 many3), (.int .i64 i4)] hh) (fun r0 h => K (.bool r0) h) n1 many3 i4 h)) vals
  | 3, [T2], vals, h => (tA fun n1 => tI .i64 fun many3 => tI .i64 fun i4 => tB fun v91 => tN (Tx.carlingref21_May_K3 ρ (fun n1 many3 i4 hh => T2 [(.pointer (some n1)), (.int .i64 many3), (.int .i64 i4)] hh) (fun r0 h => K (.bool r0) h) n1 many3 i4 v91 h)) vals
  | 4, [T2], vals, h => (tA fun n1 => tI .i64 fun many3 => tI .i64 fun i4 => tN (Tx.carlingref21_May_K4 ρ (fun n1 many3 i4 hh => T2 [(.pointer (some n1)), (.int .i64 many3), (.int .i64 i4)] hh) (fun r0 h => K (.bool r0) h) n1 many3 i4 h)) vals
  | 5, [], vals, h => (tA fun n1 => tI .i64 fun many3 => tN (Tx.carlingref21_May_K5 ρ  (fun r0 h => K (.bool r0) h) n1 many3 h)) vals
  | _, _, _, _ => False
theorem ok34 : SpecOk Tryd.prog 34 (Tx.carlingref21_May_S ρ) := by
  refine spec_ok (c := c34) agree (specsOk_cons ok42 specsOk_nil) specsOk_nil mixed Tryd.func34 (by kernel_rfl) (by kernel_rfl) A34 (by kernel_rfl) (src34) ?_ ?_
  · intro args h K H
    unfold Tx.carlingref21_May_S at H
    obtain ⟨cc0, rr0, rfl, H1⟩ := tG_elim H
    obtain ⟨n0_0, qq, rfl, H2⟩ := tI_elim H1
    obtain ⟨n0_1, qq, rfl, H3⟩ := tI_elim H2
    obtain ⟨n0_2, qq, rfl, H4⟩ := tI_elim H3
    obtain ⟨n0_3, qq, rfl, H5⟩ := tI_elim H4
    obtain ⟨n0_4, qq, rfl, H6⟩ := tI_elim H5
    obtain ⟨n0_5, qq, rfl, H7⟩ := tI_elim H6
    obtain ⟨n0_6, qq, rfl, H8⟩ := tL_elim H7
    obtain ⟨rfl, H9⟩ := tN_elim H8
    obtain ⟨rfl, H10⟩ := tN_elim H9
    exact ⟨ble_le (by kernel_rfl), cast (by kernel_rfl) H10⟩
  · intro K k inner vals h hk hin H
    rw [show pts A34 = [1, 5, 2, 4, 3] from by kernel_rfl] at hk
    simp only [List.mem_cons, List.not_mem_nil, or_false] at hk
    rcases hk with rfl | rfl | rfl | rfl | rfl
    · rw [show depth 1 A34 = 0 from by kernel_rfl] at hin
      obtain rfl := len0 hin
      have H : src34 K 1 [] vals h := H
      simp only [src34] at H
      obtain ⟨n1, rr, rfl, H1⟩ := tA_elim H
      obtain ⟨v57, rr, rfl, H2⟩ := tB_elim H1
      obtain ⟨rfl, H3⟩ := tN_elim H2
      exact cast (by kernel_rfl) H3
    · rw [show depth 5 A34 = 0 from by kernel_rfl] at hin
      obtain rfl := len0 hin
      have H : src34 K 5 [] vals h := H
      simp only [src34] at H
      obtain ⟨n1, rr, rfl, H1⟩ := tA_elim H
      obtain ⟨many3, rr, rfl, H2⟩ := tI_elim H1
      obtain ⟨rfl, H3⟩ := tN_elim H2
      exact cast (by kernel_rfl) H3
    · rw [show depth 2 A34 = 1 from by kernel_rfl] at hin
      obtain ⟨T2, rfl⟩ := len1 hin
      have H : src34 K 2 [T2] vals h := H
      simp only [src34] at H
      obtain ⟨n1, rr, rfl, H1⟩ := tA_elim H
      obtain ⟨many3, rr, rfl, H2⟩ := tI_elim H1
      obtain ⟨i4, rr, rfl, H3⟩ := tI_elim H2
      obtain ⟨rfl, H4⟩ := tN_elim H3
      exact cast (by kernel_rfl) H4
    · rw [show depth 4 A34 = 1 from by kernel_rfl] at hin
      obtain ⟨T2, rfl⟩ := len1 hin
      have H : src34 K 4 [T2] vals h := H
      simp only [src34] at H
      obtain ⟨n1, rr, rfl, H1⟩ := tA_elim H
      obtain ⟨many3, rr, rfl, H2⟩ := tI_elim H1
      obtain ⟨i4, rr, rfl, H3⟩ := tI_elim H2
      obtain ⟨rfl, H4⟩ := tN_elim H3
      exact cast (by kernel_rfl) H4
    · rw [show depth 3 A34 = 1 from by kernel_rfl] at hin
      obtain ⟨T2, rfl⟩ := len1 hin
      have H : src34 K 3 [T2] vals h := H
      simp only [src34] at H
      obtain ⟨n1, rr, rfl, H1⟩ := tA_elim H
      obtain ⟨many3, rr, rfl, H2⟩ := tI_elim H1
      obtain ⟨i4, rr, rfl, H3⟩ := tI_elim H2
      obtain ⟨v91, rr, rfl, H4⟩ := tB_elim H3
      obtain ⟨rfl, H5⟩ := tN_elim H4
      exact cast (by kernel_rfl) H5


noncomputable def c35 : Code := Tryd.f35.body.getD .skip
def A35 : Ann := (.seq .leaf (.seq .leaf (.seq (.seq .leaf (.block (.loop 1 [0, 1, 5, 6] (.seq (.seq .leaf (.cond .leaf .leaf)) (.seq (.block .leaf) .leaf))))) (.seq .leaf .leaf))))
def src35 (K : Value → Hp → Prop) : Src
  | 1, [T1], vals, h => (tI .u64 fun n0 => tI .i64 fun size1 => tS fun out5 => tI .i64 fun i6 => tN (Tx.carlingref21_low_B1 ρ (fun n0 size1 out5 i6 hh => T1 [(.int .u64 n0), (.int .i64 size1), (.slice out5.a out5.len out5.cap), (.int .i64 i6)] hh) (fun r0 h => K (.slice r0.a r0.len r0.cap) h) n0 size1 out5 i6 h)) vals
  | _, _, _, _ => False
theorem ok35 : SpecOk Tryd.prog 35 (Tx.carlingref21_low_S ρ) := by
  refine spec_ok (c := c35) agree specsOk_nil specsOk_nil mixed Tryd.func35 (by kernel_rfl) (by kernel_rfl) A35 (by kernel_rfl) (src35) ?_ ?_
  · intro args h K H
    unfold Tx.carlingref21_low_S at H
    obtain ⟨n0, rr, rfl, H1⟩ := tI_elim H
    obtain ⟨size1, rr, rfl, H2⟩ := tI_elim H1
    obtain ⟨rfl, H3⟩ := tN_elim H2
    exact ⟨ble_le (by kernel_rfl), cast (by kernel_rfl) H3⟩
  · intro K k inner vals h hk hin H
    rw [show pts A35 = [1] from by kernel_rfl] at hk
    simp only [List.mem_cons, List.not_mem_nil, or_false] at hk
    rcases hk with rfl
    · rw [show depth 1 A35 = 1 from by kernel_rfl] at hin
      obtain ⟨T1, rfl⟩ := len1 hin
      have H : src35 K 1 [T1] vals h := H
      simp only [src35] at H
      obtain ⟨n0, rr, rfl, H1⟩ := tI_elim H
      obtain ⟨size1, rr, rfl, H2⟩ := tI_elim H1
      obtain ⟨out5, rr, rfl, H3⟩ := tS_elim H2
      obtain ⟨i6, rr, rfl, H4⟩ := tI_elim H3
      obtain ⟨rfl, H5⟩ := tN_elim H4
      exact cast (by kernel_rfl) H5


noncomputable def c23 : Code := Tryd.f23.body.getD .skip
def A23 : Ann := (.seq .leaf (.seq (.seq .leaf (.cond (.seq .leaf .leaf) .leaf)) (.seq (.plan (.take 0 [6, 11] (.take 1 [6, 11] (.take 2 [6, 11] (.take 3 [6, 11] (.take 4 [6, 11] (.take 5 [6, 11] (.take 7 [10, 11] (.take 8 [10, 11] (.take 9 [10, 11] (.all (.alt 6 (.all (.alt 10 (.all (.alt 11 (.take 12 [] .done) .nil)) .nil)) (.alt 10 (.all (.alt 6 (.all (.alt 11 (.take 12 [] .done) .nil)) .nil)) .nil))))))))))))) (.seq (.plan (.take 0 [5, 9, 10] (.take 1 [4, 5, 9, 10] (.take 2 [4, 5, 9, 10] (.take 3 [4, 5, 9, 10] (.take 6 [9, 10] (.take 7 [9, 10] (.take 8 [9, 10] (.all (.alt 4 (.all (.alt 5 (.all (.alt 9 (.all (.alt 10 (.take 11 [] .done) .nil)) .nil)) .nil)) .nil)))))))))) (.seq (.plan (.take 0 [5, 8] (.take 1 [4, 5, 8] (.take 2 [4, 5, 8] (.take 3 [4, 5, 8] (.take 6 [8] (.take 7 [8] (.all (.alt 4 (.all (.alt 5 (.all (.alt 8 (.take 9 [] .done) .nil)) .nil)) .nil))))))))) (.seq (.block (.loop 1 [4] (.seq (.seq .leaf (.cond .leaf .leaf)) (.block .leaf)))) (.seq .leaf .leaf)))))))
def src23 (K : Value → Hp → Prop) : Src
  | 1, [T1], vals, h => (tS fun b4 => tN (Tx.carlingref21_Lay_B1 ρ (fun b4 hh => T1 [(.slice b4.a b4.len b4.cap)] hh) (fun r0 r1 h => K (.tuple [(.slice r0.a r0.len r0.cap), (.int .i64 r1)].toArray) h) b4 h)) vals
  | _, _, _, _ => False
theorem ok23 : SpecOk Tryd.prog 23 (Tx.carlingref21_Lay_S ρ) := by
  refine spec_ok (c := c23) agree (specsOk_cons ok35 (specsOk_cons ok34 specsOk_nil)) specsOk_nil mixed Tryd.func23 (by kernel_rfl) (by kernel_rfl) A23 (by kernel_rfl) (src23) ?_ ?_
  · intro args h K H
    unfold Tx.carlingref21_Lay_S at H
    obtain ⟨cc0, rr0, rfl, H1⟩ := tG_elim H
    obtain ⟨n0_0, qq, rfl, H2⟩ := tI_elim H1
    obtain ⟨n0_1, qq, rfl, H3⟩ := tI_elim H2
    obtain ⟨n0_2, qq, rfl, H4⟩ := tI_elim H3
    obtain ⟨n0_3, qq, rfl, H5⟩ := tI_elim H4
    obtain ⟨n0_4, qq, rfl, H6⟩ := tI_elim H5
    obtain ⟨n0_5, qq, rfl, H7⟩ := tI_elim H6
    obtain ⟨n0_6, qq, rfl, H8⟩ := tL_elim H7
    obtain ⟨rfl, H9⟩ := tN_elim H8
    obtain ⟨rfl, H10⟩ := tN_elim H9
    exact ⟨ble_le (by kernel_rfl), cast (by kernel_rfl) H10⟩
  · intro K k inner vals h hk hin H
    rw [show pts A23 = [1] from by kernel_rfl] at hk
    simp only [List.mem_cons, List.not_mem_nil, or_false] at hk
    rcases hk with rfl
    · rw [show depth 1 A23 = 1 from by kernel_rfl] at hin
      obtain ⟨T1, rfl⟩ := len1 hin
      have H : src23 K 1 [T1] vals h := H
      simp only [src23] at H
      obtain ⟨b4, rr, rfl, H1⟩ := tS_elim H
      obtain ⟨rfl, H2⟩ := tN_elim H1
      exact cast (by kernel_rfl) H2


noncomputable def c7 : Code := Tryd.f7.body.getD .skip
def A7 : Ann := (.seq .leaf (.seq (.seq .leaf (.cond (.seq .leaf .leaf) .leaf)) (.seq (.plan (.take 0 [26] (.take 1 [26] (.take 2 [26] (.take 3 [26] (.take 4 [26] (.take 5 [26] (.take 6 [26] (.take 7 [26] (.take 8 [10, 14, 18, 26] (.take 9 [10, 14, 18, 26] (.take 12 [14, 18, 26] (.take 13 [14, 18, 26] (.take 16 [18, 26] (.take 17 [18, 26] (.take 20 [26] (.take 21 [26] (.take 22 [26] (.take 23 [26] (.all (.alt 10 (.take 11 [26] (.all (.alt 14 (.take 15 [26] (.all (.alt 18 (.take 19 [26] (.take 24 [26] (.all (.alt 25 (.all (.alt 26 .done .nil)) .nil)))) (.alt 25 (.all (.alt 18 (.take 19 [26] (.take 24 [26] (.all (.alt 26 .done .nil)))) .nil)) .nil)))) (.alt 25 (.all (.alt 14 (.take 15 [26] (.all (.alt 18 (.take 19 [26] (.take 24 [26] (.all (.alt 26 .done .nil)))) .nil))) .nil)) .nil)))) (.alt 25 (.all (.alt 10 (.take 11 [26] (.all (.alt 14 (.take 15 [26] (.all (.alt 18 (.take 19 [26] (.take 24 [26] (.all (.alt 26 .done .nil)))) .nil))) .nil))) .nil)) .nil)))))))))))))))))))))) (.seq (.seq .leaf (.block (.loop 1 [0, 2, 4, 5] (.seq (.seq .leaf (.cond .leaf .leaf)) (.seq (.block .leaf) .leaf))))) (.seq .leaf (.seq (.seq .leaf (.block (.loop 2 [0, 2, 4, 6, 7, 8] (.seq (.join 3 [0, 2, 4, 6, 7, 8, 60] .leaf (.cond .leaf .leaf)) (.join 4 [0, 2, 4, 6, 7, 8] (.block (.seq (.plan (.take 0 [] (.take 1 [] (.take 2 [] (.take 3 [] (.take 4 [] (.take 5 [] (.take 6 [] (.take 7 [] (.take 8 [] .done)))))))))) (.cond .leaf .leaf))) .leaf))))) (.seq (.seq .leaf (.cond (.seq .leaf .leaf) .leaf)) (.seq .leaf .leaf))))))))
def src7 (K : Value → Hp → Prop) : Src
  | 1, [T1], vals, h => (tS fun b0 => tA fun v2 => tA fun n4 => tI .i64 fun i5 => tN (Tx.carlingref21_Parse_B1 ρ (fun b0 v2 n4 i5 hh => T1 [(.slice b0.a b0.len b0.cap), (.pointer (some v2)), (.pointer (some n4)), (.int .i64 i5)] hh) (fun r0 r1 r2 r3 r4 r5 r6 r7 h => K (.tuple [(.agg (([(.int .i64 r0), (.int .i64 r1), (.int .i64 r2), (.int .i64 r3), (.int .i64 r4), (.int .i64 r5)] : List Value) ++ lumpV .u8 32 r6).toArray), (.int .i64 r7)].toArray) h) b0 v2 n4 i5 h)) vals
  | 2, [T2], vals, h => (tS fun b0 => tA fun v2 => tA fun n4 => tS fun x6 => tI .i64 fun e7 => tI .i64 fun i8 => tN (Tx.carlingref21_Parse_B2 ρ (fun b0 v2 n4 x6 e7 i8 hh => T2 [(.slice b0.a b0.len b0.cap), (.pointer (some v2)), (.pointer (some n4)), (.slice x6.a x6.len x6.cap), (.int .i64 e7), (.int .i64 i8)] hh) (fun r0 r1 r2 r3 r4 r5 r6 r7 h => K (.tuple [(.agg (([(.int .i64 r0), (.int .i64 r1), (.int .i64 r2), (.int .i64 r3), (.int .i64 r4), (.int .i64 r5)] : List Value) ++ lumpV .u8 32 r6).toArray), (.int .i64 r7)].toArray) h) b0 v2 n4 x6 e7 i8 h)) vals
  | 3, [T2], vals, h => (tS fun b0 => tA fun v2 => tA fun n4 => tS fun x6 => tI .i64 fun e7 => tI .i64 fun i8 => tB fun v60 => tN (Tx.carlingref21_Parse_K3 ρ (fun b0 v2 n4 x6 e7 i8 hh => T2 [(.slice b0.a b0.len b0.cap), (.pointer (some v2)), (.pointer (some n4)), (.slice x6.a x6.len x6.cap), (.int .i64 e7), (.int .i64 i8)] hh) (fun r0 r1 r2 r3 r4 r5 r6 r7 h => K (.tuple [(.agg (([(.int .i64 r0), (.int .i64 r1), (.int .i64 r2), (.int .i64 r3), (.int .i64 r4), (.int .i64 r5)] : List Value) ++ lumpV .u8 32 r6).toArray), (.int .i64 r7)].toArray) h) b0 v2 n4 x6 e7 i8 v60 h)) vals
  | 4, [T2], vals, h => (tS fun b0 => tA fun v2 => tA fun n4 => tS fun x6 => tI .i64 fun e7 => tI .i64 fun i8 => tN (Tx.carlingref21_Parse_K4 ρ (fun b0 v2 n4 x6 e7 i8 hh => T2 [(.slice b0.a b0.len b0.cap), (.pointer (some v2)), (.pointer (some n4)), (.slice x6.a x6.len x6.cap), (.int .i64 e7), (.int .i64 i8)] hh) (fun r0 r1 r2 r3 r4 r5 r6 r7 h => K (.tuple [(.agg (([(.int .i64 r0), (.int .i64 r1), (.int .i64 r2), (.int .i64 r3), (.int .i64 r4), (.int .i64 r5)] : List Value) ++ lumpV .u8 32 r6).toArray), (.int .i64 r7)].toArray) h) b0 v2 n4 x6 e7 i8 h)) vals
  | _, _, _, _ => False
theorem ok7 : SpecOk Tryd.prog 7 (Tx.carlingref21_Parse_S ρ) := by
  refine spec_ok (c := c7) agree (specsOk_cons ok23 (specsOk_cons ok22 specsOk_nil)) specsOk_nil mixed Tryd.func7 (by kernel_rfl) (by kernel_rfl) A7 (by kernel_rfl) (src7) ?_ ?_
  · intro args h K H
    unfold Tx.carlingref21_Parse_S at H
    obtain ⟨b0, rr, rfl, H1⟩ := tS_elim H
    obtain ⟨rfl, H2⟩ := tN_elim H1
    exact ⟨ble_le (by kernel_rfl), cast (by kernel_rfl) H2⟩
  · intro K k inner vals h hk hin H
    rw [show pts A7 = [1, 2, 3, 4] from by kernel_rfl] at hk
    simp only [List.mem_cons, List.not_mem_nil, or_false] at hk
    rcases hk with rfl | rfl | rfl | rfl
    · rw [show depth 1 A7 = 1 from by kernel_rfl] at hin
      obtain ⟨T1, rfl⟩ := len1 hin
      have H : src7 K 1 [T1] vals h := H
      simp only [src7] at H
      obtain ⟨b0, rr, rfl, H1⟩ := tS_elim H
      obtain ⟨v2, rr, rfl, H2⟩ := tA_elim H1
      obtain ⟨n4, rr, rfl, H3⟩ := tA_elim H2
      obtain ⟨i5, rr, rfl, H4⟩ := tI_elim H3
      obtain ⟨rfl, H5⟩ := tN_elim H4
      exact cast (by kernel_rfl) H5
    · rw [show depth 2 A7 = 1 from by kernel_rfl] at hin
      obtain ⟨T2, rfl⟩ := len1 hin
      have H : src7 K 2 [T2] vals h := H
      simp only [src7] at H
      obtain ⟨b0, rr, rfl, H1⟩ := tS_elim H
      obtain ⟨v2, rr, rfl, H2⟩ := tA_elim H1
      obtain ⟨n4, rr, rfl, H3⟩ := tA_elim H2
      obtain ⟨x6, rr, rfl, H4⟩ := tS_elim H3
      obtain ⟨e7, rr, rfl, H5⟩ := tI_elim H4
      obtain ⟨i8, rr, rfl, H6⟩ := tI_elim H5
      obtain ⟨rfl, H7⟩ := tN_elim H6
      exact cast (by kernel_rfl) H7
    · rw [show depth 3 A7 = 1 from by kernel_rfl] at hin
      obtain ⟨T2, rfl⟩ := len1 hin
      have H : src7 K 3 [T2] vals h := H
      simp only [src7] at H
      obtain ⟨b0, rr, rfl, H1⟩ := tS_elim H
      obtain ⟨v2, rr, rfl, H2⟩ := tA_elim H1
      obtain ⟨n4, rr, rfl, H3⟩ := tA_elim H2
      obtain ⟨x6, rr, rfl, H4⟩ := tS_elim H3
      obtain ⟨e7, rr, rfl, H5⟩ := tI_elim H4
      obtain ⟨i8, rr, rfl, H6⟩ := tI_elim H5
      obtain ⟨v60, rr, rfl, H7⟩ := tB_elim H6
      obtain ⟨rfl, H8⟩ := tN_elim H7
      exact cast (by kernel_rfl) H8
    · rw [show depth 4 A7 = 1 from by kernel_rfl] at hin
      obtain ⟨T2, rfl⟩ := len1 hin
      have H : src7 K 4 [T2] vals h := H
      simp only [src7] at H
      obtain ⟨b0, rr, rfl, H1⟩ := tS_elim H
      obtain ⟨v2, rr, rfl, H2⟩ := tA_elim H1
      obtain ⟨n4, rr, rfl, H3⟩ := tA_elim H2
      obtain ⟨x6, rr, rfl, H4⟩ := tS_elim H3
      obtain ⟨e7, rr, rfl, H5⟩ := tI_elim H4
      obtain ⟨i8, rr, rfl, H6⟩ := tI_elim H5
      obtain ⟨rfl, H7⟩ := tN_elim H6
      exact cast (by kernel_rfl) H7


noncomputable def c8 : Code := Tryd.f8.body.getD .skip
def A8 : Ann := (.seq .leaf (.seq .leaf .leaf))
def src8 (_ : Value → Hp → Prop) : Src := fun _ _ _ _ => False
theorem ok8 : SpecOk Tryd.prog 8 (Tx.carlinglaw21_ours_S ρ) := by
  refine spec_ok (c := c8) agree specsOk_nil specsOk_nil mixed Tryd.func8 (by kernel_rfl) (by kernel_rfl) A8 (by kernel_rfl) (src8) ?_ ?_
  · intro args h K H
    unfold Tx.carlinglaw21_ours_S at H
    obtain ⟨cc0, rr0, rfl, H1⟩ := tG_elim H
    obtain ⟨n0_0, qq, rfl, H2⟩ := tI_elim H1
    obtain ⟨n0_1, qq, rfl, H3⟩ := tI_elim H2
    obtain ⟨n0_2, qq, rfl, H4⟩ := tI_elim H3
    obtain ⟨n0_3, qq, rfl, H5⟩ := tI_elim H4
    obtain ⟨n0_4, qq, rfl, H6⟩ := tI_elim H5
    obtain ⟨n0_5, qq, rfl, H7⟩ := tI_elim H6
    obtain ⟨n0_6, qq, rfl, H8⟩ := tL_elim H7
    obtain ⟨rfl, H9⟩ := tN_elim H8
    obtain ⟨rfl, H10⟩ := tN_elim H9
    exact ⟨ble_le (by kernel_rfl), cast (by kernel_rfl) H10⟩
  · intro K k inner vals h hk hin H
    exact H.elim


noncomputable def c25 : Code := Tryd.f25.body.getD .skip
def A25 : Ann := (.seq .leaf (.seq .leaf (.seq (.seq .leaf (.block (.join 7 [1, 7] (.block (.join 6 [1, 7] (.block (.join 5 [1, 7] (.block (.join 4 [1, 7] (.block (.join 3 [1, 7] (.block (.join 2 [1, 7] (.block (.join 1 [1, 7] (.block (.seq (.block (.seq (.seq (.seq .leaf (.cond .leaf .leaf)) (.seq (.seq .leaf (.cond .leaf .leaf)) (.seq (.seq .leaf (.cond .leaf .leaf)) (.seq (.seq .leaf (.cond .leaf .leaf)) (.seq (.seq .leaf (.cond .leaf .leaf)) (.seq (.seq .leaf (.cond .leaf .leaf)) (.seq .leaf (.cond .leaf .leaf)))))))) .leaf)) (.seq .leaf .leaf))) (.seq .leaf .leaf))) (.seq .leaf .leaf))) (.seq .leaf .leaf))) (.seq .leaf .leaf))) (.seq .leaf .leaf))) (.seq .leaf .leaf))) (.seq .leaf .leaf)))) (.seq .leaf .leaf))))
def src25 (K : Value → Hp → Prop) : Src
  | 1, [], vals, h => (tI .u64 fun n1 => tS fun out7 => tN (Tx.pack_Num_K1 ρ  (fun r0 h => K (.slice r0.a r0.len r0.cap) h) n1 out7 h)) vals
  | 2, [], vals, h => (tI .u64 fun n1 => tS fun out7 => tN (Tx.pack_Num_K2 ρ  (fun r0 h => K (.slice r0.a r0.len r0.cap) h) n1 out7 h)) vals
  | 3, [], vals, h => (tI .u64 fun n1 => tS fun out7 => tN (Tx.pack_Num_K3 ρ  (fun r0 h => K (.slice r0.a r0.len r0.cap) h) n1 out7 h)) vals
  | 4, [], vals, h => (tI .u64 fun n1 => tS fun out7 => tN (Tx.pack_Num_K4 ρ  (fun r0 h => K (.slice r0.a r0.len r0.cap) h) n1 out7 h)) vals
  | 5, [], vals, h => (tI .u64 fun n1 => tS fun out7 => tN (Tx.pack_Num_K5 ρ  (fun r0 h => K (.slice r0.a r0.len r0.cap) h) n1 out7 h)) vals
  | 6, [], vals, h => (tI .u64 fun n1 => tS fun out7 => tN (Tx.pack_Num_K6 ρ  (fun r0 h => K (.slice r0.a r0.len r0.cap) h) n1 out7 h)) vals
  | 7, [], vals, h => (tI .u64 fun n1 => tS fun out7 => tN (Tx.pack_Num_K7 ρ  (fun r0 h => K (.slice r0.a r0.len r0.cap) h) n1 out7 h)) vals
  | _, _, _, _ => False
theorem ok25 : SpecOk Tryd.prog 25 (Tx.pack_Num_S ρ) := by
  refine spec_ok (c := c25) agree (specsOk_cons ok28 (specsOk_cons ok27 specsOk_nil)) specsOk_nil mixed Tryd.func25 (by kernel_rfl) (by kernel_rfl) A25 (by kernel_rfl) (src25) ?_ ?_
  · intro args h K H
    unfold Tx.pack_Num_S at H
    obtain ⟨b0, rr, rfl, H1⟩ := tS_elim H
    obtain ⟨n1, rr, rfl, H2⟩ := tI_elim H1
    obtain ⟨size2, rr, rfl, H3⟩ := tI_elim H2
    obtain ⟨rfl, H4⟩ := tN_elim H3
    exact ⟨ble_le (by kernel_rfl), cast (by kernel_rfl) H4⟩
  · intro K k inner vals h hk hin H
    rw [show pts A25 = [7, 6, 5, 4, 3, 2, 1] from by kernel_rfl] at hk
    simp only [List.mem_cons, List.not_mem_nil, or_false] at hk
    rcases hk with rfl | rfl | rfl | rfl | rfl | rfl | rfl
    · rw [show depth 7 A25 = 0 from by kernel_rfl] at hin
      obtain rfl := len0 hin
      have H : src25 K 7 [] vals h := H
      simp only [src25] at H
      obtain ⟨n1, rr, rfl, H1⟩ := tI_elim H
      obtain ⟨out7, rr, rfl, H2⟩ := tS_elim H1
      obtain ⟨rfl, H3⟩ := tN_elim H2
      exact cast (by kernel_rfl) H3
    · rw [show depth 6 A25 = 0 from by kernel_rfl] at hin
      obtain rfl := len0 hin
      have H : src25 K 6 [] vals h := H
      simp only [src25] at H
      obtain ⟨n1, rr, rfl, H1⟩ := tI_elim H
      obtain ⟨out7, rr, rfl, H2⟩ := tS_elim H1
      obtain ⟨rfl, H3⟩ := tN_elim H2
      exact cast (by kernel_rfl) H3
    · rw [show depth 5 A25 = 0 from by kernel_rfl] at hin
      obtain rfl := len0 hin
      have H : src25 K 5 [] vals h := H
      simp only [src25] at H
      obtain ⟨n1, rr, rfl, H1⟩ := tI_elim H
      obtain ⟨out7, rr, rfl, H2⟩ := tS_elim H1
      obtain ⟨rfl, H3⟩ := tN_elim H2
      exact cast (by kernel_rfl) H3
    · rw [show depth 4 A25 = 0 from by kernel_rfl] at hin
      obtain rfl := len0 hin
      have H : src25 K 4 [] vals h := H
      simp only [src25] at H
      obtain ⟨n1, rr, rfl, H1⟩ := tI_elim H
      obtain ⟨out7, rr, rfl, H2⟩ := tS_elim H1
      obtain ⟨rfl, H3⟩ := tN_elim H2
      exact cast (by kernel_rfl) H3
    · rw [show depth 3 A25 = 0 from by kernel_rfl] at hin
      obtain rfl := len0 hin
      have H : src25 K 3 [] vals h := H
      simp only [src25] at H
      obtain ⟨n1, rr, rfl, H1⟩ := tI_elim H
      obtain ⟨out7, rr, rfl, H2⟩ := tS_elim H1
      obtain ⟨rfl, H3⟩ := tN_elim H2
      exact cast (by kernel_rfl) H3
    · rw [show depth 2 A25 = 0 from by kernel_rfl] at hin
      obtain rfl := len0 hin
      have H : src25 K 2 [] vals h := H
      simp only [src25] at H
      obtain ⟨n1, rr, rfl, H1⟩ := tI_elim H
      obtain ⟨out7, rr, rfl, H2⟩ := tS_elim H1
      obtain ⟨rfl, H3⟩ := tN_elim H2
      exact cast (by kernel_rfl) H3
    · rw [show depth 1 A25 = 0 from by kernel_rfl] at hin
      obtain rfl := len0 hin
      have H : src25 K 1 [] vals h := H
      simp only [src25] at H
      obtain ⟨n1, rr, rfl, H1⟩ := tI_elim H
      obtain ⟨out7, rr, rfl, H2⟩ := tS_elim H1
      obtain ⟨rfl, H3⟩ := tN_elim H2
      exact cast (by kernel_rfl) H3


noncomputable def c26 : Code := Tryd.f26.body.getD .skip
def A26 : Ann := (.seq .leaf (.seq (.seq .leaf (.cond (.seq .leaf .leaf) .leaf)) (.seq .leaf .leaf)))
def src26 (_ : Value → Hp → Prop) : Src := fun _ _ _ _ => False
theorem ok26 : SpecOk Tryd.prog 26 (Tx.pack_Fill_S ρ) := by
  refine spec_ok (c := c26) agree (specsOk_cons ok27 specsOk_nil) specsOk_nil mixed Tryd.func26 (by kernel_rfl) (by kernel_rfl) A26 (by kernel_rfl) (src26) ?_ ?_
  · intro args h K H
    unfold Tx.pack_Fill_S at H
    obtain ⟨b0, rr, rfl, H1⟩ := tS_elim H
    obtain ⟨size1, rr, rfl, H2⟩ := tI_elim H1
    obtain ⟨rfl, H3⟩ := tN_elim H2
    exact ⟨ble_le (by kernel_rfl), cast (by kernel_rfl) H3⟩
  · intro K k inner vals h hk hin H
    exact H.elim


noncomputable def c10 : Code := Tryd.f10.body.getD .skip
def A10 : Ann := (.seq .leaf (.seq (.seq .leaf (.cond (.seq .leaf .leaf) .leaf)) (.seq .leaf (.seq .leaf (.seq .leaf (.seq .leaf (.seq (.plan (.take 0 [5, 8] (.take 1 [4, 5, 8] (.take 2 [4, 5, 8] (.take 3 [4, 5, 8] (.take 6 [8] (.take 7 [8] (.all (.alt 4 (.all (.alt 5 (.all (.alt 8 (.take 9 [] .done) .nil)) .nil)) .nil))))))))) (.seq .leaf .leaf))))))))
def src10 (_ : Value → Hp → Prop) : Src := fun _ _ _ _ => False
theorem ok10 : SpecOk Tryd.prog 10 (Tx.inode_Lay_S ρ) := by
  refine spec_ok (c := c10) agree (specsOk_cons ok26 (specsOk_cons ok25 (specsOk_cons ok21 specsOk_nil))) specsOk_nil mixed Tryd.func10 (by kernel_rfl) (by kernel_rfl) A10 (by kernel_rfl) (src10) ?_ ?_
  · intro args h K H
    unfold Tx.inode_Lay_S at H
    obtain ⟨cc0, rr0, rfl, H1⟩ := tG_elim H
    obtain ⟨n0_0, qq, rfl, H2⟩ := tI_elim H1
    obtain ⟨n0_1, qq, rfl, H3⟩ := tI_elim H2
    obtain ⟨n0_2, qq, rfl, H4⟩ := tI_elim H3
    obtain ⟨n0_3, qq, rfl, H5⟩ := tI_elim H4
    obtain ⟨n0_4, qq, rfl, H6⟩ := tI_elim H5
    obtain ⟨n0_5, qq, rfl, H7⟩ := tI_elim H6
    obtain ⟨n0_6, qq, rfl, H8⟩ := tL_elim H7
    obtain ⟨rfl, H9⟩ := tN_elim H8
    obtain ⟨rfl, H10⟩ := tN_elim H9
    exact ⟨ble_le (by kernel_rfl), cast (by kernel_rfl) H10⟩
  · intro K k inner vals h hk hin H
    exact H.elim


noncomputable def c9 : Code := Tryd.f9.body.getD .skip
def A9 : Ann := (.seq .leaf (.seq .leaf (.seq .leaf (.seq .leaf (.seq .leaf (.seq .leaf (.seq .leaf (.seq .leaf .leaf))))))))
def src9 (_ : Value → Hp → Prop) : Src := fun _ _ _ _ => False
theorem ok9 : SpecOk Tryd.prog 9 (Tx.carlinglaw21_alive_S ρ) := by
  refine spec_ok (c := c9) agree (specsOk_cons ok24 (specsOk_cons ok10 (specsOk_cons ok6 specsOk_nil))) specsOk_nil mixed Tryd.func9 (by kernel_rfl) (by kernel_rfl) A9 (by kernel_rfl) (src9) ?_ ?_
  · intro args h K H
    unfold Tx.carlinglaw21_alive_S at H
    obtain ⟨rfl, H1⟩ := tN_elim H
    exact ⟨ble_le (by kernel_rfl), cast (by kernel_rfl) H1⟩
  · intro K k inner vals h hk hin H
    exact H.elim


noncomputable def c3 : Code := Tryd.f3.body.getD .skip
def A3 : Ann := (.seq .leaf (.seq .leaf (.seq .leaf (.seq (.plan (.take 0 [1, 10] (.take 2 [10] (.all (.alt 1 (.take 3 [10] (.take 4 [10] (.take 5 [10] (.take 6 [10] (.take 7 [10] (.take 8 [10] (.take 9 [10] (.all (.alt 10 (.take 11 [] (.take 12 [] .done)) .nil))))))))) .nil))))) .leaf))))
def src3 (_ : Value → Hp → Prop) : Src := fun _ _ _ _ => False
theorem ok3 : SpecOk Tryd.prog 3 (Tx.carlinglaw21_InodeParses_S ρ) := by
  refine spec_ok (c := c3) agree (specsOk_cons ok9 (specsOk_cons ok8 (specsOk_cons ok7 (specsOk_cons ok6 specsOk_nil)))) specsOk_nil mixed Tryd.func3 (by kernel_rfl) (by kernel_rfl) A3 (by kernel_rfl) (src3) ?_ ?_
  · intro args h K H
    unfold Tx.carlinglaw21_InodeParses_S at H
    obtain ⟨b0, rr, rfl, H1⟩ := tS_elim H
    obtain ⟨rfl, H2⟩ := tN_elim H1
    exact ⟨ble_le (by kernel_rfl), cast (by kernel_rfl) H2⟩
  · intro K k inner vals h hk hin H
    exact H.elim


noncomputable def c11 : Code := Tryd.f11.body.getD .skip
def A11 : Ann := (.seq .leaf (.seq .leaf .leaf))
def src11 (_ : Value → Hp → Prop) : Src := fun _ _ _ _ => False
theorem ok11 : SpecOk Tryd.prog 11 (Tx.carlinglaw21_theirs_S ρ) := by
  refine spec_ok (c := c11) agree specsOk_nil specsOk_nil mixed Tryd.func11 (by kernel_rfl) (by kernel_rfl) A11 (by kernel_rfl) (src11) ?_ ?_
  · intro args h K H
    unfold Tx.carlinglaw21_theirs_S at H
    obtain ⟨cc0, rr0, rfl, H1⟩ := tG_elim H
    obtain ⟨n0_0, qq, rfl, H2⟩ := tI_elim H1
    obtain ⟨n0_1, qq, rfl, H3⟩ := tI_elim H2
    obtain ⟨n0_2, qq, rfl, H4⟩ := tI_elim H3
    obtain ⟨n0_3, qq, rfl, H5⟩ := tI_elim H4
    obtain ⟨n0_4, qq, rfl, H6⟩ := tI_elim H5
    obtain ⟨n0_5, qq, rfl, H7⟩ := tI_elim H6
    obtain ⟨n0_6, qq, rfl, H8⟩ := tL_elim H7
    obtain ⟨rfl, H9⟩ := tN_elim H8
    obtain ⟨rfl, H10⟩ := tN_elim H9
    exact ⟨ble_le (by kernel_rfl), cast (by kernel_rfl) H10⟩
  · intro K k inner vals h hk hin H
    exact H.elim


noncomputable def c12 : Code := Tryd.f12.body.getD .skip
def A12 : Ann := (.seq .leaf (.seq (.seq .leaf (.cond (.seq .leaf .leaf) .leaf)) (.seq (.seq .leaf (.block (.loop 1 [0, 1, 5] (.seq (.seq .leaf (.cond .leaf .leaf)) (.seq (.block (.seq (.plan (.take 0 [] (.take 1 [] (.take 2 [] (.take 3 [] (.take 4 [] (.take 5 [] (.take 6 [] (.take 7 [] (.take 8 [] .done)))))))))) (.cond (.seq .leaf .leaf) .leaf))) .leaf))))) (.seq .leaf .leaf))))
def src12 (K : Value → Hp → Prop) : Src
  | 1, [T1], vals, h => (tS fun a0 => tS fun b1 => tI .i64 fun i5 => tN (Tx.carlingref02_Same_B1 ρ (fun a0 b1 i5 hh => T1 [(.slice a0.a a0.len a0.cap), (.slice b1.a b1.len b1.cap), (.int .i64 i5)] hh) (fun r0 h => K (.bool r0) h) a0 b1 i5 h)) vals
  | _, _, _, _ => False
theorem ok12 : SpecOk Tryd.prog 12 (Tx.carlingref02_Same_S ρ) := by
  refine spec_ok (c := c12) agree specsOk_nil specsOk_nil mixed Tryd.func12 (by kernel_rfl) (by kernel_rfl) A12 (by kernel_rfl) (src12) ?_ ?_
  · intro args h K H
    unfold Tx.carlingref02_Same_S at H
    obtain ⟨a0, rr, rfl, H1⟩ := tS_elim H
    obtain ⟨b1, rr, rfl, H2⟩ := tS_elim H1
    obtain ⟨rfl, H3⟩ := tN_elim H2
    exact ⟨ble_le (by kernel_rfl), cast (by kernel_rfl) H3⟩
  · intro K k inner vals h hk hin H
    rw [show pts A12 = [1] from by kernel_rfl] at hk
    simp only [List.mem_cons, List.not_mem_nil, or_false] at hk
    rcases hk with rfl
    · rw [show depth 1 A12 = 1 from by kernel_rfl] at hin
      obtain ⟨T1, rfl⟩ := len1 hin
      have H : src12 K 1 [T1] vals h := H
      simp only [src12] at H
      obtain ⟨a0, rr, rfl, H1⟩ := tS_elim H
      obtain ⟨b1, rr, rfl, H2⟩ := tS_elim H1
      obtain ⟨i5, rr, rfl, H3⟩ := tI_elim H2
      obtain ⟨rfl, H4⟩ := tN_elim H3
      exact cast (by kernel_rfl) H4


noncomputable def c4 : Code := Tryd.f4.body.getD .skip
def A4 : Ann := (.seq .leaf (.seq .leaf (.join 2 [1] (.seq .leaf (.cond (.seq .leaf (.join 1 [1, 33] (.plan (.take 0 [] (.take 1 [2] (.all (.alt 2 (.take 3 [] (.take 4 [] (.take 5 [] (.take 6 [] (.take 7 [] .done))))) .nil))))) (.cond (.seq .leaf .leaf) .leaf))) .leaf)) (.seq .leaf (.seq (.seq .leaf (.cond (.seq .leaf .leaf) .leaf)) (.seq .leaf (.seq .leaf .leaf)))))))
def src4 (K : Value → Hp → Prop) : Src
  | 1, [], vals, h => (tS fun b1 => tB fun v33 => tN (Tx.carlinglaw21_InodeBack_K1 ρ  (fun r0 h => K (.bool r0) h) b1 v33 h)) vals
  | 2, [], vals, h => (tS fun b1 => tN (Tx.carlinglaw21_InodeBack_K2 ρ  (fun r0 h => K (.bool r0) h) b1 h)) vals
  | _, _, _, _ => False
theorem ok4 : SpecOk Tryd.prog 4 (Tx.carlinglaw21_InodeBack_S ρ) := by
  refine spec_ok (c := c4) agree (specsOk_cons ok12 (specsOk_cons ok11 (specsOk_cons ok10 (specsOk_cons ok9 (specsOk_cons ok6 specsOk_nil))))) specsOk_nil mixed Tryd.func4 (by kernel_rfl) (by kernel_rfl) A4 (by kernel_rfl) (src4) ?_ ?_
  · intro args h K H
    unfold Tx.carlinglaw21_InodeBack_S at H
    obtain ⟨cc0, rr0, rfl, H1⟩ := tG_elim H
    obtain ⟨n0_0, qq, rfl, H2⟩ := tI_elim H1
    obtain ⟨n0_1, qq, rfl, H3⟩ := tI_elim H2
    obtain ⟨n0_2, qq, rfl, H4⟩ := tI_elim H3
    obtain ⟨n0_3, qq, rfl, H5⟩ := tI_elim H4
    obtain ⟨n0_4, qq, rfl, H6⟩ := tI_elim H5
    obtain ⟨n0_5, qq, rfl, H7⟩ := tI_elim H6
    obtain ⟨n0_6, qq, rfl, H8⟩ := tL_elim H7
    obtain ⟨rfl, H9⟩ := tN_elim H8
    obtain ⟨b1, rr, rfl, H10⟩ := tS_elim H9
    obtain ⟨rfl, H11⟩ := tN_elim H10
    exact ⟨ble_le (by kernel_rfl), cast (by kernel_rfl) H11⟩
  · intro K k inner vals h hk hin H
    rw [show pts A4 = [2, 1] from by kernel_rfl] at hk
    simp only [List.mem_cons, List.not_mem_nil, or_false] at hk
    rcases hk with rfl | rfl
    · rw [show depth 2 A4 = 0 from by kernel_rfl] at hin
      obtain rfl := len0 hin
      have H : src4 K 2 [] vals h := H
      simp only [src4] at H
      obtain ⟨b1, rr, rfl, H1⟩ := tS_elim H
      obtain ⟨rfl, H2⟩ := tN_elim H1
      exact cast (by kernel_rfl) H2
    · rw [show depth 1 A4 = 0 from by kernel_rfl] at hin
      obtain rfl := len0 hin
      have H : src4 K 1 [] vals h := H
      simp only [src4] at H
      obtain ⟨b1, rr, rfl, H1⟩ := tS_elim H
      obtain ⟨v33, rr, rfl, H2⟩ := tB_elim H1
      obtain ⟨rfl, H3⟩ := tN_elim H2
      exact cast (by kernel_rfl) H3


noncomputable def c13 : Code := Tryd.f13.body.getD .skip
def A13 : Ann := (.seq .leaf (.seq (.join 1 [0, 1, 4, 16] .leaf (.cond (.seq .leaf .leaf) .leaf)) (.seq .leaf .leaf)))
def src13 (K : Value → Hp → Prop) : Src
  | 1, [], vals, h => (tS fun page0 => tI .i64 fun at1 => tA fun v4 => tB fun v16 => tN (Tx.inode_Get_K1 ρ  (fun r0 r1 r2 r3 r4 r5 r6 r7 h => K (.tuple [(.agg (([(.int .i64 r0), (.int .i64 r1), (.int .i64 r2), (.int .i64 r3), (.int .i64 r4), (.int .i64 r5)] : List Value) ++ lumpV .u8 32 r6).toArray), (.int .i64 r7)].toArray) h) page0 at1 v4 v16 h)) vals
  | _, _, _, _ => False
theorem ok13 : SpecOk Tryd.prog 13 (Tx.inode_Get_S ρ) := by
  refine spec_ok (c := c13) agree (specsOk_cons ok6 specsOk_nil) specsOk_nil mixed Tryd.func13 (by kernel_rfl) (by kernel_rfl) A13 (by kernel_rfl) (src13) ?_ ?_
  · intro args h K H
    unfold Tx.inode_Get_S at H
    obtain ⟨page0, rr, rfl, H1⟩ := tS_elim H
    obtain ⟨at1, rr, rfl, H2⟩ := tI_elim H1
    obtain ⟨rfl, H3⟩ := tN_elim H2
    exact ⟨ble_le (by kernel_rfl), cast (by kernel_rfl) H3⟩
  · intro K k inner vals h hk hin H
    rw [show pts A13 = [1] from by kernel_rfl] at hk
    simp only [List.mem_cons, List.not_mem_nil, or_false] at hk
    rcases hk with rfl
    · rw [show depth 1 A13 = 0 from by kernel_rfl] at hin
      obtain rfl := len0 hin
      have H : src13 K 1 [] vals h := H
      simp only [src13] at H
      obtain ⟨page0, rr, rfl, H1⟩ := tS_elim H
      obtain ⟨at1, rr, rfl, H2⟩ := tI_elim H1
      obtain ⟨v4, rr, rfl, H3⟩ := tA_elim H2
      obtain ⟨v16, rr, rfl, H4⟩ := tB_elim H3
      obtain ⟨rfl, H5⟩ := tN_elim H4
      exact cast (by kernel_rfl) H5


noncomputable def c14 : Code := Tryd.f14.body.getD .skip
def A14 : Ann := (.seq .leaf (.seq (.join 1 [0, 1, 4, 16] .leaf (.cond (.seq .leaf .leaf) .leaf)) (.seq .leaf .leaf)))
def src14 (K : Value → Hp → Prop) : Src
  | 1, [], vals, h => (tS fun page0 => tI .i64 fun at1 => tA fun v4 => tB fun v16 => tN (Tx.carlingref21_Get_K1 ρ  (fun r0 r1 r2 r3 r4 r5 r6 r7 h => K (.tuple [(.agg (([(.int .i64 r0), (.int .i64 r1), (.int .i64 r2), (.int .i64 r3), (.int .i64 r4), (.int .i64 r5)] : List Value) ++ lumpV .u8 32 r6).toArray), (.int .i64 r7)].toArray) h) page0 at1 v4 v16 h)) vals
  | _, _, _, _ => False
theorem ok14 : SpecOk Tryd.prog 14 (Tx.carlingref21_Get_S ρ) := by
  refine spec_ok (c := c14) agree (specsOk_cons ok7 specsOk_nil) specsOk_nil mixed Tryd.func14 (by kernel_rfl) (by kernel_rfl) A14 (by kernel_rfl) (src14) ?_ ?_
  · intro args h K H
    unfold Tx.carlingref21_Get_S at H
    obtain ⟨page0, rr, rfl, H1⟩ := tS_elim H
    obtain ⟨at1, rr, rfl, H2⟩ := tI_elim H1
    obtain ⟨rfl, H3⟩ := tN_elim H2
    exact ⟨ble_le (by kernel_rfl), cast (by kernel_rfl) H3⟩
  · intro K k inner vals h hk hin H
    rw [show pts A14 = [1] from by kernel_rfl] at hk
    simp only [List.mem_cons, List.not_mem_nil, or_false] at hk
    rcases hk with rfl
    · rw [show depth 1 A14 = 0 from by kernel_rfl] at hin
      obtain rfl := len0 hin
      have H : src14 K 1 [] vals h := H
      simp only [src14] at H
      obtain ⟨page0, rr, rfl, H1⟩ := tS_elim H
      obtain ⟨at1, rr, rfl, H2⟩ := tI_elim H1
      obtain ⟨v4, rr, rfl, H3⟩ := tA_elim H2
      obtain ⟨v16, rr, rfl, H4⟩ := tB_elim H3
      obtain ⟨rfl, H5⟩ := tN_elim H4
      exact cast (by kernel_rfl) H5


noncomputable def c15 : Code := Tryd.f15.body.getD .skip
def A15 : Ann := (.seq .leaf (.seq .leaf (.seq (.join 1 [0, 1, 8, 30] .leaf (.cond (.seq .leaf .leaf) .leaf)) (.seq .leaf (.seq .leaf (.seq .leaf .leaf))))))
def src15 (K : Value → Hp → Prop) : Src
  | 1, [], vals, h => (tS fun page0 => tI .i64 fun at1 => tS fun b8 => tB fun v30 => tN (Tx.inode_Put_K1 ρ  (fun r0 r1 h => K (.tuple [(.slice r0.a r0.len r0.cap), (.int .i64 r1)].toArray) h) page0 at1 b8 v30 h)) vals
  | _, _, _, _ => False
theorem ok15 : SpecOk Tryd.prog 15 (Tx.inode_Put_S ρ) := by
  refine spec_ok (c := c15) agree (specsOk_cons ok27 (specsOk_cons ok10 specsOk_nil)) specsOk_nil mixed Tryd.func15 (by kernel_rfl) (by kernel_rfl) A15 (by kernel_rfl) (src15) ?_ ?_
  · intro args h K H
    unfold Tx.inode_Put_S at H
    obtain ⟨page0, rr, rfl, H1⟩ := tS_elim H
    obtain ⟨at1, rr, rfl, H2⟩ := tI_elim H1
    obtain ⟨cc2, rr2, rfl, H3⟩ := tG_elim H2
    obtain ⟨n2_0, qq, rfl, H4⟩ := tI_elim H3
    obtain ⟨n2_1, qq, rfl, H5⟩ := tI_elim H4
    obtain ⟨n2_2, qq, rfl, H6⟩ := tI_elim H5
    obtain ⟨n2_3, qq, rfl, H7⟩ := tI_elim H6
    obtain ⟨n2_4, qq, rfl, H8⟩ := tI_elim H7
    obtain ⟨n2_5, qq, rfl, H9⟩ := tI_elim H8
    obtain ⟨n2_6, qq, rfl, H10⟩ := tL_elim H9
    obtain ⟨rfl, H11⟩ := tN_elim H10
    obtain ⟨rfl, H12⟩ := tN_elim H11
    exact ⟨ble_le (by kernel_rfl), cast (by kernel_rfl) H12⟩
  · intro K k inner vals h hk hin H
    rw [show pts A15 = [1] from by kernel_rfl] at hk
    simp only [List.mem_cons, List.not_mem_nil, or_false] at hk
    rcases hk with rfl
    · rw [show depth 1 A15 = 0 from by kernel_rfl] at hin
      obtain rfl := len0 hin
      have H : src15 K 1 [] vals h := H
      simp only [src15] at H
      obtain ⟨page0, rr, rfl, H1⟩ := tS_elim H
      obtain ⟨at1, rr, rfl, H2⟩ := tI_elim H1
      obtain ⟨b8, rr, rfl, H3⟩ := tS_elim H2
      obtain ⟨v30, rr, rfl, H4⟩ := tB_elim H3
      obtain ⟨rfl, H5⟩ := tN_elim H4
      exact cast (by kernel_rfl) H5


noncomputable def c16 : Code := Tryd.f16.body.getD .skip
def A16 : Ann := (.seq .leaf (.seq .leaf (.seq (.join 1 [0, 1, 8, 31] .leaf (.cond (.seq .leaf .leaf) .leaf)) (.seq .leaf (.seq (.seq .leaf (.block (.loop 2 [1, 8, 10, 11] (.seq (.seq .leaf (.cond .leaf .leaf)) (.seq (.block .leaf) .leaf))))) (.seq .leaf .leaf))))))
def src16 (K : Value → Hp → Prop) : Src
  | 1, [], vals, h => (tS fun page0 => tI .i64 fun at1 => tS fun b8 => tB fun v31 => tN (Tx.carlingref21_Put_K1 ρ  (fun r0 r1 h => K (.tuple [(.slice r0.a r0.len r0.cap), (.int .i64 r1)].toArray) h) page0 at1 b8 v31 h)) vals
  | 2, [T2], vals, h => (tI .i64 fun at1 => tS fun b8 => tS fun out10 => tI .i64 fun i11 => tN (Tx.carlingref21_Put_B2 ρ (fun at1 b8 out10 i11 hh => T2 [(.int .i64 at1), (.slice b8.a b8.len b8.cap), (.slice out10.a out10.len out10.cap), (.int .i64 i11)] hh) (fun r0 r1 h => K (.tuple [(.slice r0.a r0.len r0.cap), (.int .i64 r1)].toArray) h) at1 b8 out10 i11 h)) vals
  | _, _, _, _ => False
theorem ok16 : SpecOk Tryd.prog 16 (Tx.carlingref21_Put_S ρ) := by
  refine spec_ok (c := c16) agree (specsOk_cons ok23 specsOk_nil) specsOk_nil mixed Tryd.func16 (by kernel_rfl) (by kernel_rfl) A16 (by kernel_rfl) (src16) ?_ ?_
  · intro args h K H
    unfold Tx.carlingref21_Put_S at H
    obtain ⟨page0, rr, rfl, H1⟩ := tS_elim H
    obtain ⟨at1, rr, rfl, H2⟩ := tI_elim H1
    obtain ⟨cc2, rr2, rfl, H3⟩ := tG_elim H2
    obtain ⟨n2_0, qq, rfl, H4⟩ := tI_elim H3
    obtain ⟨n2_1, qq, rfl, H5⟩ := tI_elim H4
    obtain ⟨n2_2, qq, rfl, H6⟩ := tI_elim H5
    obtain ⟨n2_3, qq, rfl, H7⟩ := tI_elim H6
    obtain ⟨n2_4, qq, rfl, H8⟩ := tI_elim H7
    obtain ⟨n2_5, qq, rfl, H9⟩ := tI_elim H8
    obtain ⟨n2_6, qq, rfl, H10⟩ := tL_elim H9
    obtain ⟨rfl, H11⟩ := tN_elim H10
    obtain ⟨rfl, H12⟩ := tN_elim H11
    exact ⟨ble_le (by kernel_rfl), cast (by kernel_rfl) H12⟩
  · intro K k inner vals h hk hin H
    rw [show pts A16 = [1, 2] from by kernel_rfl] at hk
    simp only [List.mem_cons, List.not_mem_nil, or_false] at hk
    rcases hk with rfl | rfl
    · rw [show depth 1 A16 = 0 from by kernel_rfl] at hin
      obtain rfl := len0 hin
      have H : src16 K 1 [] vals h := H
      simp only [src16] at H
      obtain ⟨page0, rr, rfl, H1⟩ := tS_elim H
      obtain ⟨at1, rr, rfl, H2⟩ := tI_elim H1
      obtain ⟨b8, rr, rfl, H3⟩ := tS_elim H2
      obtain ⟨v31, rr, rfl, H4⟩ := tB_elim H3
      obtain ⟨rfl, H5⟩ := tN_elim H4
      exact cast (by kernel_rfl) H5
    · rw [show depth 2 A16 = 1 from by kernel_rfl] at hin
      obtain ⟨T2, rfl⟩ := len1 hin
      have H : src16 K 2 [T2] vals h := H
      simp only [src16] at H
      obtain ⟨at1, rr, rfl, H1⟩ := tI_elim H
      obtain ⟨b8, rr, rfl, H2⟩ := tS_elim H1
      obtain ⟨out10, rr, rfl, H3⟩ := tS_elim H2
      obtain ⟨i11, rr, rfl, H4⟩ := tI_elim H3
      obtain ⟨rfl, H5⟩ := tN_elim H4
      exact cast (by kernel_rfl) H5


noncomputable def c5 : Code := Tryd.f5.body.getD .skip
def A5 : Ann := (.seq .leaf (.seq (.seq .leaf (.cond (.seq .leaf .leaf) .leaf)) (.seq .leaf (.seq .leaf (.seq .leaf (.seq .leaf (.join 2 [7, 8, 9, 10, 11, 12, 13, 14] (.seq .leaf (.cond (.seq .leaf (.join 1 [7, 8, 9, 10, 11, 12, 13, 14, 63] (.plan (.take 0 [] (.take 1 [2] (.all (.alt 2 (.take 3 [] (.take 4 [] (.take 5 [] (.take 6 [] (.take 7 [] .done))))) .nil))))) (.cond (.seq .leaf .leaf) .leaf))) .leaf)) (.seq (.plan (.take 0 [1, 12, 20] (.take 2 [12, 20] (.all (.alt 1 (.take 3 [12, 20] (.take 4 [12, 20] (.take 5 [12, 20] (.take 6 [12, 20] (.take 7 [12, 20] (.take 8 [12, 20] (.take 9 [12, 20] (.take 10 [12, 20] (.take 11 [12, 20] (.all (.alt 12 (.take 13 [20] (.take 14 [20] (.take 15 [20] (.take 16 [20] (.take 17 [20] (.take 18 [20] (.take 19 [20] (.all (.alt 20 (.take 21 [] (.take 22 [] .done)) .nil))))))))) .nil))))))))))) .nil))))) .leaf))))))))
def src5 (K : Value → Hp → Prop) : Src
  | 1, [], vals, h => (tA fun x7 => tI .i64 fun e8 => tA fun y9 => tI .i64 fun f10 => tS fun a11 => tI .i64 fun g12 => tS fun b13 => tI .i64 fun h14 => tB fun v63 => tN (Tx.carlinglaw21_InodePages_K1 ρ  (fun r0 h => K (.bool r0) h) x7 e8 y9 f10 a11 g12 b13 h14 v63 h)) vals
  | 2, [], vals, h => (tA fun x7 => tI .i64 fun e8 => tA fun y9 => tI .i64 fun f10 => tS fun a11 => tI .i64 fun g12 => tS fun b13 => tI .i64 fun h14 => tN (Tx.carlinglaw21_InodePages_K2 ρ  (fun r0 h => K (.bool r0) h) x7 e8 y9 f10 a11 g12 b13 h14 h)) vals
  | _, _, _, _ => False
theorem ok5 : SpecOk Tryd.prog 5 (Tx.carlinglaw21_InodePages_S ρ) := by
  refine spec_ok (c := c5) agree (specsOk_cons ok16 (specsOk_cons ok15 (specsOk_cons ok14 (specsOk_cons ok13 (specsOk_cons ok12 (specsOk_cons ok11 (specsOk_cons ok9 (specsOk_cons ok8 specsOk_nil)))))))) specsOk_nil mixed Tryd.func5 (by kernel_rfl) (by kernel_rfl) A5 (by kernel_rfl) (src5) ?_ ?_
  · intro args h K H
    unfold Tx.carlinglaw21_InodePages_S at H
    obtain ⟨page0, rr, rfl, H1⟩ := tS_elim H
    obtain ⟨at1, rr, rfl, H2⟩ := tI_elim H1
    obtain ⟨cc2, rr2, rfl, H3⟩ := tG_elim H2
    obtain ⟨n2_0, qq, rfl, H4⟩ := tI_elim H3
    obtain ⟨n2_1, qq, rfl, H5⟩ := tI_elim H4
    obtain ⟨n2_2, qq, rfl, H6⟩ := tI_elim H5
    obtain ⟨n2_3, qq, rfl, H7⟩ := tI_elim H6
    obtain ⟨n2_4, qq, rfl, H8⟩ := tI_elim H7
    obtain ⟨n2_5, qq, rfl, H9⟩ := tI_elim H8
    obtain ⟨n2_6, qq, rfl, H10⟩ := tL_elim H9
    obtain ⟨rfl, H11⟩ := tN_elim H10
    obtain ⟨rfl, H12⟩ := tN_elim H11
    exact ⟨ble_le (by kernel_rfl), cast (by kernel_rfl) H12⟩
  · intro K k inner vals h hk hin H
    rw [show pts A5 = [2, 1] from by kernel_rfl] at hk
    simp only [List.mem_cons, List.not_mem_nil, or_false] at hk
    rcases hk with rfl | rfl
    · rw [show depth 2 A5 = 0 from by kernel_rfl] at hin
      obtain rfl := len0 hin
      have H : src5 K 2 [] vals h := H
      simp only [src5] at H
      obtain ⟨x7, rr, rfl, H1⟩ := tA_elim H
      obtain ⟨e8, rr, rfl, H2⟩ := tI_elim H1
      obtain ⟨y9, rr, rfl, H3⟩ := tA_elim H2
      obtain ⟨f10, rr, rfl, H4⟩ := tI_elim H3
      obtain ⟨a11, rr, rfl, H5⟩ := tS_elim H4
      obtain ⟨g12, rr, rfl, H6⟩ := tI_elim H5
      obtain ⟨b13, rr, rfl, H7⟩ := tS_elim H6
      obtain ⟨h14, rr, rfl, H8⟩ := tI_elim H7
      obtain ⟨rfl, H9⟩ := tN_elim H8
      exact cast (by kernel_rfl) H9
    · rw [show depth 1 A5 = 0 from by kernel_rfl] at hin
      obtain rfl := len0 hin
      have H : src5 K 1 [] vals h := H
      simp only [src5] at H
      obtain ⟨x7, rr, rfl, H1⟩ := tA_elim H
      obtain ⟨e8, rr, rfl, H2⟩ := tI_elim H1
      obtain ⟨y9, rr, rfl, H3⟩ := tA_elim H2
      obtain ⟨f10, rr, rfl, H4⟩ := tI_elim H3
      obtain ⟨a11, rr, rfl, H5⟩ := tS_elim H4
      obtain ⟨g12, rr, rfl, H6⟩ := tI_elim H5
      obtain ⟨b13, rr, rfl, H7⟩ := tS_elim H6
      obtain ⟨h14, rr, rfl, H8⟩ := tI_elim H7
      obtain ⟨v63, rr, rfl, H9⟩ := tB_elim H8
      obtain ⟨rfl, H10⟩ := tN_elim H9
      exact cast (by kernel_rfl) H10


end Go.Proofs.YtabdhjmlfhhmpaaDoor.Lk
