import Derived.Test.YtkbmoanoaakcpaaHoShT
set_option linter.unusedSimpArgs false
set_option linter.unusedVariables false
namespace Go.Tx
open Go Go.Wc

def lru_New_K1 (ρ : Ids) (Q : Option Addr → Int → Hp → Prop) (room0 : Int) (v9 : Bool) (h : Hp) : Prop :=
  br v9
  (Q none (1 : Int) h)
  (amW h fun m_1 h_2 =>
  alW h_2 (ρ.T 2) [(.int .i64 room0), (.map (some m_1)), (.slice none 0 0)] fun p_3 h_4 =>
  Q (some p_3) (0 : Int) h_4)

def lru_New (ρ : Ids) (room0 : Int) (h : Hp) (Q : Option Addr → Int → Hp → Prop) : Prop :=
  br (decide (room0 < (1 : Int)))
  (lru_New_K1 ρ Q room0 true h)
  (lru_New_K1 ρ Q room0 (decide (room0 > (1024 : Int))) h)

def lru_New_S (ρ : Ids) : Spec := fun args h K =>
  (tI .i64 fun room0 => tN (lru_New ρ room0 h (fun r0 r1 h => K (.tuple [(.pointer r0), (.int .i64 r1)].toArray) h))) args

def lru_Cache_ok (ρ : Ids) (c0 : Option Addr) (h : Hp) (Q : Bool → Hp → Prop) : Prop :=
  br (!(Option.isNone c0))
  (nilW c0 fun p_1 =>
  ldM h (p_1.add 1) fun x_2 =>
  Q (!(Option.isNone x_2)) h)
  (Q false h)

def lru_Cache_ok_S (ρ : Ids) : Spec := fun args h K =>
  (tP fun c0 => tN (lru_Cache_ok ρ c0 h (fun r0 h => K (.bool r0) h))) args

def lru_isItem (ρ : Ids) (n0 : Int) (h : Hp) (Q : Bool → Hp → Prop) : Prop :=
  br (decide (n0 ≥ (0 : Int)))
  (Q (decide (n0 < (4096 : Int))) h)
  (Q false h)

def lru_isItem_S (ρ : Ids) : Spec := fun args h K =>
  (tI .i64 fun n0 => tN (lru_isItem ρ n0 h (fun r0 h => K (.bool r0) h))) args

def bytes_Clone (ρ : Ids) (b0 : Sl) (h : Hp) (Q : Sl → Hp → Prop) : Prop :=
  br (Option.isNone b0.a)
  (Q (⟨none, 0, 0⟩ : Sl) h)
  (alW h (ρ.T 1) [] fun p_1 h_2 =>
  apW (ρ.T 1) 1 1 (.int .u8 (0 : Int)) h_2 (⟨some p_1, 0, 0⟩ : Sl) b0 fun s_3 h_4 =>
  Q s_3 h_4)

def bytes_Clone_S (ρ : Ids) : Spec := fun args h K =>
  (tS fun b0 => tN (bytes_Clone ρ b0 h (fun r0 h => K (.slice r0.a r0.len r0.cap) h))) args

def slices_Index_int_int_B1 (ρ : Ids) (S1 : Sl → Int → Int → Int → Hp → Prop) (Q : Int → Hp → Prop) (s0 : Sl) (v1 : Int) (v7 : Int) (v8 : Int) (h : Hp) : Prop :=
  br (decide (v8 < v7))
  (ixW s0.a s0.len v8 1 fun p_1 =>
  ldI .i64 h p_1 fun x_2 =>
  br (v1 == x_2)
  (Q v8 h)
  (S1 s0 v1 v7 (IntKind.wrap .i64 (v8 + (1 : Int))) h))
  (Q (-1 : Int) h)

def slices_Index_int_int_L1 (ρ : Ids) (Q : Int → Hp → Prop) (s0 : Sl) (v1 : Int) (v7 : Int) (v8 : Int) (h : Hp) : Prop :=
  Lfp (fun S vals h => (tS fun s0 => tI .i64 fun v1 => tI .i64 fun v7 => tI .i64 fun v8 => tN (slices_Index_int_int_B1 ρ (fun s0 v1 v7 v8 hh => S [(.slice s0.a s0.len s0.cap), (.int .i64 v1), (.int .i64 v7), (.int .i64 v8)] hh) Q s0 v1 v7 v8 h)) vals) [(.slice s0.a s0.len s0.cap), (.int .i64 v1), (.int .i64 v7), (.int .i64 v8)] h

theorem slices_Index_int_int_L1_in (ρ : Ids) (Q : Int → Hp → Prop) (s0 : Sl) (v1 : Int) (v7 : Int) (v8 : Int) (h : Hp) (H : slices_Index_int_int_B1 ρ (slices_Index_int_int_L1 ρ Q) Q s0 v1 v7 v8 h) : slices_Index_int_int_L1 ρ Q s0 v1 v7 v8 h := lfp_in H

def slices_Index_int_int (ρ : Ids) (s0 : Sl) (v1 : Int) (h : Hp) (Q : Int → Hp → Prop) : Prop :=
  slices_Index_int_int_L1 ρ Q s0 v1 (s0.len : Int) (0 : Int) h

def slices_Index_int_int_S (ρ : Ids) : Spec := fun args h K =>
  (tS fun s0 => tI .i64 fun v1 => tN (slices_Index_int_int ρ s0 v1 h (fun r0 h => K (.int .i64 r0) h))) args

def slices_Delete_int_int (ρ : Ids) (s0 : Sl) (i1 : Int) (j2 : Int) (h : Hp) (Q : Sl → Hp → Prop) : Prop :=
  slX s0 i1 j2 (s0.len : Int) 1 fun s_1 =>
  br (i1 == j2)
  (Q s0 h)
  (slW s0 (0 : Int) i1 1 fun s_2 =>
  slW s0 j2 (s0.len : Int) 1 fun s_3 =>
  apW (ρ.T 0) 1 8 (.int .i64 (0 : Int)) h s_2 s_3 fun s_4 h_5 =>
  slW s_4 (s_4.len : Int) (s0.len : Int) 1 fun s_6 =>
  clW (.int .i64 (0 : Int)) h_5 s_6 fun h_7 =>
  Q s_4 h_7)

def slices_Delete_int_int_S (ρ : Ids) : Spec := fun args h K =>
  (tS fun s0 => tI .i64 fun i1 => tI .i64 fun j2 => tN (slices_Delete_int_int ρ s0 i1 j2 h (fun r0 h => K (.slice r0.a r0.len r0.cap) h))) args

def lru_Cache_touch_K1 (ρ : Ids) (Q : Hp → Prop) (c0 : Option Addr) (item1 : Int) (h : Hp) : Prop :=
  nilW c0 fun p_11 =>
  ldS h (p_11.add 2) fun x_12 =>
  alW h (ρ.T 0) [(.int .i64 item1)] fun p_13 h_14 =>
  apW (ρ.T 0) 1 8 (.int .i64 (0 : Int)) h_14 x_12 (⟨some p_13, 1, 1⟩ : Sl) fun s_15 h_16 =>
  nilW c0 fun p_17 =>
  st h_16 ((p_17.add 2).add 0) (.slice s_15.a s_15.len s_15.cap) fun h_18 =>
  Q h_18

def lru_Cache_touch (ρ : Ids) (c0 : Option Addr) (item1 : Int) (h : Hp) (Q : Hp → Prop) : Prop :=
  nilW c0 fun p_1 =>
  ldS h (p_1.add 2) fun x_2 =>
  slices_Index_int_int ρ x_2 item1 h fun r_3 h_4 =>
  br (decide (r_3 ≥ (0 : Int)))
  (nilW c0 fun p_5 =>
  ldS h_4 (p_5.add 2) fun x_6 =>
  slices_Delete_int_int ρ x_6 r_3 (IntKind.wrap .i64 (r_3 + (1 : Int))) h_4 fun r_7 h_8 =>
  nilW c0 fun p_9 =>
  st h_8 ((p_9.add 2).add 0) (.slice r_7.a r_7.len r_7.cap) fun h_10 =>
  lru_Cache_touch_K1 ρ Q c0 item1 h_10)
  (lru_Cache_touch_K1 ρ Q c0 item1 h_4)

def lru_Cache_touch_S (ρ : Ids) : Spec := fun args h K =>
  (tP fun c0 => tI .i64 fun item1 => tN (lru_Cache_touch ρ c0 item1 h (fun h => K (.tuple [].toArray) h))) args

def lru_Cache_Has (ρ : Ids) (c0 : Option Addr) (item1 : Int) (h : Hp) (Q : Bool → Hp → Prop) : Prop :=
  lru_Cache_ok ρ c0 h fun r_1 h_2 =>
  br (!r_1)
  (Q false h_2)
  (nilW c0 fun p_3 =>
  ldM h_2 (p_3.add 1) fun x_4 =>
  lkW (.int .i64) h_2 x_4 (.int .i64 item1) fun f_5 o_6 =>
  ∃ y_8 : Sl, ∃ y_9 : Bool, ((o_6.getD (.agg [(.slice none 0 0), (.bool false)].toArray)) = (.agg [(.slice y_8.a y_8.len y_8.cap), (.bool y_9)].toArray)) ∧
  letB o_6.isSome fun ok_7 =>
  alW h_2 (ρ.T 4) [(.slice none 0 0), (.bool false)] fun p_10 h_11 =>
  stAll h_11 p_10 0 [(.slice y_8.a y_8.len y_8.cap), (.bool y_9)] fun h_12 =>
  Q ok_7 h_12)

def lru_Cache_Has_S (ρ : Ids) : Spec := fun args h K =>
  (tP fun c0 => tI .i64 fun item1 => tN (lru_Cache_Has ρ c0 item1 h (fun r0 h => K (.bool r0) h))) args

def lru_Cache_Drop (ρ : Ids) (c0 : Option Addr) (item1 : Int) (h : Hp) (Q : Bool → Hp → Prop) : Prop :=
  lru_Cache_Has ρ c0 item1 h fun r_1 h_2 =>
  br (!r_1)
  (Q false h_2)
  (nilW c0 fun p_3 =>
  ldM h_2 (p_3.add 1) fun x_4 =>
  dlW (.int .i64) h_2 x_4 (.int .i64 item1) fun h_5 =>
  nilW c0 fun p_6 =>
  ldS h_5 (p_6.add 2) fun x_7 =>
  slices_Index_int_int ρ x_7 item1 h_5 fun r_8 h_9 =>
  nilW c0 fun p_10 =>
  ldS h_9 (p_10.add 2) fun x_11 =>
  slices_Delete_int_int ρ x_11 r_8 (IntKind.wrap .i64 (r_8 + (1 : Int))) h_9 fun r_12 h_13 =>
  nilW c0 fun p_14 =>
  st h_13 ((p_14.add 2).add 0) (.slice r_12.a r_12.len r_12.cap) fun h_15 =>
  Q true h_15)

def lru_Cache_Drop_S (ρ : Ids) : Spec := fun args h K =>
  (tP fun c0 => tI .i64 fun item1 => tN (lru_Cache_Drop ρ c0 item1 h (fun r0 h => K (.bool r0) h))) args

def lru_Cache_fit_1 (ρ : Ids) (item0 : Int) (v1 : Addr) (h : Hp) (Q : Bool → Hp → Prop) : Prop :=
  ldP h v1 fun x_1 =>
  nilW x_1 fun p_2 =>
  ldM h (p_2.add 1) fun x_3 =>
  lkW (.int .i64) h x_3 (.int .i64 item0) fun f_4 o_5 =>
  ∃ y_7 : Sl, ∃ y_8 : Bool, ((o_5.getD (.agg [(.slice none 0 0), (.bool false)].toArray)) = (.agg [(.slice y_7.a y_7.len y_7.cap), (.bool y_8)].toArray)) ∧
  letB o_5.isSome fun ok_6 =>
  Q (!y_8) h

def lru_Cache_fit_1_S (ρ : Ids) : Spec := fun args h K =>
  (tI .i64 fun item0 => tA fun v1 => tN (lru_Cache_fit_1 ρ item0 v1 h (fun r0 h => K (.bool r0) h))) args

def slices_IndexFunc_int_int_B1 (ρ : Ids) (φ : Value → List Value → Hp → (Value → Hp → Prop) → Prop) (S1 : Sl → Value → Int → Int → Hp → Prop) (Q : Int → Hp → Prop) (s0 : Sl) (f1 : Value) (v7 : Int) (v8 : Int) (h : Hp) : Prop :=
  br (decide (v8 < v7))
  (ixW s0.a s0.len v8 1 fun p_1 =>
  ldI .i64 h p_1 fun x_2 =>
  φ f1 [(.int .i64 x_2)] h fun v_3 h_4 =>
  isB v_3 fun y_5 =>
  br y_5
  (Q v8 h_4)
  (S1 s0 f1 v7 (IntKind.wrap .i64 (v8 + (1 : Int))) h_4))
  (Q (-1 : Int) h)

def slices_IndexFunc_int_int_L1 (ρ : Ids) (φ : Value → List Value → Hp → (Value → Hp → Prop) → Prop) (Q : Int → Hp → Prop) (s0 : Sl) (f1 : Value) (v7 : Int) (v8 : Int) (h : Hp) : Prop :=
  Lfp (fun S vals h => (tS fun s0 => tV fun f1 => tI .i64 fun v7 => tI .i64 fun v8 => tN (slices_IndexFunc_int_int_B1 ρ φ (fun s0 f1 v7 v8 hh => S [(.slice s0.a s0.len s0.cap), f1, (.int .i64 v7), (.int .i64 v8)] hh) Q s0 f1 v7 v8 h)) vals) [(.slice s0.a s0.len s0.cap), f1, (.int .i64 v7), (.int .i64 v8)] h

theorem slices_IndexFunc_int_int_L1_in (ρ : Ids) (φ : Value → List Value → Hp → (Value → Hp → Prop) → Prop) (Q : Int → Hp → Prop) (s0 : Sl) (f1 : Value) (v7 : Int) (v8 : Int) (h : Hp) (H : slices_IndexFunc_int_int_B1 ρ φ (slices_IndexFunc_int_int_L1 ρ φ Q) Q s0 f1 v7 v8 h) : slices_IndexFunc_int_int_L1 ρ φ Q s0 f1 v7 v8 h := lfp_in H

def slices_IndexFunc_int_int (ρ : Ids) (φ : Value → List Value → Hp → (Value → Hp → Prop) → Prop) (s0 : Sl) (f1 : Value) (h : Hp) (Q : Int → Hp → Prop) : Prop :=
  slices_IndexFunc_int_int_L1 ρ φ Q s0 f1 (s0.len : Int) (0 : Int) h

def slices_IndexFunc_int_int_S (ρ : Ids) (φ : Value → List Value → Hp → (Value → Hp → Prop) → Prop) : Spec := fun args h K =>
  (tS fun s0 => tV fun f1 => tN (slices_IndexFunc_int_int ρ φ s0 f1 h (fun r0 h => K (.int .i64 r0) h))) args

def lru_Cache_fit_K2 (ρ : Ids) (S1 : Addr → Addr → Int → Sl → Int → Int → Hp → Prop) (Q : Int → Hp → Prop) (c1 : Addr) (loose3_0 : Addr) (many4 : Int) (v12 : Sl) (v13 : Int) (v14 : Int) (h : Hp) : Prop :=
  S1 c1 loose3_0 many4 v12 v13 (IntKind.wrap .i64 (v14 + (1 : Int))) h

def lru_Cache_fit_B1 (ρ : Ids) (S1 : Addr → Addr → Int → Sl → Int → Int → Hp → Prop) (Q : Int → Hp → Prop) (c1 : Addr) (loose3_0 : Addr) (many4 : Int) (v12 : Sl) (v13 : Int) (v14 : Int) (h : Hp) : Prop :=
  br (decide (v14 < v13))
  (ixW v12.a v12.len v14 1 fun p_6 =>
  ldI .i64 h p_6 fun x_7 =>
  lru_Cache_fit_1 ρ x_7 loose3_0 h fun r_8 h_9 =>
  isB (.bool r_8) fun y_10 =>
  br y_10
  (lru_Cache_fit_K2 ρ S1 Q c1 loose3_0 (IntKind.wrap .i64 (many4 + (1 : Int))) v12 v13 v14 h_9)
  (lru_Cache_fit_K2 ρ S1 Q c1 loose3_0 many4 v12 v13 v14 h_9))
  (ldP h c1 fun x_11 =>
  nilW x_11 fun p_12 =>
  ldI .i64 h (p_12.add 0) fun x_13 =>
  br (decide (many4 ≤ x_13))
  (Q (-1 : Int) h)
  (ldP h c1 fun x_14 =>
  nilW x_14 fun p_15 =>
  ldS h (p_15.add 2) fun x_16 =>
  ldP h c1 fun x_17 =>
  nilW x_17 fun p_18 =>
  ldS h (p_18.add 2) fun x_19 =>
  slices_IndexFunc_int_int ρ (phi [(ρ.G 12, lru_Cache_fit_1_S ρ)]) x_19 (.func (.func (ρ.G 12)) #[] #[(.pointer (some loose3_0))]) h fun r_20 h_21 =>
  (hcell h_21 (p_15.add 2) = some (.slice x_16.a x_16.len x_16.cap)) ∧
  ((hcell h_21 c1 = some (.pointer x_14)) ∧
  (ixW x_16.a x_16.len r_20 1 fun p_22 =>
  ldI .i64 h_21 p_22 fun x_23 =>
  ldP h_21 c1 fun x_24 =>
  lru_Cache_Drop ρ x_24 x_23 h_21 fun r_25 h_26 =>
  Q x_23 h_26))))

def lru_Cache_fit_L1 (ρ : Ids) (Q : Int → Hp → Prop) (c1 : Addr) (loose3_0 : Addr) (many4 : Int) (v12 : Sl) (v13 : Int) (v14 : Int) (h : Hp) : Prop :=
  Lfp (fun S vals h => (tA fun c1 => tF (ρ.G 12) fun cells1 rest1 => (tA fun loose3_0 => tN ((tI .i64 fun many4 => tS fun v12 => tI .i64 fun v13 => tI .i64 fun v14 => tN (lru_Cache_fit_B1 ρ (fun c1 loose3_0 many4 v12 v13 v14 hh => S [(.pointer (some c1)), (.func (.func (ρ.G 12)) #[] #[(.pointer (some loose3_0))]), (.int .i64 many4), (.slice v12.a v12.len v12.cap), (.int .i64 v13), (.int .i64 v14)] hh) Q c1 loose3_0 many4 v12 v13 v14 h)) rest1)) cells1) vals) [(.pointer (some c1)), (.func (.func (ρ.G 12)) #[] #[(.pointer (some loose3_0))]), (.int .i64 many4), (.slice v12.a v12.len v12.cap), (.int .i64 v13), (.int .i64 v14)] h

theorem lru_Cache_fit_L1_in (ρ : Ids) (Q : Int → Hp → Prop) (c1 : Addr) (loose3_0 : Addr) (many4 : Int) (v12 : Sl) (v13 : Int) (v14 : Int) (h : Hp) (H : lru_Cache_fit_B1 ρ (lru_Cache_fit_L1 ρ Q) Q c1 loose3_0 many4 v12 v13 v14 h) : lru_Cache_fit_L1 ρ Q c1 loose3_0 many4 v12 v13 v14 h := lfp_in (by
      simp only [tI, tA, tS, tN, tF_self, sameKind, cnd]
      exact H)

def lru_Cache_fit (ρ : Ids) (c0 : Option Addr) (h : Hp) (Q : Int → Hp → Prop) : Prop :=
  alW h (ρ.T 3) [(.pointer c0)] fun p_1 h_2 =>
  ldP h_2 p_1 fun x_3 =>
  nilW x_3 fun p_4 =>
  ldS h_2 (p_4.add 2) fun x_5 =>
  lru_Cache_fit_L1 ρ Q p_1 p_1 (0 : Int) x_5 (x_5.len : Int) (0 : Int) h_2

def lru_Cache_fit_S (ρ : Ids) : Spec := fun args h K =>
  (tP fun c0 => tN (lru_Cache_fit ρ c0 h (fun r0 h => K (.int .i64 r0) h))) args

def lru_Cache_Put (ρ : Ids) (c0 : Option Addr) (item1 : Int) (page2 : Sl) (h : Hp) (Q : Int → Int → Hp → Prop) : Prop :=
  lru_Cache_ok ρ c0 h fun r_1 h_2 =>
  br (!r_1)
  (Q (-1 : Int) (2 : Int) h_2)
  (lru_isItem ρ item1 h_2 fun r_3 h_4 =>
  br (!r_3)
  (Q (-1 : Int) (1 : Int) h_4)
  (nilW c0 fun p_5 =>
  ldM h_4 (p_5.add 1) fun x_6 =>
  nilW c0 fun p_7 =>
  ldM h_4 (p_7.add 1) fun x_8 =>
  lkW (.int .i64) h_4 x_8 (.int .i64 item1) fun f_9 o_10 =>
  ∃ y_12 : Sl, ∃ y_13 : Bool, ((o_10.getD (.agg [(.slice none 0 0), (.bool false)].toArray)) = (.agg [(.slice y_12.a y_12.len y_12.cap), (.bool y_13)].toArray)) ∧
  letB o_10.isSome fun ok_11 =>
  bytes_Clone ρ page2 h_4 fun r_14 h_15 =>
  (f_9 h_15) ∧
  ((hcell h_15 (p_7.add 1) = some (.map x_8)) ∧
  ((hcell h_15 (p_5.add 1) = some (.map x_6)) ∧
  (muW (.int .i64) h_15 x_6 (.int .i64 item1) (.agg [(.slice r_14.a r_14.len r_14.cap), (.bool y_13)].toArray) fun h_16 =>
  lru_Cache_touch ρ c0 item1 h_16 fun h_17 =>
  lru_Cache_fit ρ c0 h_17 fun r_18 h_19 =>
  Q r_18 (0 : Int) h_19)))))

def lru_Cache_Put_S (ρ : Ids) : Spec := fun args h K =>
  (tP fun c0 => tI .i64 fun item1 => tS fun page2 => tN (lru_Cache_Put ρ c0 item1 page2 h (fun r0 r1 h => K (.tuple [(.int .i64 r0), (.int .i64 r1)].toArray) h))) args

def slices_Clone_int_int (ρ : Ids) (s0 : Sl) (h : Hp) (Q : Sl → Hp → Prop) : Prop :=
  br (Option.isNone s0.a)
  (Q (⟨none, 0, 0⟩ : Sl) h)
  (alW h (ρ.T 0) [] fun p_1 h_2 =>
  apW (ρ.T 0) 1 8 (.int .i64 (0 : Int)) h_2 (⟨some p_1, 0, 0⟩ : Sl) s0 fun s_3 h_4 =>
  Q s_3 h_4)

def slices_Clone_int_int_S (ρ : Ids) : Spec := fun args h K =>
  (tS fun s0 => tN (slices_Clone_int_int ρ s0 h (fun r0 h => K (.slice r0.a r0.len r0.cap) h))) args

def slices_Reverse_int_int_B1 (ρ : Ids) (S1 : Sl → Int → Int → Hp → Prop) (Q : Hp → Prop) (s0 : Sl) (i2 : Int) (j3 : Int) (h : Hp) : Prop :=
  br (decide (i2 < j3))
  (ixW s0.a s0.len j3 1 fun p_1 =>
  ldI .i64 h p_1 fun x_2 =>
  ixW s0.a s0.len i2 1 fun p_3 =>
  ldI .i64 h p_3 fun x_4 =>
  ixW s0.a s0.len i2 1 fun p_5 =>
  st h (p_5.add 0) (.int .i64 x_2) fun h_6 =>
  ixW s0.a s0.len j3 1 fun p_7 =>
  st h_6 (p_7.add 0) (.int .i64 x_4) fun h_8 =>
  S1 s0 (IntKind.wrap .i64 (i2 + (1 : Int))) (IntKind.wrap .i64 (j3 - (1 : Int))) h_8)
  (Q h)

def slices_Reverse_int_int_L1 (ρ : Ids) (Q : Hp → Prop) (s0 : Sl) (i2 : Int) (j3 : Int) (h : Hp) : Prop :=
  Lfp (fun S vals h => (tS fun s0 => tI .i64 fun i2 => tI .i64 fun j3 => tN (slices_Reverse_int_int_B1 ρ (fun s0 i2 j3 hh => S [(.slice s0.a s0.len s0.cap), (.int .i64 i2), (.int .i64 j3)] hh) Q s0 i2 j3 h)) vals) [(.slice s0.a s0.len s0.cap), (.int .i64 i2), (.int .i64 j3)] h

theorem slices_Reverse_int_int_L1_in (ρ : Ids) (Q : Hp → Prop) (s0 : Sl) (i2 : Int) (j3 : Int) (h : Hp) (H : slices_Reverse_int_int_B1 ρ (slices_Reverse_int_int_L1 ρ Q) Q s0 i2 j3 h) : slices_Reverse_int_int_L1 ρ Q s0 i2 j3 h := lfp_in H

def slices_Reverse_int_int (ρ : Ids) (s0 : Sl) (h : Hp) (Q : Hp → Prop) : Prop :=
  slices_Reverse_int_int_L1 ρ Q s0 (0 : Int) (IntKind.wrap .i64 ((s0.len : Int) - (1 : Int))) h

def slices_Reverse_int_int_S (ρ : Ids) : Spec := fun args h K =>
  (tS fun s0 => tN (slices_Reverse_int_int ρ s0 h (fun h => K (.tuple [].toArray) h))) args

def lru_Cache_Order (ρ : Ids) (c0 : Option Addr) (h : Hp) (Q : Sl → Hp → Prop) : Prop :=
  lru_Cache_ok ρ c0 h fun r_1 h_2 =>
  br (!r_1)
  (Q (⟨none, 0, 0⟩ : Sl) h_2)
  (nilW c0 fun p_3 =>
  ldS h_2 (p_3.add 2) fun x_4 =>
  slices_Clone_int_int ρ x_4 h_2 fun r_5 h_6 =>
  slices_Reverse_int_int ρ r_5 h_6 fun h_7 =>
  Q r_5 h_7)

def lru_Cache_Order_S (ρ : Ids) : Spec := fun args h K =>
  (tP fun c0 => tN (lru_Cache_Order ρ c0 h (fun r0 h => K (.slice r0.a r0.len r0.cap) h))) args

def lru_Cache_Len (ρ : Ids) (c0 : Option Addr) (h : Hp) (Q : Int → Hp → Prop) : Prop :=
  lru_Cache_Order ρ c0 h fun r_1 h_2 =>
  Q (r_1.len : Int) h_2

def lru_Cache_Len_S (ρ : Ids) : Spec := fun args h K =>
  (tP fun c0 => tN (lru_Cache_Len ρ c0 h (fun r0 h => K (.int .i64 r0) h))) args

def lru_Cache_Pin (ρ : Ids) (c0 : Option Addr) (item1 : Int) (page2 : Sl) (h : Hp) (Q : Int → Hp → Prop) : Prop :=
  lru_Cache_ok ρ c0 h fun r_1 h_2 =>
  br (!r_1)
  (Q (2 : Int) h_2)
  (lru_isItem ρ item1 h_2 fun r_3 h_4 =>
  br (!r_3)
  (Q (1 : Int) h_4)
  (nilW c0 fun p_5 =>
  ldM h_4 (p_5.add 1) fun x_6 =>
  bytes_Clone ρ page2 h_4 fun r_7 h_8 =>
  (hcell h_8 (p_5.add 1) = some (.map x_6)) ∧
  (muW (.int .i64) h_8 x_6 (.int .i64 item1) (.agg [(.slice r_7.a r_7.len r_7.cap), (.bool true)].toArray) fun h_9 =>
  lru_Cache_touch ρ c0 item1 h_9 fun h_10 =>
  Q (0 : Int) h_10)))

def lru_Cache_Pin_S (ρ : Ids) : Spec := fun args h K =>
  (tP fun c0 => tI .i64 fun item1 => tS fun page2 => tN (lru_Cache_Pin ρ c0 item1 page2 h (fun r0 h => K (.int .i64 r0) h))) args

def carlinglaw15_alive_K1 (ρ : Ids) (Q : Bool → Hp → Prop) (c1 : Option Addr) (v18 : Bool) (h : Hp) : Prop :=
  br v18
  (Q false h)
  (alW h (ρ.T 1) [(.int .u8 (5 : Int))] fun p_4 h_5 =>
  lru_Cache_Put ρ c1 (1 : Int) (⟨some p_4, 1, 1⟩ : Sl) h_5 fun r_6 r_7 h_8 =>
  lru_Cache_Put ρ c1 (2 : Int) (⟨none, 0, 0⟩ : Sl) h_8 fun r_9 r_10 h_11 =>
  lru_Cache_Pin ρ c1 (3 : Int) (⟨none, 0, 0⟩ : Sl) h_11 fun r_12 h_13 =>
  lru_Cache_Order ρ c1 h_13 fun r_14 h_15 =>
  br (r_6 == (-1 : Int))
  (br (r_9 == (1 : Int))
  (br (r_12 == (0 : Int))
  (br ((r_14.len : Int) == (2 : Int))
  (ixW r_14.a r_14.len (0 : Int) 1 fun p_16 =>
  ldI .i64 h_15 p_16 fun x_17 =>
  br (x_17 == (3 : Int))
  (ixW r_14.a r_14.len (1 : Int) 1 fun p_18 =>
  ldI .i64 h_15 p_18 fun x_19 =>
  br (x_19 == (2 : Int))
  (lru_Cache_Has ρ c1 (1 : Int) h_15 fun r_20 h_21 =>
  Q (!r_20) h_21)
  (Q false h_15))
  (Q false h_15))
  (Q false h_15))
  (Q false h_15))
  (Q false h_15))
  (Q false h_15))

def carlinglaw15_alive (ρ : Ids)  (h : Hp) (Q : Bool → Hp → Prop) : Prop :=
  lru_New ρ (1 : Int) h fun r_1 r_2 h_3 =>
  br (Option.isNone r_1)
  (carlinglaw15_alive_K1 ρ Q r_1 true h_3)
  (carlinglaw15_alive_K1 ρ Q r_1 (r_2 != (0 : Int)) h_3)

def carlinglaw15_alive_S (ρ : Ids) : Spec := fun args h K =>
  (tN (carlinglaw15_alive ρ  h (fun r0 h => K (.bool r0) h))) args

def carlinglaw15_LruOldest_K4 (ρ : Ids) (S2 : Int → Option Addr → Sl → Sl → Int → Int → Hp → Prop) (S3 : Int → Option Addr → Int → Int → Sl → Sl → Int → Int → Sl → Int → Int → Hp → Prop) (Q : Bool → Hp → Prop) (n5 : Int) (c6 : Option Addr) (x10 : Int) (item11 : Int) (rest12 : Sl) (v39 : Sl) (v40 : Int) (v41 : Int) (v48 : Sl) (v49 : Int) (v50 : Int) (h : Hp) : Prop :=
  S3 n5 c6 x10 item11 rest12 v39 v40 v41 v48 v49 (IntKind.wrap .i64 (v50 + (1 : Int))) h

def carlinglaw15_LruOldest_B6 (ρ : Ids) (S2 : Int → Option Addr → Sl → Sl → Int → Int → Hp → Prop) (S6 : Int → Option Addr → Sl → Sl → Int → Int → Sl → Int → Int → Hp → Prop) (Q : Bool → Hp → Prop) (n5 : Int) (c6 : Option Addr) (used8 : Sl) (v39 : Sl) (v40 : Int) (v41 : Int) (v97 : Sl) (v98 : Int) (v99 : Int) (h : Hp) : Prop :=
  br (decide (v99 < v98))
  (ixW v97.a v97.len v99 1 fun p_18 =>
  ldI .i64 h p_18 fun x_19 =>
  lru_Cache_Has ρ c6 x_19 h fun r_20 h_21 =>
  br (!r_20)
  (Q false h_21)
  (S6 n5 c6 used8 v39 v40 v41 v97 v98 (IntKind.wrap .i64 (v99 + (1 : Int))) h_21))
  (S2 n5 c6 used8 v39 v40 (IntKind.wrap .i64 (v41 + (1 : Int))) h)

def carlinglaw15_LruOldest_L6 (ρ : Ids) (S2 : Int → Option Addr → Sl → Sl → Int → Int → Hp → Prop) (Q : Bool → Hp → Prop) (n5 : Int) (c6 : Option Addr) (used8 : Sl) (v39 : Sl) (v40 : Int) (v41 : Int) (v97 : Sl) (v98 : Int) (v99 : Int) (h : Hp) : Prop :=
  Lfp (fun S vals h => (tI .i64 fun n5 => tP fun c6 => tS fun used8 => tS fun v39 => tI .i64 fun v40 => tI .i64 fun v41 => tS fun v97 => tI .i64 fun v98 => tI .i64 fun v99 => tN (carlinglaw15_LruOldest_B6 ρ S2 (fun n5 c6 used8 v39 v40 v41 v97 v98 v99 hh => S [(.int .i64 n5), (.pointer c6), (.slice used8.a used8.len used8.cap), (.slice v39.a v39.len v39.cap), (.int .i64 v40), (.int .i64 v41), (.slice v97.a v97.len v97.cap), (.int .i64 v98), (.int .i64 v99)] hh) Q n5 c6 used8 v39 v40 v41 v97 v98 v99 h)) vals) [(.int .i64 n5), (.pointer c6), (.slice used8.a used8.len used8.cap), (.slice v39.a v39.len v39.cap), (.int .i64 v40), (.int .i64 v41), (.slice v97.a v97.len v97.cap), (.int .i64 v98), (.int .i64 v99)] h

theorem carlinglaw15_LruOldest_L6_in (ρ : Ids) (S2 : Int → Option Addr → Sl → Sl → Int → Int → Hp → Prop) (Q : Bool → Hp → Prop) (n5 : Int) (c6 : Option Addr) (used8 : Sl) (v39 : Sl) (v40 : Int) (v41 : Int) (v97 : Sl) (v98 : Int) (v99 : Int) (h : Hp) (H : carlinglaw15_LruOldest_B6 ρ S2 (carlinglaw15_LruOldest_L6 ρ S2 Q) Q n5 c6 used8 v39 v40 v41 v97 v98 v99 h) : carlinglaw15_LruOldest_L6 ρ S2 Q n5 c6 used8 v39 v40 v41 v97 v98 v99 h := lfp_in H

def carlinglaw15_LruOldest_K5 (ρ : Ids) (S2 : Int → Option Addr → Sl → Sl → Int → Int → Hp → Prop) (Q : Bool → Hp → Prop) (n5 : Int) (c6 : Option Addr) (used8 : Sl) (v39 : Sl) (v40 : Int) (v41 : Int) (v96 : Bool) (h : Hp) : Prop :=
  br v96
  (Q false h)
  (carlinglaw15_LruOldest_L6 ρ S2 Q n5 c6 used8 v39 v40 v41 used8 (used8.len : Int) (0 : Int) h)

def carlinglaw15_LruOldest_K7 (ρ : Ids) (S2 : Int → Option Addr → Sl → Sl → Int → Int → Hp → Prop) (Q : Bool → Hp → Prop) (n5 : Int) (c6 : Option Addr) (x10 : Int) (item11 : Int) (rest12 : Sl) (want15 : Int) (v39 : Sl) (v40 : Int) (v41 : Int) (h : Hp) : Prop :=
  alW h (ρ.T 0) [(.int .i64 item11)] fun p_22 h_23 =>
  apW (ρ.T 0) 1 8 (.int .i64 (0 : Int)) h_23 rest12 (⟨some p_22, 1, 1⟩ : Sl) fun s_24 h_25 =>
  alW h_25 (ρ.T 1) [(.int .u8 x10)] fun p_26 h_27 =>
  lru_Cache_Put ρ c6 item11 (⟨some p_26, 1, 1⟩ : Sl) h_27 fun r_28 r_29 h_30 =>
  br (r_28 != want15)
  (carlinglaw15_LruOldest_K5 ρ S2 Q n5 c6 s_24 v39 v40 v41 true h_30)
  (br (r_29 != (0 : Int))
  (carlinglaw15_LruOldest_K5 ρ S2 Q n5 c6 s_24 v39 v40 v41 true h_30)
  (lru_Cache_Len ρ c6 h_30 fun r_31 h_32 =>
  carlinglaw15_LruOldest_K5 ρ S2 Q n5 c6 s_24 v39 v40 v41 (r_31 != (s_24.len : Int)) h_32))

def carlinglaw15_LruOldest_B3 (ρ : Ids) (S2 : Int → Option Addr → Sl → Sl → Int → Int → Hp → Prop) (S3 : Int → Option Addr → Int → Int → Sl → Sl → Int → Int → Sl → Int → Int → Hp → Prop) (Q : Bool → Hp → Prop) (n5 : Int) (c6 : Option Addr) (x10 : Int) (item11 : Int) (rest12 : Sl) (v39 : Sl) (v40 : Int) (v41 : Int) (v48 : Sl) (v49 : Int) (v50 : Int) (h : Hp) : Prop :=
  br (decide (v50 < v49))
  (ixW v48.a v48.len v50 1 fun p_9 =>
  ldI .i64 h p_9 fun x_10 =>
  br (x_10 != item11)
  (alW h (ρ.T 0) [(.int .i64 x_10)] fun p_11 h_12 =>
  apW (ρ.T 0) 1 8 (.int .i64 (0 : Int)) h_12 rest12 (⟨some p_11, 1, 1⟩ : Sl) fun s_13 h_14 =>
  carlinglaw15_LruOldest_K4 ρ S2 S3 Q n5 c6 x10 item11 s_13 v39 v40 v41 v48 v49 v50 h_14)
  (carlinglaw15_LruOldest_K4 ρ S2 S3 Q n5 c6 x10 item11 rest12 v39 v40 v41 v48 v49 v50 h))
  (br ((rest12.len : Int) == n5)
  (ixW rest12.a rest12.len (0 : Int) 1 fun p_15 =>
  ldI .i64 h p_15 fun x_16 =>
  slW rest12 (1 : Int) (rest12.len : Int) 1 fun s_17 =>
  carlinglaw15_LruOldest_K7 ρ S2 Q n5 c6 x10 item11 s_17 x_16 v39 v40 v41 h)
  (carlinglaw15_LruOldest_K7 ρ S2 Q n5 c6 x10 item11 rest12 (-1 : Int) v39 v40 v41 h))

def carlinglaw15_LruOldest_L3 (ρ : Ids) (S2 : Int → Option Addr → Sl → Sl → Int → Int → Hp → Prop) (Q : Bool → Hp → Prop) (n5 : Int) (c6 : Option Addr) (x10 : Int) (item11 : Int) (rest12 : Sl) (v39 : Sl) (v40 : Int) (v41 : Int) (v48 : Sl) (v49 : Int) (v50 : Int) (h : Hp) : Prop :=
  Lfp (fun S vals h => (tI .i64 fun n5 => tP fun c6 => tI .u8 fun x10 => tI .i64 fun item11 => tS fun rest12 => tS fun v39 => tI .i64 fun v40 => tI .i64 fun v41 => tS fun v48 => tI .i64 fun v49 => tI .i64 fun v50 => tN (carlinglaw15_LruOldest_B3 ρ S2 (fun n5 c6 x10 item11 rest12 v39 v40 v41 v48 v49 v50 hh => S [(.int .i64 n5), (.pointer c6), (.int .u8 x10), (.int .i64 item11), (.slice rest12.a rest12.len rest12.cap), (.slice v39.a v39.len v39.cap), (.int .i64 v40), (.int .i64 v41), (.slice v48.a v48.len v48.cap), (.int .i64 v49), (.int .i64 v50)] hh) Q n5 c6 x10 item11 rest12 v39 v40 v41 v48 v49 v50 h)) vals) [(.int .i64 n5), (.pointer c6), (.int .u8 x10), (.int .i64 item11), (.slice rest12.a rest12.len rest12.cap), (.slice v39.a v39.len v39.cap), (.int .i64 v40), (.int .i64 v41), (.slice v48.a v48.len v48.cap), (.int .i64 v49), (.int .i64 v50)] h

theorem carlinglaw15_LruOldest_L3_in (ρ : Ids) (S2 : Int → Option Addr → Sl → Sl → Int → Int → Hp → Prop) (Q : Bool → Hp → Prop) (n5 : Int) (c6 : Option Addr) (x10 : Int) (item11 : Int) (rest12 : Sl) (v39 : Sl) (v40 : Int) (v41 : Int) (v48 : Sl) (v49 : Int) (v50 : Int) (h : Hp) (H : carlinglaw15_LruOldest_B3 ρ S2 (carlinglaw15_LruOldest_L3 ρ S2 Q) Q n5 c6 x10 item11 rest12 v39 v40 v41 v48 v49 v50 h) : carlinglaw15_LruOldest_L3 ρ S2 Q n5 c6 x10 item11 rest12 v39 v40 v41 v48 v49 v50 h := lfp_in H

def carlinglaw15_LruOldest_B2 (ρ : Ids) (S2 : Int → Option Addr → Sl → Sl → Int → Int → Hp → Prop) (Q : Bool → Hp → Prop) (n5 : Int) (c6 : Option Addr) (used8 : Sl) (v39 : Sl) (v40 : Int) (v41 : Int) (h : Hp) : Prop :=
  br (decide (v41 < v40))
  (ixW v39.a v39.len v41 1 fun p_5 =>
  ldI .u8 h p_5 fun x_6 =>
  ((20 : Int) ≠ 0) ∧
  carlinglaw15_LruOldest_L3 ρ S2 Q n5 c6 x_6 (Int.tmod (IntKind.wrap .i64 x_6) (20 : Int)) (⟨none, 0, 0⟩ : Sl) v39 v40 v41 used8 (used8.len : Int) (0 : Int) h)
  (carlinglaw15_alive ρ  h fun r_7 h_8 =>
  Q r_7 h_8)

def carlinglaw15_LruOldest_L2 (ρ : Ids) (Q : Bool → Hp → Prop) (n5 : Int) (c6 : Option Addr) (used8 : Sl) (v39 : Sl) (v40 : Int) (v41 : Int) (h : Hp) : Prop :=
  Lfp (fun S vals h => (tI .i64 fun n5 => tP fun c6 => tS fun used8 => tS fun v39 => tI .i64 fun v40 => tI .i64 fun v41 => tN (carlinglaw15_LruOldest_B2 ρ (fun n5 c6 used8 v39 v40 v41 hh => S [(.int .i64 n5), (.pointer c6), (.slice used8.a used8.len used8.cap), (.slice v39.a v39.len v39.cap), (.int .i64 v40), (.int .i64 v41)] hh) Q n5 c6 used8 v39 v40 v41 h)) vals) [(.int .i64 n5), (.pointer c6), (.slice used8.a used8.len used8.cap), (.slice v39.a v39.len v39.cap), (.int .i64 v40), (.int .i64 v41)] h

theorem carlinglaw15_LruOldest_L2_in (ρ : Ids) (Q : Bool → Hp → Prop) (n5 : Int) (c6 : Option Addr) (used8 : Sl) (v39 : Sl) (v40 : Int) (v41 : Int) (h : Hp) (H : carlinglaw15_LruOldest_B2 ρ (carlinglaw15_LruOldest_L2 ρ Q) Q n5 c6 used8 v39 v40 v41 h) : carlinglaw15_LruOldest_L2 ρ Q n5 c6 used8 v39 v40 v41 h := lfp_in H

def carlinglaw15_LruOldest_K1 (ρ : Ids) (Q : Bool → Hp → Prop) (items1 : Sl) (n5 : Int) (c6 : Option Addr) (v34 : Bool) (h : Hp) : Prop :=
  br v34
  (Q false h)
  (slW items1 (0 : Int) (if (100 : Int) < (items1.len : Int) then (100 : Int) else (items1.len : Int)) 1 fun s_4 =>
  carlinglaw15_LruOldest_L2 ρ Q n5 c6 (⟨none, 0, 0⟩ : Sl) s_4 (s_4.len : Int) (0 : Int) h)

def carlinglaw15_LruOldest (ρ : Ids) (room0 : Int) (items1 : Sl) (h : Hp) (Q : Bool → Hp → Prop) : Prop :=
  ((8 : Int) ≠ 0) ∧
  lru_New ρ (IntKind.wrap .i64 ((Int.tmod (IntKind.wrap .i64 room0) (8 : Int)) + (1 : Int))) h fun r_1 r_2 h_3 =>
  br (Option.isNone r_1)
  (carlinglaw15_LruOldest_K1 ρ Q items1 (IntKind.wrap .i64 ((Int.tmod (IntKind.wrap .i64 room0) (8 : Int)) + (1 : Int))) r_1 true h_3)
  (carlinglaw15_LruOldest_K1 ρ Q items1 (IntKind.wrap .i64 ((Int.tmod (IntKind.wrap .i64 room0) (8 : Int)) + (1 : Int))) r_1 (r_2 != (0 : Int)) h_3)

def carlinglaw15_LruOldest_S (ρ : Ids) : Spec := fun args h K =>
  (tI .u8 fun room0 => tS fun items1 => tN (carlinglaw15_LruOldest ρ room0 items1 h (fun r0 h => K (.bool r0) h))) args

def carlinglaw15_short_B1 (ρ : Ids) (S1 : Sl → Sl → Int → Int → Hp → Prop) (Q : Sl → Hp → Prop) (out3 : Sl) (v10 : Sl) (v11 : Int) (v12 : Int) (h : Hp) : Prop :=
  br (decide (v12 < v11))
  (ixW v10.a v10.len v12 3 fun p_2 =>
  ldI .u8 h (p_2.add 0) fun x_3 =>
  ldI .i64 h (p_2.add 1) fun x_4 =>
  ldS h (p_2.add 2) fun x_5 =>
  alW h (ρ.T 5) [(.int .u8 (0 : Int)), (.int .i64 (0 : Int)), (.slice none 0 0)] fun p_6 h_7 =>
  stAll h_7 p_6 0 [(.int .u8 x_3), (.int .i64 x_4), (.slice x_5.a x_5.len x_5.cap)] fun h_8 =>
  ldS h_8 (p_6.add 2) fun x_9 =>
  ldS h_8 (p_6.add 2) fun x_10 =>
  slW x_9 (0 : Int) (if (50 : Int) < (x_10.len : Int) then (50 : Int) else (x_10.len : Int)) 1 fun s_11 =>
  st h_8 ((p_6.add 2).add 0) (.slice s_11.a s_11.len s_11.cap) fun h_12 =>
  ldI .u8 h_12 (p_6.add 0) fun x_13 =>
  ldI .i64 h_12 (p_6.add 1) fun x_14 =>
  ldS h_12 (p_6.add 2) fun x_15 =>
  alW h_12 (ρ.T 5) [(.int .u8 x_13), (.int .i64 x_14), (.slice x_15.a x_15.len x_15.cap)] fun p_16 h_17 =>
  apW (ρ.T 5) 3 40 (.agg [(.int .u8 (0 : Int)), (.int .i64 (0 : Int)), (.slice none 0 0)].toArray) h_17 out3 (⟨some p_16, 1, 1⟩ : Sl) fun s_18 h_19 =>
  S1 s_18 v10 v11 (IntKind.wrap .i64 (v12 + (1 : Int))) h_19)
  (Q out3 h)

def carlinglaw15_short_L1 (ρ : Ids) (Q : Sl → Hp → Prop) (out3 : Sl) (v10 : Sl) (v11 : Int) (v12 : Int) (h : Hp) : Prop :=
  Lfp (fun S vals h => (tS fun out3 => tS fun v10 => tI .i64 fun v11 => tI .i64 fun v12 => tN (carlinglaw15_short_B1 ρ (fun out3 v10 v11 v12 hh => S [(.slice out3.a out3.len out3.cap), (.slice v10.a v10.len v10.cap), (.int .i64 v11), (.int .i64 v12)] hh) Q out3 v10 v11 v12 h)) vals) [(.slice out3.a out3.len out3.cap), (.slice v10.a v10.len v10.cap), (.int .i64 v11), (.int .i64 v12)] h

theorem carlinglaw15_short_L1_in (ρ : Ids) (Q : Sl → Hp → Prop) (out3 : Sl) (v10 : Sl) (v11 : Int) (v12 : Int) (h : Hp) (H : carlinglaw15_short_B1 ρ (carlinglaw15_short_L1 ρ Q) Q out3 v10 v11 v12 h) : carlinglaw15_short_L1 ρ Q out3 v10 v11 v12 h := lfp_in H

def carlinglaw15_short (ρ : Ids) (l0 : Sl) (h : Hp) (Q : Sl → Hp → Prop) : Prop :=
  slW l0 (0 : Int) (if (200 : Int) < (l0.len : Int) then (200 : Int) else (l0.len : Int)) 3 fun s_1 =>
  carlinglaw15_short_L1 ρ Q (⟨none, 0, 0⟩ : Sl) s_1 (s_1.len : Int) (0 : Int) h

def carlinglaw15_short_S (ρ : Ids) : Spec := fun args h K =>
  (tS fun l0 => tN (carlinglaw15_short ρ l0 h (fun r0 h => K (.slice r0.a r0.len r0.cap) h))) args

def lru_Cache_Get (ρ : Ids) (c0 : Option Addr) (item1 : Int) (h : Hp) (Q : Sl → Bool → Hp → Prop) : Prop :=
  lru_Cache_Has ρ c0 item1 h fun r_1 h_2 =>
  br (!r_1)
  (Q (⟨none, 0, 0⟩ : Sl) false h_2)
  (lru_Cache_touch ρ c0 item1 h_2 fun h_3 =>
  nilW c0 fun p_4 =>
  ldM h_3 (p_4.add 1) fun x_5 =>
  lkW (.int .i64) h_3 x_5 (.int .i64 item1) fun f_6 o_7 =>
  ∃ y_9 : Sl, ∃ y_10 : Bool, ((o_7.getD (.agg [(.slice none 0 0), (.bool false)].toArray)) = (.agg [(.slice y_9.a y_9.len y_9.cap), (.bool y_10)].toArray)) ∧
  letB o_7.isSome fun ok_8 =>
  bytes_Clone ρ y_9 h_3 fun r_11 h_12 =>
  Q r_11 true h_12)

def lru_Cache_Get_S (ρ : Ids) : Spec := fun args h K =>
  (tP fun c0 => tI .i64 fun item1 => tN (lru_Cache_Get ρ c0 item1 h (fun r0 r1 h => K (.tuple [(.slice r0.a r0.len r0.cap), (.bool r1)].toArray) h))) args

def carlingref02_Same_B1 (ρ : Ids) (S1 : Sl → Sl → Int → Hp → Prop) (Q : Bool → Hp → Prop) (a0 : Sl) (b1 : Sl) (i5 : Int) (h : Hp) : Prop :=
  br (decide (i5 < (a0.len : Int)))
  (ixW a0.a a0.len i5 1 fun p_1 =>
  ldI .u8 h p_1 fun x_2 =>
  ixW b1.a b1.len i5 1 fun p_3 =>
  ldI .u8 h p_3 fun x_4 =>
  br (x_2 != x_4)
  (Q false h)
  (S1 a0 b1 (IntKind.wrap .i64 (i5 + (1 : Int))) h))
  (Q true h)

def carlingref02_Same_L1 (ρ : Ids) (Q : Bool → Hp → Prop) (a0 : Sl) (b1 : Sl) (i5 : Int) (h : Hp) : Prop :=
  Lfp (fun S vals h => (tS fun a0 => tS fun b1 => tI .i64 fun i5 => tN (carlingref02_Same_B1 ρ (fun a0 b1 i5 hh => S [(.slice a0.a a0.len a0.cap), (.slice b1.a b1.len b1.cap), (.int .i64 i5)] hh) Q a0 b1 i5 h)) vals) [(.slice a0.a a0.len a0.cap), (.slice b1.a b1.len b1.cap), (.int .i64 i5)] h

theorem carlingref02_Same_L1_in (ρ : Ids) (Q : Bool → Hp → Prop) (a0 : Sl) (b1 : Sl) (i5 : Int) (h : Hp) (H : carlingref02_Same_B1 ρ (carlingref02_Same_L1 ρ Q) Q a0 b1 i5 h) : carlingref02_Same_L1 ρ Q a0 b1 i5 h := lfp_in H

def carlingref02_Same (ρ : Ids) (a0 : Sl) (b1 : Sl) (h : Hp) (Q : Bool → Hp → Prop) : Prop :=
  br ((a0.len : Int) != (b1.len : Int))
  (Q false h)
  (carlingref02_Same_L1 ρ Q a0 b1 (0 : Int) h)

def carlingref02_Same_S (ρ : Ids) : Spec := fun args h K =>
  (tS fun a0 => tS fun b1 => tN (carlingref02_Same ρ a0 b1 h (fun r0 h => K (.bool r0) h))) args

def lru_Cache_Unpin_K1 (ρ : Ids) (Q : Int → Bool → Hp → Prop) (c0 : Option Addr) (item1 : Int) (v19 : Bool) (h : Hp) : Prop :=
  br v19
  (Q (-1 : Int) false h)
  (nilW c0 fun p_10 =>
  ldM h (p_10.add 1) fun x_11 =>
  nilW c0 fun p_12 =>
  ldM h (p_12.add 1) fun x_13 =>
  lkW (.int .i64) h x_13 (.int .i64 item1) fun f_14 o_15 =>
  ∃ y_17 : Sl, ∃ y_18 : Bool, ((o_15.getD (.agg [(.slice none 0 0), (.bool false)].toArray)) = (.agg [(.slice y_17.a y_17.len y_17.cap), (.bool y_18)].toArray)) ∧
  letB o_15.isSome fun ok_16 =>
  muW (.int .i64) h x_11 (.int .i64 item1) (.agg [(.slice y_17.a y_17.len y_17.cap), (.bool false)].toArray) fun h_19 =>
  lru_Cache_touch ρ c0 item1 h_19 fun h_20 =>
  lru_Cache_fit ρ c0 h_20 fun r_21 h_22 =>
  Q r_21 true h_22)

def lru_Cache_Unpin (ρ : Ids) (c0 : Option Addr) (item1 : Int) (h : Hp) (Q : Int → Bool → Hp → Prop) : Prop :=
  lru_Cache_Has ρ c0 item1 h fun r_1 h_2 =>
  br (!r_1)
  (lru_Cache_Unpin_K1 ρ Q c0 item1 true h_2)
  (nilW c0 fun p_3 =>
  ldM h_2 (p_3.add 1) fun x_4 =>
  lkW (.int .i64) h_2 x_4 (.int .i64 item1) fun f_5 o_6 =>
  ∃ y_8 : Sl, ∃ y_9 : Bool, ((o_6.getD (.agg [(.slice none 0 0), (.bool false)].toArray)) = (.agg [(.slice y_8.a y_8.len y_8.cap), (.bool y_9)].toArray)) ∧
  letB o_6.isSome fun ok_7 =>
  lru_Cache_Unpin_K1 ρ Q c0 item1 (!y_9) h_2)

def lru_Cache_Unpin_S (ρ : Ids) : Spec := fun args h K =>
  (tP fun c0 => tI .i64 fun item1 => tN (lru_Cache_Unpin ρ c0 item1 h (fun r0 r1 h => K (.tuple [(.int .i64 r0), (.bool r1)].toArray) h))) args

def slices_DeleteFunc_int_int_K2 (ρ : Ids) (φ : Value → List Value → Hp → (Value → Hp → Prop) → Prop) (S1 : Sl → Value → Int → Int → Hp → Prop) (Q : Sl → Hp → Prop) (s0 : Sl) (del1 : Value) (i5 : Int) (j6 : Int) (h : Hp) : Prop :=
  S1 s0 del1 i5 (IntKind.wrap .i64 (j6 + (1 : Int))) h

def slices_DeleteFunc_int_int_B1 (ρ : Ids) (φ : Value → List Value → Hp → (Value → Hp → Prop) → Prop) (S1 : Sl → Value → Int → Int → Hp → Prop) (Q : Sl → Hp → Prop) (s0 : Sl) (del1 : Value) (i5 : Int) (j6 : Int) (h : Hp) : Prop :=
  br (decide (j6 < (s0.len : Int)))
  (ixW s0.a s0.len j6 1 fun p_3 =>
  ldI .i64 h p_3 fun x_4 =>
  φ del1 [(.int .i64 x_4)] h fun v_5 h_6 =>
  isB v_5 fun y_7 =>
  br (!y_7)
  (ixW s0.a s0.len i5 1 fun p_8 =>
  st h_6 (p_8.add 0) (.int .i64 x_4) fun h_9 =>
  slices_DeleteFunc_int_int_K2 ρ φ S1 Q s0 del1 (IntKind.wrap .i64 (i5 + (1 : Int))) j6 h_9)
  (slices_DeleteFunc_int_int_K2 ρ φ S1 Q s0 del1 i5 j6 h_6))
  (slW s0 i5 (s0.len : Int) 1 fun s_10 =>
  clW (.int .i64 (0 : Int)) h s_10 fun h_11 =>
  slW s0 (0 : Int) i5 1 fun s_12 =>
  Q s_12 h_11)

def slices_DeleteFunc_int_int_L1 (ρ : Ids) (φ : Value → List Value → Hp → (Value → Hp → Prop) → Prop) (Q : Sl → Hp → Prop) (s0 : Sl) (del1 : Value) (i5 : Int) (j6 : Int) (h : Hp) : Prop :=
  Lfp (fun S vals h => (tS fun s0 => tV fun del1 => tI .i64 fun i5 => tI .i64 fun j6 => tN (slices_DeleteFunc_int_int_B1 ρ φ (fun s0 del1 i5 j6 hh => S [(.slice s0.a s0.len s0.cap), del1, (.int .i64 i5), (.int .i64 j6)] hh) Q s0 del1 i5 j6 h)) vals) [(.slice s0.a s0.len s0.cap), del1, (.int .i64 i5), (.int .i64 j6)] h

theorem slices_DeleteFunc_int_int_L1_in (ρ : Ids) (φ : Value → List Value → Hp → (Value → Hp → Prop) → Prop) (Q : Sl → Hp → Prop) (s0 : Sl) (del1 : Value) (i5 : Int) (j6 : Int) (h : Hp) (H : slices_DeleteFunc_int_int_B1 ρ φ (slices_DeleteFunc_int_int_L1 ρ φ Q) Q s0 del1 i5 j6 h) : slices_DeleteFunc_int_int_L1 ρ φ Q s0 del1 i5 j6 h := lfp_in H

def slices_DeleteFunc_int_int (ρ : Ids) (φ : Value → List Value → Hp → (Value → Hp → Prop) → Prop) (s0 : Sl) (del1 : Value) (h : Hp) (Q : Sl → Hp → Prop) : Prop :=
  slices_IndexFunc_int_int ρ φ s0 del1 h fun r_1 h_2 =>
  br (r_1 == (-1 : Int))
  (Q s0 h_2)
  (slices_DeleteFunc_int_int_L1 ρ φ Q s0 del1 r_1 (IntKind.wrap .i64 (r_1 + (1 : Int))) h_2)

def slices_DeleteFunc_int_int_S (ρ : Ids) (φ : Value → List Value → Hp → (Value → Hp → Prop) → Prop) : Spec := fun args h K =>
  (tS fun s0 => tV fun del1 => tN (slices_DeleteFunc_int_int ρ φ s0 del1 h (fun r0 h => K (.slice r0.a r0.len r0.cap) h))) args

def lru_Cache_Pinned_1 (ρ : Ids) (item0 : Int) (v1 : Addr) (h : Hp) (Q : Bool → Hp → Prop) : Prop :=
  ldP h v1 fun x_1 =>
  nilW x_1 fun p_2 =>
  ldM h (p_2.add 1) fun x_3 =>
  lkW (.int .i64) h x_3 (.int .i64 item0) fun f_4 o_5 =>
  ∃ y_7 : Sl, ∃ y_8 : Bool, ((o_5.getD (.agg [(.slice none 0 0), (.bool false)].toArray)) = (.agg [(.slice y_7.a y_7.len y_7.cap), (.bool y_8)].toArray)) ∧
  letB o_5.isSome fun ok_6 =>
  Q (!y_8) h

def lru_Cache_Pinned_1_S (ρ : Ids) : Spec := fun args h K =>
  (tI .i64 fun item0 => tA fun v1 => tN (lru_Cache_Pinned_1 ρ item0 v1 h (fun r0 h => K (.bool r0) h))) args

def lru_Cache_Pinned (ρ : Ids) (c0 : Option Addr) (h : Hp) (Q : Sl → Hp → Prop) : Prop :=
  alW h (ρ.T 3) [(.pointer c0)] fun p_1 h_2 =>
  ldP h_2 p_1 fun x_3 =>
  lru_Cache_Order ρ x_3 h_2 fun r_4 h_5 =>
  slices_DeleteFunc_int_int ρ (phi [(ρ.G 23, lru_Cache_Pinned_1_S ρ)]) r_4 (.func (.func (ρ.G 23)) #[] #[(.pointer (some p_1))]) h_5 fun r_6 h_7 =>
  slices_Sort_int_int ρ r_6 h_7 fun h_8 =>
  Q r_6 h_8

def lru_Cache_Pinned_S (ρ : Ids) : Spec := fun args h K =>
  (tP fun c0 => tN (lru_Cache_Pinned ρ c0 h (fun r0 h => K (.slice r0.a r0.len r0.cap) h))) args

def carlinglaw15_LruHolds_K5 (ρ : Ids) (S2 : Int → Option Addr → Option Nat → Option Nat → Sl → Int → Int → Hp → Prop) (S4 : Int → Option Addr → Option Nat → Option Nat → Sl → Sl → Int → Int → Sl → Int → Int → Hp → Prop) (Q : Bool → Hp → Prop) (n5 : Int) (c6 : Option Addr) (last8 : Option Nat) (pins9 : Option Nat) (pinned17 : Sl) (v38 : Sl) (v39 : Int) (v40 : Int) (v129 : Sl) (v130 : Int) (v131 : Int) (v158 : Bool) (h : Hp) : Prop :=
  br v158
  (Q false h)
  (S4 n5 c6 last8 pins9 pinned17 v38 v39 v40 v129 v130 (IntKind.wrap .i64 (v131 + (1 : Int))) h)

def carlinglaw15_LruHolds_B4 (ρ : Ids) (S2 : Int → Option Addr → Option Nat → Option Nat → Sl → Int → Int → Hp → Prop) (S4 : Int → Option Addr → Option Nat → Option Nat → Sl → Sl → Int → Int → Sl → Int → Int → Hp → Prop) (Q : Bool → Hp → Prop) (n5 : Int) (c6 : Option Addr) (last8 : Option Nat) (pins9 : Option Nat) (pinned17 : Sl) (v38 : Sl) (v39 : Int) (v40 : Int) (v129 : Sl) (v130 : Int) (v131 : Int) (h : Hp) : Prop :=
  br (decide (v131 < v130))
  (ixW v129.a v129.len v131 1 fun p_61 =>
  ldI .i64 h p_61 fun x_62 =>
  lkW (.int .i64) h pins9 (.int .i64 x_62) fun f_63 o_64 =>
  isB (o_64.getD (.bool false)) fun y_66 =>
  letB o_64.isSome fun ok_65 =>
  br (!y_66)
  (carlinglaw15_LruHolds_K5 ρ S2 S4 Q n5 c6 last8 pins9 pinned17 v38 v39 v40 v129 v130 v131 true h)
  (lru_Cache_Has ρ c6 x_62 h fun r_67 h_68 =>
  br (!r_67)
  (carlinglaw15_LruHolds_K5 ρ S2 S4 Q n5 c6 last8 pins9 pinned17 v38 v39 v40 v129 v130 v131 true h_68)
  (br (decide (v131 > (0 : Int)))
  (ixW pinned17.a pinned17.len (IntKind.wrap .i64 (v131 - (1 : Int))) 1 fun p_69 =>
  ldI .i64 h_68 p_69 fun x_70 =>
  carlinglaw15_LruHolds_K5 ρ S2 S4 Q n5 c6 last8 pins9 pinned17 v38 v39 v40 v129 v130 v131 (decide (x_70 ≥ x_62)) h_68)
  (carlinglaw15_LruHolds_K5 ρ S2 S4 Q n5 c6 last8 pins9 pinned17 v38 v39 v40 v129 v130 v131 false h_68))))
  (S2 n5 c6 last8 pins9 v38 v39 (IntKind.wrap .i64 (v40 + (1 : Int))) h)

def carlinglaw15_LruHolds_L4 (ρ : Ids) (S2 : Int → Option Addr → Option Nat → Option Nat → Sl → Int → Int → Hp → Prop) (Q : Bool → Hp → Prop) (n5 : Int) (c6 : Option Addr) (last8 : Option Nat) (pins9 : Option Nat) (pinned17 : Sl) (v38 : Sl) (v39 : Int) (v40 : Int) (v129 : Sl) (v130 : Int) (v131 : Int) (h : Hp) : Prop :=
  Lfp (fun S vals h => (tI .i64 fun n5 => tP fun c6 => tM fun last8 => tM fun pins9 => tS fun pinned17 => tS fun v38 => tI .i64 fun v39 => tI .i64 fun v40 => tS fun v129 => tI .i64 fun v130 => tI .i64 fun v131 => tN (carlinglaw15_LruHolds_B4 ρ S2 (fun n5 c6 last8 pins9 pinned17 v38 v39 v40 v129 v130 v131 hh => S [(.int .i64 n5), (.pointer c6), (.map last8), (.map pins9), (.slice pinned17.a pinned17.len pinned17.cap), (.slice v38.a v38.len v38.cap), (.int .i64 v39), (.int .i64 v40), (.slice v129.a v129.len v129.cap), (.int .i64 v130), (.int .i64 v131)] hh) Q n5 c6 last8 pins9 pinned17 v38 v39 v40 v129 v130 v131 h)) vals) [(.int .i64 n5), (.pointer c6), (.map last8), (.map pins9), (.slice pinned17.a pinned17.len pinned17.cap), (.slice v38.a v38.len v38.cap), (.int .i64 v39), (.int .i64 v40), (.slice v129.a v129.len v129.cap), (.int .i64 v130), (.int .i64 v131)] h

theorem carlinglaw15_LruHolds_L4_in (ρ : Ids) (S2 : Int → Option Addr → Option Nat → Option Nat → Sl → Int → Int → Hp → Prop) (Q : Bool → Hp → Prop) (n5 : Int) (c6 : Option Addr) (last8 : Option Nat) (pins9 : Option Nat) (pinned17 : Sl) (v38 : Sl) (v39 : Int) (v40 : Int) (v129 : Sl) (v130 : Int) (v131 : Int) (h : Hp) (H : carlinglaw15_LruHolds_B4 ρ S2 (carlinglaw15_LruHolds_L4 ρ S2 Q) Q n5 c6 last8 pins9 pinned17 v38 v39 v40 v129 v130 v131 h) : carlinglaw15_LruHolds_L4 ρ S2 Q n5 c6 last8 pins9 pinned17 v38 v39 v40 v129 v130 v131 h := lfp_in H

def carlinglaw15_LruHolds_K6 (ρ : Ids) (S2 : Int → Option Addr → Option Nat → Option Nat → Sl → Int → Int → Hp → Prop) (Q : Bool → Hp → Prop) (n5 : Int) (c6 : Option Addr) (last8 : Option Nat) (pins9 : Option Nat) (v38 : Sl) (v39 : Int) (v40 : Int) (h : Hp) : Prop :=
  lru_Cache_Pinned ρ c6 h fun r_71 h_72 =>
  lru_Cache_Len ρ c6 h_72 fun r_73 h_74 =>
  br (decide ((IntKind.wrap .i64 (r_73 - (r_71.len : Int))) > n5))
  (Q false h_74)
  (carlinglaw15_LruHolds_L4 ρ S2 Q n5 c6 last8 pins9 r_71 v38 v39 v40 r_71 (r_71.len : Int) (0 : Int) h_74)

def carlinglaw15_LruHolds_K3 (ρ : Ids) (S2 : Int → Option Addr → Option Nat → Option Nat → Sl → Int → Int → Hp → Prop) (Q : Bool → Hp → Prop) (n5 : Int) (c6 : Option Addr) (last8 : Option Nat) (pins9 : Option Nat) (v38 : Sl) (v39 : Int) (v40 : Int) (v84 : Bool) (h : Hp) : Prop :=
  br v84
  (Q false h)
  (carlinglaw15_LruHolds_K6 ρ S2 Q n5 c6 last8 pins9 v38 v39 v40 h)

def carlinglaw15_LruHolds_B2 (ρ : Ids) (S2 : Int → Option Addr → Option Nat → Option Nat → Sl → Int → Int → Hp → Prop) (Q : Bool → Hp → Prop) (n5 : Int) (c6 : Option Addr) (last8 : Option Nat) (pins9 : Option Nat) (v38 : Sl) (v39 : Int) (v40 : Int) (h : Hp) : Prop :=
  br (decide (v40 < v39))
  (ixW v38.a v38.len v40 3 fun p_10 =>
  ldI .u8 h (p_10.add 0) fun x_11 =>
  ldI .i64 h (p_10.add 1) fun x_12 =>
  ldS h (p_10.add 2) fun x_13 =>
  alW h (ρ.T 5) [(.int .u8 (0 : Int)), (.int .i64 (0 : Int)), (.slice none 0 0)] fun p_14 h_15 =>
  stAll h_15 p_14 0 [(.int .u8 x_11), (.int .i64 x_12), (.slice x_13.a x_13.len x_13.cap)] fun h_16 =>
  ldI .i64 h_16 (p_14.add 1) fun x_17 =>
  ldI .u8 h_16 (p_14.add 0) fun x_18 =>
  ((6 : Int) ≠ 0) ∧
  br ((Int.tmod x_18 (6 : Int)) == (2 : Int))
  (lru_Cache_Get ρ c6 (IntKind.wrap .i64 (((BitVec.ofInt (IntKind.bits .i64) x_17 &&& (BitVec.ofInt (IntKind.bits .i64) (15 : Int))).toNat : Int))) h_16 fun r_19 r_20 h_21 =>
  br r_20
  (lkW (.int .i64) h_21 last8 (.int .i64 (IntKind.wrap .i64 (((BitVec.ofInt (IntKind.bits .i64) x_17 &&& (BitVec.ofInt (IntKind.bits .i64) (15 : Int))).toNat : Int)))) fun f_22 o_23 =>
  isS (o_23.getD (.slice none 0 0)) fun y_25 =>
  letB o_23.isSome fun ok_24 =>
  carlingref02_Same ρ r_19 y_25 h_21 fun r_26 h_27 =>
  br (!r_26)
  (carlinglaw15_LruHolds_K3 ρ S2 Q n5 c6 last8 pins9 v38 v39 v40 true h_27)
  (lkW (.int .i64) h_27 pins9 (.int .i64 (IntKind.wrap .i64 (((BitVec.ofInt (IntKind.bits .i64) x_17 &&& (BitVec.ofInt (IntKind.bits .i64) (15 : Int))).toNat : Int)))) fun f_28 o_29 =>
  isB (o_29.getD (.bool false)) fun y_31 =>
  letB o_29.isSome fun ok_30 =>
  br y_31
  (carlinglaw15_LruHolds_K3 ρ S2 Q n5 c6 last8 pins9 v38 v39 v40 (!r_20) h_27)
  (carlinglaw15_LruHolds_K3 ρ S2 Q n5 c6 last8 pins9 v38 v39 v40 false h_27)))
  (lkW (.int .i64) h_21 pins9 (.int .i64 (IntKind.wrap .i64 (((BitVec.ofInt (IntKind.bits .i64) x_17 &&& (BitVec.ofInt (IntKind.bits .i64) (15 : Int))).toNat : Int)))) fun f_32 o_33 =>
  isB (o_33.getD (.bool false)) fun y_35 =>
  letB o_33.isSome fun ok_34 =>
  br y_35
  (carlinglaw15_LruHolds_K3 ρ S2 Q n5 c6 last8 pins9 v38 v39 v40 (!r_20) h_21)
  (carlinglaw15_LruHolds_K3 ρ S2 Q n5 c6 last8 pins9 v38 v39 v40 false h_21)))
  (br ((Int.tmod x_18 (6 : Int)) == (3 : Int))
  (ldS h_16 (p_14.add 2) fun x_36 =>
  lru_Cache_Pin ρ c6 (IntKind.wrap .i64 (((BitVec.ofInt (IntKind.bits .i64) x_17 &&& (BitVec.ofInt (IntKind.bits .i64) (15 : Int))).toNat : Int))) x_36 h_16 fun r_37 h_38 =>
  ldS h_38 (p_14.add 2) fun x_39 =>
  muW (.int .i64) h_38 last8 (.int .i64 (IntKind.wrap .i64 (((BitVec.ofInt (IntKind.bits .i64) x_17 &&& (BitVec.ofInt (IntKind.bits .i64) (15 : Int))).toNat : Int)))) (.slice x_39.a x_39.len x_39.cap) fun h_40 =>
  muW (.int .i64) h_40 pins9 (.int .i64 (IntKind.wrap .i64 (((BitVec.ofInt (IntKind.bits .i64) x_17 &&& (BitVec.ofInt (IntKind.bits .i64) (15 : Int))).toNat : Int)))) (.bool true) fun h_41 =>
  carlinglaw15_LruHolds_K6 ρ S2 Q n5 c6 last8 pins9 v38 v39 v40 h_41)
  (br ((Int.tmod x_18 (6 : Int)) == (4 : Int))
  (lru_Cache_Unpin ρ c6 (IntKind.wrap .i64 (((BitVec.ofInt (IntKind.bits .i64) x_17 &&& (BitVec.ofInt (IntKind.bits .i64) (15 : Int))).toNat : Int))) h_16 fun r_42 r_43 h_44 =>
  lkW (.int .i64) h_44 pins9 (.int .i64 (IntKind.wrap .i64 (((BitVec.ofInt (IntKind.bits .i64) x_17 &&& (BitVec.ofInt (IntKind.bits .i64) (15 : Int))).toNat : Int)))) fun f_45 o_46 =>
  isB (o_46.getD (.bool false)) fun y_48 =>
  letB o_46.isSome fun ok_47 =>
  br (!(r_43 == y_48))
  (Q false h_44)
  (muW (.int .i64) h_44 pins9 (.int .i64 (IntKind.wrap .i64 (((BitVec.ofInt (IntKind.bits .i64) x_17 &&& (BitVec.ofInt (IntKind.bits .i64) (15 : Int))).toNat : Int)))) (.bool false) fun h_49 =>
  carlinglaw15_LruHolds_K6 ρ S2 Q n5 c6 last8 pins9 v38 v39 v40 h_49))
  (br ((Int.tmod x_18 (6 : Int)) == (5 : Int))
  (lru_Cache_Drop ρ c6 (IntKind.wrap .i64 (((BitVec.ofInt (IntKind.bits .i64) x_17 &&& (BitVec.ofInt (IntKind.bits .i64) (15 : Int))).toNat : Int))) h_16 fun r_50 h_51 =>
  muW (.int .i64) h_51 pins9 (.int .i64 (IntKind.wrap .i64 (((BitVec.ofInt (IntKind.bits .i64) x_17 &&& (BitVec.ofInt (IntKind.bits .i64) (15 : Int))).toNat : Int)))) (.bool false) fun h_52 =>
  carlinglaw15_LruHolds_K6 ρ S2 Q n5 c6 last8 pins9 v38 v39 v40 h_52)
  (ldS h_16 (p_14.add 2) fun x_53 =>
  lru_Cache_Put ρ c6 (IntKind.wrap .i64 (((BitVec.ofInt (IntKind.bits .i64) x_17 &&& (BitVec.ofInt (IntKind.bits .i64) (15 : Int))).toNat : Int))) x_53 h_16 fun r_54 r_55 h_56 =>
  ldS h_56 (p_14.add 2) fun x_57 =>
  muW (.int .i64) h_56 last8 (.int .i64 (IntKind.wrap .i64 (((BitVec.ofInt (IntKind.bits .i64) x_17 &&& (BitVec.ofInt (IntKind.bits .i64) (15 : Int))).toNat : Int)))) (.slice x_57.a x_57.len x_57.cap) fun h_58 =>
  carlinglaw15_LruHolds_K6 ρ S2 Q n5 c6 last8 pins9 v38 v39 v40 h_58)))))
  (carlinglaw15_alive ρ  h fun r_59 h_60 =>
  Q r_59 h_60)

def carlinglaw15_LruHolds_L2 (ρ : Ids) (Q : Bool → Hp → Prop) (n5 : Int) (c6 : Option Addr) (last8 : Option Nat) (pins9 : Option Nat) (v38 : Sl) (v39 : Int) (v40 : Int) (h : Hp) : Prop :=
  Lfp (fun S vals h => (tI .i64 fun n5 => tP fun c6 => tM fun last8 => tM fun pins9 => tS fun v38 => tI .i64 fun v39 => tI .i64 fun v40 => tN (carlinglaw15_LruHolds_B2 ρ (fun n5 c6 last8 pins9 v38 v39 v40 hh => S [(.int .i64 n5), (.pointer c6), (.map last8), (.map pins9), (.slice v38.a v38.len v38.cap), (.int .i64 v39), (.int .i64 v40)] hh) Q n5 c6 last8 pins9 v38 v39 v40 h)) vals) [(.int .i64 n5), (.pointer c6), (.map last8), (.map pins9), (.slice v38.a v38.len v38.cap), (.int .i64 v39), (.int .i64 v40)] h

theorem carlinglaw15_LruHolds_L2_in (ρ : Ids) (Q : Bool → Hp → Prop) (n5 : Int) (c6 : Option Addr) (last8 : Option Nat) (pins9 : Option Nat) (v38 : Sl) (v39 : Int) (v40 : Int) (h : Hp) (H : carlinglaw15_LruHolds_B2 ρ (carlinglaw15_LruHolds_L2 ρ Q) Q n5 c6 last8 pins9 v38 v39 v40 h) : carlinglaw15_LruHolds_L2 ρ Q n5 c6 last8 pins9 v38 v39 v40 h := lfp_in H

def carlinglaw15_LruHolds_K1 (ρ : Ids) (Q : Bool → Hp → Prop) (l1 : Sl) (n5 : Int) (c6 : Option Addr) (v34 : Bool) (h : Hp) : Prop :=
  br v34
  (Q false h)
  (amW h fun m_4 h_5 =>
  amW h_5 fun m_6 h_7 =>
  carlinglaw15_short ρ l1 h_7 fun r_8 h_9 =>
  carlinglaw15_LruHolds_L2 ρ Q n5 c6 (some m_4) (some m_6) r_8 (r_8.len : Int) (0 : Int) h_9)

def carlinglaw15_LruHolds (ρ : Ids) (room0 : Int) (l1 : Sl) (h : Hp) (Q : Bool → Hp → Prop) : Prop :=
  ((8 : Int) ≠ 0) ∧
  lru_New ρ (IntKind.wrap .i64 ((Int.tmod (IntKind.wrap .i64 room0) (8 : Int)) + (1 : Int))) h fun r_1 r_2 h_3 =>
  br (Option.isNone r_1)
  (carlinglaw15_LruHolds_K1 ρ Q l1 (IntKind.wrap .i64 ((Int.tmod (IntKind.wrap .i64 room0) (8 : Int)) + (1 : Int))) r_1 true h_3)
  (carlinglaw15_LruHolds_K1 ρ Q l1 (IntKind.wrap .i64 ((Int.tmod (IntKind.wrap .i64 room0) (8 : Int)) + (1 : Int))) r_1 (r_2 != (0 : Int)) h_3)

def carlinglaw15_LruHolds_S (ρ : Ids) : Spec := fun args h K =>
  (tI .u8 fun room0 => tS fun l1 => tN (carlinglaw15_LruHolds ρ room0 l1 h (fun r0 h => K (.bool r0) h))) args

def carlingref15_Cache_Find_B1 (ρ : Ids) (S1 : Option Addr → Int → Int → Hp → Prop) (Q : Int → Hp → Prop) (c0 : Option Addr) (item1 : Int) (i5 : Int) (h : Hp) : Prop :=
  nilW c0 fun p_1 =>
  ldS h (p_1.add 1) fun x_2 =>
  br (decide (i5 < (x_2.len : Int)))
  (nilW c0 fun p_3 =>
  ldS h (p_3.add 1) fun x_4 =>
  ixW x_4.a x_4.len i5 3 fun p_5 =>
  ldI .i64 h (p_5.add 0) fun x_6 =>
  br (x_6 == item1)
  (Q i5 h)
  (S1 c0 item1 (IntKind.wrap .i64 (i5 + (1 : Int))) h))
  (Q (-1 : Int) h)

def carlingref15_Cache_Find_L1 (ρ : Ids) (Q : Int → Hp → Prop) (c0 : Option Addr) (item1 : Int) (i5 : Int) (h : Hp) : Prop :=
  Lfp (fun S vals h => (tP fun c0 => tI .i64 fun item1 => tI .i64 fun i5 => tN (carlingref15_Cache_Find_B1 ρ (fun c0 item1 i5 hh => S [(.pointer c0), (.int .i64 item1), (.int .i64 i5)] hh) Q c0 item1 i5 h)) vals) [(.pointer c0), (.int .i64 item1), (.int .i64 i5)] h

theorem carlingref15_Cache_Find_L1_in (ρ : Ids) (Q : Int → Hp → Prop) (c0 : Option Addr) (item1 : Int) (i5 : Int) (h : Hp) (H : carlingref15_Cache_Find_B1 ρ (carlingref15_Cache_Find_L1 ρ Q) Q c0 item1 i5 h) : carlingref15_Cache_Find_L1 ρ Q c0 item1 i5 h := lfp_in H

def carlingref15_Cache_Find (ρ : Ids) (c0 : Option Addr) (item1 : Int) (h : Hp) (Q : Int → Hp → Prop) : Prop :=
  carlingref15_Cache_Find_L1 ρ Q c0 item1 (0 : Int) h

def carlingref15_Cache_Find_S (ρ : Ids) : Spec := fun args h K =>
  (tP fun c0 => tI .i64 fun item1 => tN (carlingref15_Cache_Find ρ c0 item1 h (fun r0 h => K (.int .i64 r0) h))) args

def carlingref15_Cache_without (ρ : Ids) (c0 : Option Addr) (at1 : Int) (h : Hp) (Q : Sl → Hp → Prop) : Prop :=
  nilW c0 fun p_1 =>
  ldS h (p_1.add 1) fun x_2 =>
  slW x_2 (0 : Int) at1 3 fun s_3 =>
  nilW c0 fun p_4 =>
  ldS h (p_4.add 1) fun x_5 =>
  slW x_5 (IntKind.wrap .i64 (at1 + (1 : Int))) (x_5.len : Int) 3 fun s_6 =>
  apW (ρ.T 7) 3 40 (.agg [(.int .i64 (0 : Int)), (.slice none 0 0), (.bool false)].toArray) h (⟨none, 0, 0⟩ : Sl) s_3 fun s_7 h_8 =>
  (hcell h_8 (p_4.add 1) = some (.slice x_5.a x_5.len x_5.cap)) ∧
  (apW (ρ.T 7) 3 40 (.agg [(.int .i64 (0 : Int)), (.slice none 0 0), (.bool false)].toArray) h_8 s_7 s_6 fun s_9 h_10 =>
  Q s_9 h_10)

def carlingref15_Cache_without_S (ρ : Ids) : Spec := fun args h K =>
  (tP fun c0 => tI .i64 fun at1 => tN (carlingref15_Cache_without ρ c0 at1 h (fun r0 h => K (.slice r0.a r0.len r0.cap) h))) args

def carlingref15_Cache_first_K1 (ρ : Ids) (Q : Hp → Prop) (c0 : Option Addr) (h3 : Addr) (h : Hp) : Prop :=
  ldI .i64 h (h3.add 0) fun x_10 =>
  ldS h (h3.add 1) fun x_11 =>
  ldB h (h3.add 2) fun x_12 =>
  nilW c0 fun p_13 =>
  ldS h (p_13.add 1) fun x_14 =>
  alW h (ρ.T 7) [(.int .i64 x_10), (.slice x_11.a x_11.len x_11.cap), (.bool x_12)] fun p_15 h_16 =>
  (hcell h_16 (p_13.add 1) = some (.slice x_14.a x_14.len x_14.cap)) ∧
  (apW (ρ.T 7) 3 40 (.agg [(.int .i64 (0 : Int)), (.slice none 0 0), (.bool false)].toArray) h_16 (⟨some p_15, 1, 1⟩ : Sl) x_14 fun s_17 h_18 =>
  nilW c0 fun p_19 =>
  st h_18 ((p_19.add 1).add 0) (.slice s_17.a s_17.len s_17.cap) fun h_20 =>
  Q h_20)

def carlingref15_Cache_first (ρ : Ids) (c0 : Option Addr) (h1_0 : Int) (h1_1 : Sl) (h1_2 : Bool) (h : Hp) (Q : Hp → Prop) : Prop :=
  alW h (ρ.T 7) [(.int .i64 h1_0), (.slice h1_1.a h1_1.len h1_1.cap), (.bool h1_2)] fun p_1 h_2 =>
  ldI .i64 h_2 (p_1.add 0) fun x_3 =>
  carlingref15_Cache_Find ρ c0 x_3 h_2 fun r_4 h_5 =>
  br (decide (r_4 ≥ (0 : Int)))
  (carlingref15_Cache_without ρ c0 r_4 h_5 fun r_6 h_7 =>
  nilW c0 fun p_8 =>
  st h_7 ((p_8.add 1).add 0) (.slice r_6.a r_6.len r_6.cap) fun h_9 =>
  carlingref15_Cache_first_K1 ρ Q c0 p_1 h_9)
  (carlingref15_Cache_first_K1 ρ Q c0 p_1 h_5)

def carlingref15_Cache_first_S (ρ : Ids) : Spec := fun args h K =>
  (tP fun c0 => tG fun cells1 rest1 => (tI .i64 fun h1_0 => tS fun h1_1 => tB fun h1_2 => tN ((tN (carlingref15_Cache_first ρ c0 h1_0 h1_1 h1_2 h (fun h => K (.tuple [].toArray) h))) rest1)) cells1) args

def carlingref15_Cache_Get (ρ : Ids) (c0 : Option Addr) (item1 : Int) (h : Hp) (Q : Sl → Bool → Hp → Prop) : Prop :=
  carlingref15_Cache_Find ρ c0 item1 h fun r_1 h_2 =>
  br (decide (r_1 < (0 : Int)))
  (Q (⟨none, 0, 0⟩ : Sl) false h_2)
  (nilW c0 fun p_3 =>
  ldS h_2 (p_3.add 1) fun x_4 =>
  ixW x_4.a x_4.len r_1 3 fun p_5 =>
  ldI .i64 h_2 (p_5.add 0) fun x_6 =>
  ldS h_2 (p_5.add 1) fun x_7 =>
  ldB h_2 (p_5.add 2) fun x_8 =>
  alW h_2 (ρ.T 7) [(.int .i64 (0 : Int)), (.slice none 0 0), (.bool false)] fun p_9 h_10 =>
  stAll h_10 p_9 0 [(.int .i64 x_6), (.slice x_7.a x_7.len x_7.cap), (.bool x_8)] fun h_11 =>
  ldI .i64 h_11 (p_9.add 0) fun x_12 =>
  ldS h_11 (p_9.add 1) fun x_13 =>
  ldB h_11 (p_9.add 2) fun x_14 =>
  carlingref15_Cache_first ρ c0 x_12 x_13 x_14 h_11 fun h_15 =>
  ldS h_15 (p_9.add 1) fun x_16 =>
  Q x_16 true h_15)

def carlingref15_Cache_Get_S (ρ : Ids) : Spec := fun args h K =>
  (tP fun c0 => tI .i64 fun item1 => tN (carlingref15_Cache_Get ρ c0 item1 h (fun r0 r1 h => K (.tuple [(.slice r0.a r0.len r0.cap), (.bool r1)].toArray) h))) args

def carlingref15_is (ρ : Ids) (item0 : Int) (h : Hp) (Q : Bool → Hp → Prop) : Prop :=
  br (decide (item0 ≥ (0 : Int)))
  (Q (decide (item0 < (4096 : Int))) h)
  (Q false h)

def carlingref15_is_S (ρ : Ids) : Spec := fun args h K =>
  (tI .i64 fun item0 => tN (carlingref15_is ρ item0 h (fun r0 h => K (.bool r0) h))) args

def carlingref15_Cache_Pin (ρ : Ids) (c0 : Option Addr) (item1 : Int) (page2 : Sl) (h : Hp) (Q : Int → Hp → Prop) : Prop :=
  carlingref15_is ρ item1 h fun r_1 h_2 =>
  br (!r_1)
  (Q (1 : Int) h_2)
  (apW (ρ.T 1) 1 1 (.int .u8 (0 : Int)) h_2 (⟨none, 0, 0⟩ : Sl) page2 fun s_3 h_4 =>
  carlingref15_Cache_first ρ c0 item1 s_3 true h_4 fun h_5 =>
  Q (0 : Int) h_5)

def carlingref15_Cache_Pin_S (ρ : Ids) : Spec := fun args h K =>
  (tP fun c0 => tI .i64 fun item1 => tS fun page2 => tN (carlingref15_Cache_Pin ρ c0 item1 page2 h (fun r0 h => K (.int .i64 r0) h))) args

def carlingref15_Cache_fit_K2 (ρ : Ids) (S1 : Option Addr → Int → Int → Int → Hp → Prop) (Q : Int → Hp → Prop) (c0 : Option Addr) (n3 : Int) (last4 : Int) (i5 : Int) (h : Hp) : Prop :=
  S1 c0 n3 last4 (IntKind.wrap .i64 (i5 + (1 : Int))) h

def carlingref15_Cache_fit_B1 (ρ : Ids) (S1 : Option Addr → Int → Int → Int → Hp → Prop) (Q : Int → Hp → Prop) (c0 : Option Addr) (n3 : Int) (last4 : Int) (i5 : Int) (h : Hp) : Prop :=
  nilW c0 fun p_1 =>
  ldS h (p_1.add 1) fun x_2 =>
  br (decide (i5 < (x_2.len : Int)))
  (nilW c0 fun p_3 =>
  ldS h (p_3.add 1) fun x_4 =>
  ixW x_4.a x_4.len i5 3 fun p_5 =>
  ldB h (p_5.add 2) fun x_6 =>
  br (!x_6)
  (carlingref15_Cache_fit_K2 ρ S1 Q c0 (IntKind.wrap .i64 (n3 + (1 : Int))) i5 i5 h)
  (carlingref15_Cache_fit_K2 ρ S1 Q c0 n3 last4 i5 h))
  (nilW c0 fun p_7 =>
  ldI .i64 h (p_7.add 0) fun x_8 =>
  br (decide (n3 ≤ x_8))
  (Q (-1 : Int) h)
  (nilW c0 fun p_9 =>
  ldS h (p_9.add 1) fun x_10 =>
  ixW x_10.a x_10.len last4 3 fun p_11 =>
  ldI .i64 h (p_11.add 0) fun x_12 =>
  carlingref15_Cache_without ρ c0 last4 h fun r_13 h_14 =>
  nilW c0 fun p_15 =>
  st h_14 ((p_15.add 1).add 0) (.slice r_13.a r_13.len r_13.cap) fun h_16 =>
  Q x_12 h_16))

def carlingref15_Cache_fit_L1 (ρ : Ids) (Q : Int → Hp → Prop) (c0 : Option Addr) (n3 : Int) (last4 : Int) (i5 : Int) (h : Hp) : Prop :=
  Lfp (fun S vals h => (tP fun c0 => tI .i64 fun n3 => tI .i64 fun last4 => tI .i64 fun i5 => tN (carlingref15_Cache_fit_B1 ρ (fun c0 n3 last4 i5 hh => S [(.pointer c0), (.int .i64 n3), (.int .i64 last4), (.int .i64 i5)] hh) Q c0 n3 last4 i5 h)) vals) [(.pointer c0), (.int .i64 n3), (.int .i64 last4), (.int .i64 i5)] h

theorem carlingref15_Cache_fit_L1_in (ρ : Ids) (Q : Int → Hp → Prop) (c0 : Option Addr) (n3 : Int) (last4 : Int) (i5 : Int) (h : Hp) (H : carlingref15_Cache_fit_B1 ρ (carlingref15_Cache_fit_L1 ρ Q) Q c0 n3 last4 i5 h) : carlingref15_Cache_fit_L1 ρ Q c0 n3 last4 i5 h := lfp_in H

def carlingref15_Cache_fit (ρ : Ids) (c0 : Option Addr) (h : Hp) (Q : Int → Hp → Prop) : Prop :=
  carlingref15_Cache_fit_L1 ρ Q c0 (0 : Int) (-1 : Int) (0 : Int) h

def carlingref15_Cache_fit_S (ρ : Ids) : Spec := fun args h K =>
  (tP fun c0 => tN (carlingref15_Cache_fit ρ c0 h (fun r0 h => K (.int .i64 r0) h))) args

def carlingref15_Cache_Unpin_K1 (ρ : Ids) (Q : Int → Bool → Hp → Prop) (c0 : Option Addr) (at6 : Int) (v23 : Bool) (h : Hp) : Prop :=
  br v23
  (Q (-1 : Int) false h)
  (nilW c0 fun p_7 =>
  ldS h (p_7.add 1) fun x_8 =>
  ixW x_8.a x_8.len at6 3 fun p_9 =>
  ldI .i64 h (p_9.add 0) fun x_10 =>
  ldS h (p_9.add 1) fun x_11 =>
  ldB h (p_9.add 2) fun x_12 =>
  alW h (ρ.T 7) [(.int .i64 (0 : Int)), (.slice none 0 0), (.bool false)] fun p_13 h_14 =>
  stAll h_14 p_13 0 [(.int .i64 x_10), (.slice x_11.a x_11.len x_11.cap), (.bool x_12)] fun h_15 =>
  st h_15 ((p_13.add 2).add 0) (.bool false) fun h_16 =>
  ldI .i64 h_16 (p_13.add 0) fun x_17 =>
  ldS h_16 (p_13.add 1) fun x_18 =>
  ldB h_16 (p_13.add 2) fun x_19 =>
  carlingref15_Cache_first ρ c0 x_17 x_18 x_19 h_16 fun h_20 =>
  carlingref15_Cache_fit ρ c0 h_20 fun r_21 h_22 =>
  Q r_21 true h_22)

def carlingref15_Cache_Unpin (ρ : Ids) (c0 : Option Addr) (item1 : Int) (h : Hp) (Q : Int → Bool → Hp → Prop) : Prop :=
  carlingref15_Cache_Find ρ c0 item1 h fun r_1 h_2 =>
  br (decide (r_1 < (0 : Int)))
  (carlingref15_Cache_Unpin_K1 ρ Q c0 r_1 true h_2)
  (nilW c0 fun p_3 =>
  ldS h_2 (p_3.add 1) fun x_4 =>
  ixW x_4.a x_4.len r_1 3 fun p_5 =>
  ldB h_2 (p_5.add 2) fun x_6 =>
  carlingref15_Cache_Unpin_K1 ρ Q c0 r_1 (!x_6) h_2)

def carlingref15_Cache_Unpin_S (ρ : Ids) : Spec := fun args h K =>
  (tP fun c0 => tI .i64 fun item1 => tN (carlingref15_Cache_Unpin ρ c0 item1 h (fun r0 r1 h => K (.tuple [(.int .i64 r0), (.bool r1)].toArray) h))) args

def carlingref15_Cache_Drop (ρ : Ids) (c0 : Option Addr) (item1 : Int) (h : Hp) (Q : Bool → Hp → Prop) : Prop :=
  carlingref15_Cache_Find ρ c0 item1 h fun r_1 h_2 =>
  br (decide (r_1 < (0 : Int)))
  (Q false h_2)
  (carlingref15_Cache_without ρ c0 r_1 h_2 fun r_3 h_4 =>
  nilW c0 fun p_5 =>
  st h_4 ((p_5.add 1).add 0) (.slice r_3.a r_3.len r_3.cap) fun h_6 =>
  Q true h_6)

def carlingref15_Cache_Drop_S (ρ : Ids) : Spec := fun args h K =>
  (tP fun c0 => tI .i64 fun item1 => tN (carlingref15_Cache_Drop ρ c0 item1 h (fun r0 h => K (.bool r0) h))) args

def carlingref15_Cache_Put_K1 (ρ : Ids) (Q : Int → Int → Hp → Prop) (c0 : Option Addr) (h : Hp) : Prop :=
  carlingref15_Cache_fit ρ c0 h fun r_13 h_14 =>
  Q r_13 (0 : Int) h_14

def carlingref15_Cache_Put (ρ : Ids) (c0 : Option Addr) (item1 : Int) (page2 : Sl) (h : Hp) (Q : Int → Int → Hp → Prop) : Prop :=
  carlingref15_is ρ item1 h fun r_1 h_2 =>
  br (!r_1)
  (Q (-1 : Int) (1 : Int) h_2)
  (carlingref15_Cache_Find ρ c0 item1 h_2 fun r_3 h_4 =>
  apW (ρ.T 1) 1 1 (.int .u8 (0 : Int)) h_4 (⟨none, 0, 0⟩ : Sl) page2 fun s_5 h_6 =>
  br (decide (r_3 ≥ (0 : Int)))
  (nilW c0 fun p_7 =>
  ldS h_6 (p_7.add 1) fun x_8 =>
  ixW x_8.a x_8.len r_3 3 fun p_9 =>
  ldB h_6 (p_9.add 2) fun x_10 =>
  carlingref15_Cache_first ρ c0 item1 s_5 x_10 h_6 fun h_11 =>
  carlingref15_Cache_Put_K1 ρ Q c0 h_11)
  (carlingref15_Cache_first ρ c0 item1 s_5 false h_6 fun h_12 =>
  carlingref15_Cache_Put_K1 ρ Q c0 h_12))

def carlingref15_Cache_Put_S (ρ : Ids) : Spec := fun args h K =>
  (tP fun c0 => tI .i64 fun item1 => tS fun page2 => tN (carlingref15_Cache_Put ρ c0 item1 page2 h (fun r0 r1 h => K (.tuple [(.int .i64 r0), (.int .i64 r1)].toArray) h))) args

def lru_Cache_Room (ρ : Ids) (c0 : Option Addr) (h : Hp) (Q : Int → Hp → Prop) : Prop :=
  lru_Cache_ok ρ c0 h fun r_1 h_2 =>
  br (!r_1)
  (Q (0 : Int) h_2)
  (nilW c0 fun p_3 =>
  ldI .i64 h_2 (p_3.add 0) fun x_4 =>
  Q x_4 h_2)

def lru_Cache_Room_S (ρ : Ids) : Spec := fun args h K =>
  (tP fun c0 => tN (lru_Cache_Room ρ c0 h (fun r0 h => K (.int .i64 r0) h))) args

def carlinglaw15_LruPlays_K6 (ρ : Ids) (S3 : Int → Option Addr → Addr → Sl → Int → Int → Hp → Prop) (S5 : Int → Option Addr → Addr → Sl → Int → Sl → Int → Int → Sl → Int → Int → Hp → Prop) (Q : Bool → Hp → Prop) (room0 : Int) (c5 : Option Addr) (r8 : Addr) (order24 : Sl) (pinned25 : Int) (v61 : Sl) (v62 : Int) (v63 : Int) (v203 : Sl) (v204 : Int) (v205 : Int) (h : Hp) : Prop :=
  S5 room0 c5 r8 order24 pinned25 v61 v62 v63 v203 v204 (IntKind.wrap .i64 (v205 + (1 : Int))) h

def carlinglaw15_LruPlays_B5 (ρ : Ids) (S3 : Int → Option Addr → Addr → Sl → Int → Int → Hp → Prop) (S5 : Int → Option Addr → Addr → Sl → Int → Sl → Int → Int → Sl → Int → Int → Hp → Prop) (Q : Bool → Hp → Prop) (room0 : Int) (c5 : Option Addr) (r8 : Addr) (order24 : Sl) (pinned25 : Int) (v61 : Sl) (v62 : Int) (v63 : Int) (v203 : Sl) (v204 : Int) (v205 : Int) (h : Hp) : Prop :=
  br (decide (v205 < v204))
  (ixW v203.a v203.len v205 3 fun p_64 =>
  ldI .i64 h (p_64.add 0) fun x_65 =>
  ldS h (p_64.add 1) fun x_66 =>
  ldB h (p_64.add 2) fun x_67 =>
  alW h (ρ.T 7) [(.int .i64 (0 : Int)), (.slice none 0 0), (.bool false)] fun p_68 h_69 =>
  stAll h_69 p_68 0 [(.int .i64 x_65), (.slice x_66.a x_66.len x_66.cap), (.bool x_67)] fun h_70 =>
  ixW order24.a order24.len v205 1 fun p_71 =>
  ldI .i64 h_70 p_71 fun x_72 =>
  ldI .i64 h_70 (p_68.add 0) fun x_73 =>
  br (x_72 != x_73)
  (Q false h_70)
  (ldB h_70 (p_68.add 2) fun x_74 =>
  br x_74
  (carlinglaw15_LruPlays_K6 ρ S3 S5 Q room0 c5 r8 order24 (IntKind.wrap .i64 (pinned25 + (1 : Int))) v61 v62 v63 v203 v204 v205 h_70)
  (carlinglaw15_LruPlays_K6 ρ S3 S5 Q room0 c5 r8 order24 pinned25 v61 v62 v63 v203 v204 v205 h_70)))
  (lru_Cache_Pinned ρ c5 h fun r_75 h_76 =>
  br ((r_75.len : Int) != pinned25)
  (Q false h_76)
  (S3 room0 c5 r8 v61 v62 (IntKind.wrap .i64 (v63 + (1 : Int))) h_76))

def carlinglaw15_LruPlays_L5 (ρ : Ids) (S3 : Int → Option Addr → Addr → Sl → Int → Int → Hp → Prop) (Q : Bool → Hp → Prop) (room0 : Int) (c5 : Option Addr) (r8 : Addr) (order24 : Sl) (pinned25 : Int) (v61 : Sl) (v62 : Int) (v63 : Int) (v203 : Sl) (v204 : Int) (v205 : Int) (h : Hp) : Prop :=
  Lfp (fun S vals h => (tI .i64 fun room0 => tP fun c5 => tA fun r8 => tS fun order24 => tI .i64 fun pinned25 => tS fun v61 => tI .i64 fun v62 => tI .i64 fun v63 => tS fun v203 => tI .i64 fun v204 => tI .i64 fun v205 => tN (carlinglaw15_LruPlays_B5 ρ S3 (fun room0 c5 r8 order24 pinned25 v61 v62 v63 v203 v204 v205 hh => S [(.int .i64 room0), (.pointer c5), (.pointer (some r8)), (.slice order24.a order24.len order24.cap), (.int .i64 pinned25), (.slice v61.a v61.len v61.cap), (.int .i64 v62), (.int .i64 v63), (.slice v203.a v203.len v203.cap), (.int .i64 v204), (.int .i64 v205)] hh) Q room0 c5 r8 order24 pinned25 v61 v62 v63 v203 v204 v205 h)) vals) [(.int .i64 room0), (.pointer c5), (.pointer (some r8)), (.slice order24.a order24.len order24.cap), (.int .i64 pinned25), (.slice v61.a v61.len v61.cap), (.int .i64 v62), (.int .i64 v63), (.slice v203.a v203.len v203.cap), (.int .i64 v204), (.int .i64 v205)] h

theorem carlinglaw15_LruPlays_L5_in (ρ : Ids) (S3 : Int → Option Addr → Addr → Sl → Int → Int → Hp → Prop) (Q : Bool → Hp → Prop) (room0 : Int) (c5 : Option Addr) (r8 : Addr) (order24 : Sl) (pinned25 : Int) (v61 : Sl) (v62 : Int) (v63 : Int) (v203 : Sl) (v204 : Int) (v205 : Int) (h : Hp) (H : carlinglaw15_LruPlays_B5 ρ S3 (carlinglaw15_LruPlays_L5 ρ S3 Q) Q room0 c5 r8 order24 pinned25 v61 v62 v63 v203 v204 v205 h) : carlinglaw15_LruPlays_L5 ρ S3 Q room0 c5 r8 order24 pinned25 v61 v62 v63 v203 v204 v205 h := lfp_in H

def carlinglaw15_LruPlays_K4 (ρ : Ids) (S3 : Int → Option Addr → Addr → Sl → Int → Int → Hp → Prop) (Q : Bool → Hp → Prop) (room0 : Int) (c5 : Option Addr) (r8 : Addr) (order24 : Sl) (v61 : Sl) (v62 : Int) (v63 : Int) (v201 : Bool) (h : Hp) : Prop :=
  br v201
  (Q false h)
  (ldS h (r8.add 1) fun x_63 =>
  carlinglaw15_LruPlays_L5 ρ S3 Q room0 c5 r8 order24 (0 : Int) v61 v62 v63 x_63 (x_63.len : Int) (0 : Int) h)

def carlinglaw15_LruPlays_K7 (ρ : Ids) (S3 : Int → Option Addr → Addr → Sl → Int → Int → Hp → Prop) (Q : Bool → Hp → Prop) (room0 : Int) (c5 : Option Addr) (r8 : Addr) (s10 : Addr) (ok11 : Bool) (v61 : Sl) (v62 : Int) (v63 : Int) (h : Hp) : Prop :=
  lru_Cache_Order ρ c5 h fun r_77 h_78 =>
  br (!ok11)
  (carlinglaw15_LruPlays_K4 ρ S3 Q room0 c5 r8 r_77 v61 v62 v63 true h_78)
  (ldS h_78 (r8.add 1) fun x_79 =>
  br ((r_77.len : Int) != (x_79.len : Int))
  (carlinglaw15_LruPlays_K4 ρ S3 Q room0 c5 r8 r_77 v61 v62 v63 true h_78)
  (ldS h_78 (r8.add 1) fun x_80 =>
  lru_Cache_Len ρ c5 h_78 fun r_81 h_82 =>
  (True) ∧
  ((hcell h_82 (r8.add 1) = some (.slice x_80.a x_80.len x_80.cap)) ∧
  (br (r_81 != (x_80.len : Int))
  (carlinglaw15_LruPlays_K4 ρ S3 Q room0 c5 r8 r_77 v61 v62 v63 true h_82)
  (lru_Cache_Room ρ c5 h_82 fun r_83 h_84 =>
  br (r_83 != room0)
  (carlinglaw15_LruPlays_K4 ρ S3 Q room0 c5 r8 r_77 v61 v62 v63 true h_84)
  (ldI .i64 h_84 (s10.add 1) fun x_85 =>
  ldI .i64 h_84 (s10.add 1) fun x_86 =>
  lru_Cache_Has ρ c5 x_85 h_84 fun r_87 h_88 =>
  (hcell h_88 (s10.add 1) = some (.int .i64 x_86)) ∧
  (carlingref15_Cache_Find ρ (some r8) x_86 h_88 fun r_89 h_90 =>
  carlinglaw15_LruPlays_K4 ρ S3 Q room0 c5 r8 r_77 v61 v62 v63 (!(r_87 == (decide (r_89 ≥ (0 : Int))))) h_90)))))))

def carlinglaw15_LruPlays_B3 (ρ : Ids) (S3 : Int → Option Addr → Addr → Sl → Int → Int → Hp → Prop) (Q : Bool → Hp → Prop) (room0 : Int) (c5 : Option Addr) (r8 : Addr) (v61 : Sl) (v62 : Int) (v63 : Int) (h : Hp) : Prop :=
  br (decide (v63 < v62))
  (ixW v61.a v61.len v63 3 fun p_11 =>
  ldI .u8 h (p_11.add 0) fun x_12 =>
  ldI .i64 h (p_11.add 1) fun x_13 =>
  ldS h (p_11.add 2) fun x_14 =>
  alW h (ρ.T 5) [(.int .u8 (0 : Int)), (.int .i64 (0 : Int)), (.slice none 0 0)] fun p_15 h_16 =>
  stAll h_16 p_15 0 [(.int .u8 x_12), (.int .i64 x_13), (.slice x_14.a x_14.len x_14.cap)] fun h_17 =>
  ldI .u8 h_17 (p_15.add 0) fun x_18 =>
  ((6 : Int) ≠ 0) ∧
  br ((Int.tmod x_18 (6 : Int)) == (2 : Int))
  (ldI .i64 h_17 (p_15.add 1) fun x_19 =>
  lru_Cache_Get ρ c5 x_19 h_17 fun r_20 r_21 h_22 =>
  ldI .i64 h_22 (p_15.add 1) fun x_23 =>
  carlingref15_Cache_Get ρ (some r8) x_23 h_22 fun r_24 r_25 h_26 =>
  carlingref02_Same ρ r_20 r_24 h_26 fun r_27 h_28 =>
  br r_27
  (carlinglaw15_LruPlays_K7 ρ S3 Q room0 c5 r8 p_15 (r_21 == r_25) v61 v62 v63 h_28)
  (carlinglaw15_LruPlays_K7 ρ S3 Q room0 c5 r8 p_15 false v61 v62 v63 h_28))
  (br ((Int.tmod x_18 (6 : Int)) == (3 : Int))
  (ldI .i64 h_17 (p_15.add 1) fun x_29 =>
  ldS h_17 (p_15.add 2) fun x_30 =>
  ldI .i64 h_17 (p_15.add 1) fun x_31 =>
  ldS h_17 (p_15.add 2) fun x_32 =>
  lru_Cache_Pin ρ c5 x_29 x_30 h_17 fun r_33 h_34 =>
  (hcell h_34 (p_15.add 2) = some (.slice x_32.a x_32.len x_32.cap)) ∧
  ((hcell h_34 (p_15.add 1) = some (.int .i64 x_31)) ∧
  (carlingref15_Cache_Pin ρ (some r8) x_31 x_32 h_34 fun r_35 h_36 =>
  carlinglaw15_LruPlays_K7 ρ S3 Q room0 c5 r8 p_15 (r_33 == r_35) v61 v62 v63 h_36)))
  (br ((Int.tmod x_18 (6 : Int)) == (4 : Int))
  (ldI .i64 h_17 (p_15.add 1) fun x_37 =>
  lru_Cache_Unpin ρ c5 x_37 h_17 fun r_38 r_39 h_40 =>
  ldI .i64 h_40 (p_15.add 1) fun x_41 =>
  carlingref15_Cache_Unpin ρ (some r8) x_41 h_40 fun r_42 r_43 h_44 =>
  br (r_38 == r_42)
  (carlinglaw15_LruPlays_K7 ρ S3 Q room0 c5 r8 p_15 (r_39 == r_43) v61 v62 v63 h_44)
  (carlinglaw15_LruPlays_K7 ρ S3 Q room0 c5 r8 p_15 false v61 v62 v63 h_44))
  (br ((Int.tmod x_18 (6 : Int)) == (5 : Int))
  (ldI .i64 h_17 (p_15.add 1) fun x_45 =>
  ldI .i64 h_17 (p_15.add 1) fun x_46 =>
  lru_Cache_Drop ρ c5 x_45 h_17 fun r_47 h_48 =>
  (hcell h_48 (p_15.add 1) = some (.int .i64 x_46)) ∧
  (carlingref15_Cache_Drop ρ (some r8) x_46 h_48 fun r_49 h_50 =>
  carlinglaw15_LruPlays_K7 ρ S3 Q room0 c5 r8 p_15 (r_47 == r_49) v61 v62 v63 h_50))
  (ldI .i64 h_17 (p_15.add 1) fun x_51 =>
  ldS h_17 (p_15.add 2) fun x_52 =>
  lru_Cache_Put ρ c5 x_51 x_52 h_17 fun r_53 r_54 h_55 =>
  ldI .i64 h_55 (p_15.add 1) fun x_56 =>
  ldS h_55 (p_15.add 2) fun x_57 =>
  carlingref15_Cache_Put ρ (some r8) x_56 x_57 h_55 fun r_58 r_59 h_60 =>
  br (r_53 == r_58)
  (carlinglaw15_LruPlays_K7 ρ S3 Q room0 c5 r8 p_15 (r_54 == r_59) v61 v62 v63 h_60)
  (carlinglaw15_LruPlays_K7 ρ S3 Q room0 c5 r8 p_15 false v61 v62 v63 h_60))))))
  (carlinglaw15_alive ρ  h fun r_61 h_62 =>
  Q r_61 h_62)

def carlinglaw15_LruPlays_L3 (ρ : Ids) (Q : Bool → Hp → Prop) (room0 : Int) (c5 : Option Addr) (r8 : Addr) (v61 : Sl) (v62 : Int) (v63 : Int) (h : Hp) : Prop :=
  Lfp (fun S vals h => (tI .i64 fun room0 => tP fun c5 => tA fun r8 => tS fun v61 => tI .i64 fun v62 => tI .i64 fun v63 => tN (carlinglaw15_LruPlays_B3 ρ (fun room0 c5 r8 v61 v62 v63 hh => S [(.int .i64 room0), (.pointer c5), (.pointer (some r8)), (.slice v61.a v61.len v61.cap), (.int .i64 v62), (.int .i64 v63)] hh) Q room0 c5 r8 v61 v62 v63 h)) vals) [(.int .i64 room0), (.pointer c5), (.pointer (some r8)), (.slice v61.a v61.len v61.cap), (.int .i64 v62), (.int .i64 v63)] h

theorem carlinglaw15_LruPlays_L3_in (ρ : Ids) (Q : Bool → Hp → Prop) (room0 : Int) (c5 : Option Addr) (r8 : Addr) (v61 : Sl) (v62 : Int) (v63 : Int) (h : Hp) (H : carlinglaw15_LruPlays_B3 ρ (carlinglaw15_LruPlays_L3 ρ Q) Q room0 c5 r8 v61 v62 v63 h) : carlinglaw15_LruPlays_L3 ρ Q room0 c5 r8 v61 v62 v63 h := lfp_in H

def carlinglaw15_LruPlays_K1 (ρ : Ids) (Q : Bool → Hp → Prop) (room0 : Int) (l1 : Sl) (c5 : Option Addr) (e6 : Int) (may7 : Bool) (v44 : Bool) (h : Hp) : Prop :=
  br v44
  (br (!may7)
  (br (Option.isNone c5)
  (br (e6 == (1 : Int))
  (carlinglaw15_alive ρ  h fun r_4 h_5 =>
  Q r_4 h_5)
  (Q false h))
  (Q false h))
  (Q false h))
  (alW h (ρ.T 6) [(.int .i64 (0 : Int)), (.slice none 0 0)] fun p_6 h_7 =>
  stAll h_7 p_6 0 [(.int .i64 room0), (.slice none 0 0)] fun h_8 =>
  carlinglaw15_short ρ l1 h_8 fun r_9 h_10 =>
  carlinglaw15_LruPlays_L3 ρ Q room0 c5 p_6 r_9 (r_9.len : Int) (0 : Int) h_10)

def carlinglaw15_LruPlays_K2 (ρ : Ids) (Q : Bool → Hp → Prop) (room0 : Int) (l1 : Sl) (c5 : Option Addr) (e6 : Int) (may7 : Bool) (h : Hp) : Prop :=
  br (!may7)
  (carlinglaw15_LruPlays_K1 ρ Q room0 l1 c5 e6 may7 true h)
  (carlinglaw15_LruPlays_K1 ρ Q room0 l1 c5 e6 may7 (Option.isNone c5) h)

def carlinglaw15_LruPlays (ρ : Ids) (room0 : Int) (l1 : Sl) (h : Hp) (Q : Bool → Hp → Prop) : Prop :=
  lru_New ρ room0 h fun r_1 r_2 h_3 =>
  br (decide (room0 ≥ (1 : Int)))
  (carlinglaw15_LruPlays_K2 ρ Q room0 l1 r_1 r_2 (decide (room0 ≤ (1024 : Int))) h_3)
  (carlinglaw15_LruPlays_K2 ρ Q room0 l1 r_1 r_2 false h_3)

def carlinglaw15_LruPlays_S (ρ : Ids) : Spec := fun args h K =>
  (tI .i64 fun room0 => tS fun l1 => tN (carlinglaw15_LruPlays ρ room0 l1 h (fun r0 h => K (.bool r0) h))) args

def carlinglaw15_LruNobody_K2 (ρ : Ids) (S1 : Addr → Sl → Int → Int → Hp → Prop) (Q : Bool → Hp → Prop) (s1 : Addr) (v20 : Sl) (v21 : Int) (v22 : Int) (v106 : Bool) (h : Hp) : Prop :=
  br v106
  (Q false h)
  (S1 s1 v20 v21 (IntKind.wrap .i64 (v22 + (1 : Int))) h)

def carlinglaw15_LruNobody_K4 (ρ : Ids) (Q : Bool → Hp → Prop) (c11 : Option Addr) (b14 : Sl) (v137 : Bool) (h : Hp) : Prop :=
  br v137
  (Q false h)
  (ixW b14.a b14.len (0 : Int) 1 fun p_55 =>
  st h (p_55.add 0) (.int .u8 (9 : Int)) fun h_56 =>
  lru_Cache_Get ρ c11 (1 : Int) h_56 fun r_57 r_58 h_59 =>
  br r_58
  (br ((r_57.len : Int) == (1 : Int))
  (ixW r_57.a r_57.len (0 : Int) 1 fun p_60 =>
  ldI .u8 h_59 p_60 fun x_61 =>
  br (x_61 == (7 : Int))
  (carlinglaw15_alive ρ  h_59 fun r_62 h_63 =>
  Q r_62 h_63)
  (Q false h_59))
  (Q false h_59))
  (Q false h_59))

def carlinglaw15_LruNobody_K3 (ρ : Ids) (Q : Bool → Hp → Prop) (c11 : Option Addr) (v117 : Bool) (h : Hp) : Prop :=
  br v117
  (Q false h)
  (alW h (ρ.T 1) [(.int .u8 (7 : Int))] fun p_43 h_44 =>
  lru_Cache_Put ρ c11 (1 : Int) (⟨some p_43, 1, 1⟩ : Sl) h_44 fun r_45 r_46 h_47 =>
  ixW (some p_43) 1 (0 : Int) 1 fun p_48 =>
  st h_47 (p_48.add 0) (.int .u8 (8 : Int)) fun h_49 =>
  lru_Cache_Get ρ c11 (1 : Int) h_49 fun r_50 r_51 h_52 =>
  br ((r_50.len : Int) != (1 : Int))
  (carlinglaw15_LruNobody_K4 ρ Q c11 r_50 true h_52)
  (ixW r_50.a r_50.len (0 : Int) 1 fun p_53 =>
  ldI .u8 h_52 p_53 fun x_54 =>
  carlinglaw15_LruNobody_K4 ρ Q c11 r_50 (x_54 != (7 : Int)) h_52))

def carlinglaw15_LruNobody_B1 (ρ : Ids) (S1 : Addr → Sl → Int → Int → Hp → Prop) (Q : Bool → Hp → Prop) (s1 : Addr) (v20 : Sl) (v21 : Int) (v22 : Int) (h : Hp) : Prop :=
  br (decide (v22 < v21))
  (ixW v20.a v20.len v22 1 fun p_7 =>
  ldP h p_7 fun x_8 =>
  ldI .i64 h (s1.add 1) fun x_9 =>
  ldS h (s1.add 2) fun x_10 =>
  lru_Cache_Put ρ x_8 x_9 x_10 h fun r_11 r_12 h_13 =>
  ldI .i64 h_13 (s1.add 1) fun x_14 =>
  lru_Cache_Get ρ x_8 x_14 h_13 fun r_15 r_16 h_17 =>
  ldI .i64 h_17 (s1.add 1) fun x_18 =>
  lru_Cache_Unpin ρ x_8 x_18 h_17 fun r_19 r_20 h_21 =>
  br (r_11 != (-1 : Int))
  (carlinglaw15_LruNobody_K2 ρ S1 Q s1 v20 v21 v22 true h_21)
  (br (r_12 != (2 : Int))
  (carlinglaw15_LruNobody_K2 ρ S1 Q s1 v20 v21 v22 true h_21)
  (br ((r_15.len : Int) != (0 : Int))
  (carlinglaw15_LruNobody_K2 ρ S1 Q s1 v20 v21 v22 true h_21)
  (br r_16
  (carlinglaw15_LruNobody_K2 ρ S1 Q s1 v20 v21 v22 true h_21)
  (br (r_19 != (-1 : Int))
  (carlinglaw15_LruNobody_K2 ρ S1 Q s1 v20 v21 v22 true h_21)
  (br r_20
  (carlinglaw15_LruNobody_K2 ρ S1 Q s1 v20 v21 v22 true h_21)
  (ldI .i64 h_21 (s1.add 1) fun x_22 =>
  ldS h_21 (s1.add 2) fun x_23 =>
  lru_Cache_Pin ρ x_8 x_22 x_23 h_21 fun r_24 h_25 =>
  br (r_24 != (2 : Int))
  (carlinglaw15_LruNobody_K2 ρ S1 Q s1 v20 v21 v22 true h_25)
  (ldI .i64 h_25 (s1.add 1) fun x_26 =>
  lru_Cache_Has ρ x_8 x_26 h_25 fun r_27 h_28 =>
  br r_27
  (carlinglaw15_LruNobody_K2 ρ S1 Q s1 v20 v21 v22 true h_28)
  (ldI .i64 h_28 (s1.add 1) fun x_29 =>
  lru_Cache_Drop ρ x_8 x_29 h_28 fun r_30 h_31 =>
  br r_30
  (carlinglaw15_LruNobody_K2 ρ S1 Q s1 v20 v21 v22 true h_31)
  (lru_Cache_Pinned ρ x_8 h_31 fun r_32 h_33 =>
  lru_Cache_Order ρ x_8 h_33 fun r_34 h_35 =>
  lru_Cache_Len ρ x_8 h_35 fun r_36 h_37 =>
  lru_Cache_Room ρ x_8 h_37 fun r_38 h_39 =>
  carlinglaw15_LruNobody_K2 ρ S1 Q s1 v20 v21 v22 ((IntKind.wrap .i64 ((IntKind.wrap .i64 ((IntKind.wrap .i64 ((r_32.len : Int) + (r_34.len : Int))) + r_36)) + r_38)) != (0 : Int)) h_39))))))))))
  (lru_New ρ (2 : Int) h fun r_40 r_41 h_42 =>
  br (Option.isNone r_40)
  (carlinglaw15_LruNobody_K3 ρ Q r_40 true h_42)
  (carlinglaw15_LruNobody_K3 ρ Q r_40 (r_41 != (0 : Int)) h_42))

def carlinglaw15_LruNobody_L1 (ρ : Ids) (Q : Bool → Hp → Prop) (s1 : Addr) (v20 : Sl) (v21 : Int) (v22 : Int) (h : Hp) : Prop :=
  Lfp (fun S vals h => (tA fun s1 => tS fun v20 => tI .i64 fun v21 => tI .i64 fun v22 => tN (carlinglaw15_LruNobody_B1 ρ (fun s1 v20 v21 v22 hh => S [(.pointer (some s1)), (.slice v20.a v20.len v20.cap), (.int .i64 v21), (.int .i64 v22)] hh) Q s1 v20 v21 v22 h)) vals) [(.pointer (some s1)), (.slice v20.a v20.len v20.cap), (.int .i64 v21), (.int .i64 v22)] h

theorem carlinglaw15_LruNobody_L1_in (ρ : Ids) (Q : Bool → Hp → Prop) (s1 : Addr) (v20 : Sl) (v21 : Int) (v22 : Int) (h : Hp) (H : carlinglaw15_LruNobody_B1 ρ (carlinglaw15_LruNobody_L1 ρ Q) Q s1 v20 v21 v22 h) : carlinglaw15_LruNobody_L1 ρ Q s1 v20 v21 v22 h := lfp_in H

def carlinglaw15_LruNobody (ρ : Ids) (s0_0 : Int) (s0_1 : Int) (s0_2 : Sl) (h : Hp) (Q : Bool → Hp → Prop) : Prop :=
  alW h (ρ.T 5) [(.int .u8 s0_0), (.int .i64 s0_1), (.slice s0_2.a s0_2.len s0_2.cap)] fun p_1 h_2 =>
  alW h_2 (ρ.T 2) [(.int .i64 (0 : Int)), (.map none), (.slice none 0 0)] fun p_3 h_4 =>
  alW h_4 (ρ.T 3) [(.pointer none), (.pointer (some p_3))] fun p_5 h_6 =>
  carlinglaw15_LruNobody_L1 ρ Q p_1 (⟨some p_5, 2, 2⟩ : Sl) (2 : Int) (0 : Int) h_6

def carlinglaw15_LruNobody_S (ρ : Ids) : Spec := fun args h K =>
  (tG fun cells0 rest0 => (tI .u8 fun s0_0 => tI .i64 fun s0_1 => tS fun s0_2 => tN ((tN (carlinglaw15_LruNobody ρ s0_0 s0_1 s0_2 h (fun r0 h => K (.bool r0) h))) rest0)) cells0) args

end Go.Tx
