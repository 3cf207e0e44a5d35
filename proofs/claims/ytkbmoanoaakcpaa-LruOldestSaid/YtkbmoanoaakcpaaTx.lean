import Derived.Test.YtkbmoanoaakcpaaWc13
set_option linter.unusedVariables false
namespace Go.Tx
open Go Go.Wc

def lru_New_K1 (ρ : Ids) (Q : Option Addr → Int → Hp → Prop) (room0 : Int) (v9 : Bool) (h : Hp) : Prop :=
  br v9
  (Q none (1 : Int) h)
  (amW h fun m_1 h_2 =>
  alW h_2 (ρ.T 2) [(.int .i64 room0), (.map (some m_1)), (.slice none 0 0)] fun p_3 h_4 =>
  Q (some p_3) (0 : Int) h_4)

def lru_New (ρ : Ids) (room0 : Int) (h : Hp) (Q : Option Addr → Int → Hp → Prop) : Prop :=
  br (decide (room0 < (1 : Int)))
  (lru_New_K1 ρ Q room0 true h)
  (lru_New_K1 ρ Q room0 (decide (room0 > (1024 : Int))) h)

def lru_New_S (ρ : Ids) : Spec := fun args h K =>
  (tI .i64 fun room0 => tN (lru_New ρ room0 h (fun r0 r1 h => K (.tuple [(.pointer r0), (.int .i64 r1)].toArray) h))) args

def lru_Cache_ok (ρ : Ids) (c0 : Option Addr) (h : Hp) (Q : Bool → Hp → Prop) : Prop :=
  br (!(Option.isNone c0))
  (nilW c0 fun p_1 =>
  ldM h (p_1.add 1) fun x_2 =>
  Q (!(Option.isNone x_2)) h)
  (Q false h)

def lru_Cache_ok_S (ρ : Ids) : Spec := fun args h K =>
  (tP fun c0 => tN (lru_Cache_ok ρ c0 h (fun r0 h => K (.bool r0) h))) args

def lru_isItem (ρ : Ids) (n0 : Int) (h : Hp) (Q : Bool → Hp → Prop) : Prop :=
  br (decide (n0 ≥ (0 : Int)))
  (Q (decide (n0 < (4096 : Int))) h)
  (Q false h)

def lru_isItem_S (ρ : Ids) : Spec := fun args h K =>
  (tI .i64 fun n0 => tN (lru_isItem ρ n0 h (fun r0 h => K (.bool r0) h))) args

def bytes_Clone (ρ : Ids) (b0 : Sl) (h : Hp) (Q : Sl → Hp → Prop) : Prop :=
  br (Option.isNone b0.a)
  (Q (⟨none, 0, 0⟩ : Sl) h)
  (alW h (ρ.T 1) [] fun p_1 h_2 =>
  apW (ρ.T 1) 1 1 (.int .u8 (0 : Int)) h_2 (⟨some p_1, 0, 0⟩ : Sl) b0 fun s_3 h_4 =>
  Q s_3 h_4)

def bytes_Clone_S (ρ : Ids) : Spec := fun args h K =>
  (tS fun b0 => tN (bytes_Clone ρ b0 h (fun r0 h => K (.slice r0.a r0.len r0.cap) h))) args

def slices_Index_int_int_B1 (ρ : Ids) (S1 : Sl → Int → Int → Int → Hp → Prop) (Q : Int → Hp → Prop) (s0 : Sl) (v1 : Int) (v7 : Int) (v8 : Int) (h : Hp) : Prop :=
  br (decide (v8 < v7))
  (ixW s0.a s0.len v8 1 fun p_1 =>
  ldI .i64 h p_1 fun x_2 =>
  br (v1 == x_2)
  (Q v8 h)
  (S1 s0 v1 v7 (IntKind.wrap .i64 (v8 + (1 : Int))) h))
  (Q (-1 : Int) h)

def slices_Index_int_int_L1 (ρ : Ids) (Q : Int → Hp → Prop) (s0 : Sl) (v1 : Int) (v7 : Int) (v8 : Int) (h : Hp) : Prop :=
  Lfp (fun S vals h => (tS fun s0 => tI .i64 fun v1 => tI .i64 fun v7 => tI .i64 fun v8 => tN (slices_Index_int_int_B1 ρ (fun s0 v1 v7 v8 hh => S [(.slice s0.a s0.len s0.cap), (.int .i64 v1), (.int .i64 v7), (.int .i64 v8)] hh) Q s0 v1 v7 v8 h)) vals) [(.slice s0.a s0.len s0.cap), (.int .i64 v1), (.int .i64 v7), (.int .i64 v8)] h

theorem slices_Index_int_int_L1_rule (ρ : Ids) (Q : Int → Hp → Prop) (Inv : Sl → Int → Int → Int → Hp → Prop) (μ : Sl → Int → Int → Int → Hp → Nat)
    (step : ∀ (s0 : Sl) (v1 : Int) (v7 : Int) (v8 : Int) (h : Hp), Inv s0 v1 v7 v8 h → slices_Index_int_int_B1 ρ (fun s0' v1' v7' v8' hh => Inv s0' v1' v7' v8' hh ∧ μ s0' v1' v7' v8' hh < μ s0 v1 v7 v8 h) Q s0 v1 v7 v8 h) :
    ∀ (s0 : Sl) (v1 : Int) (v7 : Int) (v8 : Int) (h : Hp), Inv s0 v1 v7 v8 h → slices_Index_int_int_L1 ρ Q s0 v1 v7 v8 h := by
  have key : ∀ (n : Nat) (s0 : Sl) (v1 : Int) (v7 : Int) (v8 : Int) (h : Hp), μ s0 v1 v7 v8 h = n → Inv s0 v1 v7 v8 h → slices_Index_int_int_L1 ρ Q s0 v1 v7 v8 h := by
    intro n
    induction n using Nat.strongRecOn with
    | _ n ih =>
    intro s0 v1 v7 v8 h hn hI R hR
    refine hR _ _ ⟨fun vals hh => (tS fun s0 => tI .i64 fun v1 => tI .i64 fun v7 => tI .i64 fun v8 => tN (Inv s0 v1 v7 v8 hh ∧ μ s0 v1 v7 v8 hh < n)) vals, ?_, ?_⟩
    · intro vals hh H
      obtain ⟨s0, rr, rfl, H1⟩ := tS_elim H
      obtain ⟨v1, rr, rfl, H2⟩ := tI_elim H1
      obtain ⟨v7, rr, rfl, H3⟩ := tI_elim H2
      obtain ⟨v8, rr, rfl, H4⟩ := tI_elim H3
      obtain ⟨rfl, H5⟩ := tN_elim H4
      exact ih _ H5.2 s0 v1 v7 v8 hh rfl H5.1 R hR
    · subst hn
      exact step s0 v1 v7 v8 h hI
  exact fun s0 v1 v7 v8 h hI => key _ s0 v1 v7 v8 h rfl hI

def slices_Index_int_int (ρ : Ids) (s0 : Sl) (v1 : Int) (h : Hp) (Q : Int → Hp → Prop) : Prop :=
  slices_Index_int_int_L1 ρ Q s0 v1 (s0.len : Int) (0 : Int) h

def slices_Index_int_int_S (ρ : Ids) : Spec := fun args h K =>
  (tS fun s0 => tI .i64 fun v1 => tN (slices_Index_int_int ρ s0 v1 h (fun r0 h => K (.int .i64 r0) h))) args

def slices_Delete_int_int (ρ : Ids) (s0 : Sl) (i1 : Int) (j2 : Int) (h : Hp) (Q : Sl → Hp → Prop) : Prop :=
  slX s0 i1 j2 (s0.len : Int) 1 fun s_1 =>
  br (i1 == j2)
  (Q s0 h)
  (slW s0 (0 : Int) i1 1 fun s_2 =>
  slW s0 j2 (s0.len : Int) 1 fun s_3 =>
  apW (ρ.T 0) 1 8 (.int .i64 (0 : Int)) h s_2 s_3 fun s_4 h_5 =>
  slW s_4 (s_4.len : Int) (s0.len : Int) 1 fun s_6 =>
  clW (.int .i64 (0 : Int)) h_5 s_6 fun h_7 =>
  Q s_4 h_7)

def slices_Delete_int_int_S (ρ : Ids) : Spec := fun args h K =>
  (tS fun s0 => tI .i64 fun i1 => tI .i64 fun j2 => tN (slices_Delete_int_int ρ s0 i1 j2 h (fun r0 h => K (.slice r0.a r0.len r0.cap) h))) args

def lru_Cache_touch_K1 (ρ : Ids) (Q : Hp → Prop) (c0 : Option Addr) (item1 : Int) (h : Hp) : Prop :=
  nilW c0 fun p_11 =>
  ldS h (p_11.add 2) fun x_12 =>
  alW h (ρ.T 0) [(.int .i64 item1)] fun p_13 h_14 =>
  apW (ρ.T 0) 1 8 (.int .i64 (0 : Int)) h_14 x_12 (⟨some p_13, 1, 1⟩ : Sl) fun s_15 h_16 =>
  nilW c0 fun p_17 =>
  st h_16 ((p_17.add 2).add 0) (.slice s_15.a s_15.len s_15.cap) fun h_18 =>
  Q h_18

def lru_Cache_touch (ρ : Ids) (c0 : Option Addr) (item1 : Int) (h : Hp) (Q : Hp → Prop) : Prop :=
  nilW c0 fun p_1 =>
  ldS h (p_1.add 2) fun x_2 =>
  slices_Index_int_int ρ x_2 item1 h fun r_3 h_4 =>
  br (decide (r_3 ≥ (0 : Int)))
  (nilW c0 fun p_5 =>
  ldS h_4 (p_5.add 2) fun x_6 =>
  slices_Delete_int_int ρ x_6 r_3 (IntKind.wrap .i64 (r_3 + (1 : Int))) h_4 fun r_7 h_8 =>
  nilW c0 fun p_9 =>
  st h_8 ((p_9.add 2).add 0) (.slice r_7.a r_7.len r_7.cap) fun h_10 =>
  lru_Cache_touch_K1 ρ Q c0 item1 h_10)
  (lru_Cache_touch_K1 ρ Q c0 item1 h_4)

def lru_Cache_touch_S (ρ : Ids) : Spec := fun args h K =>
  (tP fun c0 => tI .i64 fun item1 => tN (lru_Cache_touch ρ c0 item1 h (fun h => K (.tuple [].toArray) h))) args

def lru_Cache_Has (ρ : Ids) (c0 : Option Addr) (item1 : Int) (h : Hp) (Q : Bool → Hp → Prop) : Prop :=
  lru_Cache_ok ρ c0 h fun r_1 h_2 =>
  br (!r_1)
  (Q false h_2)
  (nilW c0 fun p_3 =>
  ldM h_2 (p_3.add 1) fun x_4 =>
  lkW (.int .i64) h_2 x_4 (.int .i64 item1) fun f_5 o_6 =>
  ∃ y_7 : Sl, ∃ y_8 : Bool, ((o_6.getD (.agg [(.slice none 0 0), (.bool false)].toArray)) = (.agg [(.slice y_7.a y_7.len y_7.cap), (.bool y_8)].toArray)) ∧
  alW h_2 (ρ.T 4) [(.slice none 0 0), (.bool false)] fun p_9 h_10 =>
  st h_10 (p_9.add 0) (.slice y_7.a y_7.len y_7.cap) fun h_11 =>
  st h_11 (p_9.add 1) (.bool y_8) fun h_12 =>
  Q o_6.isSome h_12)

def lru_Cache_Has_S (ρ : Ids) : Spec := fun args h K =>
  (tP fun c0 => tI .i64 fun item1 => tN (lru_Cache_Has ρ c0 item1 h (fun r0 h => K (.bool r0) h))) args

def lru_Cache_Drop (ρ : Ids) (c0 : Option Addr) (item1 : Int) (h : Hp) (Q : Bool → Hp → Prop) : Prop :=
  lru_Cache_Has ρ c0 item1 h fun r_1 h_2 =>
  br (!r_1)
  (Q false h_2)
  (nilW c0 fun p_3 =>
  ldM h_2 (p_3.add 1) fun x_4 =>
  dlW (.int .i64) h_2 x_4 (.int .i64 item1) fun h_5 =>
  nilW c0 fun p_6 =>
  ldS h_5 (p_6.add 2) fun x_7 =>
  slices_Index_int_int ρ x_7 item1 h_5 fun r_8 h_9 =>
  nilW c0 fun p_10 =>
  ldS h_9 (p_10.add 2) fun x_11 =>
  slices_Delete_int_int ρ x_11 r_8 (IntKind.wrap .i64 (r_8 + (1 : Int))) h_9 fun r_12 h_13 =>
  nilW c0 fun p_14 =>
  st h_13 ((p_14.add 2).add 0) (.slice r_12.a r_12.len r_12.cap) fun h_15 =>
  Q true h_15)

def lru_Cache_Drop_S (ρ : Ids) : Spec := fun args h K =>
  (tP fun c0 => tI .i64 fun item1 => tN (lru_Cache_Drop ρ c0 item1 h (fun r0 h => K (.bool r0) h))) args

def lru_Cache_fit_1 (ρ : Ids) (item0 : Int) (v1 : Addr) (h : Hp) (Q : Bool → Hp → Prop) : Prop :=
  ldP h v1 fun x_1 =>
  nilW x_1 fun p_2 =>
  ldM h (p_2.add 1) fun x_3 =>
  lkW (.int .i64) h x_3 (.int .i64 item0) fun f_4 o_5 =>
  ∃ y_6 : Sl, ∃ y_7 : Bool, ((o_5.getD (.agg [(.slice none 0 0), (.bool false)].toArray)) = (.agg [(.slice y_6.a y_6.len y_6.cap), (.bool y_7)].toArray)) ∧
  Q (!y_7) h

def lru_Cache_fit_1_S (ρ : Ids) : Spec := fun args h K =>
  (tI .i64 fun item0 => tA fun v1 => tN (lru_Cache_fit_1 ρ item0 v1 h (fun r0 h => K (.bool r0) h))) args

def slices_IndexFunc_int_int_B1 (ρ : Ids) (φ : Value → List Value → Hp → (Value → Hp → Prop) → Prop) (S1 : Sl → Value → Int → Int → Hp → Prop) (Q : Int → Hp → Prop) (s0 : Sl) (f1 : Value) (v7 : Int) (v8 : Int) (h : Hp) : Prop :=
  br (decide (v8 < v7))
  (ixW s0.a s0.len v8 1 fun p_1 =>
  ldI .i64 h p_1 fun x_2 =>
  φ f1 [(.int .i64 x_2)] h fun v_3 h_4 =>
  isB v_3 fun y_5 =>
  br y_5
  (Q v8 h_4)
  (S1 s0 f1 v7 (IntKind.wrap .i64 (v8 + (1 : Int))) h_4))
  (Q (-1 : Int) h)

def slices_IndexFunc_int_int_L1 (ρ : Ids) (φ : Value → List Value → Hp → (Value → Hp → Prop) → Prop) (Q : Int → Hp → Prop) (s0 : Sl) (f1 : Value) (v7 : Int) (v8 : Int) (h : Hp) : Prop :=
  Lfp (fun S vals h => (tS fun s0 => tV fun f1 => tI .i64 fun v7 => tI .i64 fun v8 => tN (slices_IndexFunc_int_int_B1 ρ φ (fun s0 f1 v7 v8 hh => S [(.slice s0.a s0.len s0.cap), f1, (.int .i64 v7), (.int .i64 v8)] hh) Q s0 f1 v7 v8 h)) vals) [(.slice s0.a s0.len s0.cap), f1, (.int .i64 v7), (.int .i64 v8)] h

theorem slices_IndexFunc_int_int_L1_rule (ρ : Ids) (φ : Value → List Value → Hp → (Value → Hp → Prop) → Prop) (Q : Int → Hp → Prop) (Inv : Sl → Value → Int → Int → Hp → Prop) (μ : Sl → Value → Int → Int → Hp → Nat)
    (step : ∀ (s0 : Sl) (f1 : Value) (v7 : Int) (v8 : Int) (h : Hp), Inv s0 f1 v7 v8 h → slices_IndexFunc_int_int_B1 ρ φ (fun s0' f1' v7' v8' hh => Inv s0' f1' v7' v8' hh ∧ μ s0' f1' v7' v8' hh < μ s0 f1 v7 v8 h) Q s0 f1 v7 v8 h) :
    ∀ (s0 : Sl) (f1 : Value) (v7 : Int) (v8 : Int) (h : Hp), Inv s0 f1 v7 v8 h → slices_IndexFunc_int_int_L1 ρ φ Q s0 f1 v7 v8 h := by
  have key : ∀ (n : Nat) (s0 : Sl) (f1 : Value) (v7 : Int) (v8 : Int) (h : Hp), μ s0 f1 v7 v8 h = n → Inv s0 f1 v7 v8 h → slices_IndexFunc_int_int_L1 ρ φ Q s0 f1 v7 v8 h := by
    intro n
    induction n using Nat.strongRecOn with
    | _ n ih =>
    intro s0 f1 v7 v8 h hn hI R hR
    refine hR _ _ ⟨fun vals hh => (tS fun s0 => tV fun f1 => tI .i64 fun v7 => tI .i64 fun v8 => tN (Inv s0 f1 v7 v8 hh ∧ μ s0 f1 v7 v8 hh < n)) vals, ?_, ?_⟩
    · intro vals hh H
      obtain ⟨s0, rr, rfl, H1⟩ := tS_elim H
      obtain ⟨f1, rr, rfl, H2⟩ := tV_elim H1
      obtain ⟨v7, rr, rfl, H3⟩ := tI_elim H2
      obtain ⟨v8, rr, rfl, H4⟩ := tI_elim H3
      obtain ⟨rfl, H5⟩ := tN_elim H4
      exact ih _ H5.2 s0 f1 v7 v8 hh rfl H5.1 R hR
    · subst hn
      exact step s0 f1 v7 v8 h hI
  exact fun s0 f1 v7 v8 h hI => key _ s0 f1 v7 v8 h rfl hI

def slices_IndexFunc_int_int (ρ : Ids) (φ : Value → List Value → Hp → (Value → Hp → Prop) → Prop) (s0 : Sl) (f1 : Value) (h : Hp) (Q : Int → Hp → Prop) : Prop :=
  slices_IndexFunc_int_int_L1 ρ φ Q s0 f1 (s0.len : Int) (0 : Int) h

def slices_IndexFunc_int_int_S (ρ : Ids) (φ : Value → List Value → Hp → (Value → Hp → Prop) → Prop) : Spec := fun args h K =>
  (tS fun s0 => tV fun f1 => tN (slices_IndexFunc_int_int ρ φ s0 f1 h (fun r0 h => K (.int .i64 r0) h))) args

def lru_Cache_fit_K2 (ρ : Ids) (S1 : Addr → Addr → Int → Sl → Int → Int → Hp → Prop) (Q : Int → Hp → Prop) (c1 : Addr) (loose3_0 : Addr) (many4 : Int) (v12 : Sl) (v13 : Int) (v14 : Int) (h : Hp) : Prop :=
  S1 c1 loose3_0 many4 v12 v13 (IntKind.wrap .i64 (v14 + (1 : Int))) h

def lru_Cache_fit_B1 (ρ : Ids) (S1 : Addr → Addr → Int → Sl → Int → Int → Hp → Prop) (Q : Int → Hp → Prop) (c1 : Addr) (loose3_0 : Addr) (many4 : Int) (v12 : Sl) (v13 : Int) (v14 : Int) (h : Hp) : Prop :=
  br (decide (v14 < v13))
  (ixW v12.a v12.len v14 1 fun p_6 =>
  ldI .i64 h p_6 fun x_7 =>
  lru_Cache_fit_1 ρ x_7 loose3_0 h fun r_8 h_9 =>
  isB (.bool r_8) fun y_10 =>
  br y_10
  (lru_Cache_fit_K2 ρ S1 Q c1 loose3_0 (IntKind.wrap .i64 (many4 + (1 : Int))) v12 v13 v14 h_9)
  (lru_Cache_fit_K2 ρ S1 Q c1 loose3_0 many4 v12 v13 v14 h_9))
  (ldP h c1 fun x_11 =>
  nilW x_11 fun p_12 =>
  ldI .i64 h (p_12.add 0) fun x_13 =>
  br (decide (many4 ≤ x_13))
  (Q (-1 : Int) h)
  (ldP h c1 fun x_14 =>
  nilW x_14 fun p_15 =>
  ldS h (p_15.add 2) fun x_16 =>
  ldP h c1 fun x_17 =>
  nilW x_17 fun p_18 =>
  ldS h (p_18.add 2) fun x_19 =>
  slices_IndexFunc_int_int ρ (phi [(ρ.G 12, lru_Cache_fit_1_S ρ)]) x_19 (.func (.func (ρ.G 12)) #[] #[(.pointer (some loose3_0))]) h fun r_20 h_21 =>
  (hcell h_21 (p_15.add 2) = some (.slice x_16.a x_16.len x_16.cap)) ∧
  ((hcell h_21 c1 = some (.pointer x_14)) ∧
  (ixW x_16.a x_16.len r_20 1 fun p_22 =>
  ldI .i64 h_21 p_22 fun x_23 =>
  ldP h_21 c1 fun x_24 =>
  lru_Cache_Drop ρ x_24 x_23 h_21 fun r_25 h_26 =>
  Q x_23 h_26))))

def lru_Cache_fit_L1 (ρ : Ids) (Q : Int → Hp → Prop) (c1 : Addr) (loose3_0 : Addr) (many4 : Int) (v12 : Sl) (v13 : Int) (v14 : Int) (h : Hp) : Prop :=
  Lfp (fun S vals h => (tA fun c1 => tF (ρ.G 12) fun cells1 rest1 => (tA fun loose3_0 => tN ((tI .i64 fun many4 => tS fun v12 => tI .i64 fun v13 => tI .i64 fun v14 => tN (lru_Cache_fit_B1 ρ (fun c1 loose3_0 many4 v12 v13 v14 hh => S [(.pointer (some c1)), (.func (.func (ρ.G 12)) #[] #[(.pointer (some loose3_0))]), (.int .i64 many4), (.slice v12.a v12.len v12.cap), (.int .i64 v13), (.int .i64 v14)] hh) Q c1 loose3_0 many4 v12 v13 v14 h)) rest1)) cells1) vals) [(.pointer (some c1)), (.func (.func (ρ.G 12)) #[] #[(.pointer (some loose3_0))]), (.int .i64 many4), (.slice v12.a v12.len v12.cap), (.int .i64 v13), (.int .i64 v14)] h

theorem lru_Cache_fit_L1_rule (ρ : Ids) (Q : Int → Hp → Prop) (Inv : Addr → Addr → Int → Sl → Int → Int → Hp → Prop) (μ : Addr → Addr → Int → Sl → Int → Int → Hp → Nat)
    (step : ∀ (c1 : Addr) (loose3_0 : Addr) (many4 : Int) (v12 : Sl) (v13 : Int) (v14 : Int) (h : Hp), Inv c1 loose3_0 many4 v12 v13 v14 h → lru_Cache_fit_B1 ρ (fun c1' loose3_0' many4' v12' v13' v14' hh => Inv c1' loose3_0' many4' v12' v13' v14' hh ∧ μ c1' loose3_0' many4' v12' v13' v14' hh < μ c1 loose3_0 many4 v12 v13 v14 h) Q c1 loose3_0 many4 v12 v13 v14 h) :
    ∀ (c1 : Addr) (loose3_0 : Addr) (many4 : Int) (v12 : Sl) (v13 : Int) (v14 : Int) (h : Hp), Inv c1 loose3_0 many4 v12 v13 v14 h → lru_Cache_fit_L1 ρ Q c1 loose3_0 many4 v12 v13 v14 h := by
  have key : ∀ (n : Nat) (c1 : Addr) (loose3_0 : Addr) (many4 : Int) (v12 : Sl) (v13 : Int) (v14 : Int) (h : Hp), μ c1 loose3_0 many4 v12 v13 v14 h = n → Inv c1 loose3_0 many4 v12 v13 v14 h → lru_Cache_fit_L1 ρ Q c1 loose3_0 many4 v12 v13 v14 h := by
    intro n
    induction n using Nat.strongRecOn with
    | _ n ih =>
    intro c1 loose3_0 many4 v12 v13 v14 h hn hI R hR
    refine hR _ _ ⟨fun vals hh => (tA fun c1 => tF (ρ.G 12) fun cells1 rest1 => (tA fun loose3_0 => tN ((tI .i64 fun many4 => tS fun v12 => tI .i64 fun v13 => tI .i64 fun v14 => tN (Inv c1 loose3_0 many4 v12 v13 v14 hh ∧ μ c1 loose3_0 many4 v12 v13 v14 hh < n)) rest1)) cells1) vals, ?_, ?_⟩
    · intro vals hh H
      obtain ⟨c1, rr, rfl, H1⟩ := tA_elim H
      obtain ⟨cc1, rr1, rfl, H2⟩ := tF_elim H1
      obtain ⟨loose3_0, qq, rfl, H3⟩ := tA_elim H2
      obtain ⟨rfl, H4⟩ := tN_elim H3
      obtain ⟨many4, rr, rfl, H5⟩ := tI_elim H4
      obtain ⟨v12, rr, rfl, H6⟩ := tS_elim H5
      obtain ⟨v13, rr, rfl, H7⟩ := tI_elim H6
      obtain ⟨v14, rr, rfl, H8⟩ := tI_elim H7
      obtain ⟨rfl, H9⟩ := tN_elim H8
      exact ih _ H9.2 c1 loose3_0 many4 v12 v13 v14 hh rfl H9.1 R hR
    · subst hn
      simp only [tI, tA, tS, tN, tF_self, sameKind, cond_true]
      exact step c1 loose3_0 many4 v12 v13 v14 h hI
  exact fun c1 loose3_0 many4 v12 v13 v14 h hI => key _ c1 loose3_0 many4 v12 v13 v14 h rfl hI

def lru_Cache_fit (ρ : Ids) (c0 : Option Addr) (h : Hp) (Q : Int → Hp → Prop) : Prop :=
  alW h (ρ.T 3) [(.pointer c0)] fun p_1 h_2 =>
  ldP h_2 p_1 fun x_3 =>
  nilW x_3 fun p_4 =>
  ldS h_2 (p_4.add 2) fun x_5 =>
  lru_Cache_fit_L1 ρ Q p_1 p_1 (0 : Int) x_5 (x_5.len : Int) (0 : Int) h_2

def lru_Cache_fit_S (ρ : Ids) : Spec := fun args h K =>
  (tP fun c0 => tN (lru_Cache_fit ρ c0 h (fun r0 h => K (.int .i64 r0) h))) args

def lru_Cache_Put (ρ : Ids) (c0 : Option Addr) (item1 : Int) (page2 : Sl) (h : Hp) (Q : Int → Int → Hp → Prop) : Prop :=
  lru_Cache_ok ρ c0 h fun r_1 h_2 =>
  br (!r_1)
  (Q (-1 : Int) (2 : Int) h_2)
  (lru_isItem ρ item1 h_2 fun r_3 h_4 =>
  br (!r_3)
  (Q (-1 : Int) (1 : Int) h_4)
  (nilW c0 fun p_5 =>
  ldM h_4 (p_5.add 1) fun x_6 =>
  nilW c0 fun p_7 =>
  ldM h_4 (p_7.add 1) fun x_8 =>
  lkW (.int .i64) h_4 x_8 (.int .i64 item1) fun f_9 o_10 =>
  ∃ y_11 : Sl, ∃ y_12 : Bool, ((o_10.getD (.agg [(.slice none 0 0), (.bool false)].toArray)) = (.agg [(.slice y_11.a y_11.len y_11.cap), (.bool y_12)].toArray)) ∧
  bytes_Clone ρ page2 h_4 fun r_13 h_14 =>
  (f_9 h_14) ∧
  ((hcell h_14 (p_7.add 1) = some (.map x_8)) ∧
  ((hcell h_14 (p_5.add 1) = some (.map x_6)) ∧
  (muW (.int .i64) h_14 x_6 (.int .i64 item1) (.agg [(.slice r_13.a r_13.len r_13.cap), (.bool y_12)].toArray) fun h_15 =>
  lru_Cache_touch ρ c0 item1 h_15 fun h_16 =>
  lru_Cache_fit ρ c0 h_16 fun r_17 h_18 =>
  Q r_17 (0 : Int) h_18)))))

def lru_Cache_Put_S (ρ : Ids) : Spec := fun args h K =>
  (tP fun c0 => tI .i64 fun item1 => tS fun page2 => tN (lru_Cache_Put ρ c0 item1 page2 h (fun r0 r1 h => K (.tuple [(.int .i64 r0), (.int .i64 r1)].toArray) h))) args

def slices_Clone_int_int (ρ : Ids) (s0 : Sl) (h : Hp) (Q : Sl → Hp → Prop) : Prop :=
  br (Option.isNone s0.a)
  (Q (⟨none, 0, 0⟩ : Sl) h)
  (alW h (ρ.T 0) [] fun p_1 h_2 =>
  apW (ρ.T 0) 1 8 (.int .i64 (0 : Int)) h_2 (⟨some p_1, 0, 0⟩ : Sl) s0 fun s_3 h_4 =>
  Q s_3 h_4)

def slices_Clone_int_int_S (ρ : Ids) : Spec := fun args h K =>
  (tS fun s0 => tN (slices_Clone_int_int ρ s0 h (fun r0 h => K (.slice r0.a r0.len r0.cap) h))) args

def slices_Reverse_int_int_B1 (ρ : Ids) (S1 : Sl → Int → Int → Hp → Prop) (Q : Hp → Prop) (s0 : Sl) (i2 : Int) (j3 : Int) (h : Hp) : Prop :=
  br (decide (i2 < j3))
  (ixW s0.a s0.len j3 1 fun p_1 =>
  ldI .i64 h p_1 fun x_2 =>
  ixW s0.a s0.len i2 1 fun p_3 =>
  ldI .i64 h p_3 fun x_4 =>
  ixW s0.a s0.len i2 1 fun p_5 =>
  st h (p_5.add 0) (.int .i64 x_2) fun h_6 =>
  ixW s0.a s0.len j3 1 fun p_7 =>
  st h_6 (p_7.add 0) (.int .i64 x_4) fun h_8 =>
  S1 s0 (IntKind.wrap .i64 (i2 + (1 : Int))) (IntKind.wrap .i64 (j3 - (1 : Int))) h_8)
  (Q h)

def slices_Reverse_int_int_L1 (ρ : Ids) (Q : Hp → Prop) (s0 : Sl) (i2 : Int) (j3 : Int) (h : Hp) : Prop :=
  Lfp (fun S vals h => (tS fun s0 => tI .i64 fun i2 => tI .i64 fun j3 => tN (slices_Reverse_int_int_B1 ρ (fun s0 i2 j3 hh => S [(.slice s0.a s0.len s0.cap), (.int .i64 i2), (.int .i64 j3)] hh) Q s0 i2 j3 h)) vals) [(.slice s0.a s0.len s0.cap), (.int .i64 i2), (.int .i64 j3)] h

theorem slices_Reverse_int_int_L1_rule (ρ : Ids) (Q : Hp → Prop) (Inv : Sl → Int → Int → Hp → Prop) (μ : Sl → Int → Int → Hp → Nat)
    (step : ∀ (s0 : Sl) (i2 : Int) (j3 : Int) (h : Hp), Inv s0 i2 j3 h → slices_Reverse_int_int_B1 ρ (fun s0' i2' j3' hh => Inv s0' i2' j3' hh ∧ μ s0' i2' j3' hh < μ s0 i2 j3 h) Q s0 i2 j3 h) :
    ∀ (s0 : Sl) (i2 : Int) (j3 : Int) (h : Hp), Inv s0 i2 j3 h → slices_Reverse_int_int_L1 ρ Q s0 i2 j3 h := by
  have key : ∀ (n : Nat) (s0 : Sl) (i2 : Int) (j3 : Int) (h : Hp), μ s0 i2 j3 h = n → Inv s0 i2 j3 h → slices_Reverse_int_int_L1 ρ Q s0 i2 j3 h := by
    intro n
    induction n using Nat.strongRecOn with
    | _ n ih =>
    intro s0 i2 j3 h hn hI R hR
    refine hR _ _ ⟨fun vals hh => (tS fun s0 => tI .i64 fun i2 => tI .i64 fun j3 => tN (Inv s0 i2 j3 hh ∧ μ s0 i2 j3 hh < n)) vals, ?_, ?_⟩
    · intro vals hh H
      obtain ⟨s0, rr, rfl, H1⟩ := tS_elim H
      obtain ⟨i2, rr, rfl, H2⟩ := tI_elim H1
      obtain ⟨j3, rr, rfl, H3⟩ := tI_elim H2
      obtain ⟨rfl, H4⟩ := tN_elim H3
      exact ih _ H4.2 s0 i2 j3 hh rfl H4.1 R hR
    · subst hn
      exact step s0 i2 j3 h hI
  exact fun s0 i2 j3 h hI => key _ s0 i2 j3 h rfl hI

def slices_Reverse_int_int (ρ : Ids) (s0 : Sl) (h : Hp) (Q : Hp → Prop) : Prop :=
  slices_Reverse_int_int_L1 ρ Q s0 (0 : Int) (IntKind.wrap .i64 ((s0.len : Int) - (1 : Int))) h

def slices_Reverse_int_int_S (ρ : Ids) : Spec := fun args h K =>
  (tS fun s0 => tN (slices_Reverse_int_int ρ s0 h (fun h => K (.tuple [].toArray) h))) args

def lru_Cache_Order (ρ : Ids) (c0 : Option Addr) (h : Hp) (Q : Sl → Hp → Prop) : Prop :=
  lru_Cache_ok ρ c0 h fun r_1 h_2 =>
  br (!r_1)
  (Q (⟨none, 0, 0⟩ : Sl) h_2)
  (nilW c0 fun p_3 =>
  ldS h_2 (p_3.add 2) fun x_4 =>
  slices_Clone_int_int ρ x_4 h_2 fun r_5 h_6 =>
  slices_Reverse_int_int ρ r_5 h_6 fun h_7 =>
  Q r_5 h_7)

def lru_Cache_Order_S (ρ : Ids) : Spec := fun args h K =>
  (tP fun c0 => tN (lru_Cache_Order ρ c0 h (fun r0 h => K (.slice r0.a r0.len r0.cap) h))) args

def lru_Cache_Len (ρ : Ids) (c0 : Option Addr) (h : Hp) (Q : Int → Hp → Prop) : Prop :=
  lru_Cache_Order ρ c0 h fun r_1 h_2 =>
  Q (r_1.len : Int) h_2

def lru_Cache_Len_S (ρ : Ids) : Spec := fun args h K =>
  (tP fun c0 => tN (lru_Cache_Len ρ c0 h (fun r0 h => K (.int .i64 r0) h))) args

def lru_Cache_Pin (ρ : Ids) (c0 : Option Addr) (item1 : Int) (page2 : Sl) (h : Hp) (Q : Int → Hp → Prop) : Prop :=
  lru_Cache_ok ρ c0 h fun r_1 h_2 =>
  br (!r_1)
  (Q (2 : Int) h_2)
  (lru_isItem ρ item1 h_2 fun r_3 h_4 =>
  br (!r_3)
  (Q (1 : Int) h_4)
  (nilW c0 fun p_5 =>
  ldM h_4 (p_5.add 1) fun x_6 =>
  bytes_Clone ρ page2 h_4 fun r_7 h_8 =>
  (hcell h_8 (p_5.add 1) = some (.map x_6)) ∧
  (muW (.int .i64) h_8 x_6 (.int .i64 item1) (.agg [(.slice r_7.a r_7.len r_7.cap), (.bool true)].toArray) fun h_9 =>
  lru_Cache_touch ρ c0 item1 h_9 fun h_10 =>
  Q (0 : Int) h_10)))

def lru_Cache_Pin_S (ρ : Ids) : Spec := fun args h K =>
  (tP fun c0 => tI .i64 fun item1 => tS fun page2 => tN (lru_Cache_Pin ρ c0 item1 page2 h (fun r0 h => K (.int .i64 r0) h))) args

def carlinglaw15_alive_K1 (ρ : Ids) (Q : Bool → Hp → Prop) (c1 : Option Addr) (v18 : Bool) (h : Hp) : Prop :=
  br v18
  (Q false h)
  (alW h (ρ.T 1) [(.int .u8 (5 : Int))] fun p_4 h_5 =>
  lru_Cache_Put ρ c1 (1 : Int) (⟨some p_4, 1, 1⟩ : Sl) h_5 fun r_6 r_7 h_8 =>
  lru_Cache_Put ρ c1 (2 : Int) (⟨none, 0, 0⟩ : Sl) h_8 fun r_9 r_10 h_11 =>
  lru_Cache_Pin ρ c1 (3 : Int) (⟨none, 0, 0⟩ : Sl) h_11 fun r_12 h_13 =>
  lru_Cache_Order ρ c1 h_13 fun r_14 h_15 =>
  br (r_6 == (-1 : Int))
  (br (r_9 == (1 : Int))
  (br (r_12 == (0 : Int))
  (br ((r_14.len : Int) == (2 : Int))
  (ixW r_14.a r_14.len (0 : Int) 1 fun p_16 =>
  ldI .i64 h_15 p_16 fun x_17 =>
  br (x_17 == (3 : Int))
  (ixW r_14.a r_14.len (1 : Int) 1 fun p_18 =>
  ldI .i64 h_15 p_18 fun x_19 =>
  br (x_19 == (2 : Int))
  (lru_Cache_Has ρ c1 (1 : Int) h_15 fun r_20 h_21 =>
  Q (!r_20) h_21)
  (Q false h_15))
  (Q false h_15))
  (Q false h_15))
  (Q false h_15))
  (Q false h_15))
  (Q false h_15))

def carlinglaw15_alive (ρ : Ids)  (h : Hp) (Q : Bool → Hp → Prop) : Prop :=
  lru_New ρ (1 : Int) h fun r_1 r_2 h_3 =>
  br (Option.isNone r_1)
  (carlinglaw15_alive_K1 ρ Q r_1 true h_3)
  (carlinglaw15_alive_K1 ρ Q r_1 (r_2 != (0 : Int)) h_3)

def carlinglaw15_alive_S (ρ : Ids) : Spec := fun args h K =>
  (tN (carlinglaw15_alive ρ  h (fun r0 h => K (.bool r0) h))) args

def carlinglaw15_LruOldest_K4 (ρ : Ids) (S2 : Int → Option Addr → Sl → Sl → Int → Int → Hp → Prop) (S3 : Int → Option Addr → Int → Int → Sl → Sl → Int → Int → Sl → Int → Int → Hp → Prop) (Q : Bool → Hp → Prop) (n5 : Int) (c6 : Option Addr) (x10 : Int) (item11 : Int) (rest12 : Sl) (v39 : Sl) (v40 : Int) (v41 : Int) (v48 : Sl) (v49 : Int) (v50 : Int) (h : Hp) : Prop :=
  S3 n5 c6 x10 item11 rest12 v39 v40 v41 v48 v49 (IntKind.wrap .i64 (v50 + (1 : Int))) h

def carlinglaw15_LruOldest_B6 (ρ : Ids) (S2 : Int → Option Addr → Sl → Sl → Int → Int → Hp → Prop) (S6 : Int → Option Addr → Sl → Sl → Int → Int → Sl → Int → Int → Hp → Prop) (Q : Bool → Hp → Prop) (n5 : Int) (c6 : Option Addr) (used8 : Sl) (v39 : Sl) (v40 : Int) (v41 : Int) (v97 : Sl) (v98 : Int) (v99 : Int) (h : Hp) : Prop :=
  br (decide (v99 < v98))
  (ixW v97.a v97.len v99 1 fun p_18 =>
  ldI .i64 h p_18 fun x_19 =>
  lru_Cache_Has ρ c6 x_19 h fun r_20 h_21 =>
  br (!r_20)
  (Q false h_21)
  (S6 n5 c6 used8 v39 v40 v41 v97 v98 (IntKind.wrap .i64 (v99 + (1 : Int))) h_21))
  (S2 n5 c6 used8 v39 v40 (IntKind.wrap .i64 (v41 + (1 : Int))) h)

def carlinglaw15_LruOldest_L6 (ρ : Ids) (S2 : Int → Option Addr → Sl → Sl → Int → Int → Hp → Prop) (Q : Bool → Hp → Prop) (n5 : Int) (c6 : Option Addr) (used8 : Sl) (v39 : Sl) (v40 : Int) (v41 : Int) (v97 : Sl) (v98 : Int) (v99 : Int) (h : Hp) : Prop :=
  Lfp (fun S vals h => (tI .i64 fun n5 => tP fun c6 => tS fun used8 => tS fun v39 => tI .i64 fun v40 => tI .i64 fun v41 => tS fun v97 => tI .i64 fun v98 => tI .i64 fun v99 => tN (carlinglaw15_LruOldest_B6 ρ S2 (fun n5 c6 used8 v39 v40 v41 v97 v98 v99 hh => S [(.int .i64 n5), (.pointer c6), (.slice used8.a used8.len used8.cap), (.slice v39.a v39.len v39.cap), (.int .i64 v40), (.int .i64 v41), (.slice v97.a v97.len v97.cap), (.int .i64 v98), (.int .i64 v99)] hh) Q n5 c6 used8 v39 v40 v41 v97 v98 v99 h)) vals) [(.int .i64 n5), (.pointer c6), (.slice used8.a used8.len used8.cap), (.slice v39.a v39.len v39.cap), (.int .i64 v40), (.int .i64 v41), (.slice v97.a v97.len v97.cap), (.int .i64 v98), (.int .i64 v99)] h

theorem carlinglaw15_LruOldest_L6_rule (ρ : Ids) (S2 : Int → Option Addr → Sl → Sl → Int → Int → Hp → Prop) (Q : Bool → Hp → Prop) (Inv : Int → Option Addr → Sl → Sl → Int → Int → Sl → Int → Int → Hp → Prop) (μ : Int → Option Addr → Sl → Sl → Int → Int → Sl → Int → Int → Hp → Nat)
    (step : ∀ (n5 : Int) (c6 : Option Addr) (used8 : Sl) (v39 : Sl) (v40 : Int) (v41 : Int) (v97 : Sl) (v98 : Int) (v99 : Int) (h : Hp), Inv n5 c6 used8 v39 v40 v41 v97 v98 v99 h → carlinglaw15_LruOldest_B6 ρ S2 (fun n5' c6' used8' v39' v40' v41' v97' v98' v99' hh => Inv n5' c6' used8' v39' v40' v41' v97' v98' v99' hh ∧ μ n5' c6' used8' v39' v40' v41' v97' v98' v99' hh < μ n5 c6 used8 v39 v40 v41 v97 v98 v99 h) Q n5 c6 used8 v39 v40 v41 v97 v98 v99 h) :
    ∀ (n5 : Int) (c6 : Option Addr) (used8 : Sl) (v39 : Sl) (v40 : Int) (v41 : Int) (v97 : Sl) (v98 : Int) (v99 : Int) (h : Hp), Inv n5 c6 used8 v39 v40 v41 v97 v98 v99 h → carlinglaw15_LruOldest_L6 ρ S2 Q n5 c6 used8 v39 v40 v41 v97 v98 v99 h := by
  have key : ∀ (n : Nat) (n5 : Int) (c6 : Option Addr) (used8 : Sl) (v39 : Sl) (v40 : Int) (v41 : Int) (v97 : Sl) (v98 : Int) (v99 : Int) (h : Hp), μ n5 c6 used8 v39 v40 v41 v97 v98 v99 h = n → Inv n5 c6 used8 v39 v40 v41 v97 v98 v99 h → carlinglaw15_LruOldest_L6 ρ S2 Q n5 c6 used8 v39 v40 v41 v97 v98 v99 h := by
    intro n
    induction n using Nat.strongRecOn with
    | _ n ih =>
    intro n5 c6 used8 v39 v40 v41 v97 v98 v99 h hn hI R hR
    refine hR _ _ ⟨fun vals hh => (tI .i64 fun n5 => tP fun c6 => tS fun used8 => tS fun v39 => tI .i64 fun v40 => tI .i64 fun v41 => tS fun v97 => tI .i64 fun v98 => tI .i64 fun v99 => tN (Inv n5 c6 used8 v39 v40 v41 v97 v98 v99 hh ∧ μ n5 c6 used8 v39 v40 v41 v97 v98 v99 hh < n)) vals, ?_, ?_⟩
    · intro vals hh H
      obtain ⟨n5, rr, rfl, H1⟩ := tI_elim H
      obtain ⟨c6, rr, rfl, H2⟩ := tP_elim H1
      obtain ⟨used8, rr, rfl, H3⟩ := tS_elim H2
      obtain ⟨v39, rr, rfl, H4⟩ := tS_elim H3
      obtain ⟨v40, rr, rfl, H5⟩ := tI_elim H4
      obtain ⟨v41, rr, rfl, H6⟩ := tI_elim H5
      obtain ⟨v97, rr, rfl, H7⟩ := tS_elim H6
      obtain ⟨v98, rr, rfl, H8⟩ := tI_elim H7
      obtain ⟨v99, rr, rfl, H9⟩ := tI_elim H8
      obtain ⟨rfl, H10⟩ := tN_elim H9
      exact ih _ H10.2 n5 c6 used8 v39 v40 v41 v97 v98 v99 hh rfl H10.1 R hR
    · subst hn
      exact step n5 c6 used8 v39 v40 v41 v97 v98 v99 h hI
  exact fun n5 c6 used8 v39 v40 v41 v97 v98 v99 h hI => key _ n5 c6 used8 v39 v40 v41 v97 v98 v99 h rfl hI

def carlinglaw15_LruOldest_K5 (ρ : Ids) (S2 : Int → Option Addr → Sl → Sl → Int → Int → Hp → Prop) (Q : Bool → Hp → Prop) (n5 : Int) (c6 : Option Addr) (used8 : Sl) (v39 : Sl) (v40 : Int) (v41 : Int) (v96 : Bool) (h : Hp) : Prop :=
  br v96
  (Q false h)
  (carlinglaw15_LruOldest_L6 ρ S2 Q n5 c6 used8 v39 v40 v41 used8 (used8.len : Int) (0 : Int) h)

def carlinglaw15_LruOldest_K7 (ρ : Ids) (S2 : Int → Option Addr → Sl → Sl → Int → Int → Hp → Prop) (Q : Bool → Hp → Prop) (n5 : Int) (c6 : Option Addr) (x10 : Int) (item11 : Int) (rest12 : Sl) (want15 : Int) (v39 : Sl) (v40 : Int) (v41 : Int) (h : Hp) : Prop :=
  alW h (ρ.T 0) [(.int .i64 item11)] fun p_22 h_23 =>
  apW (ρ.T 0) 1 8 (.int .i64 (0 : Int)) h_23 rest12 (⟨some p_22, 1, 1⟩ : Sl) fun s_24 h_25 =>
  alW h_25 (ρ.T 1) [(.int .u8 x10)] fun p_26 h_27 =>
  lru_Cache_Put ρ c6 item11 (⟨some p_26, 1, 1⟩ : Sl) h_27 fun r_28 r_29 h_30 =>
  br (r_28 != want15)
  (carlinglaw15_LruOldest_K5 ρ S2 Q n5 c6 s_24 v39 v40 v41 true h_30)
  (br (r_29 != (0 : Int))
  (carlinglaw15_LruOldest_K5 ρ S2 Q n5 c6 s_24 v39 v40 v41 true h_30)
  (lru_Cache_Len ρ c6 h_30 fun r_31 h_32 =>
  carlinglaw15_LruOldest_K5 ρ S2 Q n5 c6 s_24 v39 v40 v41 (r_31 != (s_24.len : Int)) h_32))

def carlinglaw15_LruOldest_B3 (ρ : Ids) (S2 : Int → Option Addr → Sl → Sl → Int → Int → Hp → Prop) (S3 : Int → Option Addr → Int → Int → Sl → Sl → Int → Int → Sl → Int → Int → Hp → Prop) (Q : Bool → Hp → Prop) (n5 : Int) (c6 : Option Addr) (x10 : Int) (item11 : Int) (rest12 : Sl) (v39 : Sl) (v40 : Int) (v41 : Int) (v48 : Sl) (v49 : Int) (v50 : Int) (h : Hp) : Prop :=
  br (decide (v50 < v49))
  (ixW v48.a v48.len v50 1 fun p_9 =>
  ldI .i64 h p_9 fun x_10 =>
  br (x_10 != item11)
  (alW h (ρ.T 0) [(.int .i64 x_10)] fun p_11 h_12 =>
  apW (ρ.T 0) 1 8 (.int .i64 (0 : Int)) h_12 rest12 (⟨some p_11, 1, 1⟩ : Sl) fun s_13 h_14 =>
  carlinglaw15_LruOldest_K4 ρ S2 S3 Q n5 c6 x10 item11 s_13 v39 v40 v41 v48 v49 v50 h_14)
  (carlinglaw15_LruOldest_K4 ρ S2 S3 Q n5 c6 x10 item11 rest12 v39 v40 v41 v48 v49 v50 h))
  (br ((rest12.len : Int) == n5)
  (ixW rest12.a rest12.len (0 : Int) 1 fun p_15 =>
  ldI .i64 h p_15 fun x_16 =>
  slW rest12 (1 : Int) (rest12.len : Int) 1 fun s_17 =>
  carlinglaw15_LruOldest_K7 ρ S2 Q n5 c6 x10 item11 s_17 x_16 v39 v40 v41 h)
  (carlinglaw15_LruOldest_K7 ρ S2 Q n5 c6 x10 item11 rest12 (-1 : Int) v39 v40 v41 h))

def carlinglaw15_LruOldest_L3 (ρ : Ids) (S2 : Int → Option Addr → Sl → Sl → Int → Int → Hp → Prop) (Q : Bool → Hp → Prop) (n5 : Int) (c6 : Option Addr) (x10 : Int) (item11 : Int) (rest12 : Sl) (v39 : Sl) (v40 : Int) (v41 : Int) (v48 : Sl) (v49 : Int) (v50 : Int) (h : Hp) : Prop :=
  Lfp (fun S vals h => (tI .i64 fun n5 => tP fun c6 => tI .u8 fun x10 => tI .i64 fun item11 => tS fun rest12 => tS fun v39 => tI .i64 fun v40 => tI .i64 fun v41 => tS fun v48 => tI .i64 fun v49 => tI .i64 fun v50 => tN (carlinglaw15_LruOldest_B3 ρ S2 (fun n5 c6 x10 item11 rest12 v39 v40 v41 v48 v49 v50 hh => S [(.int .i64 n5), (.pointer c6), (.int .u8 x10), (.int .i64 item11), (.slice rest12.a rest12.len rest12.cap), (.slice v39.a v39.len v39.cap), (.int .i64 v40), (.int .i64 v41), (.slice v48.a v48.len v48.cap), (.int .i64 v49), (.int .i64 v50)] hh) Q n5 c6 x10 item11 rest12 v39 v40 v41 v48 v49 v50 h)) vals) [(.int .i64 n5), (.pointer c6), (.int .u8 x10), (.int .i64 item11), (.slice rest12.a rest12.len rest12.cap), (.slice v39.a v39.len v39.cap), (.int .i64 v40), (.int .i64 v41), (.slice v48.a v48.len v48.cap), (.int .i64 v49), (.int .i64 v50)] h

theorem carlinglaw15_LruOldest_L3_rule (ρ : Ids) (S2 : Int → Option Addr → Sl → Sl → Int → Int → Hp → Prop) (Q : Bool → Hp → Prop) (Inv : Int → Option Addr → Int → Int → Sl → Sl → Int → Int → Sl → Int → Int → Hp → Prop) (μ : Int → Option Addr → Int → Int → Sl → Sl → Int → Int → Sl → Int → Int → Hp → Nat)
    (step : ∀ (n5 : Int) (c6 : Option Addr) (x10 : Int) (item11 : Int) (rest12 : Sl) (v39 : Sl) (v40 : Int) (v41 : Int) (v48 : Sl) (v49 : Int) (v50 : Int) (h : Hp), Inv n5 c6 x10 item11 rest12 v39 v40 v41 v48 v49 v50 h → carlinglaw15_LruOldest_B3 ρ S2 (fun n5' c6' x10' item11' rest12' v39' v40' v41' v48' v49' v50' hh => Inv n5' c6' x10' item11' rest12' v39' v40' v41' v48' v49' v50' hh ∧ μ n5' c6' x10' item11' rest12' v39' v40' v41' v48' v49' v50' hh < μ n5 c6 x10 item11 rest12 v39 v40 v41 v48 v49 v50 h) Q n5 c6 x10 item11 rest12 v39 v40 v41 v48 v49 v50 h) :
    ∀ (n5 : Int) (c6 : Option Addr) (x10 : Int) (item11 : Int) (rest12 : Sl) (v39 : Sl) (v40 : Int) (v41 : Int) (v48 : Sl) (v49 : Int) (v50 : Int) (h : Hp), Inv n5 c6 x10 item11 rest12 v39 v40 v41 v48 v49 v50 h → carlinglaw15_LruOldest_L3 ρ S2 Q n5 c6 x10 item11 rest12 v39 v40 v41 v48 v49 v50 h := by
  have key : ∀ (n : Nat) (n5 : Int) (c6 : Option Addr) (x10 : Int) (item11 : Int) (rest12 : Sl) (v39 : Sl) (v40 : Int) (v41 : Int) (v48 : Sl) (v49 : Int) (v50 : Int) (h : Hp), μ n5 c6 x10 item11 rest12 v39 v40 v41 v48 v49 v50 h = n → Inv n5 c6 x10 item11 rest12 v39 v40 v41 v48 v49 v50 h → carlinglaw15_LruOldest_L3 ρ S2 Q n5 c6 x10 item11 rest12 v39 v40 v41 v48 v49 v50 h := by
    intro n
    induction n using Nat.strongRecOn with
    | _ n ih =>
    intro n5 c6 x10 item11 rest12 v39 v40 v41 v48 v49 v50 h hn hI R hR
    refine hR _ _ ⟨fun vals hh => (tI .i64 fun n5 => tP fun c6 => tI .u8 fun x10 => tI .i64 fun item11 => tS fun rest12 => tS fun v39 => tI .i64 fun v40 => tI .i64 fun v41 => tS fun v48 => tI .i64 fun v49 => tI .i64 fun v50 => tN (Inv n5 c6 x10 item11 rest12 v39 v40 v41 v48 v49 v50 hh ∧ μ n5 c6 x10 item11 rest12 v39 v40 v41 v48 v49 v50 hh < n)) vals, ?_, ?_⟩
    · intro vals hh H
      obtain ⟨n5, rr, rfl, H1⟩ := tI_elim H
      obtain ⟨c6, rr, rfl, H2⟩ := tP_elim H1
      obtain ⟨x10, rr, rfl, H3⟩ := tI_elim H2
      obtain ⟨item11, rr, rfl, H4⟩ := tI_elim H3
      obtain ⟨rest12, rr, rfl, H5⟩ := tS_elim H4
      obtain ⟨v39, rr, rfl, H6⟩ := tS_elim H5
      obtain ⟨v40, rr, rfl, H7⟩ := tI_elim H6
      obtain ⟨v41, rr, rfl, H8⟩ := tI_elim H7
      obtain ⟨v48, rr, rfl, H9⟩ := tS_elim H8
      obtain ⟨v49, rr, rfl, H10⟩ := tI_elim H9
      obtain ⟨v50, rr, rfl, H11⟩ := tI_elim H10
      obtain ⟨rfl, H12⟩ := tN_elim H11
      exact ih _ H12.2 n5 c6 x10 item11 rest12 v39 v40 v41 v48 v49 v50 hh rfl H12.1 R hR
    · subst hn
      exact step n5 c6 x10 item11 rest12 v39 v40 v41 v48 v49 v50 h hI
  exact fun n5 c6 x10 item11 rest12 v39 v40 v41 v48 v49 v50 h hI => key _ n5 c6 x10 item11 rest12 v39 v40 v41 v48 v49 v50 h rfl hI

def carlinglaw15_LruOldest_B2 (ρ : Ids) (S2 : Int → Option Addr → Sl → Sl → Int → Int → Hp → Prop) (Q : Bool → Hp → Prop) (n5 : Int) (c6 : Option Addr) (used8 : Sl) (v39 : Sl) (v40 : Int) (v41 : Int) (h : Hp) : Prop :=
  br (decide (v41 < v40))
  (ixW v39.a v39.len v41 1 fun p_5 =>
  ldI .u8 h p_5 fun x_6 =>
  ((20 : Int) ≠ 0) ∧
  carlinglaw15_LruOldest_L3 ρ S2 Q n5 c6 x_6 (Int.tmod (IntKind.wrap .i64 x_6) (20 : Int)) (⟨none, 0, 0⟩ : Sl) v39 v40 v41 used8 (used8.len : Int) (0 : Int) h)
  (carlinglaw15_alive ρ  h fun r_7 h_8 =>
  Q r_7 h_8)

def carlinglaw15_LruOldest_L2 (ρ : Ids) (Q : Bool → Hp → Prop) (n5 : Int) (c6 : Option Addr) (used8 : Sl) (v39 : Sl) (v40 : Int) (v41 : Int) (h : Hp) : Prop :=
  Lfp (fun S vals h => (tI .i64 fun n5 => tP fun c6 => tS fun used8 => tS fun v39 => tI .i64 fun v40 => tI .i64 fun v41 => tN (carlinglaw15_LruOldest_B2 ρ (fun n5 c6 used8 v39 v40 v41 hh => S [(.int .i64 n5), (.pointer c6), (.slice used8.a used8.len used8.cap), (.slice v39.a v39.len v39.cap), (.int .i64 v40), (.int .i64 v41)] hh) Q n5 c6 used8 v39 v40 v41 h)) vals) [(.int .i64 n5), (.pointer c6), (.slice used8.a used8.len used8.cap), (.slice v39.a v39.len v39.cap), (.int .i64 v40), (.int .i64 v41)] h

theorem carlinglaw15_LruOldest_L2_rule (ρ : Ids) (Q : Bool → Hp → Prop) (Inv : Int → Option Addr → Sl → Sl → Int → Int → Hp → Prop) (μ : Int → Option Addr → Sl → Sl → Int → Int → Hp → Nat)
    (step : ∀ (n5 : Int) (c6 : Option Addr) (used8 : Sl) (v39 : Sl) (v40 : Int) (v41 : Int) (h : Hp), Inv n5 c6 used8 v39 v40 v41 h → carlinglaw15_LruOldest_B2 ρ (fun n5' c6' used8' v39' v40' v41' hh => Inv n5' c6' used8' v39' v40' v41' hh ∧ μ n5' c6' used8' v39' v40' v41' hh < μ n5 c6 used8 v39 v40 v41 h) Q n5 c6 used8 v39 v40 v41 h) :
    ∀ (n5 : Int) (c6 : Option Addr) (used8 : Sl) (v39 : Sl) (v40 : Int) (v41 : Int) (h : Hp), Inv n5 c6 used8 v39 v40 v41 h → carlinglaw15_LruOldest_L2 ρ Q n5 c6 used8 v39 v40 v41 h := by
  have key : ∀ (n : Nat) (n5 : Int) (c6 : Option Addr) (used8 : Sl) (v39 : Sl) (v40 : Int) (v41 : Int) (h : Hp), μ n5 c6 used8 v39 v40 v41 h = n → Inv n5 c6 used8 v39 v40 v41 h → carlinglaw15_LruOldest_L2 ρ Q n5 c6 used8 v39 v40 v41 h := by
    intro n
    induction n using Nat.strongRecOn with
    | _ n ih =>
    intro n5 c6 used8 v39 v40 v41 h hn hI R hR
    refine hR _ _ ⟨fun vals hh => (tI .i64 fun n5 => tP fun c6 => tS fun used8 => tS fun v39 => tI .i64 fun v40 => tI .i64 fun v41 => tN (Inv n5 c6 used8 v39 v40 v41 hh ∧ μ n5 c6 used8 v39 v40 v41 hh < n)) vals, ?_, ?_⟩
    · intro vals hh H
      obtain ⟨n5, rr, rfl, H1⟩ := tI_elim H
      obtain ⟨c6, rr, rfl, H2⟩ := tP_elim H1
      obtain ⟨used8, rr, rfl, H3⟩ := tS_elim H2
      obtain ⟨v39, rr, rfl, H4⟩ := tS_elim H3
      obtain ⟨v40, rr, rfl, H5⟩ := tI_elim H4
      obtain ⟨v41, rr, rfl, H6⟩ := tI_elim H5
      obtain ⟨rfl, H7⟩ := tN_elim H6
      exact ih _ H7.2 n5 c6 used8 v39 v40 v41 hh rfl H7.1 R hR
    · subst hn
      exact step n5 c6 used8 v39 v40 v41 h hI
  exact fun n5 c6 used8 v39 v40 v41 h hI => key _ n5 c6 used8 v39 v40 v41 h rfl hI

def carlinglaw15_LruOldest_K1 (ρ : Ids) (Q : Bool → Hp → Prop) (items1 : Sl) (n5 : Int) (c6 : Option Addr) (v34 : Bool) (h : Hp) : Prop :=
  br v34
  (Q false h)
  (slW items1 (0 : Int) (if (100 : Int) < (items1.len : Int) then (100 : Int) else (items1.len : Int)) 1 fun s_4 =>
  carlinglaw15_LruOldest_L2 ρ Q n5 c6 (⟨none, 0, 0⟩ : Sl) s_4 (s_4.len : Int) (0 : Int) h)

def carlinglaw15_LruOldest (ρ : Ids) (room0 : Int) (items1 : Sl) (h : Hp) (Q : Bool → Hp → Prop) : Prop :=
  ((8 : Int) ≠ 0) ∧
  lru_New ρ (IntKind.wrap .i64 ((Int.tmod (IntKind.wrap .i64 room0) (8 : Int)) + (1 : Int))) h fun r_1 r_2 h_3 =>
  br (Option.isNone r_1)
  (carlinglaw15_LruOldest_K1 ρ Q items1 (IntKind.wrap .i64 ((Int.tmod (IntKind.wrap .i64 room0) (8 : Int)) + (1 : Int))) r_1 true h_3)
  (carlinglaw15_LruOldest_K1 ρ Q items1 (IntKind.wrap .i64 ((Int.tmod (IntKind.wrap .i64 room0) (8 : Int)) + (1 : Int))) r_1 (r_2 != (0 : Int)) h_3)

def carlinglaw15_LruOldest_S (ρ : Ids) : Spec := fun args h K =>
  (tI .u8 fun room0 => tS fun items1 => tN (carlinglaw15_LruOldest ρ room0 items1 h (fun r0 h => K (.bool r0) h))) args

end Go.Tx
