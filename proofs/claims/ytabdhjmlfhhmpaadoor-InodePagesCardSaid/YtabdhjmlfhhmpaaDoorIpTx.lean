import Derived.Test.YtabdhjmlfhhmpaaDoorIpShT
set_option linter.unusedSimpArgs false
set_option linter.unusedVariables false
namespace Go.Tx
open Go Go.Wc

def pack_Read (ρ : Ids) (b0 : Sl) (h : Hp) (Q : Option Addr → Hp → Prop) : Prop :=
  alW h (ρ.T 10) [(.slice b0.a b0.len b0.cap), (.int .i64 (0 : Int))] fun p_1 h_2 =>
  Q (some p_1) h_2

def pack_Read_S (ρ : Ids) : Spec := fun args h K =>
  (tS fun b0 => tN (pack_Read ρ b0 h (fun r0 h => K (.pointer r0) h))) args

def bytes_Clone (ρ : Ids) (b0 : Sl) (h : Hp) (Q : Sl → Hp → Prop) : Prop :=
  br (Option.isNone b0.a)
  (Q (⟨none, 0, 0⟩ : Sl) h)
  (alW h (ρ.T 1) [] fun p_1 h_2 =>
  apW (ρ.T 1) 1 1 (.int .u8 (0 : Int)) h_2 (⟨some p_1, 0, 0⟩ : Sl) b0 fun s_3 h_4 =>
  Q s_3 h_4)

def bytes_Clone_S (ρ : Ids) : Spec := fun args h K =>
  (tS fun b0 => tN (bytes_Clone ρ b0 h (fun r0 h => K (.slice r0.a r0.len r0.cap) h))) args

def pack_Reader_Err (ρ : Ids) (r0 : Option Addr) (h : Hp) (Q : Int → Hp → Prop) : Prop :=
  br (Option.isNone r0)
  (Q (2 : Int) h)
  (nilW r0 fun p_1 =>
  ldI .i64 h (p_1.add 1) fun x_2 =>
  Q x_2 h)

def pack_Reader_Err_S (ρ : Ids) : Spec := fun args h K =>
  (tP fun r0 => tN (pack_Reader_Err ρ r0 h (fun r0 h => K (.int .i64 r0) h))) args

def pack_Reader_fail (ρ : Ids) (r0 : Option Addr) (e1 : Int) (h : Hp) (Q : Hp → Prop) : Prop :=
  nilW r0 fun p_1 =>
  ldI .i64 h (p_1.add 1) fun x_2 =>
  br (x_2 == (0 : Int))
  (nilW r0 fun p_3 =>
  st h ((p_3.add 1).add 0) (.int .i64 e1) fun h_4 =>
  Q h_4)
  (Q h)

def pack_Reader_fail_S (ρ : Ids) : Spec := fun args h K =>
  (tP fun r0 => tI .i64 fun e1 => tN (pack_Reader_fail ρ r0 e1 h (fun h => K (.tuple [].toArray) h))) args

def pack_Reader_Bytes (ρ : Ids) (r0 : Option Addr) (n1 : Int) (h : Hp) (Q : Sl → Hp → Prop) : Prop :=
  pack_Reader_Err ρ r0 h fun r_1 h_2 =>
  br (r_1 != (0 : Int))
  (Q (⟨none, 0, 0⟩ : Sl) h_2)
  (nilW r0 fun p_3 =>
  ldS h_2 (p_3.add 0) fun x_4 =>
  br (decide ((x_4.len : Int) < (if (0 : Int) > n1 then (0 : Int) else n1)))
  (pack_Reader_fail ρ r0 (4 : Int) h_2 fun h_5 =>
  Q (⟨none, 0, 0⟩ : Sl) h_5)
  (nilW r0 fun p_6 =>
  ldS h_2 (p_6.add 0) fun x_7 =>
  slW x_7 (0 : Int) (if (0 : Int) > n1 then (0 : Int) else n1) 1 fun s_8 =>
  nilW r0 fun p_9 =>
  ldS h_2 (p_9.add 0) fun x_10 =>
  slW x_10 (if (0 : Int) > n1 then (0 : Int) else n1) (x_10.len : Int) 1 fun s_11 =>
  nilW r0 fun p_12 =>
  st h_2 ((p_12.add 0).add 0) (.slice s_11.a s_11.len s_11.cap) fun h_13 =>
  bytes_Clone ρ s_8 h_13 fun r_14 h_15 =>
  Q r_14 h_15))

def pack_Reader_Bytes_S (ρ : Ids) : Spec := fun args h K =>
  (tP fun r0 => tI .i64 fun n1 => tN (pack_Reader_Bytes ρ r0 n1 h (fun r0 h => K (.slice r0.a r0.len r0.cap) h))) args

def pack_sized (ρ : Ids) (size0 : Int) (h : Hp) (Q : Int → Hp → Prop) : Prop :=
  Q (if (8 : Int) < (if (1 : Int) > size0 then (1 : Int) else size0) then (8 : Int) else (if (1 : Int) > size0 then (1 : Int) else size0)) h

def pack_sized_S (ρ : Ids) : Spec := fun args h K =>
  (tI .i64 fun size0 => tN (pack_sized ρ size0 h (fun r0 h => K (.int .i64 r0) h))) args

def pack_Reader_Num_K2 (ρ : Ids) (Q : Int → Hp → Prop) (r0 : Option Addr) (n7 : Int) (v35 : Bool) (h : Hp) : Prop :=
  br v35
  (pack_Reader_fail ρ r0 (3 : Int) h fun h_9 =>
  Q (0 : Int) h_9)
  (Q n7 h)

def pack_Reader_Num_B1 (ρ : Ids) (S1 : Option Addr → Int → Int → Sl → Int → Int → Hp → Prop) (Q : Int → Hp → Prop) (r0 : Option Addr) (most2 : Int) (n7 : Int) (v13 : Sl) (v14 : Int) (v15 : Int) (h : Hp) : Prop :=
  br (decide (v15 < v14))
  (ixW v13.a v13.len v15 1 fun p_5 =>
  ldI .u8 h p_5 fun x_6 =>
  (0 ≤ (IntKind.wrap .i64 ((8 : Int) * v15))) ∧
  S1 r0 most2 (IntKind.wrap .u64 (((BitVec.ofInt (IntKind.bits .u64) n7 ||| (BitVec.ofInt (IntKind.bits .u64) (IntKind.wrap .u64 ((IntKind.wrap .u64 x_6) * 2 ^ (min (Int.toNat (IntKind.wrap .i64 ((8 : Int) * v15))) (IntKind.bits .u64)))))).toNat : Int))) v13 v14 (IntKind.wrap .i64 (v15 + (1 : Int))) h)
  (pack_Reader_Err ρ r0 h fun r_7 h_8 =>
  br (r_7 == (0 : Int))
  (pack_Reader_Num_K2 ρ Q r0 n7 (decide (n7 > most2)) h_8)
  (pack_Reader_Num_K2 ρ Q r0 n7 false h_8))

def pack_Reader_Num_L1 (ρ : Ids) (Q : Int → Hp → Prop) (r0 : Option Addr) (most2 : Int) (n7 : Int) (v13 : Sl) (v14 : Int) (v15 : Int) (h : Hp) : Prop :=
  Lfp (fun S vals h => (tP fun r0 => tI .u64 fun most2 => tI .u64 fun n7 => tS fun v13 => tI .i64 fun v14 => tI .i64 fun v15 => tN (pack_Reader_Num_B1 ρ (fun r0 most2 n7 v13 v14 v15 hh => S [(.pointer r0), (.int .u64 most2), (.int .u64 n7), (.slice v13.a v13.len v13.cap), (.int .i64 v14), (.int .i64 v15)] hh) Q r0 most2 n7 v13 v14 v15 h)) vals) [(.pointer r0), (.int .u64 most2), (.int .u64 n7), (.slice v13.a v13.len v13.cap), (.int .i64 v14), (.int .i64 v15)] h

theorem pack_Reader_Num_L1_in (ρ : Ids) (Q : Int → Hp → Prop) (r0 : Option Addr) (most2 : Int) (n7 : Int) (v13 : Sl) (v14 : Int) (v15 : Int) (h : Hp) (H : pack_Reader_Num_B1 ρ (pack_Reader_Num_L1 ρ Q) Q r0 most2 n7 v13 v14 v15 h) : pack_Reader_Num_L1 ρ Q r0 most2 n7 v13 v14 v15 h := lfp_in H

def pack_Reader_Num (ρ : Ids) (r0 : Option Addr) (size1 : Int) (most2 : Int) (h : Hp) (Q : Int → Hp → Prop) : Prop :=
  pack_sized ρ size1 h fun r_1 h_2 =>
  pack_Reader_Bytes ρ r0 r_1 h_2 fun r_3 h_4 =>
  pack_Reader_Num_L1 ρ Q r0 most2 (0 : Int) r_3 (r_3.len : Int) (0 : Int) h_4

def pack_Reader_Num_S (ρ : Ids) : Spec := fun args h K =>
  (tP fun r0 => tI .i64 fun size1 => tI .u64 fun most2 => tN (pack_Reader_Num ρ r0 size1 most2 h (fun r0 h => K (.int .u64 r0) h))) args

def bytes_trimLeftByte_K2 (ρ : Ids) (S1 : Sl → Int → Hp → Prop) (Q : Sl → Hp → Prop) (s0 : Sl) (c1 : Int) (v14 : Bool) (h : Hp) : Prop :=
  br v14
  (slW s0 (1 : Int) (s0.len : Int) 1 fun s_3 =>
  S1 s_3 c1 h)
  (br ((s0.len : Int) == (0 : Int))
  (Q (⟨none, 0, 0⟩ : Sl) h)
  (Q s0 h))

def bytes_trimLeftByte_B1 (ρ : Ids) (S1 : Sl → Int → Hp → Prop) (Q : Sl → Hp → Prop) (s0 : Sl) (c1 : Int) (h : Hp) : Prop :=
  br (decide ((s0.len : Int) > (0 : Int)))
  (ixW s0.a s0.len (0 : Int) 1 fun p_1 =>
  ldI .u8 h p_1 fun x_2 =>
  bytes_trimLeftByte_K2 ρ S1 Q s0 c1 (x_2 == c1) h)
  (bytes_trimLeftByte_K2 ρ S1 Q s0 c1 false h)

def bytes_trimLeftByte_L1 (ρ : Ids) (Q : Sl → Hp → Prop) (s0 : Sl) (c1 : Int) (h : Hp) : Prop :=
  Lfp (fun S vals h => (tS fun s0 => tI .u8 fun c1 => tN (bytes_trimLeftByte_B1 ρ (fun s0 c1 hh => S [(.slice s0.a s0.len s0.cap), (.int .u8 c1)] hh) Q s0 c1 h)) vals) [(.slice s0.a s0.len s0.cap), (.int .u8 c1)] h

theorem bytes_trimLeftByte_L1_in (ρ : Ids) (Q : Sl → Hp → Prop) (s0 : Sl) (c1 : Int) (h : Hp) (H : bytes_trimLeftByte_B1 ρ (bytes_trimLeftByte_L1 ρ Q) Q s0 c1 h) : bytes_trimLeftByte_L1 ρ Q s0 c1 h := lfp_in H

def bytes_trimLeftByte (ρ : Ids) (s0 : Sl) (c1 : Int) (h : Hp) (Q : Sl → Hp → Prop) : Prop :=
  bytes_trimLeftByte_L1 ρ Q s0 c1 h

def bytes_trimLeftByte_S (ρ : Ids) : Spec := fun args h K =>
  (tS fun s0 => tI .u8 fun c1 => tN (bytes_trimLeftByte ρ s0 c1 h (fun r0 h => K (.slice r0.a r0.len r0.cap) h))) args

def bytes_trimRightByte_K2 (ρ : Ids) (S1 : Sl → Int → Hp → Prop) (Q : Sl → Hp → Prop) (s0 : Sl) (c1 : Int) (v17 : Bool) (h : Hp) : Prop :=
  br v17
  (slW s0 (0 : Int) (IntKind.wrap .i64 ((s0.len : Int) - (1 : Int))) 1 fun s_3 =>
  S1 s_3 c1 h)
  (Q s0 h)

def bytes_trimRightByte_B1 (ρ : Ids) (S1 : Sl → Int → Hp → Prop) (Q : Sl → Hp → Prop) (s0 : Sl) (c1 : Int) (h : Hp) : Prop :=
  br (decide ((s0.len : Int) > (0 : Int)))
  (ixW s0.a s0.len (IntKind.wrap .i64 ((s0.len : Int) - (1 : Int))) 1 fun p_1 =>
  ldI .u8 h p_1 fun x_2 =>
  bytes_trimRightByte_K2 ρ S1 Q s0 c1 (x_2 == c1) h)
  (bytes_trimRightByte_K2 ρ S1 Q s0 c1 false h)

def bytes_trimRightByte_L1 (ρ : Ids) (Q : Sl → Hp → Prop) (s0 : Sl) (c1 : Int) (h : Hp) : Prop :=
  Lfp (fun S vals h => (tS fun s0 => tI .u8 fun c1 => tN (bytes_trimRightByte_B1 ρ (fun s0 c1 hh => S [(.slice s0.a s0.len s0.cap), (.int .u8 c1)] hh) Q s0 c1 h)) vals) [(.slice s0.a s0.len s0.cap), (.int .u8 c1)] h

theorem bytes_trimRightByte_L1_in (ρ : Ids) (Q : Sl → Hp → Prop) (s0 : Sl) (c1 : Int) (h : Hp) (H : bytes_trimRightByte_B1 ρ (bytes_trimRightByte_L1 ρ Q) Q s0 c1 h) : bytes_trimRightByte_L1 ρ Q s0 c1 h := lfp_in H

def bytes_trimRightByte (ρ : Ids) (s0 : Sl) (c1 : Int) (h : Hp) (Q : Sl → Hp → Prop) : Prop :=
  bytes_trimRightByte_L1 ρ Q s0 c1 h

def bytes_trimRightByte_S (ρ : Ids) : Spec := fun args h K =>
  (tS fun s0 => tI .u8 fun c1 => tN (bytes_trimRightByte ρ s0 c1 h (fun r0 h => K (.slice r0.a r0.len r0.cap) h))) args

def bytes_Trim_K1 (ρ : Ids) (Q : Sl → Hp → Prop) (s0 : Sl) (cutset1 : ByteArray) (v20 : Bool) (h : Hp) : Prop :=
  br v20
  ((0 ≤ (0 : Int) ∧ (0 : Int) < (cutset1.size : Int)) ∧
  (0 ≤ (0 : Int) ∧ (0 : Int) < (cutset1.size : Int)) ∧
  bytes_trimRightByte ρ s0 ((cutset1.data.toList.getD (Int.toNat (0 : Int)) 0).toNat : Int) h fun r_1 h_2 =>
  bytes_trimLeftByte ρ r_1 ((cutset1.data.toList.getD (Int.toNat (0 : Int)) 0).toNat : Int) h_2 fun r_3 h_4 =>
  Q r_3 h_4)
  (False)

def bytes_Trim (ρ : Ids) (s0 : Sl) (cutset1 : ByteArray) (h : Hp) (Q : Sl → Hp → Prop) : Prop :=
  br ((s0.len : Int) == (0 : Int))
  (Q (⟨none, 0, 0⟩ : Sl) h)
  (br (cutset1.toList == (⟨#[]⟩ : ByteArray).toList)
  (Q s0 h)
  (br ((cutset1.size : Int) == (1 : Int))
  ((0 ≤ (0 : Int) ∧ (0 : Int) < (cutset1.size : Int)) ∧
  bytes_Trim_K1 ρ Q s0 cutset1 (decide (((cutset1.data.toList.getD (Int.toNat (0 : Int)) 0).toNat : Int) < (128 : Int))) h)
  (bytes_Trim_K1 ρ Q s0 cutset1 false h)))

def bytes_Trim_S (ρ : Ids) : Spec := fun args h K =>
  (tS fun s0 => tT fun cutset1 => tN (bytes_Trim ρ s0 cutset1 h (fun r0 h => K (.slice r0.a r0.len r0.cap) h))) args

def pack_zero (ρ : Ids) (b0 : Sl) (h : Hp) (Q : Bool → Hp → Prop) : Prop :=
  bytes_Trim ρ b0 (⟨#[0]⟩ : ByteArray) h fun r_1 h_2 =>
  Q ((r_1.len : Int) == (0 : Int)) h_2

def pack_zero_S (ρ : Ids) : Spec := fun args h K =>
  (tS fun b0 => tN (pack_zero ρ b0 h (fun r0 h => K (.bool r0) h))) args

def pack_Reader_Rest_K2 (ρ : Ids) (Q : Int → Hp → Prop) (r0 : Option Addr) (h : Hp) : Prop :=
  pack_Reader_Err ρ r0 h fun r_8 h_9 =>
  Q r_8 h_9

def pack_Reader_Rest_K1 (ρ : Ids) (Q : Int → Hp → Prop) (r0 : Option Addr) (v13 : Bool) (h : Hp) : Prop :=
  br v13
  (pack_Reader_fail ρ r0 (3 : Int) h fun h_7 =>
  pack_Reader_Rest_K2 ρ Q r0 h_7)
  (pack_Reader_Rest_K2 ρ Q r0 h)

def pack_Reader_Rest (ρ : Ids) (r0 : Option Addr) (h : Hp) (Q : Int → Hp → Prop) : Prop :=
  pack_Reader_Err ρ r0 h fun r_1 h_2 =>
  br (r_1 == (0 : Int))
  (nilW r0 fun p_3 =>
  ldS h_2 (p_3.add 0) fun x_4 =>
  pack_zero ρ x_4 h_2 fun r_5 h_6 =>
  pack_Reader_Rest_K1 ρ Q r0 (!r_5) h_6)
  (pack_Reader_Rest_K1 ρ Q r0 false h_2)

def pack_Reader_Rest_S (ρ : Ids) : Spec := fun args h K =>
  (tP fun r0 => tN (pack_Reader_Rest ρ r0 h (fun r0 h => K (.int .i64 r0) h))) args

def slices_IndexFunc_int_int_B1 (ρ : Ids) (φ : Value → List Value → Hp → (Value → Hp → Prop) → Prop) (S1 : Sl → Value → Int → Int → Hp → Prop) (Q : Int → Hp → Prop) (s0 : Sl) (f1 : Value) (v7 : Int) (v8 : Int) (h : Hp) : Prop :=
  br (decide (v8 < v7))
  (ixW s0.a s0.len v8 1 fun p_1 =>
  ldI .i64 h p_1 fun x_2 =>
  φ f1 [(.int .i64 x_2)] h fun v_3 h_4 =>
  isB v_3 fun y_5 =>
  br y_5
  (Q v8 h_4)
  (S1 s0 f1 v7 (IntKind.wrap .i64 (v8 + (1 : Int))) h_4))
  (Q (-1 : Int) h)

def slices_IndexFunc_int_int_L1 (ρ : Ids) (φ : Value → List Value → Hp → (Value → Hp → Prop) → Prop) (Q : Int → Hp → Prop) (s0 : Sl) (f1 : Value) (v7 : Int) (v8 : Int) (h : Hp) : Prop :=
  Lfp (fun S vals h => (tS fun s0 => tV fun f1 => tI .i64 fun v7 => tI .i64 fun v8 => tN (slices_IndexFunc_int_int_B1 ρ φ (fun s0 f1 v7 v8 hh => S [(.slice s0.a s0.len s0.cap), f1, (.int .i64 v7), (.int .i64 v8)] hh) Q s0 f1 v7 v8 h)) vals) [(.slice s0.a s0.len s0.cap), f1, (.int .i64 v7), (.int .i64 v8)] h

theorem slices_IndexFunc_int_int_L1_in (ρ : Ids) (φ : Value → List Value → Hp → (Value → Hp → Prop) → Prop) (Q : Int → Hp → Prop) (s0 : Sl) (f1 : Value) (v7 : Int) (v8 : Int) (h : Hp) (H : slices_IndexFunc_int_int_B1 ρ φ (slices_IndexFunc_int_int_L1 ρ φ Q) Q s0 f1 v7 v8 h) : slices_IndexFunc_int_int_L1 ρ φ Q s0 f1 v7 v8 h := lfp_in H

def slices_IndexFunc_int_int (ρ : Ids) (φ : Value → List Value → Hp → (Value → Hp → Prop) → Prop) (s0 : Sl) (f1 : Value) (h : Hp) (Q : Int → Hp → Prop) : Prop :=
  slices_IndexFunc_int_int_L1 ρ φ Q s0 f1 (s0.len : Int) (0 : Int) h

def slices_IndexFunc_int_int_S (ρ : Ids) (φ : Value → List Value → Hp → (Value → Hp → Prop) → Prop) : Spec := fun args h K =>
  (tS fun s0 => tV fun f1 => tN (slices_IndexFunc_int_int ρ φ s0 f1 h (fun r0 h => K (.int .i64 r0) h))) args

def slices_DeleteFunc_int_int_K2 (ρ : Ids) (φ : Value → List Value → Hp → (Value → Hp → Prop) → Prop) (S1 : Sl → Value → Int → Int → Hp → Prop) (Q : Sl → Hp → Prop) (s0 : Sl) (del1 : Value) (i5 : Int) (j6 : Int) (h : Hp) : Prop :=
  S1 s0 del1 i5 (IntKind.wrap .i64 (j6 + (1 : Int))) h

def slices_DeleteFunc_int_int_B1 (ρ : Ids) (φ : Value → List Value → Hp → (Value → Hp → Prop) → Prop) (S1 : Sl → Value → Int → Int → Hp → Prop) (Q : Sl → Hp → Prop) (s0 : Sl) (del1 : Value) (i5 : Int) (j6 : Int) (h : Hp) : Prop :=
  br (decide (j6 < (s0.len : Int)))
  (ixW s0.a s0.len j6 1 fun p_3 =>
  ldI .i64 h p_3 fun x_4 =>
  φ del1 [(.int .i64 x_4)] h fun v_5 h_6 =>
  isB v_5 fun y_7 =>
  br (!y_7)
  (ixW s0.a s0.len i5 1 fun p_8 =>
  st h_6 (p_8.add 0) (.int .i64 x_4) fun h_9 =>
  slices_DeleteFunc_int_int_K2 ρ φ S1 Q s0 del1 (IntKind.wrap .i64 (i5 + (1 : Int))) j6 h_9)
  (slices_DeleteFunc_int_int_K2 ρ φ S1 Q s0 del1 i5 j6 h_6))
  (slW s0 i5 (s0.len : Int) 1 fun s_10 =>
  clW (.int .i64 (0 : Int)) h s_10 fun h_11 =>
  slW s0 (0 : Int) i5 1 fun s_12 =>
  Q s_12 h_11)

def slices_DeleteFunc_int_int_L1 (ρ : Ids) (φ : Value → List Value → Hp → (Value → Hp → Prop) → Prop) (Q : Sl → Hp → Prop) (s0 : Sl) (del1 : Value) (i5 : Int) (j6 : Int) (h : Hp) : Prop :=
  Lfp (fun S vals h => (tS fun s0 => tV fun del1 => tI .i64 fun i5 => tI .i64 fun j6 => tN (slices_DeleteFunc_int_int_B1 ρ φ (fun s0 del1 i5 j6 hh => S [(.slice s0.a s0.len s0.cap), del1, (.int .i64 i5), (.int .i64 j6)] hh) Q s0 del1 i5 j6 h)) vals) [(.slice s0.a s0.len s0.cap), del1, (.int .i64 i5), (.int .i64 j6)] h

theorem slices_DeleteFunc_int_int_L1_in (ρ : Ids) (φ : Value → List Value → Hp → (Value → Hp → Prop) → Prop) (Q : Sl → Hp → Prop) (s0 : Sl) (del1 : Value) (i5 : Int) (j6 : Int) (h : Hp) (H : slices_DeleteFunc_int_int_B1 ρ φ (slices_DeleteFunc_int_int_L1 ρ φ Q) Q s0 del1 i5 j6 h) : slices_DeleteFunc_int_int_L1 ρ φ Q s0 del1 i5 j6 h := lfp_in H

def slices_DeleteFunc_int_int (ρ : Ids) (φ : Value → List Value → Hp → (Value → Hp → Prop) → Prop) (s0 : Sl) (del1 : Value) (h : Hp) (Q : Sl → Hp → Prop) : Prop :=
  slices_IndexFunc_int_int ρ φ s0 del1 h fun r_1 h_2 =>
  br (r_1 == (-1 : Int))
  (Q s0 h_2)
  (slices_DeleteFunc_int_int_L1 ρ φ Q s0 del1 r_1 (IntKind.wrap .i64 (r_1 + (1 : Int))) h_2)

def slices_DeleteFunc_int_int_S (ρ : Ids) (φ : Value → List Value → Hp → (Value → Hp → Prop) → Prop) : Spec := fun args h K =>
  (tS fun s0 => tV fun del1 => tN (slices_DeleteFunc_int_int ρ φ s0 del1 h (fun r0 h => K (.slice r0.a r0.len r0.cap) h))) args

def inode_Inode_all_1 (ρ : Ids) (p0 : Int) (h : Hp) (Q : Bool → Hp → Prop) : Prop :=
  Q (p0 == (0 : Int)) h

def inode_Inode_all_1_S (ρ : Ids) : Spec := fun args h K =>
  (tI .i64 fun p0 => tN (inode_Inode_all_1 ρ p0 h (fun r0 h => K (.bool r0) h))) args

def inode_Inode_all_B1 (ρ : Ids) (S1 : Sl → List Int → Int → Hp → Prop) (Q : Sl → Hp → Prop) (l3 : Sl) (v10_0 : List Int) (v11 : Int) (h : Hp) : Prop :=
  br (decide (v11 < (32 : Int)))
  ((0 ≤ v11 ∧ v11 < ((32 : Nat) : Int)) ∧
  alW h (ρ.T 0) [(.int .i64 (IntKind.wrap .i64 ((nrm 32 v10_0).getD (Int.toNat v11) 0)))] fun p_7 h_8 =>
  apW (ρ.T 0) 1 8 (.int .i64 (0 : Int)) h_8 l3 (⟨some p_7, 1, 1⟩ : Sl) fun s_9 h_10 =>
  S1 s_9 (nrm 32 v10_0) (IntKind.wrap .i64 (v11 + (1 : Int))) h_10)
  (slices_DeleteFunc_int_int ρ (phi [(ρ.G 60, inode_Inode_all_1_S ρ)]) l3 (.func (.func (ρ.G 60)) #[] #[]) h fun r_11 h_12 =>
  Q r_11 h_12)

def inode_Inode_all_L1 (ρ : Ids) (Q : Sl → Hp → Prop) (l3 : Sl) (v10_0 : List Int) (v11 : Int) (h : Hp) : Prop :=
  Lfp (fun S vals h => (tS fun l3 => tG fun cells1 rest1 => (tL .u8 32 fun v10_0 => tN ((tI .i64 fun v11 => tN (inode_Inode_all_B1 ρ (fun l3 v10_0 v11 hh => S [(.slice l3.a l3.len l3.cap), (.agg (lumpV .u8 32 v10_0).toArray), (.int .i64 v11)] hh) Q l3 v10_0 v11 h)) rest1)) cells1) vals) [(.slice l3.a l3.len l3.cap), (.agg (lumpV .u8 32 v10_0).toArray), (.int .i64 v11)] h

theorem inode_Inode_all_L1_in (ρ : Ids) (Q : Sl → Hp → Prop) (l3 : Sl) (v10_0 : List Int) (v11 : Int) (h : Hp) (H : inode_Inode_all_B1 ρ (inode_Inode_all_L1 ρ Q) Q l3 (nrm 32 v10_0) v11 h) : inode_Inode_all_L1 ρ Q l3 v10_0 v11 h := lfp_in H

def inode_Inode_all (ρ : Ids) (n0_0 : Int) (n0_1 : Int) (n0_2 : Int) (n0_3 : Int) (n0_4 : Int) (n0_5 : Int) (n0_6 : List Int) (h : Hp) (Q : Sl → Hp → Prop) : Prop :=
  alW h (ρ.T 8) (([(.int .i64 n0_0), (.int .i64 n0_1), (.int .i64 n0_2), (.int .i64 n0_3), (.int .i64 n0_4), (.int .i64 n0_5)] : List Value) ++ lumpV .u8 32 n0_6) fun p_1 h_2 =>
  ldI .i64 h_2 (p_1.add 5) fun x_3 =>
  alW h_2 (ρ.T 0) [(.int .i64 x_3)] fun p_4 h_5 =>
  ldL .u8 32 h_5 ((p_1.add 6).add 0) fun x_6 =>
  inode_Inode_all_L1 ρ Q (⟨some p_4, 1, 1⟩ : Sl) (nrm 32 x_6) (0 : Int) h_5

def inode_Inode_all_S (ρ : Ids) : Spec := fun args h K =>
  (tG fun cells0 rest0 => (tI .i64 fun n0_0 => tI .i64 fun n0_1 => tI .i64 fun n0_2 => tI .i64 fun n0_3 => tI .i64 fun n0_4 => tI .i64 fun n0_5 => tL .u8 32 fun n0_6 => tN ((tN (inode_Inode_all ρ n0_0 n0_1 n0_2 n0_3 n0_4 n0_5 n0_6 h (fun r0 h => K (.slice r0.a r0.len r0.cap) h))) rest0)) cells0) args

def slices_Compact_int_int_K3 (ρ : Ids) (S1 : Sl → Int → Hp → Prop) (S2 : Sl → Int → Sl → Int → Hp → Prop) (Q : Sl → Hp → Prop) (s0 : Sl) (k3 : Int) (s24 : Sl) (k25 : Int) (h : Hp) : Prop :=
  S2 s0 k3 s24 (IntKind.wrap .i64 (k25 + (1 : Int))) h

def slices_Compact_int_int_B2 (ρ : Ids) (S1 : Sl → Int → Hp → Prop) (S2 : Sl → Int → Sl → Int → Hp → Prop) (Q : Sl → Hp → Prop) (s0 : Sl) (k3 : Int) (s24 : Sl) (k25 : Int) (h : Hp) : Prop :=
  br (decide (k25 < (s24.len : Int)))
  (ixW s24.a s24.len k25 1 fun p_6 =>
  ldI .i64 h p_6 fun x_7 =>
  ixW s24.a s24.len (IntKind.wrap .i64 (k25 - (1 : Int))) 1 fun p_8 =>
  ldI .i64 h p_8 fun x_9 =>
  br (x_7 != x_9)
  (ixW s24.a s24.len k25 1 fun p_10 =>
  ldI .i64 h p_10 fun x_11 =>
  ixW s0.a s0.len k3 1 fun p_12 =>
  st h (p_12.add 0) (.int .i64 x_11) fun h_13 =>
  slices_Compact_int_int_K3 ρ S1 S2 Q s0 (IntKind.wrap .i64 (k3 + (1 : Int))) s24 k25 h_13)
  (slices_Compact_int_int_K3 ρ S1 S2 Q s0 k3 s24 k25 h))
  (slW s0 k3 (s0.len : Int) 1 fun s_14 =>
  clW (.int .i64 (0 : Int)) h s_14 fun h_15 =>
  slW s0 (0 : Int) k3 1 fun s_16 =>
  Q s_16 h_15)

def slices_Compact_int_int_L2 (ρ : Ids) (S1 : Sl → Int → Hp → Prop) (Q : Sl → Hp → Prop) (s0 : Sl) (k3 : Int) (s24 : Sl) (k25 : Int) (h : Hp) : Prop :=
  Lfp (fun S vals h => (tS fun s0 => tI .i64 fun k3 => tS fun s24 => tI .i64 fun k25 => tN (slices_Compact_int_int_B2 ρ S1 (fun s0 k3 s24 k25 hh => S [(.slice s0.a s0.len s0.cap), (.int .i64 k3), (.slice s24.a s24.len s24.cap), (.int .i64 k25)] hh) Q s0 k3 s24 k25 h)) vals) [(.slice s0.a s0.len s0.cap), (.int .i64 k3), (.slice s24.a s24.len s24.cap), (.int .i64 k25)] h

theorem slices_Compact_int_int_L2_in (ρ : Ids) (S1 : Sl → Int → Hp → Prop) (Q : Sl → Hp → Prop) (s0 : Sl) (k3 : Int) (s24 : Sl) (k25 : Int) (h : Hp) (H : slices_Compact_int_int_B2 ρ S1 (slices_Compact_int_int_L2 ρ S1 Q) Q s0 k3 s24 k25 h) : slices_Compact_int_int_L2 ρ S1 Q s0 k3 s24 k25 h := lfp_in H

def slices_Compact_int_int_B1 (ρ : Ids) (S1 : Sl → Int → Hp → Prop) (Q : Sl → Hp → Prop) (s0 : Sl) (k3 : Int) (h : Hp) : Prop :=
  br (decide (k3 < (s0.len : Int)))
  (ixW s0.a s0.len k3 1 fun p_1 =>
  ldI .i64 h p_1 fun x_2 =>
  ixW s0.a s0.len (IntKind.wrap .i64 (k3 - (1 : Int))) 1 fun p_3 =>
  ldI .i64 h p_3 fun x_4 =>
  br (x_2 == x_4)
  (slW s0 k3 (s0.len : Int) 1 fun s_5 =>
  slices_Compact_int_int_L2 ρ S1 Q s0 k3 s_5 (1 : Int) h)
  (S1 s0 (IntKind.wrap .i64 (k3 + (1 : Int))) h))
  (Q s0 h)

def slices_Compact_int_int_L1 (ρ : Ids) (Q : Sl → Hp → Prop) (s0 : Sl) (k3 : Int) (h : Hp) : Prop :=
  Lfp (fun S vals h => (tS fun s0 => tI .i64 fun k3 => tN (slices_Compact_int_int_B1 ρ (fun s0 k3 hh => S [(.slice s0.a s0.len s0.cap), (.int .i64 k3)] hh) Q s0 k3 h)) vals) [(.slice s0.a s0.len s0.cap), (.int .i64 k3)] h

theorem slices_Compact_int_int_L1_in (ρ : Ids) (Q : Sl → Hp → Prop) (s0 : Sl) (k3 : Int) (h : Hp) (H : slices_Compact_int_int_B1 ρ (slices_Compact_int_int_L1 ρ Q) Q s0 k3 h) : slices_Compact_int_int_L1 ρ Q s0 k3 h := lfp_in H

def slices_Compact_int_int (ρ : Ids) (s0 : Sl) (h : Hp) (Q : Sl → Hp → Prop) : Prop :=
  br (decide ((s0.len : Int) < (2 : Int)))
  (Q s0 h)
  (slices_Compact_int_int_L1 ρ Q s0 (1 : Int) h)

def slices_Compact_int_int_S (ρ : Ids) : Spec := fun args h K =>
  (tS fun s0 => tN (slices_Compact_int_int ρ s0 h (fun r0 h => K (.slice r0.a r0.len r0.cap) h))) args

def inode_in (ρ : Ids) (n0 : Int) (least1 : Int) (most2 : Int) (h : Hp) (Q : Bool → Hp → Prop) : Prop :=
  br (decide (least1 ≤ n0))
  (Q (decide (n0 ≤ most2)) h)
  (Q false h)

def inode_in_S (ρ : Ids) : Spec := fun args h K =>
  (tI .i64 fun n0 => tI .i64 fun least1 => tI .i64 fun most2 => tN (inode_in ρ n0 least1 most2 h (fun r0 h => K (.bool r0) h))) args

def inode_Used_1 (ρ : Ids) (p0 : Int) (h : Hp) (Q : Bool → Hp → Prop) : Prop :=
  inode_in ρ p0 (1 : Int) (255 : Int) h fun r_1 h_2 =>
  Q (!r_1) h_2

def inode_Used_1_S (ρ : Ids) : Spec := fun args h K =>
  (tI .i64 fun p0 => tN (inode_Used_1 ρ p0 h (fun r0 h => K (.bool r0) h))) args

def inode_Used (ρ : Ids) (n0_0 : Int) (n0_1 : Int) (n0_2 : Int) (n0_3 : Int) (n0_4 : Int) (n0_5 : Int) (n0_6 : List Int) (h : Hp) (Q : Sl → Hp → Prop) : Prop :=
  alW h (ρ.T 8) (([(.int .i64 n0_0), (.int .i64 n0_1), (.int .i64 n0_2), (.int .i64 n0_3), (.int .i64 n0_4), (.int .i64 n0_5)] : List Value) ++ lumpV .u8 32 n0_6) fun p_1 h_2 =>
  ldI .i64 h_2 (p_1.add 0) fun x_3 =>
  ldI .i64 h_2 (p_1.add 1) fun x_4 =>
  ldI .i64 h_2 (p_1.add 2) fun x_5 =>
  ldI .i64 h_2 (p_1.add 3) fun x_6 =>
  ldI .i64 h_2 (p_1.add 4) fun x_7 =>
  ldI .i64 h_2 (p_1.add 5) fun x_8 =>
  ldL .u8 32 h_2 (p_1.add 6) fun x_9 =>
  inode_Inode_all ρ x_3 x_4 x_5 x_6 x_7 x_8 (nrm 32 x_9) h_2 fun r_10 h_11 =>
  slices_Sort_int_int ρ r_10 h_11 fun h_12 =>
  slices_Compact_int_int ρ r_10 h_12 fun r_13 h_14 =>
  slices_DeleteFunc_int_int ρ (phi [(ρ.G 59, inode_Used_1_S ρ)]) r_13 (.func (.func (ρ.G 59)) #[] #[]) h_14 fun r_15 h_16 =>
  Q r_15 h_16

def inode_Used_S (ρ : Ids) : Spec := fun args h K =>
  (tG fun cells0 rest0 => (tI .i64 fun n0_0 => tI .i64 fun n0_1 => tI .i64 fun n0_2 => tI .i64 fun n0_3 => tI .i64 fun n0_4 => tI .i64 fun n0_5 => tL .u8 32 fun n0_6 => tN ((tN (inode_Used ρ n0_0 n0_1 n0_2 n0_3 n0_4 n0_5 n0_6 h (fun r0 h => K (.slice r0.a r0.len r0.cap) h))) rest0)) cells0) args

def inode_May_K4 (ρ : Ids) (S3 : Addr → List Int → Int → Hp → Prop) (Q : Bool → Hp → Prop) (n1 : Addr) (v46_0 : List Int) (v47 : Int) (v66 : Bool) (h : Hp) : Prop :=
  br v66
  (Q false h)
  (S3 n1 (nrm 32 v46_0) (IntKind.wrap .i64 (v47 + (1 : Int))) h)

def inode_May_B3 (ρ : Ids) (S3 : Addr → List Int → Int → Hp → Prop) (Q : Bool → Hp → Prop) (n1 : Addr) (v46_0 : List Int) (v47 : Int) (h : Hp) : Prop :=
  br (decide (v47 < (32 : Int)))
  ((0 ≤ v47 ∧ v47 < ((32 : Nat) : Int)) ∧
  br (decide ((IntKind.wrap .i64 ((nrm 32 v46_0).getD (Int.toNat v47) 0)) ≥ (216 : Int)))
  (inode_May_K4 ρ S3 Q n1 (nrm 32 v46_0) v47 true h)
  (br (((nrm 32 v46_0).getD (Int.toNat v47) 0) != (0 : Int))
  (ldI .i64 h (n1.add 3) fun x_28 =>
  ((256 : Int) ≠ 0) ∧
  inode_May_K4 ρ S3 Q n1 (nrm 32 v46_0) v47 (decide (v47 ≥ (IntKind.wrap .i64 (Int.tdiv (IntKind.wrap .i64 ((IntKind.wrap .i64 (x_28 + (256 : Int))) - (1 : Int))) (256 : Int))))) h)
  (inode_May_K4 ρ S3 Q n1 (nrm 32 v46_0) v47 false h)))
  (ldI .i64 h (n1.add 0) fun x_29 =>
  ldI .i64 h (n1.add 1) fun x_30 =>
  ldI .i64 h (n1.add 2) fun x_31 =>
  ldI .i64 h (n1.add 3) fun x_32 =>
  ldI .i64 h (n1.add 4) fun x_33 =>
  ldI .i64 h (n1.add 5) fun x_34 =>
  ldL .u8 32 h (n1.add 6) fun x_35 =>
  ldI .i64 h (n1.add 0) fun x_36 =>
  ldI .i64 h (n1.add 1) fun x_37 =>
  ldI .i64 h (n1.add 2) fun x_38 =>
  ldI .i64 h (n1.add 3) fun x_39 =>
  ldI .i64 h (n1.add 4) fun x_40 =>
  ldI .i64 h (n1.add 5) fun x_41 =>
  ldL .u8 32 h (n1.add 6) fun x_42 =>
  inode_Used ρ x_29 x_30 x_31 x_32 x_33 x_34 (nrm 32 x_35) h fun r_43 h_44 =>
  (hcell h_44 (n1.add 0) = some (.int .i64 x_36) ∧ (hcell h_44 (n1.add 1) = some (.int .i64 x_37) ∧ (hcell h_44 (n1.add 2) = some (.int .i64 x_38) ∧ (hcell h_44 (n1.add 3) = some (.int .i64 x_39) ∧ (hcell h_44 (n1.add 4) = some (.int .i64 x_40) ∧ (hcell h_44 (n1.add 5) = some (.int .i64 x_41) ∧ (lfact .u8 32 x_42 (n1.add 6) h_44 ∧ (True)))))))) ∧
  (inode_Inode_all ρ x_36 x_37 x_38 x_39 x_40 x_41 (nrm 32 x_42) h_44 fun r_45 h_46 =>
  (True) ∧
  (Q ((r_43.len : Int) == (r_45.len : Int)) h_46)))

def inode_May_L3 (ρ : Ids) (Q : Bool → Hp → Prop) (n1 : Addr) (v46_0 : List Int) (v47 : Int) (h : Hp) : Prop :=
  Lfp (fun S vals h => (tA fun n1 => tG fun cells1 rest1 => (tL .u8 32 fun v46_0 => tN ((tI .i64 fun v47 => tN (inode_May_B3 ρ (fun n1 v46_0 v47 hh => S [(.pointer (some n1)), (.agg (lumpV .u8 32 v46_0).toArray), (.int .i64 v47)] hh) Q n1 v46_0 v47 h)) rest1)) cells1) vals) [(.pointer (some n1)), (.agg (lumpV .u8 32 v46_0).toArray), (.int .i64 v47)] h

theorem inode_May_L3_in (ρ : Ids) (Q : Bool → Hp → Prop) (n1 : Addr) (v46_0 : List Int) (v47 : Int) (h : Hp) (H : inode_May_B3 ρ (inode_May_L3 ρ Q) Q n1 (nrm 32 v46_0) v47 h) : inode_May_L3 ρ Q n1 v46_0 v47 h := lfp_in H

def inode_May_K1 (ρ : Ids) (Q : Bool → Hp → Prop) (n1 : Addr) (v22 : Bool) (h : Hp) : Prop :=
  br v22
  (Q false h)
  (ldI .i64 h (n1.add 0) fun x_12 =>
  br (x_12 == (0 : Int))
  (ldI .i64 h (n1.add 0) fun x_13 =>
  ldI .i64 h (n1.add 1) fun x_14 =>
  ldI .i64 h (n1.add 2) fun x_15 =>
  ldI .i64 h (n1.add 3) fun x_16 =>
  ldI .i64 h (n1.add 4) fun x_17 =>
  ldI .i64 h (n1.add 5) fun x_18 =>
  ldL .u8 32 h (n1.add 6) fun x_19 =>
  Q ((x_13 == (0 : Int)) && ((x_14 == (0 : Int)) && ((x_15 == (0 : Int)) && ((x_16 == (0 : Int)) && ((x_17 == (0 : Int)) && ((x_18 == (0 : Int)) && ((nrm 32 x_19 == nrm 32 (List.replicate 32 0)) && true))))))) h)
  (ldL .u8 32 h ((n1.add 6).add 0) fun x_20 =>
  inode_May_L3 ρ Q n1 (nrm 32 x_20) (0 : Int) h))

def inode_May_K2 (ρ : Ids) (Q : Bool → Hp → Prop) (n1 : Addr) (v5 : Bool) (h : Hp) : Prop :=
  br v5
  (Q false h)
  (ldI .i64 h (n1.add 3) fun x_21 =>
  inode_in ρ x_21 (0 : Int) (8192 : Int) h fun r_22 h_23 =>
  br (!r_22)
  (inode_May_K1 ρ Q n1 true h_23)
  (ldI .i64 h_23 (n1.add 4) fun x_24 =>
  br (decide (x_24 < (0 : Int)))
  (inode_May_K1 ρ Q n1 true h_23)
  (ldI .i64 h_23 (n1.add 5) fun x_25 =>
  inode_in ρ x_25 (0 : Int) (215 : Int) h_23 fun r_26 h_27 =>
  inode_May_K1 ρ Q n1 (!r_26) h_27)))

def inode_May (ρ : Ids) (n0_0 : Int) (n0_1 : Int) (n0_2 : Int) (n0_3 : Int) (n0_4 : Int) (n0_5 : Int) (n0_6 : List Int) (h : Hp) (Q : Bool → Hp → Prop) : Prop :=
  alW h (ρ.T 8) (([(.int .i64 n0_0), (.int .i64 n0_1), (.int .i64 n0_2), (.int .i64 n0_3), (.int .i64 n0_4), (.int .i64 n0_5)] : List Value) ++ lumpV .u8 32 n0_6) fun p_1 h_2 =>
  ldI .i64 h_2 (p_1.add 0) fun x_3 =>
  inode_in ρ x_3 (0 : Int) (3 : Int) h_2 fun r_4 h_5 =>
  br (!r_4)
  (inode_May_K2 ρ Q p_1 true h_5)
  (ldI .i64 h_5 (p_1.add 1) fun x_6 =>
  inode_in ρ x_6 (0 : Int) (7 : Int) h_5 fun r_7 h_8 =>
  br (!r_7)
  (inode_May_K2 ρ Q p_1 true h_8)
  (ldI .i64 h_8 (p_1.add 2) fun x_9 =>
  inode_in ρ x_9 (0 : Int) (65535 : Int) h_8 fun r_10 h_11 =>
  inode_May_K2 ρ Q p_1 (!r_10) h_11))

def inode_May_S (ρ : Ids) : Spec := fun args h K =>
  (tG fun cells0 rest0 => (tI .i64 fun n0_0 => tI .i64 fun n0_1 => tI .i64 fun n0_2 => tI .i64 fun n0_3 => tI .i64 fun n0_4 => tI .i64 fun n0_5 => tL .u8 32 fun n0_6 => tN ((tN (inode_May ρ n0_0 n0_1 n0_2 n0_3 n0_4 n0_5 n0_6 h (fun r0 h => K (.bool r0) h))) rest0)) cells0) args

def inode_Parse_K1 (ρ : Ids) (Q : Int → Int → Int → Int → Int → Int → List Int → Int → Hp → Prop) (v2 : Addr) (n5 : Addr) (v43 : Bool) (h : Hp) : Prop :=
  br v43
  (stAll h v2 0 (([(.int .i64 (0 : Int)), (.int .i64 (0 : Int)), (.int .i64 (0 : Int)), (.int .i64 (0 : Int)), (.int .i64 (0 : Int)), (.int .i64 (0 : Int))] : List Value) ++ lumpV .u8 32 (List.replicate 32 0)) fun h_44 =>
  ldI .i64 h_44 (v2.add 0) fun x_45 =>
  ldI .i64 h_44 (v2.add 1) fun x_46 =>
  ldI .i64 h_44 (v2.add 2) fun x_47 =>
  ldI .i64 h_44 (v2.add 3) fun x_48 =>
  ldI .i64 h_44 (v2.add 4) fun x_49 =>
  ldI .i64 h_44 (v2.add 5) fun x_50 =>
  ldL .u8 32 h_44 (v2.add 6) fun x_51 =>
  Q x_45 x_46 x_47 x_48 x_49 x_50 (nrm 32 x_51) (9 : Int) h_44)
  (ldI .i64 h (n5.add 0) fun x_52 =>
  ldI .i64 h (n5.add 1) fun x_53 =>
  ldI .i64 h (n5.add 2) fun x_54 =>
  ldI .i64 h (n5.add 3) fun x_55 =>
  ldI .i64 h (n5.add 4) fun x_56 =>
  ldI .i64 h (n5.add 5) fun x_57 =>
  ldL .u8 32 h (n5.add 6) fun x_58 =>
  stAll h v2 0 (([(.int .i64 x_52), (.int .i64 x_53), (.int .i64 x_54), (.int .i64 x_55), (.int .i64 x_56), (.int .i64 x_57)] : List Value) ++ lumpV .u8 32 x_58) fun h_59 =>
  ldI .i64 h_59 (v2.add 0) fun x_60 =>
  ldI .i64 h_59 (v2.add 1) fun x_61 =>
  ldI .i64 h_59 (v2.add 2) fun x_62 =>
  ldI .i64 h_59 (v2.add 3) fun x_63 =>
  ldI .i64 h_59 (v2.add 4) fun x_64 =>
  ldI .i64 h_59 (v2.add 5) fun x_65 =>
  ldL .u8 32 h_59 (v2.add 6) fun x_66 =>
  Q x_60 x_61 x_62 x_63 x_64 x_65 (nrm 32 x_66) (0 : Int) h_59)

def inode_Parse (ρ : Ids) (b0 : Sl) (h : Hp) (Q : Int → Int → Int → Int → Int → Int → List Int → Int → Hp → Prop) : Prop :=
  alW h (ρ.T 8) (([(.int .i64 (0 : Int)), (.int .i64 (0 : Int)), (.int .i64 (0 : Int)), (.int .i64 (0 : Int)), (.int .i64 (0 : Int)), (.int .i64 (0 : Int))] : List Value) ++ lumpV .u8 32 (List.replicate 32 0)) fun p_1 h_2 =>
  br ((b0.len : Int) != (64 : Int))
  (stAll h_2 p_1 0 (([(.int .i64 (0 : Int)), (.int .i64 (0 : Int)), (.int .i64 (0 : Int)), (.int .i64 (0 : Int)), (.int .i64 (0 : Int)), (.int .i64 (0 : Int))] : List Value) ++ lumpV .u8 32 (List.replicate 32 0)) fun h_3 =>
  ldI .i64 h_3 (p_1.add 0) fun x_4 =>
  ldI .i64 h_3 (p_1.add 1) fun x_5 =>
  ldI .i64 h_3 (p_1.add 2) fun x_6 =>
  ldI .i64 h_3 (p_1.add 3) fun x_7 =>
  ldI .i64 h_3 (p_1.add 4) fun x_8 =>
  ldI .i64 h_3 (p_1.add 5) fun x_9 =>
  ldL .u8 32 h_3 (p_1.add 6) fun x_10 =>
  Q x_4 x_5 x_6 x_7 x_8 x_9 (nrm 32 x_10) (1 : Int) h_3)
  (pack_Read ρ b0 h_2 fun r_11 h_12 =>
  pack_Reader_Num ρ r_11 (1 : Int) (3 : Int) h_12 fun r_13 h_14 =>
  pack_Reader_Num ρ r_11 (1 : Int) (7 : Int) h_14 fun r_15 h_16 =>
  pack_Reader_Num ρ r_11 (2 : Int) (65535 : Int) h_16 fun r_17 h_18 =>
  pack_Reader_Num ρ r_11 (4 : Int) (8192 : Int) h_18 fun r_19 h_20 =>
  pack_Reader_Num ρ r_11 (8 : Int) (9223372036854775807 : Int) h_20 fun r_21 h_22 =>
  pack_Reader_Num ρ r_11 (1 : Int) (255 : Int) h_22 fun r_23 h_24 =>
  alW h_24 (ρ.T 8) (([(.int .i64 (0 : Int)), (.int .i64 (0 : Int)), (.int .i64 (0 : Int)), (.int .i64 (0 : Int)), (.int .i64 (0 : Int)), (.int .i64 (0 : Int))] : List Value) ++ lumpV .u8 32 (List.replicate 32 0)) fun p_25 h_26 =>
  stAll h_26 p_25 0 (([(.int .i64 (IntKind.wrap .i64 r_13)), (.int .i64 (IntKind.wrap .i64 r_15)), (.int .i64 (IntKind.wrap .i64 r_17)), (.int .i64 (IntKind.wrap .i64 r_19)), (.int .i64 (IntKind.wrap .i64 r_21)), (.int .i64 (IntKind.wrap .i64 r_23))] : List Value) ++ lumpV .u8 32 (List.replicate 32 0)) fun h_27 =>
  slW (⟨some (p_25.add 6), 32, 32⟩ : Sl) (0 : Int) ((32 : Nat) : Int) 1 fun s_28 =>
  pack_Reader_Bytes ρ r_11 (32 : Int) h_27 fun r_29 h_30 =>
  cpW 1 h_30 s_28 r_29 fun n_31 h_32 =>
  pack_Reader_Rest ρ r_11 h_32 fun r_33 h_34 =>
  br (r_33 != (0 : Int))
  (inode_Parse_K1 ρ Q p_1 p_25 true h_34)
  (ldI .i64 h_34 (p_25.add 0) fun x_35 =>
  ldI .i64 h_34 (p_25.add 1) fun x_36 =>
  ldI .i64 h_34 (p_25.add 2) fun x_37 =>
  ldI .i64 h_34 (p_25.add 3) fun x_38 =>
  ldI .i64 h_34 (p_25.add 4) fun x_39 =>
  ldI .i64 h_34 (p_25.add 5) fun x_40 =>
  ldL .u8 32 h_34 (p_25.add 6) fun x_41 =>
  inode_May ρ x_35 x_36 x_37 x_38 x_39 x_40 (nrm 32 x_41) h_34 fun r_42 h_43 =>
  inode_Parse_K1 ρ Q p_1 p_25 (!r_42) h_43))

def inode_Parse_S (ρ : Ids) : Spec := fun args h K =>
  (tS fun b0 => tN (inode_Parse ρ b0 h (fun r0 r1 r2 r3 r4 r5 r6 r7 h => K (.tuple [(.agg (([(.int .i64 r0), (.int .i64 r1), (.int .i64 r2), (.int .i64 r3), (.int .i64 r4), (.int .i64 r5)] : List Value) ++ lumpV .u8 32 r6).toArray), (.int .i64 r7)].toArray) h))) args

def carlingref21_num_B1 (ρ : Ids) (S1 : Sl → Int → Int → Hp → Prop) (Q : Int → Hp → Prop) (b0 : Sl) (n3 : Int) (i4 : Int) (h : Hp) : Prop :=
  br (decide (i4 ≥ (0 : Int)))
  (ixW b0.a b0.len i4 1 fun p_1 =>
  ldI .u8 h p_1 fun x_2 =>
  S1 b0 (IntKind.wrap .u64 ((IntKind.wrap .u64 ((256 : Int) * n3)) + (IntKind.wrap .u64 x_2))) (IntKind.wrap .i64 (i4 - (1 : Int))) h)
  (Q n3 h)

def carlingref21_num_L1 (ρ : Ids) (Q : Int → Hp → Prop) (b0 : Sl) (n3 : Int) (i4 : Int) (h : Hp) : Prop :=
  Lfp (fun S vals h => (tS fun b0 => tI .u64 fun n3 => tI .i64 fun i4 => tN (carlingref21_num_B1 ρ (fun b0 n3 i4 hh => S [(.slice b0.a b0.len b0.cap), (.int .u64 n3), (.int .i64 i4)] hh) Q b0 n3 i4 h)) vals) [(.slice b0.a b0.len b0.cap), (.int .u64 n3), (.int .i64 i4)] h

theorem carlingref21_num_L1_in (ρ : Ids) (Q : Int → Hp → Prop) (b0 : Sl) (n3 : Int) (i4 : Int) (h : Hp) (H : carlingref21_num_B1 ρ (carlingref21_num_L1 ρ Q) Q b0 n3 i4 h) : carlingref21_num_L1 ρ Q b0 n3 i4 h := lfp_in H

def carlingref21_num (ρ : Ids) (b0 : Sl) (h : Hp) (Q : Int → Hp → Prop) : Prop :=
  carlingref21_num_L1 ρ Q b0 (0 : Int) (IntKind.wrap .i64 ((b0.len : Int) - (1 : Int))) h

def carlingref21_num_S (ρ : Ids) : Spec := fun args h K =>
  (tS fun b0 => tN (carlingref21_num ρ b0 h (fun r0 h => K (.int .u64 r0) h))) args

def carlingref21_Used_K3 (ρ : Ids) (S1 : Addr → Sl → Int → Hp → Prop) (S2 : Addr → Sl → Int → Bool → Int → Hp → Prop) (Q : Sl → Hp → Prop) (n1 : Addr) (out3 : Sl) (p4 : Int) (is5 : Bool) (i6 : Int) (h : Hp) : Prop :=
  S2 n1 out3 p4 is5 (IntKind.wrap .i64 (i6 + (1 : Int))) h

def carlingref21_Used_K4 (ρ : Ids) (S1 : Addr → Sl → Int → Hp → Prop) (Q : Sl → Hp → Prop) (n1 : Addr) (out3 : Sl) (p4 : Int) (h : Hp) : Prop :=
  S1 n1 out3 (IntKind.wrap .i64 (p4 + (1 : Int))) h

def carlingref21_Used_B2 (ρ : Ids) (S1 : Addr → Sl → Int → Hp → Prop) (S2 : Addr → Sl → Int → Bool → Int → Hp → Prop) (Q : Sl → Hp → Prop) (n1 : Addr) (out3 : Sl) (p4 : Int) (is5 : Bool) (i6 : Int) (h : Hp) : Prop :=
  br (decide (i6 < (32 : Int)))
  (br is5
  (carlingref21_Used_K3 ρ S1 S2 Q n1 out3 p4 true i6 h)
  (ixW (some (n1.add 6)) 32 i6 1 fun p_4 =>
  ldI .u8 h p_4 fun x_5 =>
  carlingref21_Used_K3 ρ S1 S2 Q n1 out3 p4 ((IntKind.wrap .i64 x_5) == p4) i6 h))
  (br is5
  (alW h (ρ.T 0) [(.int .i64 p4)] fun p_6 h_7 =>
  apW (ρ.T 0) 1 8 (.int .i64 (0 : Int)) h_7 out3 (⟨some p_6, 1, 1⟩ : Sl) fun s_8 h_9 =>
  carlingref21_Used_K4 ρ S1 Q n1 s_8 p4 h_9)
  (carlingref21_Used_K4 ρ S1 Q n1 out3 p4 h))

def carlingref21_Used_L2 (ρ : Ids) (S1 : Addr → Sl → Int → Hp → Prop) (Q : Sl → Hp → Prop) (n1 : Addr) (out3 : Sl) (p4 : Int) (is5 : Bool) (i6 : Int) (h : Hp) : Prop :=
  Lfp (fun S vals h => (tA fun n1 => tS fun out3 => tI .i64 fun p4 => tB fun is5 => tI .i64 fun i6 => tN (carlingref21_Used_B2 ρ S1 (fun n1 out3 p4 is5 i6 hh => S [(.pointer (some n1)), (.slice out3.a out3.len out3.cap), (.int .i64 p4), (.bool is5), (.int .i64 i6)] hh) Q n1 out3 p4 is5 i6 h)) vals) [(.pointer (some n1)), (.slice out3.a out3.len out3.cap), (.int .i64 p4), (.bool is5), (.int .i64 i6)] h

theorem carlingref21_Used_L2_in (ρ : Ids) (S1 : Addr → Sl → Int → Hp → Prop) (Q : Sl → Hp → Prop) (n1 : Addr) (out3 : Sl) (p4 : Int) (is5 : Bool) (i6 : Int) (h : Hp) (H : carlingref21_Used_B2 ρ S1 (carlingref21_Used_L2 ρ S1 Q) Q n1 out3 p4 is5 i6 h) : carlingref21_Used_L2 ρ S1 Q n1 out3 p4 is5 i6 h := lfp_in H

def carlingref21_Used_B1 (ρ : Ids) (S1 : Addr → Sl → Int → Hp → Prop) (Q : Sl → Hp → Prop) (n1 : Addr) (out3 : Sl) (p4 : Int) (h : Hp) : Prop :=
  br (decide (p4 < (256 : Int)))
  (ldI .i64 h (n1.add 5) fun x_3 =>
  carlingref21_Used_L2 ρ S1 Q n1 out3 p4 (x_3 == p4) (0 : Int) h)
  (Q out3 h)

def carlingref21_Used_L1 (ρ : Ids) (Q : Sl → Hp → Prop) (n1 : Addr) (out3 : Sl) (p4 : Int) (h : Hp) : Prop :=
  Lfp (fun S vals h => (tA fun n1 => tS fun out3 => tI .i64 fun p4 => tN (carlingref21_Used_B1 ρ (fun n1 out3 p4 hh => S [(.pointer (some n1)), (.slice out3.a out3.len out3.cap), (.int .i64 p4)] hh) Q n1 out3 p4 h)) vals) [(.pointer (some n1)), (.slice out3.a out3.len out3.cap), (.int .i64 p4)] h

theorem carlingref21_Used_L1_in (ρ : Ids) (Q : Sl → Hp → Prop) (n1 : Addr) (out3 : Sl) (p4 : Int) (h : Hp) (H : carlingref21_Used_B1 ρ (carlingref21_Used_L1 ρ Q) Q n1 out3 p4 h) : carlingref21_Used_L1 ρ Q n1 out3 p4 h := lfp_in H

def carlingref21_Used (ρ : Ids) (n0_0 : Int) (n0_1 : Int) (n0_2 : Int) (n0_3 : Int) (n0_4 : Int) (n0_5 : Int) (n0_6 : List Int) (h : Hp) (Q : Sl → Hp → Prop) : Prop :=
  alW h (ρ.T 9) (([(.int .i64 n0_0), (.int .i64 n0_1), (.int .i64 n0_2), (.int .i64 n0_3), (.int .i64 n0_4), (.int .i64 n0_5)] : List Value) ++ lumpV .u8 32 n0_6) fun p_1 h_2 =>
  carlingref21_Used_L1 ρ Q p_1 (⟨none, 0, 0⟩ : Sl) (1 : Int) h_2

def carlingref21_Used_S (ρ : Ids) : Spec := fun args h K =>
  (tG fun cells0 rest0 => (tI .i64 fun n0_0 => tI .i64 fun n0_1 => tI .i64 fun n0_2 => tI .i64 fun n0_3 => tI .i64 fun n0_4 => tI .i64 fun n0_5 => tL .u8 32 fun n0_6 => tN ((tN (carlingref21_Used ρ n0_0 n0_1 n0_2 n0_3 n0_4 n0_5 n0_6 h (fun r0 h => K (.slice r0.a r0.len r0.cap) h))) rest0)) cells0) args

def carlingref21_May_K4 (ρ : Ids) (S2 : Addr → Int → Int → Hp → Prop) (Q : Bool → Hp → Prop) (n1 : Addr) (many3 : Int) (i4 : Int) (h : Hp) : Prop :=
  S2 n1 many3 (IntKind.wrap .i64 (i4 + (1 : Int))) h

def carlingref21_May_K3 (ρ : Ids) (S2 : Addr → Int → Int → Hp → Prop) (Q : Bool → Hp → Prop) (n1 : Addr) (many3 : Int) (i4 : Int) (v91 : Bool) (h : Hp) : Prop :=
  br v91
  (Q false h)
  (carlingref21_May_K4 ρ S2 Q n1 many3 i4 h)

def carlingref21_May_B2 (ρ : Ids) (S2 : Addr → Int → Int → Hp → Prop) (Q : Bool → Hp → Prop) (n1 : Addr) (many3 : Int) (i4 : Int) (h : Hp) : Prop :=
  br (decide (i4 < (32 : Int)))
  (ixW (some (n1.add 6)) 32 i4 1 fun p_23 =>
  ldI .u8 h p_23 fun x_24 =>
  br (x_24 == (0 : Int))
  (carlingref21_May_K4 ρ S2 Q n1 many3 i4 h)
  (ixW (some (n1.add 6)) 32 i4 1 fun p_25 =>
  ldI .u8 h p_25 fun x_26 =>
  br (decide ((IntKind.wrap .i64 x_26) ≥ (216 : Int)))
  (carlingref21_May_K3 ρ S2 Q n1 (IntKind.wrap .i64 (many3 + (1 : Int))) i4 true h)
  (ldI .i64 h (n1.add 3) fun x_27 =>
  ((256 : Int) ≠ 0) ∧
  carlingref21_May_K3 ρ S2 Q n1 (IntKind.wrap .i64 (many3 + (1 : Int))) i4 (decide (i4 ≥ (IntKind.wrap .i64 (Int.tdiv (IntKind.wrap .i64 (x_27 + (255 : Int))) (256 : Int))))) h)))
  (ldI .i64 h (n1.add 0) fun x_28 =>
  ldI .i64 h (n1.add 1) fun x_29 =>
  ldI .i64 h (n1.add 2) fun x_30 =>
  ldI .i64 h (n1.add 3) fun x_31 =>
  ldI .i64 h (n1.add 4) fun x_32 =>
  ldI .i64 h (n1.add 5) fun x_33 =>
  ldL .u8 32 h (n1.add 6) fun x_34 =>
  carlingref21_Used ρ x_28 x_29 x_30 x_31 x_32 x_33 (nrm 32 x_34) h fun r_35 h_36 =>
  Q ((r_35.len : Int) == many3) h_36)

def carlingref21_May_L2 (ρ : Ids) (Q : Bool → Hp → Prop) (n1 : Addr) (many3 : Int) (i4 : Int) (h : Hp) : Prop :=
  Lfp (fun S vals h => (tA fun n1 => tI .i64 fun many3 => tI .i64 fun i4 => tN (carlingref21_May_B2 ρ (fun n1 many3 i4 hh => S [(.pointer (some n1)), (.int .i64 many3), (.int .i64 i4)] hh) Q n1 many3 i4 h)) vals) [(.pointer (some n1)), (.int .i64 many3), (.int .i64 i4)] h

theorem carlingref21_May_L2_in (ρ : Ids) (Q : Bool → Hp → Prop) (n1 : Addr) (many3 : Int) (i4 : Int) (h : Hp) (H : carlingref21_May_B2 ρ (carlingref21_May_L2 ρ Q) Q n1 many3 i4 h) : carlingref21_May_L2 ρ Q n1 many3 i4 h := lfp_in H

def carlingref21_May_K5 (ρ : Ids) (Q : Bool → Hp → Prop) (n1 : Addr) (many3 : Int) (h : Hp) : Prop :=
  carlingref21_May_L2 ρ Q n1 many3 (0 : Int) h

def carlingref21_May_K1 (ρ : Ids) (Q : Bool → Hp → Prop) (n1 : Addr) (v57 : Bool) (h : Hp) : Prop :=
  br v57
  (Q false h)
  (ldI .i64 h (n1.add 0) fun x_14 =>
  br (x_14 == (0 : Int))
  (ldI .i64 h (n1.add 0) fun x_15 =>
  ldI .i64 h (n1.add 1) fun x_16 =>
  ldI .i64 h (n1.add 2) fun x_17 =>
  ldI .i64 h (n1.add 3) fun x_18 =>
  ldI .i64 h (n1.add 4) fun x_19 =>
  ldI .i64 h (n1.add 5) fun x_20 =>
  ldL .u8 32 h (n1.add 6) fun x_21 =>
  Q ((x_15 == (0 : Int)) && ((x_16 == (0 : Int)) && ((x_17 == (0 : Int)) && ((x_18 == (0 : Int)) && ((x_19 == (0 : Int)) && ((x_20 == (0 : Int)) && ((nrm 32 x_21 == nrm 32 (List.replicate 32 0)) && true))))))) h)
  (ldI .i64 h (n1.add 5) fun x_22 =>
  br (decide (x_22 > (0 : Int)))
  (carlingref21_May_K5 ρ Q n1 (1 : Int) h)
  (carlingref21_May_K5 ρ Q n1 (0 : Int) h)))

def carlingref21_May (ρ : Ids) (n0_0 : Int) (n0_1 : Int) (n0_2 : Int) (n0_3 : Int) (n0_4 : Int) (n0_5 : Int) (n0_6 : List Int) (h : Hp) (Q : Bool → Hp → Prop) : Prop :=
  alW h (ρ.T 9) (([(.int .i64 n0_0), (.int .i64 n0_1), (.int .i64 n0_2), (.int .i64 n0_3), (.int .i64 n0_4), (.int .i64 n0_5)] : List Value) ++ lumpV .u8 32 n0_6) fun p_1 h_2 =>
  ldI .i64 h_2 (p_1.add 0) fun x_3 =>
  br (decide (x_3 < (0 : Int)))
  (carlingref21_May_K1 ρ Q p_1 true h_2)
  (ldI .i64 h_2 (p_1.add 0) fun x_4 =>
  br (decide (x_4 > (3 : Int)))
  (carlingref21_May_K1 ρ Q p_1 true h_2)
  (ldI .i64 h_2 (p_1.add 1) fun x_5 =>
  br (decide (x_5 < (0 : Int)))
  (carlingref21_May_K1 ρ Q p_1 true h_2)
  (ldI .i64 h_2 (p_1.add 1) fun x_6 =>
  br (decide (x_6 > (7 : Int)))
  (carlingref21_May_K1 ρ Q p_1 true h_2)
  (ldI .i64 h_2 (p_1.add 2) fun x_7 =>
  br (decide (x_7 < (0 : Int)))
  (carlingref21_May_K1 ρ Q p_1 true h_2)
  (ldI .i64 h_2 (p_1.add 2) fun x_8 =>
  br (decide (x_8 > (65535 : Int)))
  (carlingref21_May_K1 ρ Q p_1 true h_2)
  (ldI .i64 h_2 (p_1.add 3) fun x_9 =>
  br (decide (x_9 < (0 : Int)))
  (carlingref21_May_K1 ρ Q p_1 true h_2)
  (ldI .i64 h_2 (p_1.add 3) fun x_10 =>
  br (decide (x_10 > (8192 : Int)))
  (carlingref21_May_K1 ρ Q p_1 true h_2)
  (ldI .i64 h_2 (p_1.add 4) fun x_11 =>
  br (decide (x_11 < (0 : Int)))
  (carlingref21_May_K1 ρ Q p_1 true h_2)
  (ldI .i64 h_2 (p_1.add 5) fun x_12 =>
  br (decide (x_12 < (0 : Int)))
  (carlingref21_May_K1 ρ Q p_1 true h_2)
  (ldI .i64 h_2 (p_1.add 5) fun x_13 =>
  carlingref21_May_K1 ρ Q p_1 (decide (x_13 ≥ (216 : Int))) h_2))))))))))

def carlingref21_May_S (ρ : Ids) : Spec := fun args h K =>
  (tG fun cells0 rest0 => (tI .i64 fun n0_0 => tI .i64 fun n0_1 => tI .i64 fun n0_2 => tI .i64 fun n0_3 => tI .i64 fun n0_4 => tI .i64 fun n0_5 => tL .u8 32 fun n0_6 => tN ((tN (carlingref21_May ρ n0_0 n0_1 n0_2 n0_3 n0_4 n0_5 n0_6 h (fun r0 h => K (.bool r0) h))) rest0)) cells0) args

def carlingref21_low_B1 (ρ : Ids) (S1 : Int → Int → Sl → Int → Hp → Prop) (Q : Sl → Hp → Prop) (n0 : Int) (size1 : Int) (out5 : Sl) (i6 : Int) (h : Hp) : Prop :=
  br (decide (i6 < size1))
  ((0 ≤ (IntKind.wrap .i64 ((8 : Int) * i6))) ∧
  alW h (ρ.T 1) [(.int .u8 (IntKind.wrap .u8 (Int.fdiv n0 (2 ^ (min (Int.toNat (IntKind.wrap .i64 ((8 : Int) * i6))) (IntKind.bits .u64))))))] fun p_1 h_2 =>
  apW (ρ.T 1) 1 1 (.int .u8 (0 : Int)) h_2 out5 (⟨some p_1, 1, 1⟩ : Sl) fun s_3 h_4 =>
  S1 n0 size1 s_3 (IntKind.wrap .i64 (i6 + (1 : Int))) h_4)
  (Q out5 h)

def carlingref21_low_L1 (ρ : Ids) (Q : Sl → Hp → Prop) (n0 : Int) (size1 : Int) (out5 : Sl) (i6 : Int) (h : Hp) : Prop :=
  Lfp (fun S vals h => (tI .u64 fun n0 => tI .i64 fun size1 => tS fun out5 => tI .i64 fun i6 => tN (carlingref21_low_B1 ρ (fun n0 size1 out5 i6 hh => S [(.int .u64 n0), (.int .i64 size1), (.slice out5.a out5.len out5.cap), (.int .i64 i6)] hh) Q n0 size1 out5 i6 h)) vals) [(.int .u64 n0), (.int .i64 size1), (.slice out5.a out5.len out5.cap), (.int .i64 i6)] h

theorem carlingref21_low_L1_in (ρ : Ids) (Q : Sl → Hp → Prop) (n0 : Int) (size1 : Int) (out5 : Sl) (i6 : Int) (h : Hp) (H : carlingref21_low_B1 ρ (carlingref21_low_L1 ρ Q) Q n0 size1 out5 i6 h) : carlingref21_low_L1 ρ Q n0 size1 out5 i6 h := lfp_in H

def carlingref21_low (ρ : Ids) (n0 : Int) (size1 : Int) (h : Hp) (Q : Sl → Hp → Prop) : Prop :=
  carlingref21_low_L1 ρ Q n0 size1 (⟨none, 0, 0⟩ : Sl) (0 : Int) h

def carlingref21_low_S (ρ : Ids) : Spec := fun args h K =>
  (tI .u64 fun n0 => tI .i64 fun size1 => tN (carlingref21_low ρ n0 size1 h (fun r0 h => K (.slice r0.a r0.len r0.cap) h))) args

def carlingref21_Lay_B1 (ρ : Ids) (S1 : Sl → Hp → Prop) (Q : Sl → Int → Hp → Prop) (b4 : Sl) (h : Hp) : Prop :=
  br (decide ((b4.len : Int) < (64 : Int)))
  (alW h (ρ.T 1) [(.int .u8 (0 : Int))] fun p_63 h_64 =>
  apW (ρ.T 1) 1 1 (.int .u8 (0 : Int)) h_64 b4 (⟨some p_63, 1, 1⟩ : Sl) fun s_65 h_66 =>
  S1 s_65 h_66)
  (Q b4 (0 : Int) h)

def carlingref21_Lay_L1 (ρ : Ids) (Q : Sl → Int → Hp → Prop) (b4 : Sl) (h : Hp) : Prop :=
  Lfp (fun S vals h => (tS fun b4 => tN (carlingref21_Lay_B1 ρ (fun b4 hh => S [(.slice b4.a b4.len b4.cap)] hh) Q b4 h)) vals) [(.slice b4.a b4.len b4.cap)] h

theorem carlingref21_Lay_L1_in (ρ : Ids) (Q : Sl → Int → Hp → Prop) (b4 : Sl) (h : Hp) (H : carlingref21_Lay_B1 ρ (carlingref21_Lay_L1 ρ Q) Q b4 h) : carlingref21_Lay_L1 ρ Q b4 h := lfp_in H

def carlingref21_Lay (ρ : Ids) (n0_0 : Int) (n0_1 : Int) (n0_2 : Int) (n0_3 : Int) (n0_4 : Int) (n0_5 : Int) (n0_6 : List Int) (h : Hp) (Q : Sl → Int → Hp → Prop) : Prop :=
  alW h (ρ.T 9) (([(.int .i64 n0_0), (.int .i64 n0_1), (.int .i64 n0_2), (.int .i64 n0_3), (.int .i64 n0_4), (.int .i64 n0_5)] : List Value) ++ lumpV .u8 32 n0_6) fun p_1 h_2 =>
  ldI .i64 h_2 (p_1.add 0) fun x_3 =>
  ldI .i64 h_2 (p_1.add 1) fun x_4 =>
  ldI .i64 h_2 (p_1.add 2) fun x_5 =>
  ldI .i64 h_2 (p_1.add 3) fun x_6 =>
  ldI .i64 h_2 (p_1.add 4) fun x_7 =>
  ldI .i64 h_2 (p_1.add 5) fun x_8 =>
  ldL .u8 32 h_2 (p_1.add 6) fun x_9 =>
  carlingref21_May ρ x_3 x_4 x_5 x_6 x_7 x_8 (nrm 32 x_9) h_2 fun r_10 h_11 =>
  br (!r_10)
  (Q (⟨none, 0, 0⟩ : Sl) (1 : Int) h_11)
  (ldI .i64 h_11 (p_1.add 0) fun x_12 =>
  ldI .i64 h_11 (p_1.add 1) fun x_13 =>
  ldI .i64 h_11 (p_1.add 2) fun x_14 =>
  (alW h_11 (ρ.T 1) [(.int .u8 (IntKind.wrap .u8 x_12)), (.int .u8 (IntKind.wrap .u8 x_13))] fun p_15 h_16 =>
  (True) ∧
  ((hcell h_16 (p_1.add 2) = some (.int .i64 x_14)) ∧
  (carlingref21_low ρ (IntKind.wrap .u64 x_14) (2 : Int) h_16 fun r_17 h_18 =>
  apW (ρ.T 1) 1 1 (.int .u8 (0 : Int)) h_18 (⟨some p_15, 2, 2⟩ : Sl) r_17 fun s_19 h_20 =>
  ldI .i64 h_20 (p_1.add 3) fun x_21 =>
  ldI .i64 h_20 (p_1.add 4) fun x_22 =>
  carlingref21_low ρ (IntKind.wrap .u64 x_21) (4 : Int) h_20 fun r_23 h_24 =>
  (True) ∧
  ((hcell h_24 (p_1.add 4) = some (.int .i64 x_22)) ∧
  (apW (ρ.T 1) 1 1 (.int .u8 (0 : Int)) h_24 s_19 r_23 fun s_25 h_26 =>
  (True) ∧
  ((hcell h_26 (p_1.add 4) = some (.int .i64 x_22)) ∧
  (carlingref21_low ρ (IntKind.wrap .u64 x_22) (8 : Int) h_26 fun r_27 h_28 =>
  apW (ρ.T 1) 1 1 (.int .u8 (0 : Int)) h_28 s_25 r_27 fun s_29 h_30 =>
  ldI .i64 h_30 (p_1.add 5) fun x_31 =>
  slW (⟨some (p_1.add 6), 32, 32⟩ : Sl) (0 : Int) ((32 : Nat) : Int) 1 fun s_32 =>
  alW h_30 (ρ.T 1) [(.int .u8 (IntKind.wrap .u8 x_31))] fun p_33 h_34 =>
  apW (ρ.T 1) 1 1 (.int .u8 (0 : Int)) h_34 s_29 (⟨some p_33, 1, 1⟩ : Sl) fun s_35 h_36 =>
  apW (ρ.T 1) 1 1 (.int .u8 (0 : Int)) h_36 s_35 s_32 fun s_37 h_38 =>
  carlingref21_Lay_L1 ρ Q s_37 h_38))))))) ∧
  (carlingref21_low ρ (IntKind.wrap .u64 x_14) (2 : Int) h_11 fun r_39 h_40 =>
  (True) ∧
  ((hcell h_40 (p_1.add 1) = some (.int .i64 x_13)) ∧
  ((True) ∧
  ((hcell h_40 (p_1.add 0) = some (.int .i64 x_12)) ∧
  (alW h_40 (ρ.T 1) [(.int .u8 (IntKind.wrap .u8 x_12)), (.int .u8 (IntKind.wrap .u8 x_13))] fun p_41 h_42 =>
  apW (ρ.T 1) 1 1 (.int .u8 (0 : Int)) h_42 (⟨some p_41, 2, 2⟩ : Sl) r_39 fun s_43 h_44 =>
  ldI .i64 h_44 (p_1.add 3) fun x_45 =>
  ldI .i64 h_44 (p_1.add 4) fun x_46 =>
  carlingref21_low ρ (IntKind.wrap .u64 x_45) (4 : Int) h_44 fun r_47 h_48 =>
  (True) ∧
  ((hcell h_48 (p_1.add 4) = some (.int .i64 x_46)) ∧
  (apW (ρ.T 1) 1 1 (.int .u8 (0 : Int)) h_48 s_43 r_47 fun s_49 h_50 =>
  (True) ∧
  ((hcell h_50 (p_1.add 4) = some (.int .i64 x_46)) ∧
  (carlingref21_low ρ (IntKind.wrap .u64 x_46) (8 : Int) h_50 fun r_51 h_52 =>
  apW (ρ.T 1) 1 1 (.int .u8 (0 : Int)) h_52 s_49 r_51 fun s_53 h_54 =>
  ldI .i64 h_54 (p_1.add 5) fun x_55 =>
  slW (⟨some (p_1.add 6), 32, 32⟩ : Sl) (0 : Int) ((32 : Nat) : Int) 1 fun s_56 =>
  alW h_54 (ρ.T 1) [(.int .u8 (IntKind.wrap .u8 x_55))] fun p_57 h_58 =>
  apW (ρ.T 1) 1 1 (.int .u8 (0 : Int)) h_58 s_53 (⟨some p_57, 1, 1⟩ : Sl) fun s_59 h_60 =>
  apW (ρ.T 1) 1 1 (.int .u8 (0 : Int)) h_60 s_59 s_56 fun s_61 h_62 =>
  carlingref21_Lay_L1 ρ Q s_61 h_62))))))))))

def carlingref21_Lay_S (ρ : Ids) : Spec := fun args h K =>
  (tG fun cells0 rest0 => (tI .i64 fun n0_0 => tI .i64 fun n0_1 => tI .i64 fun n0_2 => tI .i64 fun n0_3 => tI .i64 fun n0_4 => tI .i64 fun n0_5 => tL .u8 32 fun n0_6 => tN ((tN (carlingref21_Lay ρ n0_0 n0_1 n0_2 n0_3 n0_4 n0_5 n0_6 h (fun r0 r1 h => K (.tuple [(.slice r0.a r0.len r0.cap), (.int .i64 r1)].toArray) h))) rest0)) cells0) args

def carlingref21_Parse_K4 (ρ : Ids) (S2 : Sl → Addr → Addr → Sl → Int → Int → Hp → Prop) (Q : Int → Int → Int → Int → Int → Int → List Int → Int → Hp → Prop) (b0 : Sl) (v2 : Addr) (n4 : Addr) (x6 : Sl) (e7 : Int) (i8 : Int) (h : Hp) : Prop :=
  S2 b0 v2 n4 x6 e7 (IntKind.wrap .i64 (i8 + (1 : Int))) h

def carlingref21_Parse_K3 (ρ : Ids) (S2 : Sl → Addr → Addr → Sl → Int → Int → Hp → Prop) (Q : Int → Int → Int → Int → Int → Int → List Int → Int → Hp → Prop) (b0 : Sl) (v2 : Addr) (n4 : Addr) (x6 : Sl) (e7 : Int) (i8 : Int) (v60 : Bool) (h : Hp) : Prop :=
  br v60
  (ixW x6.a x6.len i8 1 fun p_64 =>
  ldI .u8 h p_64 fun x_65 =>
  ixW b0.a b0.len i8 1 fun p_66 =>
  ldI .u8 h p_66 fun x_67 =>
  br (x_65 != x_67)
  (carlingref21_Parse_K4 ρ S2 Q b0 v2 n4 x6 (9 : Int) i8 h)
  (carlingref21_Parse_K4 ρ S2 Q b0 v2 n4 x6 e7 i8 h))
  (br (e7 != (0 : Int))
  (stAll h v2 0 (([(.int .i64 (0 : Int)), (.int .i64 (0 : Int)), (.int .i64 (0 : Int)), (.int .i64 (0 : Int)), (.int .i64 (0 : Int)), (.int .i64 (0 : Int))] : List Value) ++ lumpV .u8 32 (List.replicate 32 0)) fun h_68 =>
  ldI .i64 h_68 (v2.add 0) fun x_69 =>
  ldI .i64 h_68 (v2.add 1) fun x_70 =>
  ldI .i64 h_68 (v2.add 2) fun x_71 =>
  ldI .i64 h_68 (v2.add 3) fun x_72 =>
  ldI .i64 h_68 (v2.add 4) fun x_73 =>
  ldI .i64 h_68 (v2.add 5) fun x_74 =>
  ldL .u8 32 h_68 (v2.add 6) fun x_75 =>
  Q x_69 x_70 x_71 x_72 x_73 x_74 (nrm 32 x_75) (9 : Int) h_68)
  (ldI .i64 h (n4.add 0) fun x_76 =>
  ldI .i64 h (n4.add 1) fun x_77 =>
  ldI .i64 h (n4.add 2) fun x_78 =>
  ldI .i64 h (n4.add 3) fun x_79 =>
  ldI .i64 h (n4.add 4) fun x_80 =>
  ldI .i64 h (n4.add 5) fun x_81 =>
  ldL .u8 32 h (n4.add 6) fun x_82 =>
  stAll h v2 0 (([(.int .i64 x_76), (.int .i64 x_77), (.int .i64 x_78), (.int .i64 x_79), (.int .i64 x_80), (.int .i64 x_81)] : List Value) ++ lumpV .u8 32 x_82) fun h_83 =>
  ldI .i64 h_83 (v2.add 0) fun x_84 =>
  ldI .i64 h_83 (v2.add 1) fun x_85 =>
  ldI .i64 h_83 (v2.add 2) fun x_86 =>
  ldI .i64 h_83 (v2.add 3) fun x_87 =>
  ldI .i64 h_83 (v2.add 4) fun x_88 =>
  ldI .i64 h_83 (v2.add 5) fun x_89 =>
  ldL .u8 32 h_83 (v2.add 6) fun x_90 =>
  Q x_84 x_85 x_86 x_87 x_88 x_89 (nrm 32 x_90) (0 : Int) h_83))

def carlingref21_Parse_B2 (ρ : Ids) (S2 : Sl → Addr → Addr → Sl → Int → Int → Hp → Prop) (Q : Int → Int → Int → Int → Int → Int → List Int → Int → Hp → Prop) (b0 : Sl) (v2 : Addr) (n4 : Addr) (x6 : Sl) (e7 : Int) (i8 : Int) (h : Hp) : Prop :=
  br (e7 == (0 : Int))
  (carlingref21_Parse_K3 ρ S2 Q b0 v2 n4 x6 e7 i8 (decide (i8 < (64 : Int))) h)
  (carlingref21_Parse_K3 ρ S2 Q b0 v2 n4 x6 e7 i8 false h)

def carlingref21_Parse_L2 (ρ : Ids) (Q : Int → Int → Int → Int → Int → Int → List Int → Int → Hp → Prop) (b0 : Sl) (v2 : Addr) (n4 : Addr) (x6 : Sl) (e7 : Int) (i8 : Int) (h : Hp) : Prop :=
  Lfp (fun S vals h => (tS fun b0 => tA fun v2 => tA fun n4 => tS fun x6 => tI .i64 fun e7 => tI .i64 fun i8 => tN (carlingref21_Parse_B2 ρ (fun b0 v2 n4 x6 e7 i8 hh => S [(.slice b0.a b0.len b0.cap), (.pointer (some v2)), (.pointer (some n4)), (.slice x6.a x6.len x6.cap), (.int .i64 e7), (.int .i64 i8)] hh) Q b0 v2 n4 x6 e7 i8 h)) vals) [(.slice b0.a b0.len b0.cap), (.pointer (some v2)), (.pointer (some n4)), (.slice x6.a x6.len x6.cap), (.int .i64 e7), (.int .i64 i8)] h

theorem carlingref21_Parse_L2_in (ρ : Ids) (Q : Int → Int → Int → Int → Int → Int → List Int → Int → Hp → Prop) (b0 : Sl) (v2 : Addr) (n4 : Addr) (x6 : Sl) (e7 : Int) (i8 : Int) (h : Hp) (H : carlingref21_Parse_B2 ρ (carlingref21_Parse_L2 ρ Q) Q b0 v2 n4 x6 e7 i8 h) : carlingref21_Parse_L2 ρ Q b0 v2 n4 x6 e7 i8 h := lfp_in H

def carlingref21_Parse_B1 (ρ : Ids) (S1 : Sl → Addr → Addr → Int → Hp → Prop) (Q : Int → Int → Int → Int → Int → Int → List Int → Int → Hp → Prop) (b0 : Sl) (v2 : Addr) (n4 : Addr) (i5 : Int) (h : Hp) : Prop :=
  br (decide (i5 < (32 : Int)))
  (ixW b0.a b0.len (IntKind.wrap .i64 ((17 : Int) + i5)) 1 fun p_50 =>
  ldI .u8 h p_50 fun x_51 =>
  ixW (some (n4.add 6)) 32 i5 1 fun p_52 =>
  st h (p_52.add 0) (.int .u8 x_51) fun h_53 =>
  S1 b0 v2 n4 (IntKind.wrap .i64 (i5 + (1 : Int))) h_53)
  (ldI .i64 h (n4.add 0) fun x_54 =>
  ldI .i64 h (n4.add 1) fun x_55 =>
  ldI .i64 h (n4.add 2) fun x_56 =>
  ldI .i64 h (n4.add 3) fun x_57 =>
  ldI .i64 h (n4.add 4) fun x_58 =>
  ldI .i64 h (n4.add 5) fun x_59 =>
  ldL .u8 32 h (n4.add 6) fun x_60 =>
  carlingref21_Lay ρ x_54 x_55 x_56 x_57 x_58 x_59 (nrm 32 x_60) h fun r_61 r_62 h_63 =>
  carlingref21_Parse_L2 ρ Q b0 v2 n4 r_61 r_62 (0 : Int) h_63)

def carlingref21_Parse_L1 (ρ : Ids) (Q : Int → Int → Int → Int → Int → Int → List Int → Int → Hp → Prop) (b0 : Sl) (v2 : Addr) (n4 : Addr) (i5 : Int) (h : Hp) : Prop :=
  Lfp (fun S vals h => (tS fun b0 => tA fun v2 => tA fun n4 => tI .i64 fun i5 => tN (carlingref21_Parse_B1 ρ (fun b0 v2 n4 i5 hh => S [(.slice b0.a b0.len b0.cap), (.pointer (some v2)), (.pointer (some n4)), (.int .i64 i5)] hh) Q b0 v2 n4 i5 h)) vals) [(.slice b0.a b0.len b0.cap), (.pointer (some v2)), (.pointer (some n4)), (.int .i64 i5)] h

theorem carlingref21_Parse_L1_in (ρ : Ids) (Q : Int → Int → Int → Int → Int → Int → List Int → Int → Hp → Prop) (b0 : Sl) (v2 : Addr) (n4 : Addr) (i5 : Int) (h : Hp) (H : carlingref21_Parse_B1 ρ (carlingref21_Parse_L1 ρ Q) Q b0 v2 n4 i5 h) : carlingref21_Parse_L1 ρ Q b0 v2 n4 i5 h := lfp_in H

def carlingref21_Parse (ρ : Ids) (b0 : Sl) (h : Hp) (Q : Int → Int → Int → Int → Int → Int → List Int → Int → Hp → Prop) : Prop :=
  alW h (ρ.T 9) (([(.int .i64 (0 : Int)), (.int .i64 (0 : Int)), (.int .i64 (0 : Int)), (.int .i64 (0 : Int)), (.int .i64 (0 : Int)), (.int .i64 (0 : Int))] : List Value) ++ lumpV .u8 32 (List.replicate 32 0)) fun p_1 h_2 =>
  br ((b0.len : Int) != (64 : Int))
  (stAll h_2 p_1 0 (([(.int .i64 (0 : Int)), (.int .i64 (0 : Int)), (.int .i64 (0 : Int)), (.int .i64 (0 : Int)), (.int .i64 (0 : Int)), (.int .i64 (0 : Int))] : List Value) ++ lumpV .u8 32 (List.replicate 32 0)) fun h_3 =>
  ldI .i64 h_3 (p_1.add 0) fun x_4 =>
  ldI .i64 h_3 (p_1.add 1) fun x_5 =>
  ldI .i64 h_3 (p_1.add 2) fun x_6 =>
  ldI .i64 h_3 (p_1.add 3) fun x_7 =>
  ldI .i64 h_3 (p_1.add 4) fun x_8 =>
  ldI .i64 h_3 (p_1.add 5) fun x_9 =>
  ldL .u8 32 h_3 (p_1.add 6) fun x_10 =>
  Q x_4 x_5 x_6 x_7 x_8 x_9 (nrm 32 x_10) (1 : Int) h_3)
  (ixW b0.a b0.len (0 : Int) 1 fun p_11 =>
  ldI .u8 h_2 p_11 fun x_12 =>
  ixW b0.a b0.len (1 : Int) 1 fun p_13 =>
  ldI .u8 h_2 p_13 fun x_14 =>
  slW b0 (2 : Int) (4 : Int) 1 fun s_15 =>
  slW b0 (4 : Int) (8 : Int) 1 fun s_16 =>
  slW b0 (8 : Int) (16 : Int) 1 fun s_17 =>
  ixW b0.a b0.len (16 : Int) 1 fun p_18 =>
  ldI .u8 h_2 p_18 fun x_19 =>
  (carlingref21_num ρ s_15 h_2 fun r_20 h_21 =>
  (True) ∧
  ((hcell h_21 p_18 = some (.int .u8 x_19)) ∧
  ((True) ∧
  ((hcell h_21 p_13 = some (.int .u8 x_14)) ∧
  ((True) ∧
  ((hcell h_21 p_11 = some (.int .u8 x_12)) ∧
  ((carlingref21_num ρ s_16 h_21 fun r_22 h_23 =>
  (True) ∧
  ((True) ∧
  ((hcell h_23 p_18 = some (.int .u8 x_19)) ∧
  ((True) ∧
  ((hcell h_23 p_13 = some (.int .u8 x_14)) ∧
  ((True) ∧
  ((hcell h_23 p_11 = some (.int .u8 x_12)) ∧
  ((carlingref21_num ρ s_17 h_23 fun r_24 h_25 =>
  (True) ∧
  ((True) ∧
  ((True) ∧
  ((hcell h_25 p_18 = some (.int .u8 x_19)) ∧
  ((True) ∧
  ((hcell h_25 p_13 = some (.int .u8 x_14)) ∧
  ((True) ∧
  ((hcell h_25 p_11 = some (.int .u8 x_12)) ∧
  (alW h_25 (ρ.T 9) (([(.int .i64 (0 : Int)), (.int .i64 (0 : Int)), (.int .i64 (0 : Int)), (.int .i64 (0 : Int)), (.int .i64 (0 : Int)), (.int .i64 (0 : Int))] : List Value) ++ lumpV .u8 32 (List.replicate 32 0)) fun p_26 h_27 =>
  (True) ∧
  ((True) ∧
  ((True) ∧
  ((True) ∧
  ((hcell h_27 p_18 = some (.int .u8 x_19)) ∧
  ((True) ∧
  ((hcell h_27 p_13 = some (.int .u8 x_14)) ∧
  ((True) ∧
  ((hcell h_27 p_11 = some (.int .u8 x_12)) ∧
  (stAll h_27 p_26 0 (([(.int .i64 (IntKind.wrap .i64 x_12)), (.int .i64 (IntKind.wrap .i64 x_14)), (.int .i64 (IntKind.wrap .i64 r_20)), (.int .i64 (IntKind.wrap .i64 r_22)), (.int .i64 (IntKind.wrap .i64 r_24)), (.int .i64 (IntKind.wrap .i64 x_19))] : List Value) ++ lumpV .u8 32 (List.replicate 32 0)) fun h_28 =>
  carlingref21_Parse_L1 ρ Q b0 p_1 p_26 (0 : Int) h_28)))))))))))))))))) ∧
  (alW h_23 (ρ.T 9) (([(.int .i64 (0 : Int)), (.int .i64 (0 : Int)), (.int .i64 (0 : Int)), (.int .i64 (0 : Int)), (.int .i64 (0 : Int)), (.int .i64 (0 : Int))] : List Value) ++ lumpV .u8 32 (List.replicate 32 0)) fun p_29 h_30 =>
  (True) ∧
  ((True) ∧
  ((True) ∧
  ((hcell h_30 p_18 = some (.int .u8 x_19)) ∧
  ((True) ∧
  ((hcell h_30 p_13 = some (.int .u8 x_14)) ∧
  ((True) ∧
  ((hcell h_30 p_11 = some (.int .u8 x_12)) ∧
  (carlingref21_num ρ s_17 h_30 fun r_31 h_32 =>
  (True) ∧
  ((True) ∧
  ((True) ∧
  ((hcell h_32 p_18 = some (.int .u8 x_19)) ∧
  ((True) ∧
  ((hcell h_32 p_13 = some (.int .u8 x_14)) ∧
  ((True) ∧
  ((hcell h_32 p_11 = some (.int .u8 x_12)) ∧
  (stAll h_32 p_29 0 (([(.int .i64 (IntKind.wrap .i64 x_12)), (.int .i64 (IntKind.wrap .i64 x_14)), (.int .i64 (IntKind.wrap .i64 r_20)), (.int .i64 (IntKind.wrap .i64 r_22)), (.int .i64 (IntKind.wrap .i64 r_31)), (.int .i64 (IntKind.wrap .i64 x_19))] : List Value) ++ lumpV .u8 32 (List.replicate 32 0)) fun h_33 =>
  carlingref21_Parse_L1 ρ Q b0 p_1 p_29 (0 : Int) h_33))))))))))))))))))))))))) ∧
  (alW h_21 (ρ.T 9) (([(.int .i64 (0 : Int)), (.int .i64 (0 : Int)), (.int .i64 (0 : Int)), (.int .i64 (0 : Int)), (.int .i64 (0 : Int)), (.int .i64 (0 : Int))] : List Value) ++ lumpV .u8 32 (List.replicate 32 0)) fun p_34 h_35 =>
  (True) ∧
  ((True) ∧
  ((hcell h_35 p_18 = some (.int .u8 x_19)) ∧
  ((True) ∧
  ((hcell h_35 p_13 = some (.int .u8 x_14)) ∧
  ((True) ∧
  ((hcell h_35 p_11 = some (.int .u8 x_12)) ∧
  (carlingref21_num ρ s_16 h_35 fun r_36 h_37 =>
  (True) ∧
  ((True) ∧
  ((hcell h_37 p_18 = some (.int .u8 x_19)) ∧
  ((True) ∧
  ((hcell h_37 p_13 = some (.int .u8 x_14)) ∧
  ((True) ∧
  ((hcell h_37 p_11 = some (.int .u8 x_12)) ∧
  (carlingref21_num ρ s_17 h_37 fun r_38 h_39 =>
  (True) ∧
  ((True) ∧
  ((True) ∧
  ((hcell h_39 p_18 = some (.int .u8 x_19)) ∧
  ((True) ∧
  ((hcell h_39 p_13 = some (.int .u8 x_14)) ∧
  ((True) ∧
  ((hcell h_39 p_11 = some (.int .u8 x_12)) ∧
  (stAll h_39 p_34 0 (([(.int .i64 (IntKind.wrap .i64 x_12)), (.int .i64 (IntKind.wrap .i64 x_14)), (.int .i64 (IntKind.wrap .i64 r_20)), (.int .i64 (IntKind.wrap .i64 r_36)), (.int .i64 (IntKind.wrap .i64 r_38)), (.int .i64 (IntKind.wrap .i64 x_19))] : List Value) ++ lumpV .u8 32 (List.replicate 32 0)) fun h_40 =>
  carlingref21_Parse_L1 ρ Q b0 p_1 p_34 (0 : Int) h_40)))))))))))))))))))))))))))))) ∧
  (alW h_2 (ρ.T 9) (([(.int .i64 (0 : Int)), (.int .i64 (0 : Int)), (.int .i64 (0 : Int)), (.int .i64 (0 : Int)), (.int .i64 (0 : Int)), (.int .i64 (0 : Int))] : List Value) ++ lumpV .u8 32 (List.replicate 32 0)) fun p_41 h_42 =>
  (True) ∧
  ((hcell h_42 p_18 = some (.int .u8 x_19)) ∧
  ((True) ∧
  ((hcell h_42 p_13 = some (.int .u8 x_14)) ∧
  ((True) ∧
  ((hcell h_42 p_11 = some (.int .u8 x_12)) ∧
  (carlingref21_num ρ s_15 h_42 fun r_43 h_44 =>
  (True) ∧
  ((hcell h_44 p_18 = some (.int .u8 x_19)) ∧
  ((True) ∧
  ((hcell h_44 p_13 = some (.int .u8 x_14)) ∧
  ((True) ∧
  ((hcell h_44 p_11 = some (.int .u8 x_12)) ∧
  (carlingref21_num ρ s_16 h_44 fun r_45 h_46 =>
  (True) ∧
  ((True) ∧
  ((hcell h_46 p_18 = some (.int .u8 x_19)) ∧
  ((True) ∧
  ((hcell h_46 p_13 = some (.int .u8 x_14)) ∧
  ((True) ∧
  ((hcell h_46 p_11 = some (.int .u8 x_12)) ∧
  (carlingref21_num ρ s_17 h_46 fun r_47 h_48 =>
  (True) ∧
  ((True) ∧
  ((True) ∧
  ((hcell h_48 p_18 = some (.int .u8 x_19)) ∧
  ((True) ∧
  ((hcell h_48 p_13 = some (.int .u8 x_14)) ∧
  ((True) ∧
  ((hcell h_48 p_11 = some (.int .u8 x_12)) ∧
  (stAll h_48 p_41 0 (([(.int .i64 (IntKind.wrap .i64 x_12)), (.int .i64 (IntKind.wrap .i64 x_14)), (.int .i64 (IntKind.wrap .i64 r_43)), (.int .i64 (IntKind.wrap .i64 r_45)), (.int .i64 (IntKind.wrap .i64 r_47)), (.int .i64 (IntKind.wrap .i64 x_19))] : List Value) ++ lumpV .u8 32 (List.replicate 32 0)) fun h_49 =>
  carlingref21_Parse_L1 ρ Q b0 p_1 p_41 (0 : Int) h_49)))))))))))))))))))))))))))))

def carlingref21_Parse_S (ρ : Ids) : Spec := fun args h K =>
  (tS fun b0 => tN (carlingref21_Parse ρ b0 h (fun r0 r1 r2 r3 r4 r5 r6 r7 h => K (.tuple [(.agg (([(.int .i64 r0), (.int .i64 r1), (.int .i64 r2), (.int .i64 r3), (.int .i64 r4), (.int .i64 r5)] : List Value) ++ lumpV .u8 32 r6).toArray), (.int .i64 r7)].toArray) h))) args

def carlinglaw21_ours (ρ : Ids) (n0_0 : Int) (n0_1 : Int) (n0_2 : Int) (n0_3 : Int) (n0_4 : Int) (n0_5 : Int) (n0_6 : List Int) (h : Hp) (Q : Int → Int → Int → Int → Int → Int → List Int → Hp → Prop) : Prop :=
  alW h (ρ.T 8) (([(.int .i64 n0_0), (.int .i64 n0_1), (.int .i64 n0_2), (.int .i64 n0_3), (.int .i64 n0_4), (.int .i64 n0_5)] : List Value) ++ lumpV .u8 32 n0_6) fun p_1 h_2 =>
  alW h_2 (ρ.T 9) (([(.int .i64 (0 : Int)), (.int .i64 (0 : Int)), (.int .i64 (0 : Int)), (.int .i64 (0 : Int)), (.int .i64 (0 : Int)), (.int .i64 (0 : Int))] : List Value) ++ lumpV .u8 32 (List.replicate 32 0)) fun p_3 h_4 =>
  ldI .i64 h_4 (p_1.add 0) fun x_5 =>
  ldI .i64 h_4 (p_1.add 1) fun x_6 =>
  ldI .i64 h_4 (p_1.add 2) fun x_7 =>
  ldI .i64 h_4 (p_1.add 3) fun x_8 =>
  ldI .i64 h_4 (p_1.add 4) fun x_9 =>
  ldI .i64 h_4 (p_1.add 5) fun x_10 =>
  ldL .u8 32 h_4 (p_1.add 6) fun x_11 =>
  stAll h_4 p_3 0 (([(.int .i64 x_5), (.int .i64 x_6), (.int .i64 x_7), (.int .i64 x_8), (.int .i64 x_9), (.int .i64 x_10)] : List Value) ++ lumpV .u8 32 x_11) fun h_12 =>
  ldI .i64 h_12 (p_3.add 0) fun x_13 =>
  ldI .i64 h_12 (p_3.add 1) fun x_14 =>
  ldI .i64 h_12 (p_3.add 2) fun x_15 =>
  ldI .i64 h_12 (p_3.add 3) fun x_16 =>
  ldI .i64 h_12 (p_3.add 4) fun x_17 =>
  ldI .i64 h_12 (p_3.add 5) fun x_18 =>
  ldL .u8 32 h_12 (p_3.add 6) fun x_19 =>
  Q x_13 x_14 x_15 x_16 x_17 x_18 (nrm 32 x_19) h_12

def carlinglaw21_ours_S (ρ : Ids) : Spec := fun args h K =>
  (tG fun cells0 rest0 => (tI .i64 fun n0_0 => tI .i64 fun n0_1 => tI .i64 fun n0_2 => tI .i64 fun n0_3 => tI .i64 fun n0_4 => tI .i64 fun n0_5 => tL .u8 32 fun n0_6 => tN ((tN (carlinglaw21_ours ρ n0_0 n0_1 n0_2 n0_3 n0_4 n0_5 n0_6 h (fun r0 r1 r2 r3 r4 r5 r6 h => K (.agg (([(.int .i64 r0), (.int .i64 r1), (.int .i64 r2), (.int .i64 r3), (.int .i64 r4), (.int .i64 r5)] : List Value) ++ lumpV .u8 32 r6).toArray) h))) rest0)) cells0) args

def pack_Num_K7 (ρ : Ids) (Q : Sl → Hp → Prop) (n1 : Int) (out7 : Sl) (h : Hp) : Prop :=
  alW h (ρ.T 1) [(.int .u8 (IntKind.wrap .u8 n1))] fun p_33 h_34 =>
  apW (ρ.T 1) 1 1 (.int .u8 (0 : Int)) h_34 out7 (⟨some p_33, 1, 1⟩ : Sl) fun s_35 h_36 =>
  Q s_35 h_36

def pack_Num_K6 (ρ : Ids) (Q : Sl → Hp → Prop) (n1 : Int) (out7 : Sl) (h : Hp) : Prop :=
  alW h (ρ.T 1) [(.int .u8 (IntKind.wrap .u8 n1))] fun p_29 h_30 =>
  apW (ρ.T 1) 1 1 (.int .u8 (0 : Int)) h_30 out7 (⟨some p_29, 1, 1⟩ : Sl) fun s_31 h_32 =>
  (0 ≤ (8 : Int)) ∧
  pack_Num_K7 ρ Q (Int.fdiv n1 (2 ^ (min (Int.toNat (8 : Int)) (IntKind.bits .u64)))) s_31 h_32

def pack_Num_K5 (ρ : Ids) (Q : Sl → Hp → Prop) (n1 : Int) (out7 : Sl) (h : Hp) : Prop :=
  alW h (ρ.T 1) [(.int .u8 (IntKind.wrap .u8 n1))] fun p_25 h_26 =>
  apW (ρ.T 1) 1 1 (.int .u8 (0 : Int)) h_26 out7 (⟨some p_25, 1, 1⟩ : Sl) fun s_27 h_28 =>
  (0 ≤ (8 : Int)) ∧
  pack_Num_K6 ρ Q (Int.fdiv n1 (2 ^ (min (Int.toNat (8 : Int)) (IntKind.bits .u64)))) s_27 h_28

def pack_Num_K4 (ρ : Ids) (Q : Sl → Hp → Prop) (n1 : Int) (out7 : Sl) (h : Hp) : Prop :=
  alW h (ρ.T 1) [(.int .u8 (IntKind.wrap .u8 n1))] fun p_21 h_22 =>
  apW (ρ.T 1) 1 1 (.int .u8 (0 : Int)) h_22 out7 (⟨some p_21, 1, 1⟩ : Sl) fun s_23 h_24 =>
  (0 ≤ (8 : Int)) ∧
  pack_Num_K5 ρ Q (Int.fdiv n1 (2 ^ (min (Int.toNat (8 : Int)) (IntKind.bits .u64)))) s_23 h_24

def pack_Num_K3 (ρ : Ids) (Q : Sl → Hp → Prop) (n1 : Int) (out7 : Sl) (h : Hp) : Prop :=
  alW h (ρ.T 1) [(.int .u8 (IntKind.wrap .u8 n1))] fun p_17 h_18 =>
  apW (ρ.T 1) 1 1 (.int .u8 (0 : Int)) h_18 out7 (⟨some p_17, 1, 1⟩ : Sl) fun s_19 h_20 =>
  (0 ≤ (8 : Int)) ∧
  pack_Num_K4 ρ Q (Int.fdiv n1 (2 ^ (min (Int.toNat (8 : Int)) (IntKind.bits .u64)))) s_19 h_20

def pack_Num_K2 (ρ : Ids) (Q : Sl → Hp → Prop) (n1 : Int) (out7 : Sl) (h : Hp) : Prop :=
  alW h (ρ.T 1) [(.int .u8 (IntKind.wrap .u8 n1))] fun p_13 h_14 =>
  apW (ρ.T 1) 1 1 (.int .u8 (0 : Int)) h_14 out7 (⟨some p_13, 1, 1⟩ : Sl) fun s_15 h_16 =>
  (0 ≤ (8 : Int)) ∧
  pack_Num_K3 ρ Q (Int.fdiv n1 (2 ^ (min (Int.toNat (8 : Int)) (IntKind.bits .u64)))) s_15 h_16

def pack_Num_K1 (ρ : Ids) (Q : Sl → Hp → Prop) (n1 : Int) (out7 : Sl) (h : Hp) : Prop :=
  alW h (ρ.T 1) [(.int .u8 (IntKind.wrap .u8 n1))] fun p_9 h_10 =>
  apW (ρ.T 1) 1 1 (.int .u8 (0 : Int)) h_10 out7 (⟨some p_9, 1, 1⟩ : Sl) fun s_11 h_12 =>
  (0 ≤ (8 : Int)) ∧
  pack_Num_K2 ρ Q (Int.fdiv n1 (2 ^ (min (Int.toNat (8 : Int)) (IntKind.bits .u64)))) s_11 h_12

def pack_Num (ρ : Ids) (b0 : Sl) (n1 : Int) (size2 : Int) (h : Hp) (Q : Sl → Hp → Prop) : Prop :=
  bytes_Clone ρ b0 h fun r_1 h_2 =>
  pack_sized ρ size2 h_2 fun r_3 h_4 =>
  br (r_3 == (8 : Int))
  (alW h_4 (ρ.T 1) [(.int .u8 (IntKind.wrap .u8 n1))] fun p_5 h_6 =>
  apW (ρ.T 1) 1 1 (.int .u8 (0 : Int)) h_6 r_1 (⟨some p_5, 1, 1⟩ : Sl) fun s_7 h_8 =>
  (0 ≤ (8 : Int)) ∧
  pack_Num_K1 ρ Q (Int.fdiv n1 (2 ^ (min (Int.toNat (8 : Int)) (IntKind.bits .u64)))) s_7 h_8)
  (br (r_3 == (7 : Int))
  (pack_Num_K1 ρ Q n1 r_1 h_4)
  (br (r_3 == (6 : Int))
  (pack_Num_K2 ρ Q n1 r_1 h_4)
  (br (r_3 == (5 : Int))
  (pack_Num_K3 ρ Q n1 r_1 h_4)
  (br (r_3 == (4 : Int))
  (pack_Num_K4 ρ Q n1 r_1 h_4)
  (br (r_3 == (3 : Int))
  (pack_Num_K5 ρ Q n1 r_1 h_4)
  (br (r_3 == (2 : Int))
  (pack_Num_K6 ρ Q n1 r_1 h_4)
  (pack_Num_K7 ρ Q n1 r_1 h_4)))))))

def pack_Num_S (ρ : Ids) : Spec := fun args h K =>
  (tS fun b0 => tI .u64 fun n1 => tI .i64 fun size2 => tN (pack_Num ρ b0 n1 size2 h (fun r0 h => K (.slice r0.a r0.len r0.cap) h))) args

def pack_Fill (ρ : Ids) (b0 : Sl) (size1 : Int) (h : Hp) (Q : Sl → Int → Hp → Prop) : Prop :=
  br (decide ((b0.len : Int) > size1))
  (Q (⟨none, 0, 0⟩ : Sl) (1 : Int) h)
  (bytes_Clone ρ b0 h fun r_1 h_2 =>
  apZ (ρ.T 1) 1 1 (.int .u8 (0 : Int)) h_2 r_1 (IntKind.wrap .i64 (size1 - (b0.len : Int))) fun s_3 h_4 =>
  Q s_3 (0 : Int) h_4)

def pack_Fill_S (ρ : Ids) : Spec := fun args h K =>
  (tS fun b0 => tI .i64 fun size1 => tN (pack_Fill ρ b0 size1 h (fun r0 r1 h => K (.tuple [(.slice r0.a r0.len r0.cap), (.int .i64 r1)].toArray) h))) args

def inode_Lay (ρ : Ids) (n0_0 : Int) (n0_1 : Int) (n0_2 : Int) (n0_3 : Int) (n0_4 : Int) (n0_5 : Int) (n0_6 : List Int) (h : Hp) (Q : Sl → Int → Hp → Prop) : Prop :=
  alW h (ρ.T 8) (([(.int .i64 n0_0), (.int .i64 n0_1), (.int .i64 n0_2), (.int .i64 n0_3), (.int .i64 n0_4), (.int .i64 n0_5)] : List Value) ++ lumpV .u8 32 n0_6) fun p_1 h_2 =>
  ldI .i64 h_2 (p_1.add 0) fun x_3 =>
  ldI .i64 h_2 (p_1.add 1) fun x_4 =>
  ldI .i64 h_2 (p_1.add 2) fun x_5 =>
  ldI .i64 h_2 (p_1.add 3) fun x_6 =>
  ldI .i64 h_2 (p_1.add 4) fun x_7 =>
  ldI .i64 h_2 (p_1.add 5) fun x_8 =>
  ldL .u8 32 h_2 (p_1.add 6) fun x_9 =>
  inode_May ρ x_3 x_4 x_5 x_6 x_7 x_8 (nrm 32 x_9) h_2 fun r_10 h_11 =>
  br (!r_10)
  (Q (⟨none, 0, 0⟩ : Sl) (1 : Int) h_11)
  (ldI .i64 h_11 (p_1.add 0) fun x_12 =>
  ldI .i64 h_11 (p_1.add 1) fun x_13 =>
  alW h_11 (ρ.T 1) [(.int .u8 (IntKind.wrap .u8 x_12)), (.int .u8 (IntKind.wrap .u8 x_13))] fun p_14 h_15 =>
  ldI .i64 h_15 (p_1.add 2) fun x_16 =>
  pack_Num ρ (⟨some p_14, 2, 2⟩ : Sl) (IntKind.wrap .u64 x_16) (2 : Int) h_15 fun r_17 h_18 =>
  ldI .i64 h_18 (p_1.add 3) fun x_19 =>
  pack_Num ρ r_17 (IntKind.wrap .u64 x_19) (4 : Int) h_18 fun r_20 h_21 =>
  ldI .i64 h_21 (p_1.add 4) fun x_22 =>
  pack_Num ρ r_20 (IntKind.wrap .u64 x_22) (8 : Int) h_21 fun r_23 h_24 =>
  ldI .i64 h_24 (p_1.add 5) fun x_25 =>
  slW (⟨some (p_1.add 6), 32, 32⟩ : Sl) (0 : Int) ((32 : Nat) : Int) 1 fun s_26 =>
  alW h_24 (ρ.T 1) [(.int .u8 (IntKind.wrap .u8 x_25))] fun p_27 h_28 =>
  apW (ρ.T 1) 1 1 (.int .u8 (0 : Int)) h_28 r_23 (⟨some p_27, 1, 1⟩ : Sl) fun s_29 h_30 =>
  apW (ρ.T 1) 1 1 (.int .u8 (0 : Int)) h_30 s_29 s_26 fun s_31 h_32 =>
  pack_Fill ρ s_31 (64 : Int) h_32 fun r_33 r_34 h_35 =>
  Q r_33 r_34 h_35)

def inode_Lay_S (ρ : Ids) : Spec := fun args h K =>
  (tG fun cells0 rest0 => (tI .i64 fun n0_0 => tI .i64 fun n0_1 => tI .i64 fun n0_2 => tI .i64 fun n0_3 => tI .i64 fun n0_4 => tI .i64 fun n0_5 => tL .u8 32 fun n0_6 => tN ((tN (inode_Lay ρ n0_0 n0_1 n0_2 n0_3 n0_4 n0_5 n0_6 h (fun r0 r1 h => K (.tuple [(.slice r0.a r0.len r0.cap), (.int .i64 r1)].toArray) h))) rest0)) cells0) args

def carlinglaw21_alive (ρ : Ids)  (h : Hp) (Q : Bool → Hp → Prop) : Prop :=
  alW h (ρ.T 8) (([(.int .i64 (0 : Int)), (.int .i64 (0 : Int)), (.int .i64 (0 : Int)), (.int .i64 (0 : Int)), (.int .i64 (0 : Int)), (.int .i64 (0 : Int))] : List Value) ++ lumpV .u8 32 (List.replicate 32 0)) fun p_1 h_2 =>
  stAll h_2 p_1 0 (([(.int .i64 (1 : Int)), (.int .i64 (6 : Int)), (.int .i64 (1 : Int)), (.int .i64 (300 : Int)), (.int .i64 (0 : Int)), (.int .i64 (9 : Int))] : List Value) ++ lumpV .u8 32 (List.replicate 32 0)) fun h_3 =>
  ixW (some (p_1.add 6)) 32 (1 : Int) 1 fun p_4 =>
  st h_3 (p_4.add 0) (.int .u8 (7 : Int)) fun h_5 =>
  ldI .i64 h_5 (p_1.add 0) fun x_6 =>
  ldI .i64 h_5 (p_1.add 1) fun x_7 =>
  ldI .i64 h_5 (p_1.add 2) fun x_8 =>
  ldI .i64 h_5 (p_1.add 3) fun x_9 =>
  ldI .i64 h_5 (p_1.add 4) fun x_10 =>
  ldI .i64 h_5 (p_1.add 5) fun x_11 =>
  ldL .u8 32 h_5 (p_1.add 6) fun x_12 =>
  inode_Lay ρ x_6 x_7 x_8 x_9 x_10 x_11 (nrm 32 x_12) h_5 fun r_13 r_14 h_15 =>
  inode_Parse ρ r_13 h_15 fun r_16 r_17 r_18 r_19 r_20 r_21 r_22 r_23 h_24 =>
  alW h_24 (ρ.T 8) (([(.int .i64 (0 : Int)), (.int .i64 (0 : Int)), (.int .i64 (0 : Int)), (.int .i64 (0 : Int)), (.int .i64 (0 : Int)), (.int .i64 (0 : Int))] : List Value) ++ lumpV .u8 32 (List.replicate 32 0)) fun p_25 h_26 =>
  stAll h_26 p_25 0 (([(.int .i64 r_16), (.int .i64 r_17), (.int .i64 r_18), (.int .i64 r_19), (.int .i64 r_20), (.int .i64 r_21)] : List Value) ++ lumpV .u8 32 r_22) fun h_27 =>
  ldI .i64 h_27 (p_1.add 0) fun x_28 =>
  ldI .i64 h_27 (p_1.add 1) fun x_29 =>
  ldI .i64 h_27 (p_1.add 2) fun x_30 =>
  ldI .i64 h_27 (p_1.add 3) fun x_31 =>
  ldI .i64 h_27 (p_1.add 4) fun x_32 =>
  ldI .i64 h_27 (p_1.add 5) fun x_33 =>
  ldL .u8 32 h_27 (p_1.add 6) fun x_34 =>
  inode_Used ρ x_28 x_29 x_30 x_31 x_32 x_33 (nrm 32 x_34) h_27 fun r_35 h_36 =>
  mkW (ρ.T 1) 1 1 (.int .u8 (0 : Int)) h_36 (64 : Int) (64 : Int) fun s_37 h_38 =>
  inode_Parse ρ s_37 h_38 fun r_39 r_40 r_41 r_42 r_43 r_44 r_45 r_46 h_47 =>
  alW h_47 (ρ.T 8) (([(.int .i64 (0 : Int)), (.int .i64 (0 : Int)), (.int .i64 (0 : Int)), (.int .i64 (0 : Int)), (.int .i64 (0 : Int)), (.int .i64 (0 : Int))] : List Value) ++ lumpV .u8 32 (List.replicate 32 0)) fun p_48 h_49 =>
  stAll h_49 p_48 0 (([(.int .i64 r_39), (.int .i64 r_40), (.int .i64 r_41), (.int .i64 r_42), (.int .i64 r_43), (.int .i64 r_44)] : List Value) ++ lumpV .u8 32 r_45) fun h_50 =>
  br (r_14 == (0 : Int))
  (br ((r_13.len : Int) == (64 : Int))
  (ldI .i64 h_50 (p_25.add 0) fun x_51 =>
  ldI .i64 h_50 (p_25.add 1) fun x_52 =>
  ldI .i64 h_50 (p_25.add 2) fun x_53 =>
  ldI .i64 h_50 (p_25.add 3) fun x_54 =>
  ldI .i64 h_50 (p_25.add 4) fun x_55 =>
  ldI .i64 h_50 (p_25.add 5) fun x_56 =>
  ldL .u8 32 h_50 (p_25.add 6) fun x_57 =>
  ldI .i64 h_50 (p_1.add 0) fun x_58 =>
  ldI .i64 h_50 (p_1.add 1) fun x_59 =>
  ldI .i64 h_50 (p_1.add 2) fun x_60 =>
  ldI .i64 h_50 (p_1.add 3) fun x_61 =>
  ldI .i64 h_50 (p_1.add 4) fun x_62 =>
  ldI .i64 h_50 (p_1.add 5) fun x_63 =>
  ldL .u8 32 h_50 (p_1.add 6) fun x_64 =>
  br ((x_51 == x_58) && ((x_52 == x_59) && ((x_53 == x_60) && ((x_54 == x_61) && ((x_55 == x_62) && ((x_56 == x_63) && ((nrm 32 x_57 == nrm 32 x_64) && true)))))))
  (br (r_23 == (0 : Int))
  (br ((r_35.len : Int) == (2 : Int))
  (ixW r_35.a r_35.len (0 : Int) 1 fun p_65 =>
  ldI .i64 h_50 p_65 fun x_66 =>
  br (x_66 == (7 : Int))
  (ixW r_35.a r_35.len (1 : Int) 1 fun p_67 =>
  ldI .i64 h_50 p_67 fun x_68 =>
  br (x_68 == (9 : Int))
  (ldI .i64 h_50 (p_48.add 0) fun x_69 =>
  br (x_69 == (0 : Int))
  (Q (r_46 == (0 : Int)) h_50)
  (Q false h_50))
  (Q false h_50))
  (Q false h_50))
  (Q false h_50))
  (Q false h_50))
  (Q false h_50))
  (Q false h_50))
  (Q false h_50)

def carlinglaw21_alive_S (ρ : Ids) : Spec := fun args h K =>
  (tN (carlinglaw21_alive ρ  h (fun r0 h => K (.bool r0) h))) args

def carlinglaw21_InodeParses (ρ : Ids) (b0 : Sl) (h : Hp) (Q : Bool → Hp → Prop) : Prop :=
  inode_Parse ρ b0 h fun r_1 r_2 r_3 r_4 r_5 r_6 r_7 r_8 h_9 =>
  alW h_9 (ρ.T 8) (([(.int .i64 (0 : Int)), (.int .i64 (0 : Int)), (.int .i64 (0 : Int)), (.int .i64 (0 : Int)), (.int .i64 (0 : Int)), (.int .i64 (0 : Int))] : List Value) ++ lumpV .u8 32 (List.replicate 32 0)) fun p_10 h_11 =>
  stAll h_11 p_10 0 (([(.int .i64 r_1), (.int .i64 r_2), (.int .i64 r_3), (.int .i64 r_4), (.int .i64 r_5), (.int .i64 r_6)] : List Value) ++ lumpV .u8 32 r_7) fun h_12 =>
  carlingref21_Parse ρ b0 h_12 fun r_13 r_14 r_15 r_16 r_17 r_18 r_19 r_20 h_21 =>
  alW h_21 (ρ.T 9) (([(.int .i64 (0 : Int)), (.int .i64 (0 : Int)), (.int .i64 (0 : Int)), (.int .i64 (0 : Int)), (.int .i64 (0 : Int)), (.int .i64 (0 : Int))] : List Value) ++ lumpV .u8 32 (List.replicate 32 0)) fun p_22 h_23 =>
  stAll h_23 p_22 0 (([(.int .i64 r_13), (.int .i64 r_14), (.int .i64 r_15), (.int .i64 r_16), (.int .i64 r_17), (.int .i64 r_18)] : List Value) ++ lumpV .u8 32 r_19) fun h_24 =>
  ldI .i64 h_24 (p_10.add 0) fun x_25 =>
  ldI .i64 h_24 (p_10.add 1) fun x_26 =>
  ldI .i64 h_24 (p_10.add 2) fun x_27 =>
  ldI .i64 h_24 (p_10.add 3) fun x_28 =>
  ldI .i64 h_24 (p_10.add 4) fun x_29 =>
  ldI .i64 h_24 (p_10.add 5) fun x_30 =>
  ldL .u8 32 h_24 (p_10.add 6) fun x_31 =>
  ldI .i64 h_24 (p_22.add 0) fun x_32 =>
  ldI .i64 h_24 (p_22.add 1) fun x_33 =>
  ldI .i64 h_24 (p_22.add 2) fun x_34 =>
  ldI .i64 h_24 (p_22.add 3) fun x_35 =>
  ldI .i64 h_24 (p_22.add 4) fun x_36 =>
  ldI .i64 h_24 (p_22.add 5) fun x_37 =>
  ldL .u8 32 h_24 (p_22.add 6) fun x_38 =>
  carlinglaw21_ours ρ x_25 x_26 x_27 x_28 x_29 x_30 (nrm 32 x_31) h_24 fun r_39 r_40 r_41 r_42 r_43 r_44 r_45 h_46 =>
  (hcell h_46 (p_22.add 0) = some (.int .i64 x_32) ∧ (hcell h_46 (p_22.add 1) = some (.int .i64 x_33) ∧ (hcell h_46 (p_22.add 2) = some (.int .i64 x_34) ∧ (hcell h_46 (p_22.add 3) = some (.int .i64 x_35) ∧ (hcell h_46 (p_22.add 4) = some (.int .i64 x_36) ∧ (hcell h_46 (p_22.add 5) = some (.int .i64 x_37) ∧ (lfact .u8 32 x_38 (p_22.add 6) h_46 ∧ (True)))))))) ∧
  (br ((r_39 == x_32) && ((r_40 == x_33) && ((r_41 == x_34) && ((r_42 == x_35) && ((r_43 == x_36) && ((r_44 == x_37) && ((nrm 32 r_45 == nrm 32 x_38) && true)))))))
  (br (r_8 == r_20)
  (carlinglaw21_alive ρ  h_46 fun r_47 h_48 =>
  Q r_47 h_48)
  (Q false h_46))
  (Q false h_46))

def carlinglaw21_InodeParses_S (ρ : Ids) : Spec := fun args h K =>
  (tS fun b0 => tN (carlinglaw21_InodeParses ρ b0 h (fun r0 h => K (.bool r0) h))) args

def carlinglaw21_theirs (ρ : Ids) (n0_0 : Int) (n0_1 : Int) (n0_2 : Int) (n0_3 : Int) (n0_4 : Int) (n0_5 : Int) (n0_6 : List Int) (h : Hp) (Q : Int → Int → Int → Int → Int → Int → List Int → Hp → Prop) : Prop :=
  alW h (ρ.T 9) (([(.int .i64 n0_0), (.int .i64 n0_1), (.int .i64 n0_2), (.int .i64 n0_3), (.int .i64 n0_4), (.int .i64 n0_5)] : List Value) ++ lumpV .u8 32 n0_6) fun p_1 h_2 =>
  alW h_2 (ρ.T 8) (([(.int .i64 (0 : Int)), (.int .i64 (0 : Int)), (.int .i64 (0 : Int)), (.int .i64 (0 : Int)), (.int .i64 (0 : Int)), (.int .i64 (0 : Int))] : List Value) ++ lumpV .u8 32 (List.replicate 32 0)) fun p_3 h_4 =>
  ldI .i64 h_4 (p_1.add 0) fun x_5 =>
  ldI .i64 h_4 (p_1.add 1) fun x_6 =>
  ldI .i64 h_4 (p_1.add 2) fun x_7 =>
  ldI .i64 h_4 (p_1.add 3) fun x_8 =>
  ldI .i64 h_4 (p_1.add 4) fun x_9 =>
  ldI .i64 h_4 (p_1.add 5) fun x_10 =>
  ldL .u8 32 h_4 (p_1.add 6) fun x_11 =>
  stAll h_4 p_3 0 (([(.int .i64 x_5), (.int .i64 x_6), (.int .i64 x_7), (.int .i64 x_8), (.int .i64 x_9), (.int .i64 x_10)] : List Value) ++ lumpV .u8 32 x_11) fun h_12 =>
  ldI .i64 h_12 (p_3.add 0) fun x_13 =>
  ldI .i64 h_12 (p_3.add 1) fun x_14 =>
  ldI .i64 h_12 (p_3.add 2) fun x_15 =>
  ldI .i64 h_12 (p_3.add 3) fun x_16 =>
  ldI .i64 h_12 (p_3.add 4) fun x_17 =>
  ldI .i64 h_12 (p_3.add 5) fun x_18 =>
  ldL .u8 32 h_12 (p_3.add 6) fun x_19 =>
  Q x_13 x_14 x_15 x_16 x_17 x_18 (nrm 32 x_19) h_12

def carlinglaw21_theirs_S (ρ : Ids) : Spec := fun args h K =>
  (tG fun cells0 rest0 => (tI .i64 fun n0_0 => tI .i64 fun n0_1 => tI .i64 fun n0_2 => tI .i64 fun n0_3 => tI .i64 fun n0_4 => tI .i64 fun n0_5 => tL .u8 32 fun n0_6 => tN ((tN (carlinglaw21_theirs ρ n0_0 n0_1 n0_2 n0_3 n0_4 n0_5 n0_6 h (fun r0 r1 r2 r3 r4 r5 r6 h => K (.agg (([(.int .i64 r0), (.int .i64 r1), (.int .i64 r2), (.int .i64 r3), (.int .i64 r4), (.int .i64 r5)] : List Value) ++ lumpV .u8 32 r6).toArray) h))) rest0)) cells0) args

def carlingref02_Same_B1 (ρ : Ids) (S1 : Sl → Sl → Int → Hp → Prop) (Q : Bool → Hp → Prop) (a0 : Sl) (b1 : Sl) (i5 : Int) (h : Hp) : Prop :=
  br (decide (i5 < (a0.len : Int)))
  (ixW a0.a a0.len i5 1 fun p_1 =>
  ldI .u8 h p_1 fun x_2 =>
  ixW b1.a b1.len i5 1 fun p_3 =>
  ldI .u8 h p_3 fun x_4 =>
  br (x_2 != x_4)
  (Q false h)
  (S1 a0 b1 (IntKind.wrap .i64 (i5 + (1 : Int))) h))
  (Q true h)

def carlingref02_Same_L1 (ρ : Ids) (Q : Bool → Hp → Prop) (a0 : Sl) (b1 : Sl) (i5 : Int) (h : Hp) : Prop :=
  Lfp (fun S vals h => (tS fun a0 => tS fun b1 => tI .i64 fun i5 => tN (carlingref02_Same_B1 ρ (fun a0 b1 i5 hh => S [(.slice a0.a a0.len a0.cap), (.slice b1.a b1.len b1.cap), (.int .i64 i5)] hh) Q a0 b1 i5 h)) vals) [(.slice a0.a a0.len a0.cap), (.slice b1.a b1.len b1.cap), (.int .i64 i5)] h

theorem carlingref02_Same_L1_in (ρ : Ids) (Q : Bool → Hp → Prop) (a0 : Sl) (b1 : Sl) (i5 : Int) (h : Hp) (H : carlingref02_Same_B1 ρ (carlingref02_Same_L1 ρ Q) Q a0 b1 i5 h) : carlingref02_Same_L1 ρ Q a0 b1 i5 h := lfp_in H

def carlingref02_Same (ρ : Ids) (a0 : Sl) (b1 : Sl) (h : Hp) (Q : Bool → Hp → Prop) : Prop :=
  br ((a0.len : Int) != (b1.len : Int))
  (Q false h)
  (carlingref02_Same_L1 ρ Q a0 b1 (0 : Int) h)

def carlingref02_Same_S (ρ : Ids) : Spec := fun args h K =>
  (tS fun a0 => tS fun b1 => tN (carlingref02_Same ρ a0 b1 h (fun r0 h => K (.bool r0) h))) args

def carlinglaw21_InodeBack_K2 (ρ : Ids) (Q : Bool → Hp → Prop) (b1 : Sl) (h : Hp) : Prop :=
  inode_Parse ρ b1 h fun r_55 r_56 r_57 r_58 r_59 r_60 r_61 r_62 h_63 =>
  alW h_63 (ρ.T 8) (([(.int .i64 (0 : Int)), (.int .i64 (0 : Int)), (.int .i64 (0 : Int)), (.int .i64 (0 : Int)), (.int .i64 (0 : Int)), (.int .i64 (0 : Int))] : List Value) ++ lumpV .u8 32 (List.replicate 32 0)) fun p_64 h_65 =>
  stAll h_65 p_64 0 (([(.int .i64 r_55), (.int .i64 r_56), (.int .i64 r_57), (.int .i64 r_58), (.int .i64 r_59), (.int .i64 r_60)] : List Value) ++ lumpV .u8 32 r_61) fun h_66 =>
  br (r_62 != (0 : Int))
  (ldI .i64 h_66 (p_64.add 0) fun x_67 =>
  ldI .i64 h_66 (p_64.add 1) fun x_68 =>
  ldI .i64 h_66 (p_64.add 2) fun x_69 =>
  ldI .i64 h_66 (p_64.add 3) fun x_70 =>
  ldI .i64 h_66 (p_64.add 4) fun x_71 =>
  ldI .i64 h_66 (p_64.add 5) fun x_72 =>
  ldL .u8 32 h_66 (p_64.add 6) fun x_73 =>
  br ((x_67 == (0 : Int)) && ((x_68 == (0 : Int)) && ((x_69 == (0 : Int)) && ((x_70 == (0 : Int)) && ((x_71 == (0 : Int)) && ((x_72 == (0 : Int)) && ((nrm 32 x_73 == nrm 32 (List.replicate 32 0)) && true)))))))
  (carlinglaw21_alive ρ  h_66 fun r_74 h_75 =>
  Q r_74 h_75)
  (Q false h_66))
  (ldI .i64 h_66 (p_64.add 0) fun x_76 =>
  ldI .i64 h_66 (p_64.add 1) fun x_77 =>
  ldI .i64 h_66 (p_64.add 2) fun x_78 =>
  ldI .i64 h_66 (p_64.add 3) fun x_79 =>
  ldI .i64 h_66 (p_64.add 4) fun x_80 =>
  ldI .i64 h_66 (p_64.add 5) fun x_81 =>
  ldL .u8 32 h_66 (p_64.add 6) fun x_82 =>
  inode_Lay ρ x_76 x_77 x_78 x_79 x_80 x_81 (nrm 32 x_82) h_66 fun r_83 r_84 h_85 =>
  br (r_84 == (0 : Int))
  (carlingref02_Same ρ r_83 b1 h_85 fun r_86 h_87 =>
  br r_86
  (carlinglaw21_alive ρ  h_87 fun r_88 h_89 =>
  Q r_88 h_89)
  (Q false h_87))
  (Q false h_85))

def carlinglaw21_InodeBack_K1 (ρ : Ids) (Q : Bool → Hp → Prop) (b1 : Sl) (v33 : Bool) (h : Hp) : Prop :=
  br v33
  (Q false h)
  (carlinglaw21_InodeBack_K2 ρ Q b1 h)

def carlinglaw21_InodeBack (ρ : Ids) (n0_0 : Int) (n0_1 : Int) (n0_2 : Int) (n0_3 : Int) (n0_4 : Int) (n0_5 : Int) (n0_6 : List Int) (b1 : Sl) (h : Hp) (Q : Bool → Hp → Prop) : Prop :=
  alW h (ρ.T 9) (([(.int .i64 n0_0), (.int .i64 n0_1), (.int .i64 n0_2), (.int .i64 n0_3), (.int .i64 n0_4), (.int .i64 n0_5)] : List Value) ++ lumpV .u8 32 n0_6) fun p_1 h_2 =>
  ldI .i64 h_2 (p_1.add 0) fun x_3 =>
  ldI .i64 h_2 (p_1.add 1) fun x_4 =>
  ldI .i64 h_2 (p_1.add 2) fun x_5 =>
  ldI .i64 h_2 (p_1.add 3) fun x_6 =>
  ldI .i64 h_2 (p_1.add 4) fun x_7 =>
  ldI .i64 h_2 (p_1.add 5) fun x_8 =>
  ldL .u8 32 h_2 (p_1.add 6) fun x_9 =>
  carlinglaw21_theirs ρ x_3 x_4 x_5 x_6 x_7 x_8 (nrm 32 x_9) h_2 fun r_10 r_11 r_12 r_13 r_14 r_15 r_16 h_17 =>
  inode_Lay ρ r_10 r_11 r_12 r_13 r_14 r_15 (nrm 32 r_16) h_17 fun r_18 r_19 h_20 =>
  br (r_19 == (0 : Int))
  (inode_Parse ρ r_18 h_20 fun r_21 r_22 r_23 r_24 r_25 r_26 r_27 r_28 h_29 =>
  alW h_29 (ρ.T 8) (([(.int .i64 (0 : Int)), (.int .i64 (0 : Int)), (.int .i64 (0 : Int)), (.int .i64 (0 : Int)), (.int .i64 (0 : Int)), (.int .i64 (0 : Int))] : List Value) ++ lumpV .u8 32 (List.replicate 32 0)) fun p_30 h_31 =>
  stAll h_31 p_30 0 (([(.int .i64 r_21), (.int .i64 r_22), (.int .i64 r_23), (.int .i64 r_24), (.int .i64 r_25), (.int .i64 r_26)] : List Value) ++ lumpV .u8 32 r_27) fun h_32 =>
  ldI .i64 h_32 (p_30.add 0) fun x_33 =>
  ldI .i64 h_32 (p_30.add 1) fun x_34 =>
  ldI .i64 h_32 (p_30.add 2) fun x_35 =>
  ldI .i64 h_32 (p_30.add 3) fun x_36 =>
  ldI .i64 h_32 (p_30.add 4) fun x_37 =>
  ldI .i64 h_32 (p_30.add 5) fun x_38 =>
  ldL .u8 32 h_32 (p_30.add 6) fun x_39 =>
  ldI .i64 h_32 (p_1.add 0) fun x_40 =>
  ldI .i64 h_32 (p_1.add 1) fun x_41 =>
  ldI .i64 h_32 (p_1.add 2) fun x_42 =>
  ldI .i64 h_32 (p_1.add 3) fun x_43 =>
  ldI .i64 h_32 (p_1.add 4) fun x_44 =>
  ldI .i64 h_32 (p_1.add 5) fun x_45 =>
  ldL .u8 32 h_32 (p_1.add 6) fun x_46 =>
  carlinglaw21_theirs ρ x_40 x_41 x_42 x_43 x_44 x_45 (nrm 32 x_46) h_32 fun r_47 r_48 r_49 r_50 r_51 r_52 r_53 h_54 =>
  (hcell h_54 (p_30.add 0) = some (.int .i64 x_33) ∧ (hcell h_54 (p_30.add 1) = some (.int .i64 x_34) ∧ (hcell h_54 (p_30.add 2) = some (.int .i64 x_35) ∧ (hcell h_54 (p_30.add 3) = some (.int .i64 x_36) ∧ (hcell h_54 (p_30.add 4) = some (.int .i64 x_37) ∧ (hcell h_54 (p_30.add 5) = some (.int .i64 x_38) ∧ (lfact .u8 32 x_39 (p_30.add 6) h_54 ∧ (True)))))))) ∧
  (br (!((x_33 == r_47) && ((x_34 == r_48) && ((x_35 == r_49) && ((x_36 == r_50) && ((x_37 == r_51) && ((x_38 == r_52) && ((nrm 32 x_39 == nrm 32 r_53) && true))))))))
  (carlinglaw21_InodeBack_K1 ρ Q b1 true h_54)
  (carlinglaw21_InodeBack_K1 ρ Q b1 (r_28 != (0 : Int)) h_54)))
  (carlinglaw21_InodeBack_K2 ρ Q b1 h_20)

def carlinglaw21_InodeBack_S (ρ : Ids) : Spec := fun args h K =>
  (tG fun cells0 rest0 => (tI .i64 fun n0_0 => tI .i64 fun n0_1 => tI .i64 fun n0_2 => tI .i64 fun n0_3 => tI .i64 fun n0_4 => tI .i64 fun n0_5 => tL .u8 32 fun n0_6 => tN ((tS fun b1 => tN (carlinglaw21_InodeBack ρ n0_0 n0_1 n0_2 n0_3 n0_4 n0_5 n0_6 b1 h (fun r0 h => K (.bool r0) h))) rest0)) cells0) args

def inode_Get_K1 (ρ : Ids) (Q : Int → Int → Int → Int → Int → Int → List Int → Int → Hp → Prop) (page0 : Sl) (at1 : Int) (v4 : Addr) (v16 : Bool) (h : Hp) : Prop :=
  br v16
  (stAll h v4 0 (([(.int .i64 (0 : Int)), (.int .i64 (0 : Int)), (.int .i64 (0 : Int)), (.int .i64 (0 : Int)), (.int .i64 (0 : Int)), (.int .i64 (0 : Int))] : List Value) ++ lumpV .u8 32 (List.replicate 32 0)) fun h_3 =>
  ldI .i64 h_3 (v4.add 0) fun x_4 =>
  ldI .i64 h_3 (v4.add 1) fun x_5 =>
  ldI .i64 h_3 (v4.add 2) fun x_6 =>
  ldI .i64 h_3 (v4.add 3) fun x_7 =>
  ldI .i64 h_3 (v4.add 4) fun x_8 =>
  ldI .i64 h_3 (v4.add 5) fun x_9 =>
  ldL .u8 32 h_3 (v4.add 6) fun x_10 =>
  Q x_4 x_5 x_6 x_7 x_8 x_9 (nrm 32 x_10) (1 : Int) h_3)
  (slW page0 (IntKind.wrap .i64 ((64 : Int) * at1)) (IntKind.wrap .i64 ((64 : Int) * (IntKind.wrap .i64 (at1 + (1 : Int))))) 1 fun s_11 =>
  inode_Parse ρ s_11 h fun r_12 r_13 r_14 r_15 r_16 r_17 r_18 r_19 h_20 =>
  stAll h_20 v4 0 (([(.int .i64 r_12), (.int .i64 r_13), (.int .i64 r_14), (.int .i64 r_15), (.int .i64 r_16), (.int .i64 r_17)] : List Value) ++ lumpV .u8 32 r_18) fun h_21 =>
  ldI .i64 h_21 (v4.add 0) fun x_22 =>
  ldI .i64 h_21 (v4.add 1) fun x_23 =>
  ldI .i64 h_21 (v4.add 2) fun x_24 =>
  ldI .i64 h_21 (v4.add 3) fun x_25 =>
  ldI .i64 h_21 (v4.add 4) fun x_26 =>
  ldI .i64 h_21 (v4.add 5) fun x_27 =>
  ldL .u8 32 h_21 (v4.add 6) fun x_28 =>
  Q x_22 x_23 x_24 x_25 x_26 x_27 (nrm 32 x_28) r_19 h_21)

def inode_Get (ρ : Ids) (page0 : Sl) (at1 : Int) (h : Hp) (Q : Int → Int → Int → Int → Int → Int → List Int → Int → Hp → Prop) : Prop :=
  alW h (ρ.T 8) (([(.int .i64 (0 : Int)), (.int .i64 (0 : Int)), (.int .i64 (0 : Int)), (.int .i64 (0 : Int)), (.int .i64 (0 : Int)), (.int .i64 (0 : Int))] : List Value) ++ lumpV .u8 32 (List.replicate 32 0)) fun p_1 h_2 =>
  br ((page0.len : Int) != (256 : Int))
  (inode_Get_K1 ρ Q page0 at1 p_1 true h_2)
  (br (decide (at1 < (0 : Int)))
  (inode_Get_K1 ρ Q page0 at1 p_1 true h_2)
  (inode_Get_K1 ρ Q page0 at1 p_1 (decide (at1 ≥ (4 : Int))) h_2))

def inode_Get_S (ρ : Ids) : Spec := fun args h K =>
  (tS fun page0 => tI .i64 fun at1 => tN (inode_Get ρ page0 at1 h (fun r0 r1 r2 r3 r4 r5 r6 r7 h => K (.tuple [(.agg (([(.int .i64 r0), (.int .i64 r1), (.int .i64 r2), (.int .i64 r3), (.int .i64 r4), (.int .i64 r5)] : List Value) ++ lumpV .u8 32 r6).toArray), (.int .i64 r7)].toArray) h))) args

def carlingref21_Get_K1 (ρ : Ids) (Q : Int → Int → Int → Int → Int → Int → List Int → Int → Hp → Prop) (page0 : Sl) (at1 : Int) (v4 : Addr) (v16 : Bool) (h : Hp) : Prop :=
  br v16
  (stAll h v4 0 (([(.int .i64 (0 : Int)), (.int .i64 (0 : Int)), (.int .i64 (0 : Int)), (.int .i64 (0 : Int)), (.int .i64 (0 : Int)), (.int .i64 (0 : Int))] : List Value) ++ lumpV .u8 32 (List.replicate 32 0)) fun h_3 =>
  ldI .i64 h_3 (v4.add 0) fun x_4 =>
  ldI .i64 h_3 (v4.add 1) fun x_5 =>
  ldI .i64 h_3 (v4.add 2) fun x_6 =>
  ldI .i64 h_3 (v4.add 3) fun x_7 =>
  ldI .i64 h_3 (v4.add 4) fun x_8 =>
  ldI .i64 h_3 (v4.add 5) fun x_9 =>
  ldL .u8 32 h_3 (v4.add 6) fun x_10 =>
  Q x_4 x_5 x_6 x_7 x_8 x_9 (nrm 32 x_10) (1 : Int) h_3)
  (slW page0 (IntKind.wrap .i64 ((64 : Int) * at1)) (IntKind.wrap .i64 ((IntKind.wrap .i64 ((64 : Int) * at1)) + (64 : Int))) 1 fun s_11 =>
  carlingref21_Parse ρ s_11 h fun r_12 r_13 r_14 r_15 r_16 r_17 r_18 r_19 h_20 =>
  stAll h_20 v4 0 (([(.int .i64 r_12), (.int .i64 r_13), (.int .i64 r_14), (.int .i64 r_15), (.int .i64 r_16), (.int .i64 r_17)] : List Value) ++ lumpV .u8 32 r_18) fun h_21 =>
  ldI .i64 h_21 (v4.add 0) fun x_22 =>
  ldI .i64 h_21 (v4.add 1) fun x_23 =>
  ldI .i64 h_21 (v4.add 2) fun x_24 =>
  ldI .i64 h_21 (v4.add 3) fun x_25 =>
  ldI .i64 h_21 (v4.add 4) fun x_26 =>
  ldI .i64 h_21 (v4.add 5) fun x_27 =>
  ldL .u8 32 h_21 (v4.add 6) fun x_28 =>
  Q x_22 x_23 x_24 x_25 x_26 x_27 (nrm 32 x_28) r_19 h_21)

def carlingref21_Get (ρ : Ids) (page0 : Sl) (at1 : Int) (h : Hp) (Q : Int → Int → Int → Int → Int → Int → List Int → Int → Hp → Prop) : Prop :=
  alW h (ρ.T 9) (([(.int .i64 (0 : Int)), (.int .i64 (0 : Int)), (.int .i64 (0 : Int)), (.int .i64 (0 : Int)), (.int .i64 (0 : Int)), (.int .i64 (0 : Int))] : List Value) ++ lumpV .u8 32 (List.replicate 32 0)) fun p_1 h_2 =>
  br ((page0.len : Int) != (256 : Int))
  (carlingref21_Get_K1 ρ Q page0 at1 p_1 true h_2)
  (br (decide (at1 < (0 : Int)))
  (carlingref21_Get_K1 ρ Q page0 at1 p_1 true h_2)
  (carlingref21_Get_K1 ρ Q page0 at1 p_1 (decide (at1 > (3 : Int))) h_2))

def carlingref21_Get_S (ρ : Ids) : Spec := fun args h K =>
  (tS fun page0 => tI .i64 fun at1 => tN (carlingref21_Get ρ page0 at1 h (fun r0 r1 r2 r3 r4 r5 r6 r7 h => K (.tuple [(.agg (([(.int .i64 r0), (.int .i64 r1), (.int .i64 r2), (.int .i64 r3), (.int .i64 r4), (.int .i64 r5)] : List Value) ++ lumpV .u8 32 r6).toArray), (.int .i64 r7)].toArray) h))) args

def inode_Put_K1 (ρ : Ids) (Q : Sl → Int → Hp → Prop) (page0 : Sl) (at1 : Int) (b8 : Sl) (v30 : Bool) (h : Hp) : Prop :=
  br v30
  (Q (⟨none, 0, 0⟩ : Sl) (1 : Int) h)
  (bytes_Clone ρ page0 h fun r_13 h_14 =>
  slW r_13 (IntKind.wrap .i64 ((64 : Int) * at1)) (r_13.len : Int) 1 fun s_15 =>
  cpW 1 h_14 s_15 b8 fun n_16 h_17 =>
  Q r_13 (0 : Int) h_17)

def inode_Put (ρ : Ids) (page0 : Sl) (at1 : Int) (n2_0 : Int) (n2_1 : Int) (n2_2 : Int) (n2_3 : Int) (n2_4 : Int) (n2_5 : Int) (n2_6 : List Int) (h : Hp) (Q : Sl → Int → Hp → Prop) : Prop :=
  alW h (ρ.T 8) (([(.int .i64 n2_0), (.int .i64 n2_1), (.int .i64 n2_2), (.int .i64 n2_3), (.int .i64 n2_4), (.int .i64 n2_5)] : List Value) ++ lumpV .u8 32 n2_6) fun p_1 h_2 =>
  ldI .i64 h_2 (p_1.add 0) fun x_3 =>
  ldI .i64 h_2 (p_1.add 1) fun x_4 =>
  ldI .i64 h_2 (p_1.add 2) fun x_5 =>
  ldI .i64 h_2 (p_1.add 3) fun x_6 =>
  ldI .i64 h_2 (p_1.add 4) fun x_7 =>
  ldI .i64 h_2 (p_1.add 5) fun x_8 =>
  ldL .u8 32 h_2 (p_1.add 6) fun x_9 =>
  inode_Lay ρ x_3 x_4 x_5 x_6 x_7 x_8 (nrm 32 x_9) h_2 fun r_10 r_11 h_12 =>
  br ((page0.len : Int) != (256 : Int))
  (inode_Put_K1 ρ Q page0 at1 r_10 true h_12)
  (br (decide (at1 < (0 : Int)))
  (inode_Put_K1 ρ Q page0 at1 r_10 true h_12)
  (br (decide (at1 ≥ (4 : Int)))
  (inode_Put_K1 ρ Q page0 at1 r_10 true h_12)
  (inode_Put_K1 ρ Q page0 at1 r_10 (r_11 != (0 : Int)) h_12)))

def inode_Put_S (ρ : Ids) : Spec := fun args h K =>
  (tS fun page0 => tI .i64 fun at1 => tG fun cells2 rest2 => (tI .i64 fun n2_0 => tI .i64 fun n2_1 => tI .i64 fun n2_2 => tI .i64 fun n2_3 => tI .i64 fun n2_4 => tI .i64 fun n2_5 => tL .u8 32 fun n2_6 => tN ((tN (inode_Put ρ page0 at1 n2_0 n2_1 n2_2 n2_3 n2_4 n2_5 n2_6 h (fun r0 r1 h => K (.tuple [(.slice r0.a r0.len r0.cap), (.int .i64 r1)].toArray) h))) rest2)) cells2) args

def carlingref21_Put_B2 (ρ : Ids) (S2 : Int → Sl → Sl → Int → Hp → Prop) (Q : Sl → Int → Hp → Prop) (at1 : Int) (b8 : Sl) (out10 : Sl) (i11 : Int) (h : Hp) : Prop :=
  br (decide (i11 < (64 : Int)))
  (ixW b8.a b8.len i11 1 fun p_15 =>
  ldI .u8 h p_15 fun x_16 =>
  ixW out10.a out10.len (IntKind.wrap .i64 ((IntKind.wrap .i64 ((64 : Int) * at1)) + i11)) 1 fun p_17 =>
  st h (p_17.add 0) (.int .u8 x_16) fun h_18 =>
  S2 at1 b8 out10 (IntKind.wrap .i64 (i11 + (1 : Int))) h_18)
  (Q out10 (0 : Int) h)

def carlingref21_Put_L2 (ρ : Ids) (Q : Sl → Int → Hp → Prop) (at1 : Int) (b8 : Sl) (out10 : Sl) (i11 : Int) (h : Hp) : Prop :=
  Lfp (fun S vals h => (tI .i64 fun at1 => tS fun b8 => tS fun out10 => tI .i64 fun i11 => tN (carlingref21_Put_B2 ρ (fun at1 b8 out10 i11 hh => S [(.int .i64 at1), (.slice b8.a b8.len b8.cap), (.slice out10.a out10.len out10.cap), (.int .i64 i11)] hh) Q at1 b8 out10 i11 h)) vals) [(.int .i64 at1), (.slice b8.a b8.len b8.cap), (.slice out10.a out10.len out10.cap), (.int .i64 i11)] h

theorem carlingref21_Put_L2_in (ρ : Ids) (Q : Sl → Int → Hp → Prop) (at1 : Int) (b8 : Sl) (out10 : Sl) (i11 : Int) (h : Hp) (H : carlingref21_Put_B2 ρ (carlingref21_Put_L2 ρ Q) Q at1 b8 out10 i11 h) : carlingref21_Put_L2 ρ Q at1 b8 out10 i11 h := lfp_in H

def carlingref21_Put_K1 (ρ : Ids) (Q : Sl → Int → Hp → Prop) (page0 : Sl) (at1 : Int) (b8 : Sl) (v31 : Bool) (h : Hp) : Prop :=
  br v31
  (Q (⟨none, 0, 0⟩ : Sl) (1 : Int) h)
  (apW (ρ.T 1) 1 1 (.int .u8 (0 : Int)) h (⟨none, 0, 0⟩ : Sl) page0 fun s_13 h_14 =>
  carlingref21_Put_L2 ρ Q at1 b8 s_13 (0 : Int) h_14)

def carlingref21_Put (ρ : Ids) (page0 : Sl) (at1 : Int) (n2_0 : Int) (n2_1 : Int) (n2_2 : Int) (n2_3 : Int) (n2_4 : Int) (n2_5 : Int) (n2_6 : List Int) (h : Hp) (Q : Sl → Int → Hp → Prop) : Prop :=
  alW h (ρ.T 9) (([(.int .i64 n2_0), (.int .i64 n2_1), (.int .i64 n2_2), (.int .i64 n2_3), (.int .i64 n2_4), (.int .i64 n2_5)] : List Value) ++ lumpV .u8 32 n2_6) fun p_1 h_2 =>
  ldI .i64 h_2 (p_1.add 0) fun x_3 =>
  ldI .i64 h_2 (p_1.add 1) fun x_4 =>
  ldI .i64 h_2 (p_1.add 2) fun x_5 =>
  ldI .i64 h_2 (p_1.add 3) fun x_6 =>
  ldI .i64 h_2 (p_1.add 4) fun x_7 =>
  ldI .i64 h_2 (p_1.add 5) fun x_8 =>
  ldL .u8 32 h_2 (p_1.add 6) fun x_9 =>
  carlingref21_Lay ρ x_3 x_4 x_5 x_6 x_7 x_8 (nrm 32 x_9) h_2 fun r_10 r_11 h_12 =>
  br ((page0.len : Int) != (256 : Int))
  (carlingref21_Put_K1 ρ Q page0 at1 r_10 true h_12)
  (br (decide (at1 < (0 : Int)))
  (carlingref21_Put_K1 ρ Q page0 at1 r_10 true h_12)
  (br (decide (at1 > (3 : Int)))
  (carlingref21_Put_K1 ρ Q page0 at1 r_10 true h_12)
  (carlingref21_Put_K1 ρ Q page0 at1 r_10 (r_11 != (0 : Int)) h_12)))

def carlingref21_Put_S (ρ : Ids) : Spec := fun args h K =>
  (tS fun page0 => tI .i64 fun at1 => tG fun cells2 rest2 => (tI .i64 fun n2_0 => tI .i64 fun n2_1 => tI .i64 fun n2_2 => tI .i64 fun n2_3 => tI .i64 fun n2_4 => tI .i64 fun n2_5 => tL .u8 32 fun n2_6 => tN ((tN (carlingref21_Put ρ page0 at1 n2_0 n2_1 n2_2 n2_3 n2_4 n2_5 n2_6 h (fun r0 r1 h => K (.tuple [(.slice r0.a r0.len r0.cap), (.int .i64 r1)].toArray) h))) rest2)) cells2) args

def carlinglaw21_InodePages_K2 (ρ : Ids) (Q : Bool → Hp → Prop) (x7 : Addr) (e8 : Int) (y9 : Addr) (f10 : Int) (a11 : Sl) (g12 : Int) (b13 : Sl) (h14 : Int) (h : Hp) : Prop :=
  ldI .i64 h (x7.add 0) fun x_91 =>
  ldI .i64 h (x7.add 1) fun x_92 =>
  ldI .i64 h (x7.add 2) fun x_93 =>
  ldI .i64 h (x7.add 3) fun x_94 =>
  ldI .i64 h (x7.add 4) fun x_95 =>
  ldI .i64 h (x7.add 5) fun x_96 =>
  ldL .u8 32 h (x7.add 6) fun x_97 =>
  ldI .i64 h (y9.add 0) fun x_98 =>
  ldI .i64 h (y9.add 1) fun x_99 =>
  ldI .i64 h (y9.add 2) fun x_100 =>
  ldI .i64 h (y9.add 3) fun x_101 =>
  ldI .i64 h (y9.add 4) fun x_102 =>
  ldI .i64 h (y9.add 5) fun x_103 =>
  ldL .u8 32 h (y9.add 6) fun x_104 =>
  carlinglaw21_ours ρ x_91 x_92 x_93 x_94 x_95 x_96 (nrm 32 x_97) h fun r_105 r_106 r_107 r_108 r_109 r_110 r_111 h_112 =>
  (hcell h_112 (y9.add 0) = some (.int .i64 x_98) ∧ (hcell h_112 (y9.add 1) = some (.int .i64 x_99) ∧ (hcell h_112 (y9.add 2) = some (.int .i64 x_100) ∧ (hcell h_112 (y9.add 3) = some (.int .i64 x_101) ∧ (hcell h_112 (y9.add 4) = some (.int .i64 x_102) ∧ (hcell h_112 (y9.add 5) = some (.int .i64 x_103) ∧ (lfact .u8 32 x_104 (y9.add 6) h_112 ∧ (True)))))))) ∧
  (br ((r_105 == x_98) && ((r_106 == x_99) && ((r_107 == x_100) && ((r_108 == x_101) && ((r_109 == x_102) && ((r_110 == x_103) && ((nrm 32 r_111 == nrm 32 x_104) && true)))))))
  (br (e8 == f10)
  (carlingref02_Same ρ a11 b13 h_112 fun r_113 h_114 =>
  br r_113
  (br (g12 == h14)
  (carlinglaw21_alive ρ  h_114 fun r_115 h_116 =>
  Q r_115 h_116)
  (Q false h_114))
  (Q false h_114))
  (Q false h_112))
  (Q false h_112))

def carlinglaw21_InodePages_K1 (ρ : Ids) (Q : Bool → Hp → Prop) (x7 : Addr) (e8 : Int) (y9 : Addr) (f10 : Int) (a11 : Sl) (g12 : Int) (b13 : Sl) (h14 : Int) (v63 : Bool) (h : Hp) : Prop :=
  br v63
  (Q false h)
  (carlinglaw21_InodePages_K2 ρ Q x7 e8 y9 f10 a11 g12 b13 h14 h)

def carlinglaw21_InodePages (ρ : Ids) (page0 : Sl) (at1 : Int) (n2_0 : Int) (n2_1 : Int) (n2_2 : Int) (n2_3 : Int) (n2_4 : Int) (n2_5 : Int) (n2_6 : List Int) (h : Hp) (Q : Bool → Hp → Prop) : Prop :=
  alW h (ρ.T 9) (([(.int .i64 n2_0), (.int .i64 n2_1), (.int .i64 n2_2), (.int .i64 n2_3), (.int .i64 n2_4), (.int .i64 n2_5)] : List Value) ++ lumpV .u8 32 n2_6) fun p_1 h_2 =>
  br (decide ((page0.len : Int) > (600 : Int)))
  (carlinglaw21_alive ρ  h_2 fun r_3 h_4 =>
  Q r_3 h_4)
  (inode_Get ρ page0 at1 h_2 fun r_5 r_6 r_7 r_8 r_9 r_10 r_11 r_12 h_13 =>
  alW h_13 (ρ.T 8) (([(.int .i64 (0 : Int)), (.int .i64 (0 : Int)), (.int .i64 (0 : Int)), (.int .i64 (0 : Int)), (.int .i64 (0 : Int)), (.int .i64 (0 : Int))] : List Value) ++ lumpV .u8 32 (List.replicate 32 0)) fun p_14 h_15 =>
  stAll h_15 p_14 0 (([(.int .i64 r_5), (.int .i64 r_6), (.int .i64 r_7), (.int .i64 r_8), (.int .i64 r_9), (.int .i64 r_10)] : List Value) ++ lumpV .u8 32 r_11) fun h_16 =>
  carlingref21_Get ρ page0 at1 h_16 fun r_17 r_18 r_19 r_20 r_21 r_22 r_23 r_24 h_25 =>
  alW h_25 (ρ.T 9) (([(.int .i64 (0 : Int)), (.int .i64 (0 : Int)), (.int .i64 (0 : Int)), (.int .i64 (0 : Int)), (.int .i64 (0 : Int)), (.int .i64 (0 : Int))] : List Value) ++ lumpV .u8 32 (List.replicate 32 0)) fun p_26 h_27 =>
  stAll h_27 p_26 0 (([(.int .i64 r_17), (.int .i64 r_18), (.int .i64 r_19), (.int .i64 r_20), (.int .i64 r_21), (.int .i64 r_22)] : List Value) ++ lumpV .u8 32 r_23) fun h_28 =>
  ldI .i64 h_28 (p_1.add 0) fun x_29 =>
  ldI .i64 h_28 (p_1.add 1) fun x_30 =>
  ldI .i64 h_28 (p_1.add 2) fun x_31 =>
  ldI .i64 h_28 (p_1.add 3) fun x_32 =>
  ldI .i64 h_28 (p_1.add 4) fun x_33 =>
  ldI .i64 h_28 (p_1.add 5) fun x_34 =>
  ldL .u8 32 h_28 (p_1.add 6) fun x_35 =>
  carlinglaw21_theirs ρ x_29 x_30 x_31 x_32 x_33 x_34 (nrm 32 x_35) h_28 fun r_36 r_37 r_38 r_39 r_40 r_41 r_42 h_43 =>
  inode_Put ρ page0 at1 r_36 r_37 r_38 r_39 r_40 r_41 (nrm 32 r_42) h_43 fun r_44 r_45 h_46 =>
  ldI .i64 h_46 (p_1.add 0) fun x_47 =>
  ldI .i64 h_46 (p_1.add 1) fun x_48 =>
  ldI .i64 h_46 (p_1.add 2) fun x_49 =>
  ldI .i64 h_46 (p_1.add 3) fun x_50 =>
  ldI .i64 h_46 (p_1.add 4) fun x_51 =>
  ldI .i64 h_46 (p_1.add 5) fun x_52 =>
  ldL .u8 32 h_46 (p_1.add 6) fun x_53 =>
  carlingref21_Put ρ page0 at1 x_47 x_48 x_49 x_50 x_51 x_52 (nrm 32 x_53) h_46 fun r_54 r_55 h_56 =>
  br (r_45 == (0 : Int))
  (inode_Get ρ r_44 at1 h_56 fun r_57 r_58 r_59 r_60 r_61 r_62 r_63 r_64 h_65 =>
  alW h_65 (ρ.T 8) (([(.int .i64 (0 : Int)), (.int .i64 (0 : Int)), (.int .i64 (0 : Int)), (.int .i64 (0 : Int)), (.int .i64 (0 : Int)), (.int .i64 (0 : Int))] : List Value) ++ lumpV .u8 32 (List.replicate 32 0)) fun p_66 h_67 =>
  stAll h_67 p_66 0 (([(.int .i64 r_57), (.int .i64 r_58), (.int .i64 r_59), (.int .i64 r_60), (.int .i64 r_61), (.int .i64 r_62)] : List Value) ++ lumpV .u8 32 r_63) fun h_68 =>
  ldI .i64 h_68 (p_66.add 0) fun x_69 =>
  ldI .i64 h_68 (p_66.add 1) fun x_70 =>
  ldI .i64 h_68 (p_66.add 2) fun x_71 =>
  ldI .i64 h_68 (p_66.add 3) fun x_72 =>
  ldI .i64 h_68 (p_66.add 4) fun x_73 =>
  ldI .i64 h_68 (p_66.add 5) fun x_74 =>
  ldL .u8 32 h_68 (p_66.add 6) fun x_75 =>
  ldI .i64 h_68 (p_1.add 0) fun x_76 =>
  ldI .i64 h_68 (p_1.add 1) fun x_77 =>
  ldI .i64 h_68 (p_1.add 2) fun x_78 =>
  ldI .i64 h_68 (p_1.add 3) fun x_79 =>
  ldI .i64 h_68 (p_1.add 4) fun x_80 =>
  ldI .i64 h_68 (p_1.add 5) fun x_81 =>
  ldL .u8 32 h_68 (p_1.add 6) fun x_82 =>
  carlinglaw21_theirs ρ x_76 x_77 x_78 x_79 x_80 x_81 (nrm 32 x_82) h_68 fun r_83 r_84 r_85 r_86 r_87 r_88 r_89 h_90 =>
  (hcell h_90 (p_66.add 0) = some (.int .i64 x_69) ∧ (hcell h_90 (p_66.add 1) = some (.int .i64 x_70) ∧ (hcell h_90 (p_66.add 2) = some (.int .i64 x_71) ∧ (hcell h_90 (p_66.add 3) = some (.int .i64 x_72) ∧ (hcell h_90 (p_66.add 4) = some (.int .i64 x_73) ∧ (hcell h_90 (p_66.add 5) = some (.int .i64 x_74) ∧ (lfact .u8 32 x_75 (p_66.add 6) h_90 ∧ (True)))))))) ∧
  (br (!((x_69 == r_83) && ((x_70 == r_84) && ((x_71 == r_85) && ((x_72 == r_86) && ((x_73 == r_87) && ((x_74 == r_88) && ((nrm 32 x_75 == nrm 32 r_89) && true))))))))
  (carlinglaw21_InodePages_K1 ρ Q p_14 r_12 p_26 r_24 r_44 r_45 r_54 r_55 true h_90)
  (carlinglaw21_InodePages_K1 ρ Q p_14 r_12 p_26 r_24 r_44 r_45 r_54 r_55 (r_64 != (0 : Int)) h_90)))
  (carlinglaw21_InodePages_K2 ρ Q p_14 r_12 p_26 r_24 r_44 r_45 r_54 r_55 h_56))

def carlinglaw21_InodePages_S (ρ : Ids) : Spec := fun args h K =>
  (tS fun page0 => tI .i64 fun at1 => tG fun cells2 rest2 => (tI .i64 fun n2_0 => tI .i64 fun n2_1 => tI .i64 fun n2_2 => tI .i64 fun n2_3 => tI .i64 fun n2_4 => tI .i64 fun n2_5 => tL .u8 32 fun n2_6 => tN ((tN (carlinglaw21_InodePages ρ page0 at1 n2_0 n2_1 n2_2 n2_3 n2_4 n2_5 n2_6 h (fun r0 h => K (.bool r0) h))) rest2)) cells2) args

end Go.Tx
