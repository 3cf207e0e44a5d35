import Derived.Test.YtnjbidanmnbnhaaGreatDoorInB
set_option linter.unusedVariables false
set_option linter.unusedSimpArgs false
set_option maxHeartbeats 4000000
set_option maxRecDepth 100000
namespace Go.Tx
open Go Go.Wc
def sha_New (ρ:Ids) (h:Hp) (Q:List Int→Sl→Int→Hp→Prop):Prop:=
  alW h (ρ.T 27) (lumpV .u32 8 (List.replicate 8 0)++([(.slice none 0 0),(.int .u64 (0:Int))]:List Value)) fun p_1 h_2=>
  stAll h_2 p_1 0 (lumpV .u32 8 (List.replicate 8 0)++([(.slice none 0 0),(.int .u64 (0:Int))]:List Value)) fun h_3=>
  ldL .u32 8 h_3 (p_1.add 0) fun x_4=>
  ldS h_3 (p_1.add 8) fun x_5=>
  ldI .u64 h_3 (p_1.add 9) fun x_6=>
  Q (nrm 8 x_4) x_5 x_6 h_3
def sha_New_S (ρ:Ids):Spec:=fun args h K=>
  (tN (sha_New ρ h (fun r0 r1 r2 h=>K (.agg (lumpV .u32 8 r0++([(.slice r1.a r1.len r1.cap),(.int .u64 r2)]:List Value)).toArray) h))) args
def sha_first (ρ:Ids) (h:Hp) (Q:List Int→Hp→Prop):Prop:=
  alW h (ρ.T 28) (lumpV .u32 8 (List.replicate 8 0)) fun p_1 h_2=>
  stAll h_2 p_1 0 (lumpV .u32 8 [(1779033703:Int),(3144134277:Int),(1013904242:Int),(2773480762:Int),(1359893119:Int),(2600822924:Int),(528734635:Int),(1541459225:Int)]) fun h_3=>
  ldL .u32 8 h_3 (p_1.add 0) fun x_4=>
  Q (nrm 8 x_4) h_3
def sha_first_S (ρ:Ids):Spec:=fun args h K=>
  (tN (sha_first ρ h (fun r0 h=>K (.agg (lumpV .u32 8 r0).toArray) h))) args
def math_bits_RotateLeft32 (ρ:Ids) (x0:Int) (k1:Int) (h:Hp) (Q:Int→Hp→Prop):Prop:=
  (0≤(IntKind.wrap .u64 (((BitVec.ofInt (IntKind.bits .u64) (IntKind.wrap .u64 k1) &&& (BitVec.ofInt (IntKind.bits .u64) (31:Int))).toNat:Int))))∧
  (0≤(IntKind.wrap .u64 ((32:Int) - (IntKind.wrap .u64 (((BitVec.ofInt (IntKind.bits .u64) (IntKind.wrap .u64 k1) &&& (BitVec.ofInt (IntKind.bits .u64) (31:Int))).toNat:Int))))))∧
  Q (IntKind.wrap .u32 (((BitVec.ofInt (IntKind.bits .u32) (IntKind.wrap .u32 (x0*2 ^ (min (Int.toNat (IntKind.wrap .u64 (((BitVec.ofInt (IntKind.bits .u64) (IntKind.wrap .u64 k1) &&& (BitVec.ofInt (IntKind.bits .u64) (31:Int))).toNat:Int)))) (IntKind.bits .u32)))) ||| (BitVec.ofInt (IntKind.bits .u32) (Int.fdiv x0 (2 ^ (min (Int.toNat (IntKind.wrap .u64 ((32:Int) - (IntKind.wrap .u64 (((BitVec.ofInt (IntKind.bits .u64) (IntKind.wrap .u64 k1) &&& (BitVec.ofInt (IntKind.bits .u64) (31:Int))).toNat:Int)))))) (IntKind.bits .u32)))))).toNat:Int))) h
def math_bits_RotateLeft32_S (ρ:Ids):Spec:=fun args h K=>
  (tI .u32 fun x0=>tI .i64 fun k1=>tN (math_bits_RotateLeft32 ρ x0 k1 h (fun r0 h=>K (.int .u32 r0) h))) args
def sha_Turn (ρ:Ids) (x0:Int) (n1:Int) (h:Hp) (Q:Int→Hp→Prop):Prop:=
  ((32:Int) ≠ 0)∧
  math_bits_RotateLeft32 ρ x0 (IntKind.wrap .i64 (0 - (Int.tmod n1 (32:Int)))) h fun r_1 h_2=>
  Q r_1 h_2
def sha_Turn_S (ρ:Ids):Spec:=fun args h K=>
  (tI .u32 fun x0=>tI .i64 fun n1=>tN (sha_Turn ρ x0 n1 h (fun r0 h=>K (.int .u32 r0) h))) args
def sha_join_B1 (ρ:Ids) (S1:Int→Sl→Int→Int→Hp→Prop) (Q:Int→Hp→Prop) (w3:Int) (v6:Sl) (v7:Int) (v8:Int) (h:Hp):Prop:=
  br (decide (v8<v7))
  (ixW v6.a v6.len v8 1 fun p_1=>
  ldI .u8 h p_1 fun x_2=>
  (0≤(8:Int))∧
  S1 (IntKind.wrap .u32 (((BitVec.ofInt (IntKind.bits .u32) (IntKind.wrap .u32 (w3*2 ^ (min (Int.toNat (8:Int)) (IntKind.bits .u32)))) ||| (BitVec.ofInt (IntKind.bits .u32) (IntKind.wrap .u32 x_2))).toNat:Int))) v6 v7 (IntKind.wrap .i64 (v8+(1:Int))) h)
  (Q w3 h)
def sha_join_L1 (ρ:Ids) (Q:Int→Hp→Prop) (w3:Int) (v6:Sl) (v7:Int) (v8:Int) (h:Hp):Prop:=
  Lfp (fun S vals h=>(tI .u32 fun w3=>tS fun v6=>tI .i64 fun v7=>tI .i64 fun v8=>tN (sha_join_B1 ρ (fun w3 v6 v7 v8 hh=>S [(.int .u32 w3),(.slice v6.a v6.len v6.cap),(.int .i64 v7),(.int .i64 v8)] hh) Q w3 v6 v7 v8 h)) vals) [(.int .u32 w3),(.slice v6.a v6.len v6.cap),(.int .i64 v7),(.int .i64 v8)] h
theorem sha_join_L1_in (ρ:Ids) (Q:Int→Hp→Prop) (w3:Int) (v6:Sl) (v7:Int) (v8:Int) (h:Hp) (H:sha_join_B1 ρ (sha_join_L1 ρ Q) Q w3 v6 v7 v8 h):sha_join_L1 ρ Q w3 v6 v7 v8 h:=lfp_in H
def sha_join (ρ:Ids) (b0:Sl) (h:Hp) (Q:Int→Hp→Prop):Prop:=
  sha_join_L1 ρ Q (0:Int) b0 (b0.len:Int) (0:Int) h
def sha_join_S (ρ:Ids):Spec:=fun args h K=>
  (tS fun b0=>tN (sha_join ρ b0 h (fun r0 h=>K (.int .u32 r0) h))) args
def sha_spread_K2 (ρ:Ids) (S1:Sl→Addr→Addr→Int→Hp→Prop) (Q:List Int→Hp→Prop) (b0:Sl) (v2:Addr) (w3:Addr) (v9:Int) (h:Hp):Prop:=
  S1 b0 v2 w3 (IntKind.wrap .i64 (v9+(1:Int))) h
def sha_spread_B1 (ρ:Ids) (S1:Sl→Addr→Addr→Int→Hp→Prop) (Q:List Int→Hp→Prop) (b0:Sl) (v2:Addr) (w3:Addr) (v9:Int) (h:Hp):Prop:=
  br (decide (v9<(64:Int)))
  (br (decide (v9<(16:Int)))
  (slW b0 (IntKind.wrap .i64 ((4:Int)*v9)) (IntKind.wrap .i64 ((IntKind.wrap .i64 ((4:Int)*v9))+(4:Int))) 1 fun s_5=>
  sha_join ρ s_5 h fun r_6 h_7=>
  ixW (some w3) 64 v9 1 fun p_8=>
  st h_7 (p_8.add 0) (.int .u32 r_6) fun h_9=>
  sha_spread_K2 ρ S1 Q b0 v2 w3 v9 h_9)
  (ixW (some w3) 64 (IntKind.wrap .i64 (v9 - (15:Int))) 1 fun p_10=>
  ldI .u32 h p_10 fun x_11=>
  ixW (some w3) 64 (IntKind.wrap .i64 (v9 - (2:Int))) 1 fun p_12=>
  ldI .u32 h p_12 fun x_13=>
  sha_Turn ρ x_11 (7:Int) h fun r_14 h_15=>
  sha_Turn ρ x_11 (18:Int) h_15 fun r_16 h_17=>
  (0≤(3:Int))∧
  sha_Turn ρ x_13 (17:Int) h_17 fun r_18 h_19=>
  sha_Turn ρ x_13 (19:Int) h_19 fun r_20 h_21=>
  (0≤(10:Int))∧
  ixW (some w3) 64 (IntKind.wrap .i64 (v9 - (7:Int))) 1 fun p_22=>
  ldI .u32 h_21 p_22 fun x_23=>
  ixW (some w3) 64 (IntKind.wrap .i64 (v9 - (16:Int))) 1 fun p_24=>
  ldI .u32 h_21 p_24 fun x_25=>
  ixW (some w3) 64 v9 1 fun p_26=>
  st h_21 (p_26.add 0) (.int .u32 (IntKind.wrap .u32 ((IntKind.wrap .u32 ((IntKind.wrap .u32 ((IntKind.wrap .u32 (((BitVec.ofInt (IntKind.bits .u32) (IntKind.wrap .u32 (((BitVec.ofInt (IntKind.bits .u32) r_18 ^^^ (BitVec.ofInt (IntKind.bits .u32) r_20)).toNat:Int))) ^^^ (BitVec.ofInt (IntKind.bits .u32) (Int.fdiv x_13 (2 ^ (min (Int.toNat (10:Int)) (IntKind.bits .u32)))))).toNat:Int)))+x_23))+(IntKind.wrap .u32 (((BitVec.ofInt (IntKind.bits .u32) (IntKind.wrap .u32 (((BitVec.ofInt (IntKind.bits .u32) r_14 ^^^ (BitVec.ofInt (IntKind.bits .u32) r_16)).toNat:Int))) ^^^ (BitVec.ofInt (IntKind.bits .u32) (Int.fdiv x_11 (2 ^ (min (Int.toNat (3:Int)) (IntKind.bits .u32)))))).toNat:Int)))))+x_25))) fun h_27=>
  sha_spread_K2 ρ S1 Q b0 v2 w3 v9 h_27))
  (ldL .u32 64 h (w3.add 0) fun x_28=>
  stAll h v2 0 (lumpV .u32 64 x_28) fun h_29=>
  ldL .u32 64 h_29 (v2.add 0) fun x_30=>
  Q (nrm 64 x_30) h_29)
def sha_spread_L1 (ρ:Ids) (Q:List Int→Hp→Prop) (b0:Sl) (v2:Addr) (w3:Addr) (v9:Int) (h:Hp):Prop:=
  Lfp (fun S vals h=>(tS fun b0=>tA fun v2=>tA fun w3=>tI .i64 fun v9=>tN (sha_spread_B1 ρ (fun b0 v2 w3 v9 hh=>S [(.slice b0.a b0.len b0.cap),(.pointer (some v2)),(.pointer (some w3)),(.int .i64 v9)] hh) Q b0 v2 w3 v9 h)) vals) [(.slice b0.a b0.len b0.cap),(.pointer (some v2)),(.pointer (some w3)),(.int .i64 v9)] h
theorem sha_spread_L1_in (ρ:Ids) (Q:List Int→Hp→Prop) (b0:Sl) (v2:Addr) (w3:Addr) (v9:Int) (h:Hp) (H:sha_spread_B1 ρ (sha_spread_L1 ρ Q) Q b0 v2 w3 v9 h):sha_spread_L1 ρ Q b0 v2 w3 v9 h:=lfp_in H
def sha_spread (ρ:Ids) (b0:Sl) (h:Hp) (Q:List Int→Hp→Prop):Prop:=
  alW h (ρ.T 29) (lumpV .u32 64 (List.replicate 64 0)) fun p_1 h_2=>
  alW h_2 (ρ.T 29) (lumpV .u32 64 (List.replicate 64 0)) fun p_3 h_4=>
  sha_spread_L1 ρ Q b0 p_1 p_3 (0:Int) h_4
def sha_spread_S (ρ:Ids):Spec:=fun args h K=>
  (tS fun b0=>tN (sha_spread ρ b0 h (fun r0 h=>K (.agg (lumpV .u32 64 r0).toArray) h))) args
def sha_constants (ρ:Ids) (h:Hp) (Q:List Int→Hp→Prop):Prop:=
  alW h (ρ.T 29) (lumpV .u32 64 (List.replicate 64 0)) fun p_1 h_2=>
  stAll h_2 p_1 0 (lumpV .u32 64 [(1116352408:Int),(1899447441:Int),(3049323471:Int),(3921009573:Int),(961987163:Int),(1508970993:Int),(2453635748:Int),(2870763221:Int),(3624381080:Int),(310598401:Int),(607225278:Int),(1426881987:Int),(1925078388:Int),(2162078206:Int),(2614888103:Int),(3248222580:Int),(3835390401:Int),(4022224774:Int),(264347078:Int),(604807628:Int),(770255983:Int),(1249150122:Int),(1555081692:Int),(1996064986:Int),(2554220882:Int),(2821834349:Int),(2952996808:Int),(3210313671:Int),(3336571891:Int),(3584528711:Int),(113926993:Int),(338241895:Int),(666307205:Int),(773529912:Int),(1294757372:Int),(1396182291:Int),(1695183700:Int),(1986661051:Int),(2177026350:Int),(2456956037:Int),(2730485921:Int),(2820302411:Int),(3259730800:Int),(3345764771:Int),(3516065817:Int),(3600352804:Int),(4094571909:Int),(275423344:Int),(430227734:Int),(506948616:Int),(659060556:Int),(883997877:Int),(958139571:Int),(1322822218:Int),(1537002063:Int),(1747873779:Int),(1955562222:Int),(2024104815:Int),(2227730452:Int),(2361852424:Int),(2428436474:Int),(2756734187:Int),(3204031479:Int),(3329325298:Int)]) fun h_3=>
  ldL .u32 64 h_3 (p_1.add 0) fun x_4=>
  Q (nrm 64 x_4) h_3
def sha_constants_S (ρ:Ids):Spec:=fun args h K=>
  (tN (sha_constants ρ h (fun r0 h=>K (.agg (lumpV .u32 64 r0).toArray) h))) args
def sha_block_B2 (ρ:Ids) (S2:Addr→Addr→Addr→Int→Hp→Prop) (Q:List Int→Hp→Prop) (h2:Addr) (v4:Addr) (x7:Addr) (v92:Int) (h:Hp):Prop:=
  br (decide (v92<(8:Int)))
  (ixW (some h2) 8 v92 1 fun p_63=>
  ldI .u32 h p_63 fun x_64=>
  ixW (some x7) 8 v92 1 fun p_65=>
  ldI .u32 h p_65 fun x_66=>
  ixW (some h2) 8 v92 1 fun p_67=>
  st h (p_67.add 0) (.int .u32 (IntKind.wrap .u32 (x_64+x_66))) fun h_68=>
  S2 h2 v4 x7 (IntKind.wrap .i64 (v92+(1:Int))) h_68)
  (ldL .u32 8 h (h2.add 0) fun x_69=>
  stAll h v4 0 (lumpV .u32 8 x_69) fun h_70=>
  ldL .u32 8 h_70 (v4.add 0) fun x_71=>
  Q (nrm 8 x_71) h_70)
def sha_block_L2 (ρ:Ids) (Q:List Int→Hp→Prop) (h2:Addr) (v4:Addr) (x7:Addr) (v92:Int) (h:Hp):Prop:=
  Lfp (fun S vals h=>(tA fun h2=>tA fun v4=>tA fun x7=>tI .i64 fun v92=>tN (sha_block_B2 ρ (fun h2 v4 x7 v92 hh=>S [(.pointer (some h2)),(.pointer (some v4)),(.pointer (some x7)),(.int .i64 v92)] hh) Q h2 v4 x7 v92 h)) vals) [(.pointer (some h2)),(.pointer (some v4)),(.pointer (some x7)),(.int .i64 v92)] h
theorem sha_block_L2_in (ρ:Ids) (Q:List Int→Hp→Prop) (h2:Addr) (v4:Addr) (x7:Addr) (v92:Int) (h:Hp) (H:sha_block_B2 ρ (sha_block_L2 ρ Q) Q h2 v4 x7 v92 h):sha_block_L2 ρ Q h2 v4 x7 v92 h:=lfp_in H
def sha_block_B1 (ρ:Ids) (S1:Addr→Addr→Addr→Addr→Addr→Int→Hp→Prop) (Q:List Int→Hp→Prop) (h2:Addr) (v4:Addr) (w5:Addr) (k6:Addr) (x7:Addr) (v18:Int) (h:Hp):Prop:=
  br (decide (v18<(64:Int)))
  (ixW (some x7) 8 (0:Int) 1 fun p_19=>
  ldI .u32 h p_19 fun x_20=>
  ixW (some x7) 8 (4:Int) 1 fun p_21=>
  ldI .u32 h p_21 fun x_22=>
  ixW (some x7) 8 (7:Int) 1 fun p_23=>
  ldI .u32 h p_23 fun x_24=>
  ixW (some x7) 8 (5:Int) 1 fun p_25=>
  ldI .u32 h p_25 fun x_26=>
  ixW (some x7) 8 (6:Int) 1 fun p_27=>
  ldI .u32 h p_27 fun x_28=>
  ixW (some k6) 64 v18 1 fun p_29=>
  ldI .u32 h p_29 fun x_30=>
  ixW (some w5) 64 v18 1 fun p_31=>
  ldI .u32 h p_31 fun x_32=>
  sha_Turn ρ x_22 (6:Int) h fun r_33 h_34=>
  (hcell h_34 p_31=some (.int .u32 x_32))∧
  ((hcell h_34 p_29=some (.int .u32 x_30))∧
  ((hcell h_34 p_27=some (.int .u32 x_28))∧
  ((hcell h_34 p_25=some (.int .u32 x_26))∧
  ((hcell h_34 p_23=some (.int .u32 x_24))∧
  (sha_Turn ρ x_22 (11:Int) h_34 fun r_35 h_36=>
  (hcell h_36 p_31=some (.int .u32 x_32))∧
  ((hcell h_36 p_29=some (.int .u32 x_30))∧
  ((hcell h_36 p_27=some (.int .u32 x_28))∧
  ((hcell h_36 p_25=some (.int .u32 x_26))∧
  ((hcell h_36 p_23=some (.int .u32 x_24))∧
  (sha_Turn ρ x_22 (25:Int) h_36 fun r_37 h_38=>
  (hcell h_38 p_31=some (.int .u32 x_32))∧
  ((hcell h_38 p_29=some (.int .u32 x_30))∧
  ((hcell h_38 p_27=some (.int .u32 x_28))∧
  ((hcell h_38 p_25=some (.int .u32 x_26))∧
  ((hcell h_38 p_23=some (.int .u32 x_24))∧
  (ixW (some x7) 8 (1:Int) 1 fun p_39=>
  ldI .u32 h_38 p_39 fun x_40=>
  ixW (some x7) 8 (2:Int) 1 fun p_41=>
  ldI .u32 h_38 p_41 fun x_42=>
  ixW (some x7) 8 (1:Int) 1 fun p_43=>
  ldI .u32 h_38 p_43 fun x_44=>
  ixW (some x7) 8 (2:Int) 1 fun p_45=>
  ldI .u32 h_38 p_45 fun x_46=>
  sha_Turn ρ x_20 (2:Int) h_38 fun r_47 h_48=>
  (hcell h_48 p_45=some (.int .u32 x_46))∧
  ((hcell h_48 p_43=some (.int .u32 x_44))∧
  ((hcell h_48 p_41=some (.int .u32 x_42))∧
  ((hcell h_48 p_39=some (.int .u32 x_40))∧
  (sha_Turn ρ x_20 (13:Int) h_48 fun r_49 h_50=>
  (hcell h_50 p_45=some (.int .u32 x_46))∧
  ((hcell h_50 p_43=some (.int .u32 x_44))∧
  ((hcell h_50 p_41=some (.int .u32 x_42))∧
  ((hcell h_50 p_39=some (.int .u32 x_40))∧
  (sha_Turn ρ x_20 (22:Int) h_50 fun r_51 h_52=>
  (hcell h_52 p_45=some (.int .u32 x_46))∧
  ((hcell h_52 p_43=some (.int .u32 x_44))∧
  ((hcell h_52 p_41=some (.int .u32 x_42))∧
  ((hcell h_52 p_39=some (.int .u32 x_40))∧
  (slW (⟨some x7,8,8⟩:Sl) (1:Int) ((8:Nat):Int) 1 fun s_53=>
  slW (⟨some x7,8,8⟩:Sl) (0:Int) (7:Int) 1 fun s_54=>
  cpW 1 h_52 s_53 s_54 fun n_55 h_56=>
  ixW (some x7) 8 (0:Int) 1 fun p_57=>
  st h_56 (p_57.add 0) (.int .u32 (IntKind.wrap .u32 ((IntKind.wrap .u32 ((IntKind.wrap .u32 ((IntKind.wrap .u32 ((IntKind.wrap .u32 (x_24+(IntKind.wrap .u32 (((BitVec.ofInt (IntKind.bits .u32) (IntKind.wrap .u32 (((BitVec.ofInt (IntKind.bits .u32) r_33 ^^^ (BitVec.ofInt (IntKind.bits .u32) r_35)).toNat:Int))) ^^^ (BitVec.ofInt (IntKind.bits .u32) r_37)).toNat:Int)))))+(IntKind.wrap .u32 (((BitVec.ofInt (IntKind.bits .u32) (IntKind.wrap .u32 (((BitVec.ofInt (IntKind.bits .u32) x_22 &&& (BitVec.ofInt (IntKind.bits .u32) x_26)).toNat:Int))) ^^^ (BitVec.ofInt (IntKind.bits .u32) (IntKind.wrap .u32 (((BitVec.ofInt (IntKind.bits .u32) (IntKind.wrap .u32 ((BitVec.ofInt (IntKind.bits .u32) (if IntKind.signed .u32 then -1 else IntKind.max .u32) ^^^ BitVec.ofInt (IntKind.bits .u32) x_22).toNat:Int)) &&& (BitVec.ofInt (IntKind.bits .u32) x_28)).toNat:Int))))).toNat:Int)))))+x_30))+x_32))+(IntKind.wrap .u32 ((IntKind.wrap .u32 (((BitVec.ofInt (IntKind.bits .u32) (IntKind.wrap .u32 (((BitVec.ofInt (IntKind.bits .u32) r_47 ^^^ (BitVec.ofInt (IntKind.bits .u32) r_49)).toNat:Int))) ^^^ (BitVec.ofInt (IntKind.bits .u32) r_51)).toNat:Int)))+(IntKind.wrap .u32 (((BitVec.ofInt (IntKind.bits .u32) (IntKind.wrap .u32 (((BitVec.ofInt (IntKind.bits .u32) (IntKind.wrap .u32 (((BitVec.ofInt (IntKind.bits .u32) x_20 &&& (BitVec.ofInt (IntKind.bits .u32) x_40)).toNat:Int))) ^^^ (BitVec.ofInt (IntKind.bits .u32) (IntKind.wrap .u32 (((BitVec.ofInt (IntKind.bits .u32) x_20 &&& (BitVec.ofInt (IntKind.bits .u32) x_42)).toNat:Int))))).toNat:Int))) ^^^ (BitVec.ofInt (IntKind.bits .u32) (IntKind.wrap .u32 (((BitVec.ofInt (IntKind.bits .u32) x_44 &&& (BitVec.ofInt (IntKind.bits .u32) x_46)).toNat:Int))))).toNat:Int)))))))) fun h_58=>
  ixW (some x7) 8 (4:Int) 1 fun p_59=>
  ldI .u32 h_58 p_59 fun x_60=>
  ixW (some x7) 8 (4:Int) 1 fun p_61=>
  st h_58 (p_61.add 0) (.int .u32 (IntKind.wrap .u32 (x_60+(IntKind.wrap .u32 ((IntKind.wrap .u32 ((IntKind.wrap .u32 ((IntKind.wrap .u32 (x_24+(IntKind.wrap .u32 (((BitVec.ofInt (IntKind.bits .u32) (IntKind.wrap .u32 (((BitVec.ofInt (IntKind.bits .u32) r_33 ^^^ (BitVec.ofInt (IntKind.bits .u32) r_35)).toNat:Int))) ^^^ (BitVec.ofInt (IntKind.bits .u32) r_37)).toNat:Int)))))+(IntKind.wrap .u32 (((BitVec.ofInt (IntKind.bits .u32) (IntKind.wrap .u32 (((BitVec.ofInt (IntKind.bits .u32) x_22 &&& (BitVec.ofInt (IntKind.bits .u32) x_26)).toNat:Int))) ^^^ (BitVec.ofInt (IntKind.bits .u32) (IntKind.wrap .u32 (((BitVec.ofInt (IntKind.bits .u32) (IntKind.wrap .u32 ((BitVec.ofInt (IntKind.bits .u32) (if IntKind.signed .u32 then -1 else IntKind.max .u32) ^^^ BitVec.ofInt (IntKind.bits .u32) x_22).toNat:Int)) &&& (BitVec.ofInt (IntKind.bits .u32) x_28)).toNat:Int))))).toNat:Int)))))+x_30))+x_32))))) fun h_62=>
  S1 h2 v4 w5 k6 x7 (IntKind.wrap .i64 (v18+(1:Int))) h_62))))))))))))))))))))))))))))
  (sha_block_L2 ρ Q h2 v4 x7 (0:Int) h)
def sha_block_L1 (ρ:Ids) (Q:List Int→Hp→Prop) (h2:Addr) (v4:Addr) (w5:Addr) (k6:Addr) (x7:Addr) (v18:Int) (h:Hp):Prop:=
  Lfp (fun S vals h=>(tA fun h2=>tA fun v4=>tA fun w5=>tA fun k6=>tA fun x7=>tI .i64 fun v18=>tN (sha_block_B1 ρ (fun h2 v4 w5 k6 x7 v18 hh=>S [(.pointer (some h2)),(.pointer (some v4)),(.pointer (some w5)),(.pointer (some k6)),(.pointer (some x7)),(.int .i64 v18)] hh) Q h2 v4 w5 k6 x7 v18 h)) vals) [(.pointer (some h2)),(.pointer (some v4)),(.pointer (some w5)),(.pointer (some k6)),(.pointer (some x7)),(.int .i64 v18)] h
theorem sha_block_L1_in (ρ:Ids) (Q:List Int→Hp→Prop) (h2:Addr) (v4:Addr) (w5:Addr) (k6:Addr) (x7:Addr) (v18:Int) (h:Hp) (H:sha_block_B1 ρ (sha_block_L1 ρ Q) Q h2 v4 w5 k6 x7 v18 h):sha_block_L1 ρ Q h2 v4 w5 k6 x7 v18 h:=lfp_in H
def sha_block (ρ:Ids) (h0_0:List Int) (b1:Sl) (h:Hp) (Q:List Int→Hp→Prop):Prop:=
  alW h (ρ.T 28) (lumpV .u32 8 h0_0) fun p_1 h_2=>
  alW h_2 (ρ.T 28) (lumpV .u32 8 (List.replicate 8 0)) fun p_3 h_4=>
  sha_spread ρ b1 h_4 fun r_5 h_6=>
  sha_constants ρ h_6 fun r_7 h_8=>
  alW h_8 (ρ.T 29) (lumpV .u32 64 (List.replicate 64 0)) fun p_9 h_10=>
  alW h_10 (ρ.T 29) (lumpV .u32 64 (List.replicate 64 0)) fun p_11 h_12=>
  stAll h_12 p_9 0 (lumpV .u32 64 r_5) fun h_13=>
  stAll h_13 p_11 0 (lumpV .u32 64 r_7) fun h_14=>
  ldL .u32 8 h_14 (p_1.add 0) fun x_15=>
  alW h_14 (ρ.T 28) (lumpV .u32 8 (List.replicate 8 0)) fun p_16 h_17=>
  stAll h_17 p_16 0 (lumpV .u32 8 x_15) fun h_18=>
  sha_block_L1 ρ Q p_1 p_3 p_9 p_11 p_16 (0:Int) h_18
def sha_block_S (ρ:Ids):Spec:=fun args h K=>
  (tG fun cells0 rest0=>(tL .u32 8 fun h0_0=>tN ((tS fun b1=>tN (sha_block ρ h0_0 b1 h (fun r0 h=>K (.agg (lumpV .u32 8 r0).toArray) h))) rest0)) cells0) args
def sha_State_Write_B2 (ρ:Ids) (S2:Addr→Addr→Sl→Hp→Prop) (Q:List Int→Sl→Int→Hp→Prop) (s2:Addr) (v4:Addr) (all5:Sl) (h:Hp):Prop:=
  br (decide ((all5.len:Int)≥(64:Int)))
  (ldL .u32 8 h ((s2.add 0).add 0) fun x_11=>
  slW all5 (0:Int) (64:Int) 1 fun s_12=>
  sha_block ρ (nrm 8 x_11) s_12 h fun r_13 h_14=>
  stAll h_14 (s2.add 0) 0 (lumpV .u32 8 r_13) fun h_15=>
  slW all5 (64:Int) (all5.len:Int) 1 fun s_16=>
  S2 s2 v4 s_16 h_15)
  (st h ((s2.add 8).add 0) (.slice all5.a all5.len all5.cap) fun h_17=>
  ldL .u32 8 h_17 (s2.add 0) fun x_18=>
  ldS h_17 (s2.add 8) fun x_19=>
  ldI .u64 h_17 (s2.add 9) fun x_20=>
  stAll h_17 v4 0 (lumpV .u32 8 x_18++([(.slice x_19.a x_19.len x_19.cap),(.int .u64 x_20)]:List Value)) fun h_21=>
  ldL .u32 8 h_21 (v4.add 0) fun x_22=>
  ldS h_21 (v4.add 8) fun x_23=>
  ldI .u64 h_21 (v4.add 9) fun x_24=>
  Q (nrm 8 x_22) x_23 x_24 h_21)
def sha_State_Write_L2 (ρ:Ids) (Q:List Int→Sl→Int→Hp→Prop) (s2:Addr) (v4:Addr) (all5:Sl) (h:Hp):Prop:=
  Lfp (fun S vals h=>(tA fun s2=>tA fun v4=>tS fun all5=>tN (sha_State_Write_B2 ρ (fun s2 v4 all5 hh=>S [(.pointer (some s2)),(.pointer (some v4)),(.slice all5.a all5.len all5.cap)] hh) Q s2 v4 all5 h)) vals) [(.pointer (some s2)),(.pointer (some v4)),(.slice all5.a all5.len all5.cap)] h
theorem sha_State_Write_L2_in (ρ:Ids) (Q:List Int→Sl→Int→Hp→Prop) (s2:Addr) (v4:Addr) (all5:Sl) (h:Hp) (H:sha_State_Write_B2 ρ (sha_State_Write_L2 ρ Q) Q s2 v4 all5 h):sha_State_Write_L2 ρ Q s2 v4 all5 h:=lfp_in H
def sha_State_Write_K3 (ρ:Ids) (Q:List Int→Sl→Int→Hp→Prop) (b1:Sl) (s2:Addr) (v4:Addr) (h:Hp):Prop:=
  ldI .u64 h (s2.add 9) fun x_25=>
  st h ((s2.add 9).add 0) (.int .u64 (IntKind.wrap .u64 (x_25+(IntKind.wrap .u64 (b1.len:Int))))) fun h_26=>
  ldS h_26 (s2.add 8) fun x_27=>
  apW (ρ.T 1) 1 1 (.int .u8 (0:Int)) h_26 (⟨none,0,0⟩:Sl) x_27 fun s_28 h_29=>
  apW (ρ.T 1) 1 1 (.int .u8 (0:Int)) h_29 s_28 b1 fun s_30 h_31=>
  sha_State_Write_L2 ρ Q s2 v4 s_30 h_31
def sha_State_Write_K1 (ρ:Ids) (Q:List Int→Sl→Int→Hp→Prop) (b1:Sl) (s2:Addr) (v4:Addr) (v17:Bool) (h:Hp):Prop:=
  br v17
  (sha_first ρ h fun r_8 h_9=>
  stAll h_9 (s2.add 0) 0 (lumpV .u32 8 r_8) fun h_10=>
  sha_State_Write_K3 ρ Q b1 s2 v4 h_10)
  (sha_State_Write_K3 ρ Q b1 s2 v4 h)
def sha_State_Write (ρ:Ids) (s0_0:List Int) (s0_1:Sl) (s0_2:Int) (b1:Sl) (h:Hp) (Q:List Int→Sl→Int→Hp→Prop):Prop:=
  alW h (ρ.T 27) (lumpV .u32 8 s0_0++([(.slice s0_1.a s0_1.len s0_1.cap),(.int .u64 s0_2)]:List Value)) fun p_1 h_2=>
  alW h_2 (ρ.T 27) (lumpV .u32 8 (List.replicate 8 0)++([(.slice none 0 0),(.int .u64 (0:Int))]:List Value)) fun p_3 h_4=>
  ldI .u64 h_4 (p_1.add 9) fun x_5=>
  br (decide (x_5<(64:Int)))
  (ldS h_4 (p_1.add 8) fun x_6=>
  ldI .u64 h_4 (p_1.add 9) fun x_7=>
  sha_State_Write_K1 ρ Q b1 p_1 p_3 ((x_6.len:Int)==(IntKind.wrap .i64 x_7)) h_4)
  (sha_State_Write_K1 ρ Q b1 p_1 p_3 false h_4)
def sha_State_Write_S (ρ:Ids):Spec:=fun args h K=>
  (tG fun cells0 rest0=>(tL .u32 8 fun s0_0=>tS fun s0_1=>tI .u64 fun s0_2=>tN ((tS fun b1=>tN (sha_State_Write ρ s0_0 s0_1 s0_2 b1 h (fun r0 r1 r2 h=>K (.agg (lumpV .u32 8 r0++([(.slice r1.a r1.len r1.cap),(.int .u64 r2)]:List Value)).toArray) h))) rest0)) cells0) args
def sha_State_Sum_B3 (ρ:Ids) (S3:Addr→Addr→Addr→Int→Hp→Prop) (Q:List Int→Hp→Prop) (v2:Addr) (last5:Addr) (d6:Addr) (v39:Int) (h:Hp):Prop:=
  br (decide (v39<(32:Int)))
  (((4:Int) ≠ 0)∧
  ixW (some (last5.add 0)) 8 (IntKind.wrap .i64 (Int.tdiv v39 (4:Int))) 1 fun p_29=>
  ldI .u32 h p_29 fun x_30=>
  ((4:Int) ≠ 0)∧
  (0≤(IntKind.wrap .i64 ((24:Int) - (IntKind.wrap .i64 ((8:Int)*(Int.tmod v39 (4:Int)))))))∧
  ixW (some d6) 32 v39 1 fun p_31=>
  st h (p_31.add 0) (.int .u8 (IntKind.wrap .u8 (Int.fdiv x_30 (2 ^ (min (Int.toNat (IntKind.wrap .i64 ((24:Int) - (IntKind.wrap .i64 ((8:Int)*(Int.tmod v39 (4:Int))))))) (IntKind.bits .u32)))))) fun h_32=>
  S3 v2 last5 d6 (IntKind.wrap .i64 (v39+(1:Int))) h_32)
  (ldL .u8 32 h (d6.add 0) fun x_33=>
  stAll h v2 0 (lumpV .u8 32 x_33) fun h_34=>
  ldL .u8 32 h_34 (v2.add 0) fun x_35=>
  Q (nrm 32 x_35) h_34)
def sha_State_Sum_L3 (ρ:Ids) (Q:List Int→Hp→Prop) (v2:Addr) (last5:Addr) (d6:Addr) (v39:Int) (h:Hp):Prop:=
  Lfp (fun S vals h=>(tA fun v2=>tA fun last5=>tA fun d6=>tI .i64 fun v39=>tN (sha_State_Sum_B3 ρ (fun v2 last5 d6 v39 hh=>S [(.pointer (some v2)),(.pointer (some last5)),(.pointer (some d6)),(.int .i64 v39)] hh) Q v2 last5 d6 v39 h)) vals) [(.pointer (some v2)),(.pointer (some last5)),(.pointer (some d6)),(.int .i64 v39)] h
theorem sha_State_Sum_L3_in (ρ:Ids) (Q:List Int→Hp→Prop) (v2:Addr) (last5:Addr) (d6:Addr) (v39:Int) (h:Hp) (H:sha_State_Sum_B3 ρ (sha_State_Sum_L3 ρ Q) Q v2 last5 d6 v39 h):sha_State_Sum_L3 ρ Q v2 last5 d6 v39 h:=lfp_in H
def sha_State_Sum_B2 (ρ:Ids) (S2:Addr→Addr→Sl→Int→Hp→Prop) (Q:List Int→Hp→Prop) (s1:Addr) (v2:Addr) (pad3:Sl) (v21:Int) (h:Hp):Prop:=
  br (decide (v21<(8:Int)))
  (ldI .u64 h (s1.add 9) fun x_12=>
  (0≤(IntKind.wrap .i64 ((8:Int)*(IntKind.wrap .i64 ((7:Int) - v21)))))∧
  alW h (ρ.T 1) [(.int .u8 (IntKind.wrap .u8 (Int.fdiv (IntKind.wrap .u64 ((8:Int)*x_12)) (2 ^ (min (Int.toNat (IntKind.wrap .i64 ((8:Int)*(IntKind.wrap .i64 ((7:Int) - v21))))) (IntKind.bits .u64))))))] fun p_13 h_14=>
  apW (ρ.T 1) 1 1 (.int .u8 (0:Int)) h_14 pad3 (⟨some p_13,1,1⟩:Sl) fun s_15 h_16=>
  S2 s1 v2 s_15 (IntKind.wrap .i64 (v21+(1:Int))) h_16)
  (ldL .u32 8 h (s1.add 0) fun x_17=>
  ldS h (s1.add 8) fun x_18=>
  ldI .u64 h (s1.add 9) fun x_19=>
  sha_State_Write ρ (nrm 8 x_17) x_18 x_19 pad3 h fun r_20 r_21 r_22 h_23=>
  alW h_23 (ρ.T 27) (lumpV .u32 8 (List.replicate 8 0)++([(.slice none 0 0),(.int .u64 (0:Int))]:List Value)) fun p_24 h_25=>
  stAll h_25 p_24 0 (lumpV .u32 8 r_20++([(.slice r_21.a r_21.len r_21.cap),(.int .u64 r_22)]:List Value)) fun h_26=>
  alW h_26 (ρ.T 19) (lumpV .u8 32 (List.replicate 32 0)) fun p_27 h_28=>
  sha_State_Sum_L3 ρ Q v2 p_24 p_27 (0:Int) h_28)
def sha_State_Sum_L2 (ρ:Ids) (Q:List Int→Hp→Prop) (s1:Addr) (v2:Addr) (pad3:Sl) (v21:Int) (h:Hp):Prop:=
  Lfp (fun S vals h=>(tA fun s1=>tA fun v2=>tS fun pad3=>tI .i64 fun v21=>tN (sha_State_Sum_B2 ρ (fun s1 v2 pad3 v21 hh=>S [(.pointer (some s1)),(.pointer (some v2)),(.slice pad3.a pad3.len pad3.cap),(.int .i64 v21)] hh) Q s1 v2 pad3 v21 h)) vals) [(.pointer (some s1)),(.pointer (some v2)),(.slice pad3.a pad3.len pad3.cap),(.int .i64 v21)] h
theorem sha_State_Sum_L2_in (ρ:Ids) (Q:List Int→Hp→Prop) (s1:Addr) (v2:Addr) (pad3:Sl) (v21:Int) (h:Hp) (H:sha_State_Sum_B2 ρ (sha_State_Sum_L2 ρ Q) Q s1 v2 pad3 v21 h):sha_State_Sum_L2 ρ Q s1 v2 pad3 v21 h:=lfp_in H
def sha_State_Sum_B1 (ρ:Ids) (S1:Addr→Addr→Sl→Hp→Prop) (Q:List Int→Hp→Prop) (s1:Addr) (v2:Addr) (pad3:Sl) (h:Hp):Prop:=
  ldS h (s1.add 8) fun x_7=>
  ((64:Int) ≠ 0)∧
  br ((Int.tmod (IntKind.wrap .i64 ((IntKind.wrap .i64 ((x_7.len:Int)+(pad3.len:Int)))+(8:Int))) (64:Int)) !=(0:Int))
  (alW h (ρ.T 1) [(.int .u8 (0:Int))] fun p_8 h_9=>
  apW (ρ.T 1) 1 1 (.int .u8 (0:Int)) h_9 pad3 (⟨some p_8,1,1⟩:Sl) fun s_10 h_11=>
  S1 s1 v2 s_10 h_11)
  (sha_State_Sum_L2 ρ Q s1 v2 pad3 (0:Int) h)
def sha_State_Sum_L1 (ρ:Ids) (Q:List Int→Hp→Prop) (s1:Addr) (v2:Addr) (pad3:Sl) (h:Hp):Prop:=
  Lfp (fun S vals h=>(tA fun s1=>tA fun v2=>tS fun pad3=>tN (sha_State_Sum_B1 ρ (fun s1 v2 pad3 hh=>S [(.pointer (some s1)),(.pointer (some v2)),(.slice pad3.a pad3.len pad3.cap)] hh) Q s1 v2 pad3 h)) vals) [(.pointer (some s1)),(.pointer (some v2)),(.slice pad3.a pad3.len pad3.cap)] h
theorem sha_State_Sum_L1_in (ρ:Ids) (Q:List Int→Hp→Prop) (s1:Addr) (v2:Addr) (pad3:Sl) (h:Hp) (H:sha_State_Sum_B1 ρ (sha_State_Sum_L1 ρ Q) Q s1 v2 pad3 h):sha_State_Sum_L1 ρ Q s1 v2 pad3 h:=lfp_in H
def sha_State_Sum (ρ:Ids) (s0_0:List Int) (s0_1:Sl) (s0_2:Int) (h:Hp) (Q:List Int→Hp→Prop):Prop:=
  alW h (ρ.T 27) (lumpV .u32 8 s0_0++([(.slice s0_1.a s0_1.len s0_1.cap),(.int .u64 s0_2)]:List Value)) fun p_1 h_2=>
  alW h_2 (ρ.T 19) (lumpV .u8 32 (List.replicate 32 0)) fun p_3 h_4=>
  alW h_4 (ρ.T 1) [(.int .u8 (128:Int))] fun p_5 h_6=>
  sha_State_Sum_L1 ρ Q p_1 p_3 (⟨some p_5,1,1⟩:Sl) h_6
def sha_State_Sum_S (ρ:Ids):Spec:=fun args h K=>
  (tG fun cells0 rest0=>(tL .u32 8 fun s0_0=>tS fun s0_1=>tI .u64 fun s0_2=>tN ((tN (sha_State_Sum ρ s0_0 s0_1 s0_2 h (fun r0 h=>K (.agg (lumpV .u8 32 r0).toArray) h))) rest0)) cells0) args
def sha_Sum_B1 (ρ:Ids) (S1:Addr→Addr→Sl→Int→Int→Hp→Prop) (Q:List Int→Hp→Prop) (v2:Addr) (s3:Addr) (v7:Sl) (v8:Int) (v9:Int) (h:Hp):Prop:=
  br (decide (v9<v8))
  (ixW v7.a v7.len v9 1 fun p_10=>
  ldS h p_10 fun x_11=>
  ldL .u32 8 h (s3.add 0) fun x_12=>
  ldS h (s3.add 8) fun x_13=>
  ldI .u64 h (s3.add 9) fun x_14=>
  sha_State_Write ρ (nrm 8 x_12) x_13 x_14 x_11 h fun r_15 r_16 r_17 h_18=>
  stAll h_18 s3 0 (lumpV .u32 8 r_15++([(.slice r_16.a r_16.len r_16.cap),(.int .u64 r_17)]:List Value)) fun h_19=>
  S1 v2 s3 v7 v8 (IntKind.wrap .i64 (v9+(1:Int))) h_19)
  (ldL .u32 8 h (s3.add 0) fun x_20=>
  ldS h (s3.add 8) fun x_21=>
  ldI .u64 h (s3.add 9) fun x_22=>
  sha_State_Sum ρ (nrm 8 x_20) x_21 x_22 h fun r_23 h_24=>
  stAll h_24 v2 0 (lumpV .u8 32 r_23) fun h_25=>
  ldL .u8 32 h_25 (v2.add 0) fun x_26=>
  Q (nrm 32 x_26) h_25)
def sha_Sum_L1 (ρ:Ids) (Q:List Int→Hp→Prop) (v2:Addr) (s3:Addr) (v7:Sl) (v8:Int) (v9:Int) (h:Hp):Prop:=
  Lfp (fun S vals h=>(tA fun v2=>tA fun s3=>tS fun v7=>tI .i64 fun v8=>tI .i64 fun v9=>tN (sha_Sum_B1 ρ (fun v2 s3 v7 v8 v9 hh=>S [(.pointer (some v2)),(.pointer (some s3)),(.slice v7.a v7.len v7.cap),(.int .i64 v8),(.int .i64 v9)] hh) Q v2 s3 v7 v8 v9 h)) vals) [(.pointer (some v2)),(.pointer (some s3)),(.slice v7.a v7.len v7.cap),(.int .i64 v8),(.int .i64 v9)] h
theorem sha_Sum_L1_in (ρ:Ids) (Q:List Int→Hp→Prop) (v2:Addr) (s3:Addr) (v7:Sl) (v8:Int) (v9:Int) (h:Hp) (H:sha_Sum_B1 ρ (sha_Sum_L1 ρ Q) Q v2 s3 v7 v8 v9 h):sha_Sum_L1 ρ Q v2 s3 v7 v8 v9 h:=lfp_in H
def sha_Sum (ρ:Ids) (parts0:Sl) (h:Hp) (Q:List Int→Hp→Prop):Prop:=
  alW h (ρ.T 19) (lumpV .u8 32 (List.replicate 32 0)) fun p_1 h_2=>
  sha_New ρ h_2 fun r_3 r_4 r_5 h_6=>
  alW h_6 (ρ.T 27) (lumpV .u32 8 (List.replicate 8 0)++([(.slice none 0 0),(.int .u64 (0:Int))]:List Value)) fun p_7 h_8=>
  stAll h_8 p_7 0 (lumpV .u32 8 r_3++([(.slice r_4.a r_4.len r_4.cap),(.int .u64 r_5)]:List Value)) fun h_9=>
  sha_Sum_L1 ρ Q p_1 p_7 parts0 (parts0.len:Int) (0:Int) h_9
def sha_Sum_S (ρ:Ids):Spec:=fun args h K=>
  (tS fun parts0=>tN (sha_Sum ρ parts0 h (fun r0 h=>K (.agg (lumpV .u8 32 r0).toArray) h))) args
def cipher_join (ρ:Ids) (b0:Sl) (h:Hp) (Q:Int→Hp→Prop):Prop:=
  ixW b0.a b0.len (0:Int) 1 fun p_1=>
  ldI .u8 h p_1 fun x_2=>
  ixW b0.a b0.len (1:Int) 1 fun p_3=>
  ldI .u8 h p_3 fun x_4=>
  (0≤(8:Int))∧
  ixW b0.a b0.len (2:Int) 1 fun p_5=>
  ldI .u8 h p_5 fun x_6=>
  (0≤(16:Int))∧
  ixW b0.a b0.len (3:Int) 1 fun p_7=>
  ldI .u8 h p_7 fun x_8=>
  (0≤(24:Int))∧
  Q (IntKind.wrap .u32 (((BitVec.ofInt (IntKind.bits .u32) (IntKind.wrap .u32 (((BitVec.ofInt (IntKind.bits .u32) (IntKind.wrap .u32 (((BitVec.ofInt (IntKind.bits .u32) (IntKind.wrap .u32 x_2) ||| (BitVec.ofInt (IntKind.bits .u32) (IntKind.wrap .u32 ((IntKind.wrap .u32 x_4)*2 ^ (min (Int.toNat (8:Int)) (IntKind.bits .u32)))))).toNat:Int))) ||| (BitVec.ofInt (IntKind.bits .u32) (IntKind.wrap .u32 ((IntKind.wrap .u32 x_6)*2 ^ (min (Int.toNat (16:Int)) (IntKind.bits .u32)))))).toNat:Int))) ||| (BitVec.ofInt (IntKind.bits .u32) (IntKind.wrap .u32 ((IntKind.wrap .u32 x_8)*2 ^ (min (Int.toNat (24:Int)) (IntKind.bits .u32)))))).toNat:Int))) h
def cipher_join_S (ρ:Ids):Spec:=fun args h K=>
  (tS fun b0=>tN (cipher_join ρ b0 h (fun r0 h=>K (.int .u32 r0) h))) args
def cipher_start_B2 (ρ:Ids) (S2:Addr→Addr→Addr→Int→Hp→Prop) (Q:List Int→Hp→Prop) (nonce4:Addr) (v6:Addr) (w7:Addr) (v24:Int) (h:Hp):Prop:=
  br (decide (v24<(3:Int)))
  (slW (⟨some nonce4,12,12⟩:Sl) (IntKind.wrap .i64 ((4:Int)*v24)) ((12:Nat):Int) 1 fun s_17=>
  cipher_join ρ s_17 h fun r_18 h_19=>
  ixW (some w7) 16 (IntKind.wrap .i64 ((13:Int)+v24)) 1 fun p_20=>
  st h_19 (p_20.add 0) (.int .u32 r_18) fun h_21=>
  S2 nonce4 v6 w7 (IntKind.wrap .i64 (v24+(1:Int))) h_21)
  (ldL .u32 16 h (w7.add 0) fun x_22=>
  stAll h v6 0 (lumpV .u32 16 x_22) fun h_23=>
  ldL .u32 16 h_23 (v6.add 0) fun x_24=>
  Q (nrm 16 x_24) h_23)
def cipher_start_L2 (ρ:Ids) (Q:List Int→Hp→Prop) (nonce4:Addr) (v6:Addr) (w7:Addr) (v24:Int) (h:Hp):Prop:=
  Lfp (fun S vals h=>(tA fun nonce4=>tA fun v6=>tA fun w7=>tI .i64 fun v24=>tN (cipher_start_B2 ρ (fun nonce4 v6 w7 v24 hh=>S [(.pointer (some nonce4)),(.pointer (some v6)),(.pointer (some w7)),(.int .i64 v24)] hh) Q nonce4 v6 w7 v24 h)) vals) [(.pointer (some nonce4)),(.pointer (some v6)),(.pointer (some w7)),(.int .i64 v24)] h
theorem cipher_start_L2_in (ρ:Ids) (Q:List Int→Hp→Prop) (nonce4:Addr) (v6:Addr) (w7:Addr) (v24:Int) (h:Hp) (H:cipher_start_B2 ρ (cipher_start_L2 ρ Q) Q nonce4 v6 w7 v24 h):cipher_start_L2 ρ Q nonce4 v6 w7 v24 h:=lfp_in H
def cipher_start_B1 (ρ:Ids) (S1:Int→Addr→Addr→Addr→Addr→Int→Hp→Prop) (Q:List Int→Hp→Prop) (counter2:Int) (key3:Addr) (nonce4:Addr) (v6:Addr) (w7:Addr) (v11:Int) (h:Hp):Prop:=
  br (decide (v11<(8:Int)))
  (slW (⟨some key3,32,32⟩:Sl) (IntKind.wrap .i64 ((4:Int)*v11)) ((32:Nat):Int) 1 fun s_10=>
  cipher_join ρ s_10 h fun r_11 h_12=>
  ixW (some w7) 16 (IntKind.wrap .i64 ((4:Int)+v11)) 1 fun p_13=>
  st h_12 (p_13.add 0) (.int .u32 r_11) fun h_14=>
  S1 counter2 key3 nonce4 v6 w7 (IntKind.wrap .i64 (v11+(1:Int))) h_14)
  (ixW (some w7) 16 (12:Int) 1 fun p_15=>
  st h (p_15.add 0) (.int .u32 counter2) fun h_16=>
  cipher_start_L2 ρ Q nonce4 v6 w7 (0:Int) h_16)
def cipher_start_L1 (ρ:Ids) (Q:List Int→Hp→Prop) (counter2:Int) (key3:Addr) (nonce4:Addr) (v6:Addr) (w7:Addr) (v11:Int) (h:Hp):Prop:=
  Lfp (fun S vals h=>(tI .u32 fun counter2=>tA fun key3=>tA fun nonce4=>tA fun v6=>tA fun w7=>tI .i64 fun v11=>tN (cipher_start_B1 ρ (fun counter2 key3 nonce4 v6 w7 v11 hh=>S [(.int .u32 counter2),(.pointer (some key3)),(.pointer (some nonce4)),(.pointer (some v6)),(.pointer (some w7)),(.int .i64 v11)] hh) Q counter2 key3 nonce4 v6 w7 v11 h)) vals) [(.int .u32 counter2),(.pointer (some key3)),(.pointer (some nonce4)),(.pointer (some v6)),(.pointer (some w7)),(.int .i64 v11)] h
theorem cipher_start_L1_in (ρ:Ids) (Q:List Int→Hp→Prop) (counter2:Int) (key3:Addr) (nonce4:Addr) (v6:Addr) (w7:Addr) (v11:Int) (h:Hp) (H:cipher_start_B1 ρ (cipher_start_L1 ρ Q) Q counter2 key3 nonce4 v6 w7 v11 h):cipher_start_L1 ρ Q counter2 key3 nonce4 v6 w7 v11 h:=lfp_in H
def cipher_start (ρ:Ids) (key0_0:List Int) (nonce1_0:List Int) (counter2:Int) (h:Hp) (Q:List Int→Hp→Prop):Prop:=
  alW h (ρ.T 19) (lumpV .u8 32 key0_0) fun p_1 h_2=>
  alW h_2 (ρ.T 22) (lumpV .u8 12 nonce1_0) fun p_3 h_4=>
  alW h_4 (ρ.T 24) (lumpV .u32 16 (List.replicate 16 0)) fun p_5 h_6=>
  alW h_6 (ρ.T 24) (lumpV .u32 16 (List.replicate 16 0)) fun p_7 h_8=>
  stAll h_8 p_7 0 (lumpV .u32 16 [(1634760805:Int),(857760878:Int),(2036477234:Int),(1797285236:Int),(0:Int),(0:Int),(0:Int),(0:Int),(0:Int),(0:Int),(0:Int),(0:Int),(0:Int),(0:Int),(0:Int),(0:Int)]) fun h_9=>
  cipher_start_L1 ρ Q counter2 p_1 p_3 p_5 p_7 (0:Int) h_9
def cipher_start_S (ρ:Ids):Spec:=fun args h K=>
  (tG fun cells0 rest0=>(tL .u8 32 fun key0_0=>tN ((tG fun cells1 rest1=>(tL .u8 12 fun nonce1_0=>tN ((tI .u32 fun counter2=>tN (cipher_start ρ key0_0 nonce1_0 counter2 h (fun r0 h=>K (.agg (lumpV .u32 16 r0).toArray) h))) rest1)) cells1) rest0)) cells0) args
def cipher_Quarter_1 (ρ:Ids) (x0:Int) (y1:Int) (z2:Int) (by3:Int) (v4:Addr) (h:Hp) (Q:Hp→Prop):Prop:=
  ixW (some v4) 4 x0 1 fun p_1=>
  ldI .u32 h p_1 fun x_2=>
  ixW (some v4) 4 y1 1 fun p_3=>
  ldI .u32 h p_3 fun x_4=>
  ixW (some v4) 4 x0 1 fun p_5=>
  st h (p_5.add 0) (.int .u32 (IntKind.wrap .u32 (x_2+x_4))) fun h_6=>
  ixW (some v4) 4 z2 1 fun p_7=>
  ldI .u32 h_6 p_7 fun x_8=>
  ixW (some v4) 4 x0 1 fun p_9=>
  ldI .u32 h_6 p_9 fun x_10=>
  math_bits_RotateLeft32 ρ (IntKind.wrap .u32 (((BitVec.ofInt (IntKind.bits .u32) x_8 ^^^ (BitVec.ofInt (IntKind.bits .u32) x_10)).toNat:Int))) by3 h_6 fun r_11 h_12=>
  ixW (some v4) 4 z2 1 fun p_13=>
  st h_12 (p_13.add 0) (.int .u32 r_11) fun h_14=>
  Q h_14
def cipher_Quarter_1_S (ρ:Ids):Spec:=fun args h K=>
  (tI .i64 fun x0=>tI .i64 fun y1=>tI .i64 fun z2=>tI .i64 fun by3=>tA fun v4=>tN (cipher_Quarter_1 ρ x0 y1 z2 by3 v4 h (fun h=>K (.tuple [].toArray) h))) args
def cipher_Quarter (ρ:Ids) (w0_0:List Int) (h:Hp) (Q:List Int→Hp→Prop):Prop:=
  alW h (ρ.T 25) (lumpV .u32 4 w0_0) fun p_1 h_2=>
  alW h_2 (ρ.T 25) (lumpV .u32 4 (List.replicate 4 0)) fun p_3 h_4=>
  cipher_Quarter_1 ρ (0:Int) (1:Int) (3:Int) (16:Int) p_1 h_4 fun h_5=>
  isV (.tuple [].toArray) fun y_6=>
  cipher_Quarter_1 ρ (2:Int) (3:Int) (1:Int) (12:Int) p_1 h_5 fun h_7=>
  isV (.tuple [].toArray) fun y_8=>
  cipher_Quarter_1 ρ (0:Int) (1:Int) (3:Int) (8:Int) p_1 h_7 fun h_9=>
  isV (.tuple [].toArray) fun y_10=>
  cipher_Quarter_1 ρ (2:Int) (3:Int) (1:Int) (7:Int) p_1 h_9 fun h_11=>
  isV (.tuple [].toArray) fun y_12=>
  ldL .u32 4 h_11 (p_1.add 0) fun x_13=>
  stAll h_11 p_3 0 (lumpV .u32 4 x_13) fun h_14=>
  ldL .u32 4 h_14 (p_3.add 0) fun x_15=>
  Q (nrm 4 x_15) h_14
def cipher_Quarter_S (ρ:Ids):Spec:=fun args h K=>
  (tG fun cells0 rest0=>(tL .u32 4 fun w0_0=>tN ((tN (cipher_Quarter ρ w0_0 h (fun r0 h=>K (.agg (lumpV .u32 4 r0).toArray) h))) rest0)) cells0) args
def cipher_Block_1_K1 (ρ:Ids) (Q:Hp→Prop) (a0:Int) (b1:Int) (c2:Int) (d3:Int) (v4:Addr) (q9:Addr) (h:Hp):Prop:=
  ixW (some q9) 4 (0:Int) 1 fun p_18=>
  ldI .u32 h p_18 fun x_19=>
  ixW (some q9) 4 (1:Int) 1 fun p_20=>
  ldI .u32 h p_20 fun x_21=>
  ixW (some q9) 4 (2:Int) 1 fun p_22=>
  ldI .u32 h p_22 fun x_23=>
  ixW (some q9) 4 (3:Int) 1 fun p_24=>
  ldI .u32 h p_24 fun x_25=>
  ixW (some v4) 16 a0 1 fun p_26=>
  st h (p_26.add 0) (.int .u32 x_19) fun h_27=>
  (hcell h_27 p_24=some (.int .u32 x_25))∧
  ((hcell h_27 p_22=some (.int .u32 x_23))∧
  ((hcell h_27 p_20=some (.int .u32 x_21))∧
  (ixW (some v4) 16 b1 1 fun p_28=>
  st h_27 (p_28.add 0) (.int .u32 x_21) fun h_29=>
  (hcell h_29 p_24=some (.int .u32 x_25))∧
  ((hcell h_29 p_22=some (.int .u32 x_23))∧
  (ixW (some v4) 16 c2 1 fun p_30=>
  st h_29 (p_30.add 0) (.int .u32 x_23) fun h_31=>
  (hcell h_31 p_24=some (.int .u32 x_25))∧
  (ixW (some v4) 16 d3 1 fun p_32=>
  st h_31 (p_32.add 0) (.int .u32 x_25) fun h_33=>
  Q h_33))))))
def cipher_Block_1_K3 (ρ:Ids) (Q:Hp→Prop) (a0:Int) (b1:Int) (c2:Int) (d3:Int) (v4:Addr) (q9:Addr) (v23_0:List Int) (h:Hp):Prop:=
  stAll h q9 0 (lumpV .u32 4 v23_0) fun h_13=>
  cipher_Block_1_K1 ρ Q a0 b1 c2 d3 v4 q9 h_13
def cipher_Block_1_K2 (ρ:Ids) (Q:Hp→Prop) (a0:Int) (b1:Int) (c2:Int) (d3:Int) (v4:Addr) (v23_0:List Int) (h:Hp):Prop:=
  alW h (ρ.T 25) (lumpV .u32 4 (List.replicate 4 0)) fun p_11 h_12=>
  cipher_Block_1_K3 ρ Q a0 b1 c2 d3 v4 p_11 (nrm 4 v23_0) h_12
def cipher_Block_1 (ρ:Ids) (a0:Int) (b1:Int) (c2:Int) (d3:Int) (v4:Addr) (h:Hp) (Q:Hp→Prop):Prop:=
  ixW (some v4) 16 a0 1 fun p_1=>
  ldI .u32 h p_1 fun x_2=>
  ixW (some v4) 16 b1 1 fun p_3=>
  ldI .u32 h p_3 fun x_4=>
  ixW (some v4) 16 c2 1 fun p_5=>
  ldI .u32 h p_5 fun x_6=>
  ixW (some v4) 16 d3 1 fun p_7=>
  ldI .u32 h p_7 fun x_8=>
  (cipher_Quarter ρ (nrm 4 [x_2,x_4,x_6,x_8]) h fun r_9 h_10=>
  cipher_Block_1_K2 ρ Q a0 b1 c2 d3 v4 (nrm 4 r_9) h_10)∧
  (alW h (ρ.T 25) (lumpV .u32 4 (List.replicate 4 0)) fun p_14 h_15=>
  (hcell h_15 p_7=some (.int .u32 x_8))∧
  ((hcell h_15 p_5=some (.int .u32 x_6))∧
  ((hcell h_15 p_3=some (.int .u32 x_4))∧
  ((hcell h_15 p_1=some (.int .u32 x_2))∧
  (cipher_Quarter ρ (nrm 4 [x_2,x_4,x_6,x_8]) h_15 fun r_16 h_17=>
  cipher_Block_1_K3 ρ Q a0 b1 c2 d3 v4 p_14 (nrm 4 r_16) h_17)))))
def cipher_Block_1_S (ρ:Ids):Spec:=fun args h K=>
  (tI .i64 fun a0=>tI .i64 fun b1=>tI .i64 fun c2=>tI .i64 fun d3=>tA fun v4=>tN (cipher_Block_1 ρ a0 b1 c2 d3 v4 h (fun h=>K (.tuple [].toArray) h))) args
def cipher_Block_B3 (ρ:Ids) (S1:Addr→Addr→Addr→Addr→Int→Hp→Prop) (S3:Addr→Addr→Addr→Addr→Int→Int→Hp→Prop) (Q:List Int→Hp→Prop) (v6:Addr) (first7:Addr) (w8:Addr) (turn9_0:Addr) (v20:Int) (v35:Int) (h:Hp):Prop:=
  br (decide (v35<(4:Int)))
  (((4:Int) ≠ 0)∧
  ((4:Int) ≠ 0)∧
  ((4:Int) ≠ 0)∧
  cipher_Block_1 ρ v35 (IntKind.wrap .i64 ((4:Int)+(Int.tmod (IntKind.wrap .i64 (v35+(1:Int))) (4:Int)))) (IntKind.wrap .i64 ((8:Int)+(Int.tmod (IntKind.wrap .i64 (v35+(2:Int))) (4:Int)))) (IntKind.wrap .i64 ((12:Int)+(Int.tmod (IntKind.wrap .i64 (v35+(3:Int))) (4:Int)))) turn9_0 h fun h_22=>
  isV (.tuple [].toArray) fun y_23=>
  S3 v6 first7 w8 turn9_0 v20 (IntKind.wrap .i64 (v35+(1:Int))) h_22)
  (S1 v6 first7 w8 turn9_0 (IntKind.wrap .i64 (v20+(1:Int))) h)
def cipher_Block_L3 (ρ:Ids) (S1:Addr→Addr→Addr→Addr→Int→Hp→Prop) (Q:List Int→Hp→Prop) (v6:Addr) (first7:Addr) (w8:Addr) (turn9_0:Addr) (v20:Int) (v35:Int) (h:Hp):Prop:=
  Lfp (fun S vals h=>(tA fun v6=>tA fun first7=>tA fun w8=>tF (ρ.G 119) fun cells3 rest3=>(tA fun turn9_0=>tN ((tI .i64 fun v20=>tI .i64 fun v35=>tN (cipher_Block_B3 ρ S1 (fun v6 first7 w8 turn9_0 v20 v35 hh=>S [(.pointer (some v6)),(.pointer (some first7)),(.pointer (some w8)),(.func (.func (ρ.G 119)) #[] #[(.pointer (some turn9_0))]),(.int .i64 v20),(.int .i64 v35)] hh) Q v6 first7 w8 turn9_0 v20 v35 h)) rest3)) cells3) vals) [(.pointer (some v6)),(.pointer (some first7)),(.pointer (some w8)),(.func (.func (ρ.G 119)) #[] #[(.pointer (some turn9_0))]),(.int .i64 v20),(.int .i64 v35)] h
theorem cipher_Block_L3_in (ρ:Ids) (S1:Addr→Addr→Addr→Addr→Int→Hp→Prop) (Q:List Int→Hp→Prop) (v6:Addr) (first7:Addr) (w8:Addr) (turn9_0:Addr) (v20:Int) (v35:Int) (h:Hp) (H:cipher_Block_B3 ρ S1 (cipher_Block_L3 ρ S1 Q) Q v6 first7 w8 turn9_0 v20 v35 h):cipher_Block_L3 ρ S1 Q v6 first7 w8 turn9_0 v20 v35 h:=lfp_in (by
      simp only [tI,tA,tN,tF_self,sameKind,cnd]
      exact H)
def cipher_Block_B2 (ρ:Ids) (S1:Addr→Addr→Addr→Addr→Int→Hp→Prop) (S2:Addr→Addr→Addr→Addr→Int→Int→Hp→Prop) (Q:List Int→Hp→Prop) (v6:Addr) (first7:Addr) (w8:Addr) (turn9_0:Addr) (v20:Int) (v22:Int) (h:Hp):Prop:=
  br (decide (v22<(4:Int)))
  (cipher_Block_1 ρ v22 (IntKind.wrap .i64 ((4:Int)+v22)) (IntKind.wrap .i64 ((8:Int)+v22)) (IntKind.wrap .i64 ((12:Int)+v22)) turn9_0 h fun h_20=>
  isV (.tuple [].toArray) fun y_21=>
  S2 v6 first7 w8 turn9_0 v20 (IntKind.wrap .i64 (v22+(1:Int))) h_20)
  (cipher_Block_L3 ρ S1 Q v6 first7 w8 turn9_0 v20 (0:Int) h)
def cipher_Block_L2 (ρ:Ids) (S1:Addr→Addr→Addr→Addr→Int→Hp→Prop) (Q:List Int→Hp→Prop) (v6:Addr) (first7:Addr) (w8:Addr) (turn9_0:Addr) (v20:Int) (v22:Int) (h:Hp):Prop:=
  Lfp (fun S vals h=>(tA fun v6=>tA fun first7=>tA fun w8=>tF (ρ.G 119) fun cells3 rest3=>(tA fun turn9_0=>tN ((tI .i64 fun v20=>tI .i64 fun v22=>tN (cipher_Block_B2 ρ S1 (fun v6 first7 w8 turn9_0 v20 v22 hh=>S [(.pointer (some v6)),(.pointer (some first7)),(.pointer (some w8)),(.func (.func (ρ.G 119)) #[] #[(.pointer (some turn9_0))]),(.int .i64 v20),(.int .i64 v22)] hh) Q v6 first7 w8 turn9_0 v20 v22 h)) rest3)) cells3) vals) [(.pointer (some v6)),(.pointer (some first7)),(.pointer (some w8)),(.func (.func (ρ.G 119)) #[] #[(.pointer (some turn9_0))]),(.int .i64 v20),(.int .i64 v22)] h
theorem cipher_Block_L2_in (ρ:Ids) (S1:Addr→Addr→Addr→Addr→Int→Hp→Prop) (Q:List Int→Hp→Prop) (v6:Addr) (first7:Addr) (w8:Addr) (turn9_0:Addr) (v20:Int) (v22:Int) (h:Hp) (H:cipher_Block_B2 ρ S1 (cipher_Block_L2 ρ S1 Q) Q v6 first7 w8 turn9_0 v20 v22 h):cipher_Block_L2 ρ S1 Q v6 first7 w8 turn9_0 v20 v22 h:=lfp_in (by
      simp only [tI,tA,tN,tF_self,sameKind,cnd]
      exact H)
def cipher_Block_B4 (ρ:Ids) (S4:Addr→Addr→Addr→Addr→Int→Hp→Prop) (Q:List Int→Hp→Prop) (v6:Addr) (first7:Addr) (w8:Addr) (b12:Addr) (v55:Int) (h:Hp):Prop:=
  br (decide (v55<(64:Int)))
  (((4:Int) ≠ 0)∧
  ixW (some w8) 16 (IntKind.wrap .i64 (Int.tdiv v55 (4:Int))) 1 fun p_24=>
  ldI .u32 h p_24 fun x_25=>
  ((4:Int) ≠ 0)∧
  ixW (some first7) 16 (IntKind.wrap .i64 (Int.tdiv v55 (4:Int))) 1 fun p_26=>
  ldI .u32 h p_26 fun x_27=>
  ((4:Int) ≠ 0)∧
  (0≤(IntKind.wrap .i64 ((8:Int)*(Int.tmod v55 (4:Int)))))∧
  ixW (some b12) 64 v55 1 fun p_28=>
  st h (p_28.add 0) (.int .u8 (IntKind.wrap .u8 (Int.fdiv (IntKind.wrap .u32 (x_25+x_27)) (2 ^ (min (Int.toNat (IntKind.wrap .i64 ((8:Int)*(Int.tmod v55 (4:Int))))) (IntKind.bits .u32)))))) fun h_29=>
  S4 v6 first7 w8 b12 (IntKind.wrap .i64 (v55+(1:Int))) h_29)
  (ldL .u8 64 h (b12.add 0) fun x_30=>
  stAll h v6 0 (lumpV .u8 64 x_30) fun h_31=>
  ldL .u8 64 h_31 (v6.add 0) fun x_32=>
  Q (nrm 64 x_32) h_31)
def cipher_Block_L4 (ρ:Ids) (Q:List Int→Hp→Prop) (v6:Addr) (first7:Addr) (w8:Addr) (b12:Addr) (v55:Int) (h:Hp):Prop:=
  Lfp (fun S vals h=>(tA fun v6=>tA fun first7=>tA fun w8=>tA fun b12=>tI .i64 fun v55=>tN (cipher_Block_B4 ρ (fun v6 first7 w8 b12 v55 hh=>S [(.pointer (some v6)),(.pointer (some first7)),(.pointer (some w8)),(.pointer (some b12)),(.int .i64 v55)] hh) Q v6 first7 w8 b12 v55 h)) vals) [(.pointer (some v6)),(.pointer (some first7)),(.pointer (some w8)),(.pointer (some b12)),(.int .i64 v55)] h
theorem cipher_Block_L4_in (ρ:Ids) (Q:List Int→Hp→Prop) (v6:Addr) (first7:Addr) (w8:Addr) (b12:Addr) (v55:Int) (h:Hp) (H:cipher_Block_B4 ρ (cipher_Block_L4 ρ Q) Q v6 first7 w8 b12 v55 h):cipher_Block_L4 ρ Q v6 first7 w8 b12 v55 h:=lfp_in H
def cipher_Block_B1 (ρ:Ids) (S1:Addr→Addr→Addr→Addr→Int→Hp→Prop) (Q:List Int→Hp→Prop) (v6:Addr) (first7:Addr) (w8:Addr) (turn9_0:Addr) (v20:Int) (h:Hp):Prop:=
  br (decide (v20<(10:Int)))
  (cipher_Block_L2 ρ S1 Q v6 first7 w8 turn9_0 v20 (0:Int) h)
  (alW h (ρ.T 23) (lumpV .u8 64 (List.replicate 64 0)) fun p_18 h_19=>
  cipher_Block_L4 ρ Q v6 first7 w8 p_18 (0:Int) h_19)
def cipher_Block_L1 (ρ:Ids) (Q:List Int→Hp→Prop) (v6:Addr) (first7:Addr) (w8:Addr) (turn9_0:Addr) (v20:Int) (h:Hp):Prop:=
  Lfp (fun S vals h=>(tA fun v6=>tA fun first7=>tA fun w8=>tF (ρ.G 119) fun cells3 rest3=>(tA fun turn9_0=>tN ((tI .i64 fun v20=>tN (cipher_Block_B1 ρ (fun v6 first7 w8 turn9_0 v20 hh=>S [(.pointer (some v6)),(.pointer (some first7)),(.pointer (some w8)),(.func (.func (ρ.G 119)) #[] #[(.pointer (some turn9_0))]),(.int .i64 v20)] hh) Q v6 first7 w8 turn9_0 v20 h)) rest3)) cells3) vals) [(.pointer (some v6)),(.pointer (some first7)),(.pointer (some w8)),(.func (.func (ρ.G 119)) #[] #[(.pointer (some turn9_0))]),(.int .i64 v20)] h
theorem cipher_Block_L1_in (ρ:Ids) (Q:List Int→Hp→Prop) (v6:Addr) (first7:Addr) (w8:Addr) (turn9_0:Addr) (v20:Int) (h:Hp) (H:cipher_Block_B1 ρ (cipher_Block_L1 ρ Q) Q v6 first7 w8 turn9_0 v20 h):cipher_Block_L1 ρ Q v6 first7 w8 turn9_0 v20 h:=lfp_in (by
      simp only [tI,tA,tN,tF_self,sameKind,cnd]
      exact H)
def cipher_Block (ρ:Ids) (key0_0:List Int) (nonce1_0:List Int) (counter2:Int) (h:Hp) (Q:List Int→Hp→Prop):Prop:=
  alW h (ρ.T 19) (lumpV .u8 32 key0_0) fun p_1 h_2=>
  alW h_2 (ρ.T 22) (lumpV .u8 12 nonce1_0) fun p_3 h_4=>
  alW h_4 (ρ.T 23) (lumpV .u8 64 (List.replicate 64 0)) fun p_5 h_6=>
  ldL .u8 32 h_6 (p_1.add 0) fun x_7=>
  ldL .u8 12 h_6 (p_3.add 0) fun x_8=>
  cipher_start ρ (nrm 32 x_7) (nrm 12 x_8) counter2 h_6 fun r_9 h_10=>
  alW h_10 (ρ.T 24) (lumpV .u32 16 (List.replicate 16 0)) fun p_11 h_12=>
  stAll h_12 p_11 0 (lumpV .u32 16 r_9) fun h_13=>
  ldL .u32 16 h_13 (p_11.add 0) fun x_14=>
  alW h_13 (ρ.T 24) (lumpV .u32 16 (List.replicate 16 0)) fun p_15 h_16=>
  stAll h_16 p_15 0 (lumpV .u32 16 x_14) fun h_17=>
  cipher_Block_L1 ρ Q p_5 p_11 p_15 p_15 (0:Int) h_17
def cipher_Block_S (ρ:Ids):Spec:=fun args h K=>
  (tG fun cells0 rest0=>(tL .u8 32 fun key0_0=>tN ((tG fun cells1 rest1=>(tL .u8 12 fun nonce1_0=>tN ((tI .u32 fun counter2=>tN (cipher_Block ρ key0_0 nonce1_0 counter2 h (fun r0 h=>K (.agg (lumpV .u8 64 r0).toArray) h))) rest1)) cells1) rest0)) cells0) args
def cipher_Turn_B2 (ρ:Ids) (S1:Int→Addr→Addr→Sl→Int→Hp→Prop) (S2:Int→Addr→Addr→Sl→Int→Addr→Int→Int→Hp→Prop) (Q:Sl→Hp→Prop) (counter2:Int) (key4:Addr) (nonce5:Addr) (out9:Sl) (at10:Int) (s11:Addr) (v34:Int) (v35:Int) (h:Hp):Prop:=
  br (decide (v35<v34))
  (ixW out9.a out9.len (IntKind.wrap .i64 (at10+v35)) 1 fun p_15=>
  ldI .u8 h p_15 fun x_16=>
  ixW (some s11) 64 v35 1 fun p_17=>
  ldI .u8 h p_17 fun x_18=>
  ixW out9.a out9.len (IntKind.wrap .i64 (at10+v35)) 1 fun p_19=>
  st h (p_19.add 0) (.int .u8 (IntKind.wrap .u8 (((BitVec.ofInt (IntKind.bits .u8) x_16 ^^^ (BitVec.ofInt (IntKind.bits .u8) x_18)).toNat:Int)))) fun h_20=>
  S2 counter2 key4 nonce5 out9 at10 s11 v34 (IntKind.wrap .i64 (v35+(1:Int))) h_20)
  (S1 (IntKind.wrap .u32 (counter2+(1:Int))) key4 nonce5 out9 (IntKind.wrap .i64 (at10+(64:Int))) h)
def cipher_Turn_L2 (ρ:Ids) (S1:Int→Addr→Addr→Sl→Int→Hp→Prop) (Q:Sl→Hp→Prop) (counter2:Int) (key4:Addr) (nonce5:Addr) (out9:Sl) (at10:Int) (s11:Addr) (v34:Int) (v35:Int) (h:Hp):Prop:=
  Lfp (fun S vals h=>(tI .u32 fun counter2=>tA fun key4=>tA fun nonce5=>tS fun out9=>tI .i64 fun at10=>tA fun s11=>tI .i64 fun v34=>tI .i64 fun v35=>tN (cipher_Turn_B2 ρ S1 (fun counter2 key4 nonce5 out9 at10 s11 v34 v35 hh=>S [(.int .u32 counter2),(.pointer (some key4)),(.pointer (some nonce5)),(.slice out9.a out9.len out9.cap),(.int .i64 at10),(.pointer (some s11)),(.int .i64 v34),(.int .i64 v35)] hh) Q counter2 key4 nonce5 out9 at10 s11 v34 v35 h)) vals) [(.int .u32 counter2),(.pointer (some key4)),(.pointer (some nonce5)),(.slice out9.a out9.len out9.cap),(.int .i64 at10),(.pointer (some s11)),(.int .i64 v34),(.int .i64 v35)] h
theorem cipher_Turn_L2_in (ρ:Ids) (S1:Int→Addr→Addr→Sl→Int→Hp→Prop) (Q:Sl→Hp→Prop) (counter2:Int) (key4:Addr) (nonce5:Addr) (out9:Sl) (at10:Int) (s11:Addr) (v34:Int) (v35:Int) (h:Hp) (H:cipher_Turn_B2 ρ S1 (cipher_Turn_L2 ρ S1 Q) Q counter2 key4 nonce5 out9 at10 s11 v34 v35 h):cipher_Turn_L2 ρ S1 Q counter2 key4 nonce5 out9 at10 s11 v34 v35 h:=lfp_in H
def cipher_Turn_B1 (ρ:Ids) (S1:Int→Addr→Addr→Sl→Int→Hp→Prop) (Q:Sl→Hp→Prop) (counter2:Int) (key4:Addr) (nonce5:Addr) (out9:Sl) (at10:Int) (h:Hp):Prop:=
  br (decide (at10<(if (1048576:Int)<(out9.len:Int) then (1048576:Int) else (out9.len:Int))))
  (ldL .u8 32 h (key4.add 0) fun x_7=>
  ldL .u8 12 h (nonce5.add 0) fun x_8=>
  cipher_Block ρ (nrm 32 x_7) (nrm 12 x_8) counter2 h fun r_9 h_10=>
  alW h_10 (ρ.T 23) (lumpV .u8 64 (List.replicate 64 0)) fun p_11 h_12=>
  stAll h_12 p_11 0 (lumpV .u8 64 r_9) fun h_13=>
  slW out9 at10 (if (out9.len:Int)<(IntKind.wrap .i64 (at10+(64:Int))) then (out9.len:Int) else (IntKind.wrap .i64 (at10+(64:Int)))) 1 fun s_14=>
  cipher_Turn_L2 ρ S1 Q counter2 key4 nonce5 out9 at10 p_11 (s_14.len:Int) (0:Int) h_13)
  (Q out9 h)
def cipher_Turn_L1 (ρ:Ids) (Q:Sl→Hp→Prop) (counter2:Int) (key4:Addr) (nonce5:Addr) (out9:Sl) (at10:Int) (h:Hp):Prop:=
  Lfp (fun S vals h=>(tI .u32 fun counter2=>tA fun key4=>tA fun nonce5=>tS fun out9=>tI .i64 fun at10=>tN (cipher_Turn_B1 ρ (fun counter2 key4 nonce5 out9 at10 hh=>S [(.int .u32 counter2),(.pointer (some key4)),(.pointer (some nonce5)),(.slice out9.a out9.len out9.cap),(.int .i64 at10)] hh) Q counter2 key4 nonce5 out9 at10 h)) vals) [(.int .u32 counter2),(.pointer (some key4)),(.pointer (some nonce5)),(.slice out9.a out9.len out9.cap),(.int .i64 at10)] h
theorem cipher_Turn_L1_in (ρ:Ids) (Q:Sl→Hp→Prop) (counter2:Int) (key4:Addr) (nonce5:Addr) (out9:Sl) (at10:Int) (h:Hp) (H:cipher_Turn_B1 ρ (cipher_Turn_L1 ρ Q) Q counter2 key4 nonce5 out9 at10 h):cipher_Turn_L1 ρ Q counter2 key4 nonce5 out9 at10 h:=lfp_in H
def cipher_Turn (ρ:Ids) (key0_0:List Int) (nonce1_0:List Int) (counter2:Int) (b3:Sl) (h:Hp) (Q:Sl→Hp→Prop):Prop:=
  alW h (ρ.T 19) (lumpV .u8 32 key0_0) fun p_1 h_2=>
  alW h_2 (ρ.T 22) (lumpV .u8 12 nonce1_0) fun p_3 h_4=>
  apW (ρ.T 1) 1 1 (.int .u8 (0:Int)) h_4 (⟨none,0,0⟩:Sl) b3 fun s_5 h_6=>
  cipher_Turn_L1 ρ Q counter2 p_1 p_3 s_5 (0:Int) h_6
def cipher_Turn_S (ρ:Ids):Spec:=fun args h K=>
  (tG fun cells0 rest0=>(tL .u8 32 fun key0_0=>tN ((tG fun cells1 rest1=>(tL .u8 12 fun nonce1_0=>tN ((tI .u32 fun counter2=>tS fun b3=>tN (cipher_Turn ρ key0_0 nonce1_0 counter2 b3 h (fun r0 h=>K (.slice r0.a r0.len r0.cap) h))) rest1)) cells1) rest0)) cells0) args
end Go.Tx
