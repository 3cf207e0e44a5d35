import Derived.Test.YtpjehkdneiclnaaCnShT
set_option linter.unusedSimpArgs false
set_option linter.unusedVariables false
set_option maxRecDepth 20000
namespace Go.Tx
open Go Go.Wc
def shape_New_K3 (ρ:Ids) (S2:Addr→Sl→Int→Hp→Prop) (Q:Sl→Int→Hp→Prop) (v2:Addr) (l4:Sl) (many5:Int) (v23:Bool) (h:Hp):Prop:=
  br v23
  (((6:Int) ≠ 0)∧
  slX l4 (0:Int) (l4.len:Int) (l4.len:Int) 1 fun s_7=>
  ixW l4.a l4.len (IntKind.wrap .i64 ((l4.len:Int) - (1:Int))) 1 fun p_8=>
  ldI .i64 h p_8 fun x_9=>
  alW h (ρ.T 0) [(.int .i64 (IntKind.wrap .i64 (x_9+(IntKind.wrap .i64 (Int.tdiv (IntKind.wrap .i64 ((IntKind.wrap .i64 (many5+(6:Int))) - (1:Int))) (6:Int))))))] fun p_10 h_11=>
  apW (ρ.T 0) 1 8 (.int .i64 (0:Int)) h_11 s_7 (⟨some p_10,1,1⟩:Sl) fun s_12 h_13=>
  S2 v2 s_12 (IntKind.wrap .i64 (Int.tdiv (IntKind.wrap .i64 ((IntKind.wrap .i64 (many5+(6:Int))) - (1:Int))) (6:Int))) h_13)
  (st h (v2.add 0) (.slice l4.a l4.len l4.cap) fun h_14=>
  ldS h_14 (v2.add 0) fun x_15=>
  Q x_15 (0:Int) h_14)
def shape_New_B2 (ρ:Ids) (S2:Addr→Sl→Int→Hp→Prop) (Q:Sl→Int→Hp→Prop) (v2:Addr) (l4:Sl) (many5:Int) (h:Hp):Prop:=
  br (decide (many5>(1:Int)))
  (shape_New_K3 ρ S2 Q v2 l4 many5 true h)
  (shape_New_K3 ρ S2 Q v2 l4 many5 ((l4.len:Int)==(2:Int)) h)
def shape_New_L2 (ρ:Ids) (Q:Sl→Int→Hp→Prop) (v2:Addr) (l4:Sl) (many5:Int) (h:Hp):Prop:=
  Lfp (fun S vals h=>(tA fun v2=>tS fun l4=>tI .i64 fun many5=>tN (shape_New_B2 ρ (fun v2 l4 many5 hh=>S [(.pointer (some v2)),(.slice l4.a l4.len l4.cap),(.int .i64 many5)] hh) Q v2 l4 many5 h)) vals) [(.pointer (some v2)),(.slice l4.a l4.len l4.cap),(.int .i64 many5)] h
theorem shape_New_L2_in (ρ:Ids) (Q:Sl→Int→Hp→Prop) (v2:Addr) (l4:Sl) (many5:Int) (h:Hp) (H:shape_New_B2 ρ (shape_New_L2 ρ Q) Q v2 l4 many5 h):shape_New_L2 ρ Q v2 l4 many5 h:=lfp_in H
def shape_New_K1 (ρ:Ids) (Q:Sl→Int→Hp→Prop) (pages0:Int) (v2:Addr) (v12:Bool) (h:Hp):Prop:=
  br v12
  (st h (v2.add 0) (.slice none 0 0) fun h_3=>
  ldS h_3 (v2.add 0) fun x_4=>
  Q x_4 (1:Int) h_3)
  (alW h (ρ.T 0) [(.int .i64 (0:Int)),(.int .i64 pages0)] fun p_5 h_6=>
  shape_New_L2 ρ Q v2 (⟨some p_5,2,2⟩:Sl) pages0 h_6)
def shape_New (ρ:Ids) (pages0:Int) (h:Hp) (Q:Sl→Int→Hp→Prop):Prop:=
  alW h (ρ.T 11) [(.slice none 0 0)] fun p_1 h_2=>
  br (decide (pages0<(1:Int)))
  (shape_New_K1 ρ Q pages0 p_1 true h_2)
  (shape_New_K1 ρ Q pages0 p_1 (decide (pages0>(216:Int))) h_2)
def shape_New_S (ρ:Ids):Spec:=fun args h K=>
  (tI .i64 fun pages0=>tN (shape_New ρ pages0 h (fun r0 r1 h=>K (.tuple [(.agg [(.slice r0.a r0.len r0.cap)].toArray),(.int .i64 r1)].toArray) h))) args
def carlingref12_New_B5 (ρ:Ids) (S3:Addr→Addr→Int→Int→Int→Hp→Prop) (S5:Addr→Addr→Int→Int→Int→Int→Int→Hp→Prop) (Q:Int→Sl→Sl→Int→Hp→Prop) (v2:Addr) (s4:Addr) (from6:Int) (many7:Int) (level8:Int) (n9:Int) (k10:Int) (h:Hp):Prop:=
  br (decide (k10<many7))
  (ldS h (s4.add 1) fun x_29=>
  alW h (ρ.T 0) [(.int .i64 level8)] fun p_30 h_31=>
  apW (ρ.T 0) 1 8 (.int .i64 (0:Int)) h_31 x_29 (⟨some p_30,1,1⟩:Sl) fun s_32 h_33=>
  st h_33 ((s4.add 1).add 0) (.slice s_32.a s_32.len s_32.cap) fun h_34=>
  ldS h_34 (s4.add 2) fun x_35=>
  alW h_34 (ρ.T 0) [(.int .i64 (IntKind.wrap .i64 (from6+k10)))] fun p_36 h_37=>
  apW (ρ.T 0) 1 8 (.int .i64 (0:Int)) h_37 x_35 (⟨some p_36,1,1⟩:Sl) fun s_38 h_39=>
  st h_39 ((s4.add 2).add 0) (.slice s_38.a s_38.len s_38.cap) fun h_40=>
  S5 v2 s4 from6 many7 level8 (IntKind.wrap .i64 (n9+(1:Int))) (IntKind.wrap .i64 (k10+(6:Int))) h_40)
  (S3 v2 s4 (IntKind.wrap .i64 (from6+many7)) n9 (IntKind.wrap .i64 (level8+(1:Int))) h)
def carlingref12_New_L5 (ρ:Ids) (S3:Addr→Addr→Int→Int→Int→Hp→Prop) (Q:Int→Sl→Sl→Int→Hp→Prop) (v2:Addr) (s4:Addr) (from6:Int) (many7:Int) (level8:Int) (n9:Int) (k10:Int) (h:Hp):Prop:=
  Lfp (fun S vals h=>(tA fun v2=>tA fun s4=>tI .i64 fun from6=>tI .i64 fun many7=>tI .i64 fun level8=>tI .i64 fun n9=>tI .i64 fun k10=>tN (carlingref12_New_B5 ρ S3 (fun v2 s4 from6 many7 level8 n9 k10 hh=>S [(.pointer (some v2)),(.pointer (some s4)),(.int .i64 from6),(.int .i64 many7),(.int .i64 level8),(.int .i64 n9),(.int .i64 k10)] hh) Q v2 s4 from6 many7 level8 n9 k10 h)) vals) [(.pointer (some v2)),(.pointer (some s4)),(.int .i64 from6),(.int .i64 many7),(.int .i64 level8),(.int .i64 n9),(.int .i64 k10)] h
theorem carlingref12_New_L5_in (ρ:Ids) (S3:Addr→Addr→Int→Int→Int→Hp→Prop) (Q:Int→Sl→Sl→Int→Hp→Prop) (v2:Addr) (s4:Addr) (from6:Int) (many7:Int) (level8:Int) (n9:Int) (k10:Int) (h:Hp) (H:carlingref12_New_B5 ρ S3 (carlingref12_New_L5 ρ S3 Q) Q v2 s4 from6 many7 level8 n9 k10 h):carlingref12_New_L5 ρ S3 Q v2 s4 from6 many7 level8 n9 k10 h:=lfp_in H
def carlingref12_New_K4 (ρ:Ids) (S3:Addr→Addr→Int→Int→Int→Hp→Prop) (Q:Int→Sl→Sl→Int→Hp→Prop) (v2:Addr) (s4:Addr) (from6:Int) (many7:Int) (level8:Int) (v41:Bool) (h:Hp):Prop:=
  br v41
  (carlingref12_New_L5 ρ S3 Q v2 s4 from6 many7 level8 (0:Int) (0:Int) h)
  (ldI .i64 h (s4.add 0) fun x_22=>
  ldS h (s4.add 1) fun x_23=>
  ldS h (s4.add 2) fun x_24=>
  stAll h v2 0 [(.int .i64 x_22),(.slice x_23.a x_23.len x_23.cap),(.slice x_24.a x_24.len x_24.cap)] fun h_25=>
  ldI .i64 h_25 (v2.add 0) fun x_26=>
  ldS h_25 (v2.add 1) fun x_27=>
  ldS h_25 (v2.add 2) fun x_28=>
  Q x_26 x_27 x_28 (0:Int) h_25)
def carlingref12_New_B3 (ρ:Ids) (S3:Addr→Addr→Int→Int→Int→Hp→Prop) (Q:Int→Sl→Sl→Int→Hp→Prop) (v2:Addr) (s4:Addr) (from6:Int) (many7:Int) (level8:Int) (h:Hp):Prop:=
  br (level8==(1:Int))
  (carlingref12_New_K4 ρ S3 Q v2 s4 from6 many7 level8 true h)
  (carlingref12_New_K4 ρ S3 Q v2 s4 from6 many7 level8 (decide (many7>(1:Int))) h)
def carlingref12_New_L3 (ρ:Ids) (Q:Int→Sl→Sl→Int→Hp→Prop) (v2:Addr) (s4:Addr) (from6:Int) (many7:Int) (level8:Int) (h:Hp):Prop:=
  Lfp (fun S vals h=>(tA fun v2=>tA fun s4=>tI .i64 fun from6=>tI .i64 fun many7=>tI .i64 fun level8=>tN (carlingref12_New_B3 ρ (fun v2 s4 from6 many7 level8 hh=>S [(.pointer (some v2)),(.pointer (some s4)),(.int .i64 from6),(.int .i64 many7),(.int .i64 level8)] hh) Q v2 s4 from6 many7 level8 h)) vals) [(.pointer (some v2)),(.pointer (some s4)),(.int .i64 from6),(.int .i64 many7),(.int .i64 level8)] h
theorem carlingref12_New_L3_in (ρ:Ids) (Q:Int→Sl→Sl→Int→Hp→Prop) (v2:Addr) (s4:Addr) (from6:Int) (many7:Int) (level8:Int) (h:Hp) (H:carlingref12_New_B3 ρ (carlingref12_New_L3 ρ Q) Q v2 s4 from6 many7 level8 h):carlingref12_New_L3 ρ Q v2 s4 from6 many7 level8 h:=lfp_in H
def carlingref12_New_B2 (ρ:Ids) (S2:Int→Addr→Addr→Int→Hp→Prop) (Q:Int→Sl→Sl→Int→Hp→Prop) (pages0:Int) (v2:Addr) (s4:Addr) (i5:Int) (h:Hp):Prop:=
  br (decide (i5<pages0))
  (ldS h (s4.add 1) fun x_10=>
  alW h (ρ.T 0) [(.int .i64 (0:Int))] fun p_11 h_12=>
  apW (ρ.T 0) 1 8 (.int .i64 (0:Int)) h_12 x_10 (⟨some p_11,1,1⟩:Sl) fun s_13 h_14=>
  st h_14 ((s4.add 1).add 0) (.slice s_13.a s_13.len s_13.cap) fun h_15=>
  ldS h_15 (s4.add 2) fun x_16=>
  alW h_15 (ρ.T 0) [(.int .i64 (-1:Int))] fun p_17 h_18=>
  apW (ρ.T 0) 1 8 (.int .i64 (0:Int)) h_18 x_16 (⟨some p_17,1,1⟩:Sl) fun s_19 h_20=>
  st h_20 ((s4.add 2).add 0) (.slice s_19.a s_19.len s_19.cap) fun h_21=>
  S2 pages0 v2 s4 (IntKind.wrap .i64 (i5+(1:Int))) h_21)
  (carlingref12_New_L3 ρ Q v2 s4 (0:Int) pages0 (1:Int) h)
def carlingref12_New_L2 (ρ:Ids) (Q:Int→Sl→Sl→Int→Hp→Prop) (pages0:Int) (v2:Addr) (s4:Addr) (i5:Int) (h:Hp):Prop:=
  Lfp (fun S vals h=>(tI .i64 fun pages0=>tA fun v2=>tA fun s4=>tI .i64 fun i5=>tN (carlingref12_New_B2 ρ (fun pages0 v2 s4 i5 hh=>S [(.int .i64 pages0),(.pointer (some v2)),(.pointer (some s4)),(.int .i64 i5)] hh) Q pages0 v2 s4 i5 h)) vals) [(.int .i64 pages0),(.pointer (some v2)),(.pointer (some s4)),(.int .i64 i5)] h
theorem carlingref12_New_L2_in (ρ:Ids) (Q:Int→Sl→Sl→Int→Hp→Prop) (pages0:Int) (v2:Addr) (s4:Addr) (i5:Int) (h:Hp) (H:carlingref12_New_B2 ρ (carlingref12_New_L2 ρ Q) Q pages0 v2 s4 i5 h):carlingref12_New_L2 ρ Q pages0 v2 s4 i5 h:=lfp_in H
def carlingref12_New_K1 (ρ:Ids) (Q:Int→Sl→Sl→Int→Hp→Prop) (pages0:Int) (v2:Addr) (v16:Bool) (h:Hp):Prop:=
  br v16
  (stAll h v2 0 [(.int .i64 (0:Int)),(.slice none 0 0),(.slice none 0 0)] fun h_3=>
  ldI .i64 h_3 (v2.add 0) fun x_4=>
  ldS h_3 (v2.add 1) fun x_5=>
  ldS h_3 (v2.add 2) fun x_6=>
  Q x_4 x_5 x_6 (1:Int) h_3)
  (alW h (ρ.T 12) [(.int .i64 (0:Int)),(.slice none 0 0),(.slice none 0 0)] fun p_7 h_8=>
  stAll h_8 p_7 0 [(.int .i64 pages0),(.slice none 0 0),(.slice none 0 0)] fun h_9=>
  carlingref12_New_L2 ρ Q pages0 v2 p_7 (0:Int) h_9)
def carlingref12_New (ρ:Ids) (pages0:Int) (h:Hp) (Q:Int→Sl→Sl→Int→Hp→Prop):Prop:=
  alW h (ρ.T 12) [(.int .i64 (0:Int)),(.slice none 0 0),(.slice none 0 0)] fun p_1 h_2=>
  br (decide (pages0<(1:Int)))
  (carlingref12_New_K1 ρ Q pages0 p_1 true h_2)
  (carlingref12_New_K1 ρ Q pages0 p_1 (decide (pages0>(216:Int))) h_2)
def carlingref12_New_S (ρ:Ids):Spec:=fun args h K=>
  (tI .i64 fun pages0=>tN (carlingref12_New ρ pages0 h (fun r0 r1 r2 r3 h=>K (.tuple [(.agg [(.int .i64 r0),(.slice r1.a r1.len r1.cap),(.slice r2.a r2.len r2.cap)].toArray),(.int .i64 r3)].toArray) h))) args
def carlinglaw16_far_B3 (ρ:Ids) (S3:Sl→Int→Int→Hp→Prop) (Q:Bool→Hp→Prop) (v28:Sl) (v29:Int) (v30:Int) (h:Hp):Prop:=
  br (decide (v30<v29))
  (ixW v28.a v28.len v30 2 fun p_8=>
  ldI .i64 h (p_8.add 0) fun x_9=>
  ldS h (p_8.add 1) fun x_10=>
  alW h (ρ.T 13) [(.int .i64 (0:Int)),(.slice none 0 0)] fun p_11 h_12=>
  stAll h_12 p_11 0 [(.int .i64 x_9),(.slice x_10.a x_10.len x_10.cap)] fun h_13=>
  ldS h_13 (p_11.add 1) fun x_14=>
  br (decide ((x_14.len:Int)>(600:Int)))
  (Q true h_13)
  (S3 v28 v29 (IntKind.wrap .i64 (v30+(1:Int))) h_13))
  (Q false h)
def carlinglaw16_far_L3 (ρ:Ids) (Q:Bool→Hp→Prop) (v28:Sl) (v29:Int) (v30:Int) (h:Hp):Prop:=
  Lfp (fun S vals h=>(tS fun v28=>tI .i64 fun v29=>tI .i64 fun v30=>tN (carlinglaw16_far_B3 ρ (fun v28 v29 v30 hh=>S [(.slice v28.a v28.len v28.cap),(.int .i64 v29),(.int .i64 v30)] hh) Q v28 v29 v30 h)) vals) [(.slice v28.a v28.len v28.cap),(.int .i64 v29),(.int .i64 v30)] h
theorem carlinglaw16_far_L3_in (ρ:Ids) (Q:Bool→Hp→Prop) (v28:Sl) (v29:Int) (v30:Int) (h:Hp) (H:carlinglaw16_far_B3 ρ (carlinglaw16_far_L3 ρ Q) Q v28 v29 v30 h):carlinglaw16_far_L3 ρ Q v28 v29 v30 h:=lfp_in H
def carlinglaw16_far_B2 (ρ:Ids) (S2:Sl→Sl→Int→Int→Hp→Prop) (Q:Bool→Hp→Prop) (c1:Sl) (v17:Sl) (v18:Int) (v19:Int) (h:Hp):Prop:=
  br (decide (v19<v18))
  (ixW v17.a v17.len v19 2 fun p_1=>
  ldI .i64 h (p_1.add 0) fun x_2=>
  ldS h (p_1.add 1) fun x_3=>
  alW h (ρ.T 15) [(.int .i64 (0:Int)),(.slice none 0 0)] fun p_4 h_5=>
  stAll h_5 p_4 0 [(.int .i64 x_2),(.slice x_3.a x_3.len x_3.cap)] fun h_6=>
  ldS h_6 (p_4.add 1) fun x_7=>
  br (decide ((x_7.len:Int)>(20:Int)))
  (Q true h_6)
  (S2 c1 v17 v18 (IntKind.wrap .i64 (v19+(1:Int))) h_6))
  (carlinglaw16_far_L3 ρ Q c1 (c1.len:Int) (0:Int) h)
def carlinglaw16_far_L2 (ρ:Ids) (Q:Bool→Hp→Prop) (c1:Sl) (v17:Sl) (v18:Int) (v19:Int) (h:Hp):Prop:=
  Lfp (fun S vals h=>(tS fun c1=>tS fun v17=>tI .i64 fun v18=>tI .i64 fun v19=>tN (carlinglaw16_far_B2 ρ (fun c1 v17 v18 v19 hh=>S [(.slice c1.a c1.len c1.cap),(.slice v17.a v17.len v17.cap),(.int .i64 v18),(.int .i64 v19)] hh) Q c1 v17 v18 v19 h)) vals) [(.slice c1.a c1.len c1.cap),(.slice v17.a v17.len v17.cap),(.int .i64 v18),(.int .i64 v19)] h
theorem carlinglaw16_far_L2_in (ρ:Ids) (Q:Bool→Hp→Prop) (c1:Sl) (v17:Sl) (v18:Int) (v19:Int) (h:Hp) (H:carlinglaw16_far_B2 ρ (carlinglaw16_far_L2 ρ Q) Q c1 v17 v18 v19 h):carlinglaw16_far_L2 ρ Q c1 v17 v18 v19 h:=lfp_in H
def carlinglaw16_far_K1 (ρ:Ids) (Q:Bool→Hp→Prop) (l0:Sl) (c1:Sl) (v16:Bool) (h:Hp):Prop:=
  br v16
  (Q true h)
  (carlinglaw16_far_L2 ρ Q c1 l0 (l0.len:Int) (0:Int) h)
def carlinglaw16_far (ρ:Ids) (l0:Sl) (c1:Sl) (h:Hp) (Q:Bool→Hp→Prop):Prop:=
  br (decide ((l0.len:Int)>(60:Int)))
  (carlinglaw16_far_K1 ρ Q l0 c1 true h)
  (carlinglaw16_far_K1 ρ Q l0 c1 (decide ((c1.len:Int)>(20:Int))) h)
def carlinglaw16_far_S (ρ:Ids):Spec:=fun args h K=>
  (tS fun l0=>tS fun c1=>tN (carlinglaw16_far ρ l0 c1 h (fun r0 h=>K (.bool r0) h))) args
def shape_Shape_Levels (ρ:Ids) (s0_0:Sl) (h:Hp) (Q:Int→Hp→Prop):Prop:=
  alW h (ρ.T 11) [(.slice s0_0.a s0_0.len s0_0.cap)] fun p_1 h_2=>
  ldS h_2 (p_1.add 0) fun x_3=>
  Q (if (0:Int)>(IntKind.wrap .i64 ((x_3.len:Int) - (1:Int))) then (0:Int) else (IntKind.wrap .i64 ((x_3.len:Int) - (1:Int)))) h_2
def shape_Shape_Levels_S (ρ:Ids):Spec:=fun args h K=>
  (tG fun cells0 rest0=>(tS fun s0_0=>tN ((tN (shape_Shape_Levels ρ s0_0 h (fun r0 h=>K (.int .i64 r0) h))) rest0)) cells0) args
def shape_Shape_Level_B1 (ρ:Ids) (S1:Int→Addr→Int→Int→Hp→Prop) (Q:Int→Hp→Prop) (item1:Int) (s2:Addr) (v9:Int) (v10:Int) (h:Hp):Prop:=
  br (decide (v10<v9))
  (ldS h (s2.add 0) fun x_6=>
  ixW x_6.a x_6.len (IntKind.wrap .i64 (v10+(1:Int))) 1 fun p_7=>
  ldI .i64 h p_7 fun x_8=>
  br (decide (item1<x_8))
  (Q v10 h)
  (S1 item1 s2 v9 (IntKind.wrap .i64 (v10+(1:Int))) h))
  (Q (-1:Int) h)
def shape_Shape_Level_L1 (ρ:Ids) (Q:Int→Hp→Prop) (item1:Int) (s2:Addr) (v9:Int) (v10:Int) (h:Hp):Prop:=
  Lfp (fun S vals h=>(tI .i64 fun item1=>tA fun s2=>tI .i64 fun v9=>tI .i64 fun v10=>tN (shape_Shape_Level_B1 ρ (fun item1 s2 v9 v10 hh=>S [(.int .i64 item1),(.pointer (some s2)),(.int .i64 v9),(.int .i64 v10)] hh) Q item1 s2 v9 v10 h)) vals) [(.int .i64 item1),(.pointer (some s2)),(.int .i64 v9),(.int .i64 v10)] h
theorem shape_Shape_Level_L1_in (ρ:Ids) (Q:Int→Hp→Prop) (item1:Int) (s2:Addr) (v9:Int) (v10:Int) (h:Hp) (H:shape_Shape_Level_B1 ρ (shape_Shape_Level_L1 ρ Q) Q item1 s2 v9 v10 h):shape_Shape_Level_L1 ρ Q item1 s2 v9 v10 h:=lfp_in H
def shape_Shape_Level (ρ:Ids) (s0_0:Sl) (item1:Int) (h:Hp) (Q:Int→Hp→Prop):Prop:=
  alW h (ρ.T 11) [(.slice s0_0.a s0_0.len s0_0.cap)] fun p_1 h_2=>
  br (decide (item1<(0:Int)))
  (Q (-1:Int) h_2)
  (ldS h_2 (p_1.add 0) fun x_3=>
  shape_Shape_Levels ρ x_3 h_2 fun r_4 h_5=>
  shape_Shape_Level_L1 ρ Q item1 p_1 r_4 (0:Int) h_5)
def shape_Shape_Level_S (ρ:Ids):Spec:=fun args h K=>
  (tG fun cells0 rest0=>(tS fun s0_0=>tN ((tI .i64 fun item1=>tN (shape_Shape_Level ρ s0_0 item1 h (fun r0 h=>K (.int .i64 r0) h))) rest0)) cells0) args
def shape_Shape_Items (ρ:Ids) (s0_0:Sl) (h:Hp) (Q:Int→Hp→Prop):Prop:=
  alW h (ρ.T 11) [(.slice s0_0.a s0_0.len s0_0.cap)] fun p_1 h_2=>
  ldS h_2 (p_1.add 0) fun x_3=>
  br ((x_3.len:Int)==(0:Int))
  (Q (0:Int) h_2)
  (ldS h_2 (p_1.add 0) fun x_4=>
  ldS h_2 (p_1.add 0) fun x_5=>
  ixW x_4.a x_4.len (IntKind.wrap .i64 ((x_5.len:Int) - (1:Int))) 1 fun p_6=>
  ldI .i64 h_2 p_6 fun x_7=>
  Q x_7 h_2)
def shape_Shape_Items_S (ρ:Ids):Spec:=fun args h K=>
  (tG fun cells0 rest0=>(tS fun s0_0=>tN ((tN (shape_Shape_Items ρ s0_0 h (fun r0 h=>K (.int .i64 r0) h))) rest0)) cells0) args
def shape_Shape_Root (ρ:Ids) (s0_0:Sl) (h:Hp) (Q:Int→Hp→Prop):Prop:=
  alW h (ρ.T 11) [(.slice s0_0.a s0_0.len s0_0.cap)] fun p_1 h_2=>
  ldS h_2 (p_1.add 0) fun x_3=>
  shape_Shape_Items ρ x_3 h_2 fun r_4 h_5=>
  Q (IntKind.wrap .i64 (r_4+(-1:Int))) h_5
def shape_Shape_Root_S (ρ:Ids):Spec:=fun args h K=>
  (tG fun cells0 rest0=>(tS fun s0_0=>tN ((tN (shape_Shape_Root ρ s0_0 h (fun r0 h=>K (.int .i64 r0) h))) rest0)) cells0) args
def shape_Shape_Parent_K1 (ρ:Ids) (Q:Int→Int→Bool→Hp→Prop) (item1:Int) (s2:Addr) (level7:Int) (v19:Bool) (h:Hp):Prop:=
  br v19
  (Q (0:Int) (0:Int) false h)
  (ldS h (s2.add 0) fun x_9=>
  ixW x_9.a x_9.len level7 1 fun p_10=>
  ldI .i64 h p_10 fun x_11=>
  ldS h (s2.add 0) fun x_12=>
  ixW x_12.a x_12.len (IntKind.wrap .i64 (level7+(1:Int))) 1 fun p_13=>
  ldI .i64 h p_13 fun x_14=>
  ((6:Int) ≠ 0)∧
  ((6:Int) ≠ 0)∧
  Q (IntKind.wrap .i64 (x_14+(IntKind.wrap .i64 (Int.tdiv (IntKind.wrap .i64 (item1 - x_11)) (6:Int))))) (Int.tmod (IntKind.wrap .i64 (item1 - x_11)) (6:Int)) true h)
def shape_Shape_Parent (ρ:Ids) (s0_0:Sl) (item1:Int) (h:Hp) (Q:Int→Int→Bool→Hp→Prop):Prop:=
  alW h (ρ.T 11) [(.slice s0_0.a s0_0.len s0_0.cap)] fun p_1 h_2=>
  ldS h_2 (p_1.add 0) fun x_3=>
  shape_Shape_Level ρ x_3 item1 h_2 fun r_4 h_5=>
  br (decide (r_4<(0:Int)))
  (shape_Shape_Parent_K1 ρ Q item1 p_1 r_4 true h_5)
  (ldS h_5 (p_1.add 0) fun x_6=>
  shape_Shape_Root ρ x_6 h_5 fun r_7 h_8=>
  shape_Shape_Parent_K1 ρ Q item1 p_1 r_4 (item1==r_7) h_8)
def shape_Shape_Parent_S (ρ:Ids):Spec:=fun args h K=>
  (tG fun cells0 rest0=>(tS fun s0_0=>tN ((tI .i64 fun item1=>tN (shape_Shape_Parent ρ s0_0 item1 h (fun r0 r1 r2 h=>K (.tuple [(.int .i64 r0),(.int .i64 r1),(.bool r2)].toArray) h))) rest0)) cells0) args
def shape_Shape_Path_B1 (ρ:Ids) (S1:Addr→Sl→Int→Bool→Hp→Prop) (Q:Sl→Hp→Prop) (s2:Addr) (l5:Sl) (p6:Int) (ok8:Bool) (h:Hp):Prop:=
  br ok8
  (alW h (ρ.T 0) [(.int .i64 p6)] fun p_13 h_14=>
  apW (ρ.T 0) 1 8 (.int .i64 (0:Int)) h_14 l5 (⟨some p_13,1,1⟩:Sl) fun s_15 h_16=>
  ldS h_16 (s2.add 0) fun x_17=>
  shape_Shape_Parent ρ x_17 p6 h_16 fun r_18 r_19 r_20 h_21=>
  S1 s2 s_15 r_18 r_20 h_21)
  (Q l5 h)
def shape_Shape_Path_L1 (ρ:Ids) (Q:Sl→Hp→Prop) (s2:Addr) (l5:Sl) (p6:Int) (ok8:Bool) (h:Hp):Prop:=
  Lfp (fun S vals h=>(tA fun s2=>tS fun l5=>tI .i64 fun p6=>tB fun ok8=>tN (shape_Shape_Path_B1 ρ (fun s2 l5 p6 ok8 hh=>S [(.pointer (some s2)),(.slice l5.a l5.len l5.cap),(.int .i64 p6),(.bool ok8)] hh) Q s2 l5 p6 ok8 h)) vals) [(.pointer (some s2)),(.slice l5.a l5.len l5.cap),(.int .i64 p6),(.bool ok8)] h
theorem shape_Shape_Path_L1_in (ρ:Ids) (Q:Sl→Hp→Prop) (s2:Addr) (l5:Sl) (p6:Int) (ok8:Bool) (h:Hp) (H:shape_Shape_Path_B1 ρ (shape_Shape_Path_L1 ρ Q) Q s2 l5 p6 ok8 h):shape_Shape_Path_L1 ρ Q s2 l5 p6 ok8 h:=lfp_in H
def shape_Shape_Path (ρ:Ids) (s0_0:Sl) (page1:Int) (h:Hp) (Q:Sl→Hp→Prop):Prop:=
  alW h (ρ.T 11) [(.slice s0_0.a s0_0.len s0_0.cap)] fun p_1 h_2=>
  ldS h_2 (p_1.add 0) fun x_3=>
  shape_Shape_Level ρ x_3 page1 h_2 fun r_4 h_5=>
  br (r_4 !=(0:Int))
  (Q (⟨none,0,0⟩:Sl) h_5)
  (alW h_5 (ρ.T 0) [(.int .i64 page1)] fun p_6 h_7=>
  ldS h_7 (p_1.add 0) fun x_8=>
  shape_Shape_Parent ρ x_8 page1 h_7 fun r_9 r_10 r_11 h_12=>
  shape_Shape_Path_L1 ρ Q p_1 (⟨some p_6,1,1⟩:Sl) r_9 r_11 h_12)
def shape_Shape_Path_S (ρ:Ids):Spec:=fun args h K=>
  (tG fun cells0 rest0=>(tS fun s0_0=>tN ((tI .i64 fun page1=>tN (shape_Shape_Path ρ s0_0 page1 h (fun r0 h=>K (.slice r0.a r0.len r0.cap) h))) rest0)) cells0) args
def maps_Keys_map_int_bool_int_bool (ρ:Ids) (m0:Option Nat) (h:Hp) (Q:Value→Hp→Prop):Prop:=
  alW h (ρ.T 18) [(.map m0)] fun p_1 h_2=>
  Q (.func (.func (ρ.G 93)) #[] #[(.pointer (some p_1))]) h_2
def maps_Keys_map_int_bool_int_bool_S (ρ:Ids):Spec:=fun args h K=>
  (tM fun m0=>tN (maps_Keys_map_int_bool_int_bool ρ m0 h (fun r0 h=>K r0 h))) args
def commit_Need_K3 (ρ:Ids) (S1:Addr→Option Nat→Sl→Int→Int→Hp→Prop) (S2:Addr→Option Nat→Sl→Int→Int→Sl→Int→Int→Hp→Prop) (Q:Sl→Hp→Prop) (s2:Addr) (met5:Option Nat) (v11:Sl) (v12:Int) (v13:Int) (v19:Sl) (v20:Int) (v21:Int) (h:Hp):Prop:=
  S2 s2 met5 v11 v12 v13 v19 v20 (IntKind.wrap .i64 (v21+(1:Int))) h
def commit_Need_B2 (ρ:Ids) (S1:Addr→Option Nat→Sl→Int→Int→Hp→Prop) (S2:Addr→Option Nat→Sl→Int→Int→Sl→Int→Int→Hp→Prop) (Q:Sl→Hp→Prop) (s2:Addr) (met5:Option Nat) (v11:Sl) (v12:Int) (v13:Int) (v19:Sl) (v20:Int) (v21:Int) (h:Hp):Prop:=
  br (decide (v21<v20))
  (ixW v19.a v19.len v21 1 fun p_14=>
  ldI .i64 h p_14 fun x_15=>
  br (decide (v21>(0:Int)))
  (muW (.int .i64) h met5 (.int .i64 x_15) (.bool true) fun h_16=>
  commit_Need_K3 ρ S1 S2 Q s2 met5 v11 v12 v13 v19 v20 v21 h_16)
  (commit_Need_K3 ρ S1 S2 Q s2 met5 v11 v12 v13 v19 v20 v21 h))
  (S1 s2 met5 v11 v12 (IntKind.wrap .i64 (v13+(1:Int))) h)
def commit_Need_L2 (ρ:Ids) (S1:Addr→Option Nat→Sl→Int→Int→Hp→Prop) (Q:Sl→Hp→Prop) (s2:Addr) (met5:Option Nat) (v11:Sl) (v12:Int) (v13:Int) (v19:Sl) (v20:Int) (v21:Int) (h:Hp):Prop:=
  Lfp (fun S vals h=>(tA fun s2=>tM fun met5=>tS fun v11=>tI .i64 fun v12=>tI .i64 fun v13=>tS fun v19=>tI .i64 fun v20=>tI .i64 fun v21=>tN (commit_Need_B2 ρ S1 (fun s2 met5 v11 v12 v13 v19 v20 v21 hh=>S [(.pointer (some s2)),(.map met5),(.slice v11.a v11.len v11.cap),(.int .i64 v12),(.int .i64 v13),(.slice v19.a v19.len v19.cap),(.int .i64 v20),(.int .i64 v21)] hh) Q s2 met5 v11 v12 v13 v19 v20 v21 h)) vals) [(.pointer (some s2)),(.map met5),(.slice v11.a v11.len v11.cap),(.int .i64 v12),(.int .i64 v13),(.slice v19.a v19.len v19.cap),(.int .i64 v20),(.int .i64 v21)] h
theorem commit_Need_L2_in (ρ:Ids) (S1:Addr→Option Nat→Sl→Int→Int→Hp→Prop) (Q:Sl→Hp→Prop) (s2:Addr) (met5:Option Nat) (v11:Sl) (v12:Int) (v13:Int) (v19:Sl) (v20:Int) (v21:Int) (h:Hp) (H:commit_Need_B2 ρ S1 (commit_Need_L2 ρ S1 Q) Q s2 met5 v11 v12 v13 v19 v20 v21 h):commit_Need_L2 ρ S1 Q s2 met5 v11 v12 v13 v19 v20 v21 h:=lfp_in H
def commit_Need_B1 (ρ:Ids) (S1:Addr→Option Nat→Sl→Int→Int→Hp→Prop) (Q:Sl→Hp→Prop) (s2:Addr) (met5:Option Nat) (v11:Sl) (v12:Int) (v13:Int) (h:Hp):Prop:=
  br (decide (v13<v12))
  (ixW v11.a v11.len v13 1 fun p_5=>
  ldI .i64 h p_5 fun x_6=>
  ldS h (s2.add 0) fun x_7=>
  shape_Shape_Path ρ x_7 x_6 h fun r_8 h_9=>
  commit_Need_L2 ρ S1 Q s2 met5 v11 v12 v13 r_8 (r_8.len:Int) (0:Int) h_9)
  (maps_Keys_map_int_bool_int_bool ρ met5 h fun r_10 h_11=>
  slices_Sorted_int [93] ρ r_10 h_11 fun r_12 h_13=>
  Q r_12 h_13)
def commit_Need_L1 (ρ:Ids) (Q:Sl→Hp→Prop) (s2:Addr) (met5:Option Nat) (v11:Sl) (v12:Int) (v13:Int) (h:Hp):Prop:=
  Lfp (fun S vals h=>(tA fun s2=>tM fun met5=>tS fun v11=>tI .i64 fun v12=>tI .i64 fun v13=>tN (commit_Need_B1 ρ (fun s2 met5 v11 v12 v13 hh=>S [(.pointer (some s2)),(.map met5),(.slice v11.a v11.len v11.cap),(.int .i64 v12),(.int .i64 v13)] hh) Q s2 met5 v11 v12 v13 h)) vals) [(.pointer (some s2)),(.map met5),(.slice v11.a v11.len v11.cap),(.int .i64 v12),(.int .i64 v13)] h
theorem commit_Need_L1_in (ρ:Ids) (Q:Sl→Hp→Prop) (s2:Addr) (met5:Option Nat) (v11:Sl) (v12:Int) (v13:Int) (h:Hp) (H:commit_Need_B1 ρ (commit_Need_L1 ρ Q) Q s2 met5 v11 v12 v13 h):commit_Need_L1 ρ Q s2 met5 v11 v12 v13 h:=lfp_in H
def commit_Need (ρ:Ids) (s0_0:Sl) (pages1:Sl) (h:Hp) (Q:Sl→Hp→Prop):Prop:=
  alW h (ρ.T 11) [(.slice s0_0.a s0_0.len s0_0.cap)] fun p_1 h_2=>
  amW h_2 fun m_3 h_4=>
  commit_Need_L1 ρ Q p_1 (some m_3) pages1 (pages1.len:Int) (0:Int) h_4
def commit_Need_S (ρ:Ids):Spec:=fun args h K=>
  (tG fun cells0 rest0=>(tS fun s0_0=>tN ((tS fun pages1=>tN (commit_Need ρ s0_0 pages1 h (fun r0 h=>K (.slice r0.a r0.len r0.cap) h))) rest0)) cells0) args
def slices_IndexFunc_commit_Node_commit_Node_B1 (ρ:Ids) (φ:Value→List Value→Hp→(Value→Hp→Prop)→Prop) (S1:Sl→Value→Int→Int→Hp→Prop) (Q:Int→Hp→Prop) (s0:Sl) (f1:Value) (v7:Int) (v8:Int) (h:Hp):Prop:=
  br (decide (v8<v7))
  (ixW s0.a s0.len v8 2 fun p_1=>
  ldI .i64 h (p_1.add 0) fun x_2=>
  ldS h (p_1.add 1) fun x_3=>
  φ f1 [(.agg [(.int .i64 x_2),(.slice x_3.a x_3.len x_3.cap)].toArray)] h fun v_4 h_5=>
  isB v_4 fun y_6=>
  br y_6
  (Q v8 h_5)
  (S1 s0 f1 v7 (IntKind.wrap .i64 (v8+(1:Int))) h_5))
  (Q (-1:Int) h)
def slices_IndexFunc_commit_Node_commit_Node_L1 (ρ:Ids) (φ:Value→List Value→Hp→(Value→Hp→Prop)→Prop) (Q:Int→Hp→Prop) (s0:Sl) (f1:Value) (v7:Int) (v8:Int) (h:Hp):Prop:=
  Lfp (fun S vals h=>(tS fun s0=>tV fun f1=>tI .i64 fun v7=>tI .i64 fun v8=>tN (slices_IndexFunc_commit_Node_commit_Node_B1 ρ φ (fun s0 f1 v7 v8 hh=>S [(.slice s0.a s0.len s0.cap),f1,(.int .i64 v7),(.int .i64 v8)] hh) Q s0 f1 v7 v8 h)) vals) [(.slice s0.a s0.len s0.cap),f1,(.int .i64 v7),(.int .i64 v8)] h
theorem slices_IndexFunc_commit_Node_commit_Node_L1_in (ρ:Ids) (φ:Value→List Value→Hp→(Value→Hp→Prop)→Prop) (Q:Int→Hp→Prop) (s0:Sl) (f1:Value) (v7:Int) (v8:Int) (h:Hp) (H:slices_IndexFunc_commit_Node_commit_Node_B1 ρ φ (slices_IndexFunc_commit_Node_commit_Node_L1 ρ φ Q) Q s0 f1 v7 v8 h):slices_IndexFunc_commit_Node_commit_Node_L1 ρ φ Q s0 f1 v7 v8 h:=lfp_in H
def slices_IndexFunc_commit_Node_commit_Node (ρ:Ids) (φ:Value→List Value→Hp→(Value→Hp→Prop)→Prop) (s0:Sl) (f1:Value) (h:Hp) (Q:Int→Hp→Prop):Prop:=
  slices_IndexFunc_commit_Node_commit_Node_L1 ρ φ Q s0 f1 (s0.len:Int) (0:Int) h
def slices_IndexFunc_commit_Node_commit_Node_S (ρ:Ids) (φ:Value→List Value→Hp→(Value→Hp→Prop)→Prop):Spec:=fun args h K=>
  (tS fun s0=>tV fun f1=>tN (slices_IndexFunc_commit_Node_commit_Node ρ φ s0 f1 h (fun r0 h=>K (.int .i64 r0) h))) args
def commit_Find_1 (ρ:Ids) (n0_0:Int) (n0_1:Sl) (v1:Addr) (h:Hp) (Q:Bool→Hp→Prop):Prop:=
  alW h (ρ.T 14) [(.int .i64 n0_0),(.slice n0_1.a n0_1.len n0_1.cap)] fun p_1 h_2=>
  ldI .i64 h_2 (p_1.add 0) fun x_3=>
  ldI .i64 h_2 v1 fun x_4=>
  Q (x_3==x_4) h_2
def commit_Find_1_S (ρ:Ids):Spec:=fun args h K=>
  (tG fun cells0 rest0=>(tI .i64 fun n0_0=>tS fun n0_1=>tN ((tA fun v1=>tN (commit_Find_1 ρ n0_0 n0_1 v1 h (fun r0 h=>K (.bool r0) h))) rest0)) cells0) args
def slices_Clone_seal_Ref_seal_Ref (ρ:Ids) (s0:Sl) (h:Hp) (Q:Sl→Hp→Prop):Prop:=
  br (Option.isNone s0.a)
  (Q (⟨none,0,0⟩:Sl) h)
  (alW h (ρ.T 16) [] fun p_1 h_2=>
  apW (ρ.T 16) 34 48 (.agg (([(.int .i64 (0:Int)),(.int .u32 (0:Int))]:List Value)++lumpV .u8 32 (List.replicate 32 0)).toArray) h_2 (⟨some p_1,0,0⟩:Sl) s0 fun s_3 h_4=>
  Q s_3 h_4)
def slices_Clone_seal_Ref_seal_Ref_S (ρ:Ids):Spec:=fun args h K=>
  (tS fun s0=>tN (slices_Clone_seal_Ref_seal_Ref ρ s0 h (fun r0 h=>K (.slice r0.a r0.len r0.cap) h))) args
def commit_Find (ρ:Ids) (nodes0:Sl) (item1:Int) (h:Hp) (Q:Sl→Bool→Hp→Prop):Prop:=
  alW h (ρ.T 0) [(.int .i64 item1)] fun p_1 h_2=>
  slices_IndexFunc_commit_Node_commit_Node ρ (phi [(ρ.G 103,commit_Find_1_S ρ)]) nodes0 (.func (.func (ρ.G 103)) #[] #[(.pointer (some p_1))]) h_2 fun r_3 h_4=>
  br (decide (r_3<(0:Int)))
  (Q (⟨none,0,0⟩:Sl) false h_4)
  (ixW nodes0.a nodes0.len r_3 2 fun p_5=>
  ldS h_4 (p_5.add 1) fun x_6=>
  slices_Clone_seal_Ref_seal_Ref ρ x_6 h_4 fun r_7 h_8=>
  Q r_7 true h_8)
def commit_Find_S (ρ:Ids):Spec:=fun args h K=>
  (tS fun nodes0=>tI .i64 fun item1=>tN (commit_Find ρ nodes0 item1 h (fun r0 r1 h=>K (.tuple [(.slice r0.a r0.len r0.cap),(.bool r1)].toArray) h))) args
def shape_Shape_Pages (ρ:Ids) (s0_0:Sl) (h:Hp) (Q:Int→Hp→Prop):Prop:=
  alW h (ρ.T 11) [(.slice s0_0.a s0_0.len s0_0.cap)] fun p_1 h_2=>
  ldS h_2 (p_1.add 0) fun x_3=>
  br ((x_3.len:Int)==(0:Int))
  (Q (0:Int) h_2)
  (ldS h_2 (p_1.add 0) fun x_4=>
  ixW x_4.a x_4.len (1:Int) 1 fun p_5=>
  ldI .i64 h_2 p_5 fun x_6=>
  Q x_6 h_2)
def shape_Shape_Pages_S (ρ:Ids):Spec:=fun args h K=>
  (tG fun cells0 rest0=>(tS fun s0_0=>tN ((tN (shape_Shape_Pages ρ s0_0 h (fun r0 h=>K (.int .i64 r0) h))) rest0)) cells0) args
def commit_pages_B1 (ρ:Ids) (S1:Sl→Sl→Int→Int→Hp→Prop) (Q:Sl→Hp→Prop) (l3:Sl) (v6:Sl) (v7:Int) (v8:Int) (h:Hp):Prop:=
  br (decide (v8<v7))
  (ixW v6.a v6.len v8 2 fun p_1=>
  ldI .i64 h (p_1.add 0) fun x_2=>
  ldS h (p_1.add 1) fun x_3=>
  alW h (ρ.T 17) [(.int .i64 (0:Int)),(.slice none 0 0)] fun p_4 h_5=>
  stAll h_5 p_4 0 [(.int .i64 x_2),(.slice x_3.a x_3.len x_3.cap)] fun h_6=>
  ldI .i64 h_6 (p_4.add 0) fun x_7=>
  alW h_6 (ρ.T 0) [(.int .i64 x_7)] fun p_8 h_9=>
  apW (ρ.T 0) 1 8 (.int .i64 (0:Int)) h_9 l3 (⟨some p_8,1,1⟩:Sl) fun s_10 h_11=>
  S1 s_10 v6 v7 (IntKind.wrap .i64 (v8+(1:Int))) h_11)
  (Q l3 h)
def commit_pages_L1 (ρ:Ids) (Q:Sl→Hp→Prop) (l3:Sl) (v6:Sl) (v7:Int) (v8:Int) (h:Hp):Prop:=
  Lfp (fun S vals h=>(tS fun l3=>tS fun v6=>tI .i64 fun v7=>tI .i64 fun v8=>tN (commit_pages_B1 ρ (fun l3 v6 v7 v8 hh=>S [(.slice l3.a l3.len l3.cap),(.slice v6.a v6.len v6.cap),(.int .i64 v7),(.int .i64 v8)] hh) Q l3 v6 v7 v8 h)) vals) [(.slice l3.a l3.len l3.cap),(.slice v6.a v6.len v6.cap),(.int .i64 v7),(.int .i64 v8)] h
theorem commit_pages_L1_in (ρ:Ids) (Q:Sl→Hp→Prop) (l3:Sl) (v6:Sl) (v7:Int) (v8:Int) (h:Hp) (H:commit_pages_B1 ρ (commit_pages_L1 ρ Q) Q l3 v6 v7 v8 h):commit_pages_L1 ρ Q l3 v6 v7 v8 h:=lfp_in H
def commit_pages (ρ:Ids) (changes0:Sl) (h:Hp) (Q:Sl→Hp→Prop):Prop:=
  commit_pages_L1 ρ Q (⟨none,0,0⟩:Sl) changes0 (changes0.len:Int) (0:Int) h
def commit_pages_S (ρ:Ids):Spec:=fun args h K=>
  (tS fun changes0=>tN (commit_pages ρ changes0 h (fun r0 h=>K (.slice r0.a r0.len r0.cap) h))) args
def commit_isPlace (ρ:Ids) (r0_0:Int) (r0_1:Int) (r0_2:List Int) (h:Hp) (Q:Bool→Hp→Prop):Prop:=
  alW h (ρ.T 16) (([(.int .i64 r0_0),(.int .u32 r0_1)]:List Value)++lumpV .u8 32 r0_2) fun p_1 h_2=>
  ldI .i64 h_2 (p_1.add 0) fun x_3=>
  br (x_3==(0:Int))
  (Q true h_2)
  (ldI .i64 h_2 (p_1.add 0) fun x_4=>
  Q (x_4==(1:Int)) h_2)
def commit_isPlace_S (ρ:Ids):Spec:=fun args h K=>
  (tG fun cells0 rest0=>(tI .i64 fun r0_0=>tI .u32 fun r0_1=>tL .u8 32 fun r0_2=>tN ((tN (commit_isPlace ρ r0_0 r0_1 r0_2 h (fun r0 h=>K (.bool r0) h))) rest0)) cells0) args
def commit_May_1 (ρ:Ids) (r0_0:Int) (r0_1:Int) (r0_2:List Int) (h:Hp) (Q:Bool→Hp→Prop):Prop:=
  alW h (ρ.T 16) (([(.int .i64 r0_0),(.int .u32 r0_1)]:List Value)++lumpV .u8 32 r0_2) fun p_1 h_2=>
  ldI .i64 h_2 (p_1.add 0) fun x_3=>
  ldI .u32 h_2 (p_1.add 1) fun x_4=>
  ldL .u8 32 h_2 (p_1.add 2) fun x_5=>
  commit_isPlace ρ x_3 x_4 (nrm 32 x_5) h_2 fun r_6 h_7=>
  Q (!r_6) h_7
def commit_May_1_S (ρ:Ids):Spec:=fun args h K=>
  (tG fun cells0 rest0=>(tI .i64 fun r0_0=>tI .u32 fun r0_1=>tL .u8 32 fun r0_2=>tN ((tN (commit_May_1 ρ r0_0 r0_1 r0_2 h (fun r0 h=>K (.bool r0) h))) rest0)) cells0) args
def shape_Shape_Kids_B1 (ρ:Ids) (S1:Addr→Int→Int→Sl→Int→Hp→Prop) (Q:Sl→Hp→Prop) (s2:Addr) (level5:Int) (from6:Int) (l7:Sl) (k8:Int) (h:Hp):Prop:=
  ldS h (s2.add 0) fun x_12=>
  ixW x_12.a x_12.len level5 1 fun p_13=>
  ldI .i64 h p_13 fun x_14=>
  br (decide (k8<(if x_14<(IntKind.wrap .i64 (from6+(6:Int))) then x_14 else (IntKind.wrap .i64 (from6+(6:Int))))))
  (alW h (ρ.T 0) [(.int .i64 k8)] fun p_15 h_16=>
  apW (ρ.T 0) 1 8 (.int .i64 (0:Int)) h_16 l7 (⟨some p_15,1,1⟩:Sl) fun s_17 h_18=>
  S1 s2 level5 from6 s_17 (IntKind.wrap .i64 (k8+(1:Int))) h_18)
  (Q l7 h)
def shape_Shape_Kids_L1 (ρ:Ids) (Q:Sl→Hp→Prop) (s2:Addr) (level5:Int) (from6:Int) (l7:Sl) (k8:Int) (h:Hp):Prop:=
  Lfp (fun S vals h=>(tA fun s2=>tI .i64 fun level5=>tI .i64 fun from6=>tS fun l7=>tI .i64 fun k8=>tN (shape_Shape_Kids_B1 ρ (fun s2 level5 from6 l7 k8 hh=>S [(.pointer (some s2)),(.int .i64 level5),(.int .i64 from6),(.slice l7.a l7.len l7.cap),(.int .i64 k8)] hh) Q s2 level5 from6 l7 k8 h)) vals) [(.pointer (some s2)),(.int .i64 level5),(.int .i64 from6),(.slice l7.a l7.len l7.cap),(.int .i64 k8)] h
theorem shape_Shape_Kids_L1_in (ρ:Ids) (Q:Sl→Hp→Prop) (s2:Addr) (level5:Int) (from6:Int) (l7:Sl) (k8:Int) (h:Hp) (H:shape_Shape_Kids_B1 ρ (shape_Shape_Kids_L1 ρ Q) Q s2 level5 from6 l7 k8 h):shape_Shape_Kids_L1 ρ Q s2 level5 from6 l7 k8 h:=lfp_in H
def shape_Shape_Kids (ρ:Ids) (s0_0:Sl) (item1:Int) (h:Hp) (Q:Sl→Hp→Prop):Prop:=
  alW h (ρ.T 11) [(.slice s0_0.a s0_0.len s0_0.cap)] fun p_1 h_2=>
  ldS h_2 (p_1.add 0) fun x_3=>
  shape_Shape_Level ρ x_3 item1 h_2 fun r_4 h_5=>
  br (decide (r_4<(1:Int)))
  (Q (⟨none,0,0⟩:Sl) h_5)
  (ldS h_5 (p_1.add 0) fun x_6=>
  ixW x_6.a x_6.len (IntKind.wrap .i64 (r_4 - (1:Int))) 1 fun p_7=>
  ldI .i64 h_5 p_7 fun x_8=>
  ldS h_5 (p_1.add 0) fun x_9=>
  ixW x_9.a x_9.len r_4 1 fun p_10=>
  ldI .i64 h_5 p_10 fun x_11=>
  shape_Shape_Kids_L1 ρ Q p_1 r_4 (IntKind.wrap .i64 (x_8+(IntKind.wrap .i64 ((6:Int)*(IntKind.wrap .i64 (item1 - x_11)))))) (⟨none,0,0⟩:Sl) (IntKind.wrap .i64 (x_8+(IntKind.wrap .i64 ((6:Int)*(IntKind.wrap .i64 (item1 - x_11)))))) h_5)
def shape_Shape_Kids_S (ρ:Ids):Spec:=fun args h K=>
  (tG fun cells0 rest0=>(tS fun s0_0=>tN ((tI .i64 fun item1=>tN (shape_Shape_Kids ρ s0_0 item1 h (fun r0 h=>K (.slice r0.a r0.len r0.cap) h))) rest0)) cells0) args
def slices_IndexFunc_seal_Ref_seal_Ref_B1 (ρ:Ids) (φ:Value→List Value→Hp→(Value→Hp→Prop)→Prop) (S1:Sl→Value→Int→Int→Hp→Prop) (Q:Int→Hp→Prop) (s0:Sl) (f1:Value) (v7:Int) (v8:Int) (h:Hp):Prop:=
  br (decide (v8<v7))
  (ixW s0.a s0.len v8 34 fun p_1=>
  ldI .i64 h (p_1.add 0) fun x_2=>
  ldI .u32 h (p_1.add 1) fun x_3=>
  ldL .u8 32 h (p_1.add 2) fun x_4=>
  φ f1 [(.agg (([(.int .i64 x_2),(.int .u32 x_3)]:List Value)++lumpV .u8 32 x_4).toArray)] h fun v_5 h_6=>
  isB v_5 fun y_7=>
  br y_7
  (Q v8 h_6)
  (S1 s0 f1 v7 (IntKind.wrap .i64 (v8+(1:Int))) h_6))
  (Q (-1:Int) h)
def slices_IndexFunc_seal_Ref_seal_Ref_L1 (ρ:Ids) (φ:Value→List Value→Hp→(Value→Hp→Prop)→Prop) (Q:Int→Hp→Prop) (s0:Sl) (f1:Value) (v7:Int) (v8:Int) (h:Hp):Prop:=
  Lfp (fun S vals h=>(tS fun s0=>tV fun f1=>tI .i64 fun v7=>tI .i64 fun v8=>tN (slices_IndexFunc_seal_Ref_seal_Ref_B1 ρ φ (fun s0 f1 v7 v8 hh=>S [(.slice s0.a s0.len s0.cap),f1,(.int .i64 v7),(.int .i64 v8)] hh) Q s0 f1 v7 v8 h)) vals) [(.slice s0.a s0.len s0.cap),f1,(.int .i64 v7),(.int .i64 v8)] h
theorem slices_IndexFunc_seal_Ref_seal_Ref_L1_in (ρ:Ids) (φ:Value→List Value→Hp→(Value→Hp→Prop)→Prop) (Q:Int→Hp→Prop) (s0:Sl) (f1:Value) (v7:Int) (v8:Int) (h:Hp) (H:slices_IndexFunc_seal_Ref_seal_Ref_B1 ρ φ (slices_IndexFunc_seal_Ref_seal_Ref_L1 ρ φ Q) Q s0 f1 v7 v8 h):slices_IndexFunc_seal_Ref_seal_Ref_L1 ρ φ Q s0 f1 v7 v8 h:=lfp_in H
def slices_IndexFunc_seal_Ref_seal_Ref (ρ:Ids) (φ:Value→List Value→Hp→(Value→Hp→Prop)→Prop) (s0:Sl) (f1:Value) (h:Hp) (Q:Int→Hp→Prop):Prop:=
  slices_IndexFunc_seal_Ref_seal_Ref_L1 ρ φ Q s0 f1 (s0.len:Int) (0:Int) h
def slices_IndexFunc_seal_Ref_seal_Ref_S (ρ:Ids) (φ:Value→List Value→Hp→(Value→Hp→Prop)→Prop):Spec:=fun args h K=>
  (tS fun s0=>tV fun f1=>tN (slices_IndexFunc_seal_Ref_seal_Ref ρ φ s0 f1 h (fun r0 h=>K (.int .i64 r0) h))) args
def slices_ContainsFunc_seal_Ref_seal_Ref (ρ:Ids) (φ:Value→List Value→Hp→(Value→Hp→Prop)→Prop) (s0:Sl) (f1:Value) (h:Hp) (Q:Bool→Hp→Prop):Prop:=
  slices_IndexFunc_seal_Ref_seal_Ref ρ φ s0 f1 h fun r_1 h_2=>
  Q (decide (r_1≥(0:Int))) h_2
def slices_ContainsFunc_seal_Ref_seal_Ref_S (ρ:Ids) (φ:Value→List Value→Hp→(Value→Hp→Prop)→Prop):Spec:=fun args h K=>
  (tS fun s0=>tV fun f1=>tN (slices_ContainsFunc_seal_Ref_seal_Ref ρ φ s0 f1 h (fun r0 h=>K (.bool r0) h))) args
def commit_May_K2 (ρ:Ids) (S1:Sl→Sl→Addr→Int→Sl→Int→Int→Hp→Prop) (Q:Bool→Hp→Prop) (nodes1:Sl) (changes2:Sl) (s3:Addr) (c9:Addr) (v15:Sl) (v16:Int) (v17:Int) (v37:Bool) (h:Hp):Prop:=
  br v37
  (Q false h)
  (ldI .i64 h (c9.add 0) fun x_20=>
  S1 nodes1 changes2 s3 x_20 v15 v16 (IntKind.wrap .i64 (v17+(1:Int))) h)
def commit_May_K4 (ρ:Ids) (S3:Sl→Addr→Sl→Int→Int→Hp→Prop) (Q:Bool→Hp→Prop) (nodes1:Sl) (s3:Addr) (v44:Sl) (v45:Int) (v46:Int) (v71:Bool) (h:Hp):Prop:=
  br v71
  (Q false h)
  (S3 nodes1 s3 v44 v45 (IntKind.wrap .i64 (v46+(1:Int))) h)
def commit_May_B3 (ρ:Ids) (S3:Sl→Addr→Sl→Int→Int→Hp→Prop) (Q:Bool→Hp→Prop) (nodes1:Sl) (s3:Addr) (v44:Sl) (v45:Int) (v46:Int) (h:Hp):Prop:=
  br (decide (v46<v45))
  (ixW v44.a v44.len v46 1 fun p_21=>
  ldI .i64 h p_21 fun x_22=>
  commit_Find ρ nodes1 x_22 h fun r_23 r_24 h_25=>
  br (!r_24)
  (commit_May_K4 ρ S3 Q nodes1 s3 v44 v45 v46 true h_25)
  (ldS h_25 (s3.add 0) fun x_26=>
  shape_Shape_Kids ρ x_26 x_22 h_25 fun r_27 h_28=>
  br ((r_23.len:Int) !=(r_27.len:Int))
  (commit_May_K4 ρ S3 Q nodes1 s3 v44 v45 v46 true h_28)
  (slices_ContainsFunc_seal_Ref_seal_Ref ρ (phi [(ρ.G 106,commit_May_1_S ρ)]) r_23 (.func (.func (ρ.G 106)) #[] #[]) h_28 fun r_29 h_30=>
  commit_May_K4 ρ S3 Q nodes1 s3 v44 v45 v46 r_29 h_30)))
  (Q true h)
def commit_May_L3 (ρ:Ids) (Q:Bool→Hp→Prop) (nodes1:Sl) (s3:Addr) (v44:Sl) (v45:Int) (v46:Int) (h:Hp):Prop:=
  Lfp (fun S vals h=>(tS fun nodes1=>tA fun s3=>tS fun v44=>tI .i64 fun v45=>tI .i64 fun v46=>tN (commit_May_B3 ρ (fun nodes1 s3 v44 v45 v46 hh=>S [(.slice nodes1.a nodes1.len nodes1.cap),(.pointer (some s3)),(.slice v44.a v44.len v44.cap),(.int .i64 v45),(.int .i64 v46)] hh) Q nodes1 s3 v44 v45 v46 h)) vals) [(.slice nodes1.a nodes1.len nodes1.cap),(.pointer (some s3)),(.slice v44.a v44.len v44.cap),(.int .i64 v45),(.int .i64 v46)] h
theorem commit_May_L3_in (ρ:Ids) (Q:Bool→Hp→Prop) (nodes1:Sl) (s3:Addr) (v44:Sl) (v45:Int) (v46:Int) (h:Hp) (H:commit_May_B3 ρ (commit_May_L3 ρ Q) Q nodes1 s3 v44 v45 v46 h):commit_May_L3 ρ Q nodes1 s3 v44 v45 v46 h:=lfp_in H
def commit_May_B1 (ρ:Ids) (S1:Sl→Sl→Addr→Int→Sl→Int→Int→Hp→Prop) (Q:Bool→Hp→Prop) (nodes1:Sl) (changes2:Sl) (s3:Addr) (last7:Int) (v15:Sl) (v16:Int) (v17:Int) (h:Hp):Prop:=
  br (decide (v17<v16))
  (ixW v15.a v15.len v17 2 fun p_3=>
  ldI .i64 h (p_3.add 0) fun x_4=>
  ldS h (p_3.add 1) fun x_5=>
  alW h (ρ.T 17) [(.int .i64 (0:Int)),(.slice none 0 0)] fun p_6 h_7=>
  stAll h_7 p_6 0 [(.int .i64 x_4),(.slice x_5.a x_5.len x_5.cap)] fun h_8=>
  ldI .i64 h_8 (p_6.add 0) fun x_9=>
  br (decide (x_9≤last7))
  (commit_May_K2 ρ S1 Q nodes1 changes2 s3 p_6 v15 v16 v17 true h_8)
  (ldI .i64 h_8 (p_6.add 0) fun x_10=>
  ldS h_8 (s3.add 0) fun x_11=>
  shape_Shape_Pages ρ x_11 h_8 fun r_12 h_13=>
  (hcell h_13 (p_6.add 0)=some (.int .i64 x_10))∧
  (br (decide (x_10≥r_12))
  (commit_May_K2 ρ S1 Q nodes1 changes2 s3 p_6 v15 v16 v17 true h_13)
  (ldS h_13 (p_6.add 1) fun x_14=>
  commit_May_K2 ρ S1 Q nodes1 changes2 s3 p_6 v15 v16 v17 ((x_14.len:Int) !=(256:Int)) h_13))))
  (ldS h (s3.add 0) fun x_15=>
  commit_pages ρ changes2 h fun r_16 h_17=>
  (hcell h_17 (s3.add 0)=some (.slice x_15.a x_15.len x_15.cap)∧(True))∧
  (commit_Need ρ x_15 r_16 h_17 fun r_18 h_19=>
  commit_May_L3 ρ Q nodes1 s3 r_18 (r_18.len:Int) (0:Int) h_19))
def commit_May_L1 (ρ:Ids) (Q:Bool→Hp→Prop) (nodes1:Sl) (changes2:Sl) (s3:Addr) (last7:Int) (v15:Sl) (v16:Int) (v17:Int) (h:Hp):Prop:=
  Lfp (fun S vals h=>(tS fun nodes1=>tS fun changes2=>tA fun s3=>tI .i64 fun last7=>tS fun v15=>tI .i64 fun v16=>tI .i64 fun v17=>tN (commit_May_B1 ρ (fun nodes1 changes2 s3 last7 v15 v16 v17 hh=>S [(.slice nodes1.a nodes1.len nodes1.cap),(.slice changes2.a changes2.len changes2.cap),(.pointer (some s3)),(.int .i64 last7),(.slice v15.a v15.len v15.cap),(.int .i64 v16),(.int .i64 v17)] hh) Q nodes1 changes2 s3 last7 v15 v16 v17 h)) vals) [(.slice nodes1.a nodes1.len nodes1.cap),(.slice changes2.a changes2.len changes2.cap),(.pointer (some s3)),(.int .i64 last7),(.slice v15.a v15.len v15.cap),(.int .i64 v16),(.int .i64 v17)] h
theorem commit_May_L1_in (ρ:Ids) (Q:Bool→Hp→Prop) (nodes1:Sl) (changes2:Sl) (s3:Addr) (last7:Int) (v15:Sl) (v16:Int) (v17:Int) (h:Hp) (H:commit_May_B1 ρ (commit_May_L1 ρ Q) Q nodes1 changes2 s3 last7 v15 v16 v17 h):commit_May_L1 ρ Q nodes1 changes2 s3 last7 v15 v16 v17 h:=lfp_in H
def commit_May (ρ:Ids) (s0_0:Sl) (nodes1:Sl) (changes2:Sl) (h:Hp) (Q:Bool→Hp→Prop):Prop:=
  alW h (ρ.T 11) [(.slice s0_0.a s0_0.len s0_0.cap)] fun p_1 h_2=>
  commit_May_L1 ρ Q nodes1 changes2 p_1 (-1:Int) changes2 (changes2.len:Int) (0:Int) h_2
def commit_May_S (ρ:Ids):Spec:=fun args h K=>
  (tG fun cells0 rest0=>(tS fun s0_0=>tN ((tS fun nodes1=>tS fun changes2=>tN (commit_May ρ s0_0 nodes1 changes2 h (fun r0 h=>K (.bool r0) h))) rest0)) cells0) args
def shape_Shape_Block_K1 (ρ:Ids) (Q:Int→Hp→Prop) (item1:Int) (place2:Int) (v18:Bool) (h:Hp):Prop:=
  br v18
  (Q (-1:Int) h)
  (Q (IntKind.wrap .i64 ((IntKind.wrap .i64 ((2:Int)+(IntKind.wrap .i64 ((2:Int)*item1))))+place2)) h)
def shape_Shape_Block (ρ:Ids) (s0_0:Sl) (item1:Int) (place2:Int) (h:Hp) (Q:Int→Hp→Prop):Prop:=
  alW h (ρ.T 11) [(.slice s0_0.a s0_0.len s0_0.cap)] fun p_1 h_2=>
  ldS h_2 (p_1.add 0) fun x_3=>
  shape_Shape_Level ρ x_3 item1 h_2 fun r_4 h_5=>
  br (decide (r_4<(0:Int)))
  (shape_Shape_Block_K1 ρ Q item1 place2 true h_5)
  (br (decide (place2<(0:Int)))
  (shape_Shape_Block_K1 ρ Q item1 place2 true h_5)
  (shape_Shape_Block_K1 ρ Q item1 place2 (decide (place2>(1:Int))) h_5))
def shape_Shape_Block_S (ρ:Ids):Spec:=fun args h K=>
  (tG fun cells0 rest0=>(tS fun s0_0=>tN ((tI .i64 fun item1=>tI .i64 fun place2=>tN (shape_Shape_Block ρ s0_0 item1 place2 h (fun r0 h=>K (.int .i64 r0) h))) rest0)) cells0) args
def cipher_join (ρ:Ids) (b0:Sl) (h:Hp) (Q:Int→Hp→Prop):Prop:=
  ixW b0.a b0.len (0:Int) 1 fun p_1=>
  ldI .u8 h p_1 fun x_2=>
  ixW b0.a b0.len (1:Int) 1 fun p_3=>
  ldI .u8 h p_3 fun x_4=>
  (0≤(8:Int))∧
  ixW b0.a b0.len (2:Int) 1 fun p_5=>
  ldI .u8 h p_5 fun x_6=>
  (0≤(16:Int))∧
  ixW b0.a b0.len (3:Int) 1 fun p_7=>
  ldI .u8 h p_7 fun x_8=>
  (0≤(24:Int))∧
  Q (IntKind.wrap .u32 (((BitVec.ofInt (IntKind.bits .u32) (IntKind.wrap .u32 (((BitVec.ofInt (IntKind.bits .u32) (IntKind.wrap .u32 (((BitVec.ofInt (IntKind.bits .u32) (IntKind.wrap .u32 x_2) ||| (BitVec.ofInt (IntKind.bits .u32) (IntKind.wrap .u32 ((IntKind.wrap .u32 x_4)*2 ^ (min (Int.toNat (8:Int)) (IntKind.bits .u32)))))).toNat:Int))) ||| (BitVec.ofInt (IntKind.bits .u32) (IntKind.wrap .u32 ((IntKind.wrap .u32 x_6)*2 ^ (min (Int.toNat (16:Int)) (IntKind.bits .u32)))))).toNat:Int))) ||| (BitVec.ofInt (IntKind.bits .u32) (IntKind.wrap .u32 ((IntKind.wrap .u32 x_8)*2 ^ (min (Int.toNat (24:Int)) (IntKind.bits .u32)))))).toNat:Int))) h
def cipher_join_S (ρ:Ids):Spec:=fun args h K=>
  (tS fun b0=>tN (cipher_join ρ b0 h (fun r0 h=>K (.int .u32 r0) h))) args
def cipher_start_B2 (ρ:Ids) (S2:Addr→Addr→Addr→Int→Hp→Prop) (Q:List Int→Hp→Prop) (nonce4:Addr) (v6:Addr) (w7:Addr) (v24:Int) (h:Hp):Prop:=
  br (decide (v24<(3:Int)))
  (slW (⟨some nonce4,12,12⟩:Sl) (IntKind.wrap .i64 ((4:Int)*v24)) ((12:Nat):Int) 1 fun s_17=>
  cipher_join ρ s_17 h fun r_18 h_19=>
  ixW (some w7) 16 (IntKind.wrap .i64 ((13:Int)+v24)) 1 fun p_20=>
  st h_19 (p_20.add 0) (.int .u32 r_18) fun h_21=>
  S2 nonce4 v6 w7 (IntKind.wrap .i64 (v24+(1:Int))) h_21)
  (ldL .u32 16 h (w7.add 0) fun x_22=>
  stAll h v6 0 (lumpV .u32 16 x_22) fun h_23=>
  ldL .u32 16 h_23 (v6.add 0) fun x_24=>
  Q (nrm 16 x_24) h_23)
def cipher_start_L2 (ρ:Ids) (Q:List Int→Hp→Prop) (nonce4:Addr) (v6:Addr) (w7:Addr) (v24:Int) (h:Hp):Prop:=
  Lfp (fun S vals h=>(tA fun nonce4=>tA fun v6=>tA fun w7=>tI .i64 fun v24=>tN (cipher_start_B2 ρ (fun nonce4 v6 w7 v24 hh=>S [(.pointer (some nonce4)),(.pointer (some v6)),(.pointer (some w7)),(.int .i64 v24)] hh) Q nonce4 v6 w7 v24 h)) vals) [(.pointer (some nonce4)),(.pointer (some v6)),(.pointer (some w7)),(.int .i64 v24)] h
theorem cipher_start_L2_in (ρ:Ids) (Q:List Int→Hp→Prop) (nonce4:Addr) (v6:Addr) (w7:Addr) (v24:Int) (h:Hp) (H:cipher_start_B2 ρ (cipher_start_L2 ρ Q) Q nonce4 v6 w7 v24 h):cipher_start_L2 ρ Q nonce4 v6 w7 v24 h:=lfp_in H
def cipher_start_B1 (ρ:Ids) (S1:Int→Addr→Addr→Addr→Addr→Int→Hp→Prop) (Q:List Int→Hp→Prop) (counter2:Int) (key3:Addr) (nonce4:Addr) (v6:Addr) (w7:Addr) (v11:Int) (h:Hp):Prop:=
  br (decide (v11<(8:Int)))
  (slW (⟨some key3,32,32⟩:Sl) (IntKind.wrap .i64 ((4:Int)*v11)) ((32:Nat):Int) 1 fun s_10=>
  cipher_join ρ s_10 h fun r_11 h_12=>
  ixW (some w7) 16 (IntKind.wrap .i64 ((4:Int)+v11)) 1 fun p_13=>
  st h_12 (p_13.add 0) (.int .u32 r_11) fun h_14=>
  S1 counter2 key3 nonce4 v6 w7 (IntKind.wrap .i64 (v11+(1:Int))) h_14)
  (ixW (some w7) 16 (12:Int) 1 fun p_15=>
  st h (p_15.add 0) (.int .u32 counter2) fun h_16=>
  cipher_start_L2 ρ Q nonce4 v6 w7 (0:Int) h_16)
def cipher_start_L1 (ρ:Ids) (Q:List Int→Hp→Prop) (counter2:Int) (key3:Addr) (nonce4:Addr) (v6:Addr) (w7:Addr) (v11:Int) (h:Hp):Prop:=
  Lfp (fun S vals h=>(tI .u32 fun counter2=>tA fun key3=>tA fun nonce4=>tA fun v6=>tA fun w7=>tI .i64 fun v11=>tN (cipher_start_B1 ρ (fun counter2 key3 nonce4 v6 w7 v11 hh=>S [(.int .u32 counter2),(.pointer (some key3)),(.pointer (some nonce4)),(.pointer (some v6)),(.pointer (some w7)),(.int .i64 v11)] hh) Q counter2 key3 nonce4 v6 w7 v11 h)) vals) [(.int .u32 counter2),(.pointer (some key3)),(.pointer (some nonce4)),(.pointer (some v6)),(.pointer (some w7)),(.int .i64 v11)] h
theorem cipher_start_L1_in (ρ:Ids) (Q:List Int→Hp→Prop) (counter2:Int) (key3:Addr) (nonce4:Addr) (v6:Addr) (w7:Addr) (v11:Int) (h:Hp) (H:cipher_start_B1 ρ (cipher_start_L1 ρ Q) Q counter2 key3 nonce4 v6 w7 v11 h):cipher_start_L1 ρ Q counter2 key3 nonce4 v6 w7 v11 h:=lfp_in H
def cipher_start (ρ:Ids) (key0_0:List Int) (nonce1_0:List Int) (counter2:Int) (h:Hp) (Q:List Int→Hp→Prop):Prop:=
  alW h (ρ.T 19) (lumpV .u8 32 key0_0) fun p_1 h_2=>
  alW h_2 (ρ.T 22) (lumpV .u8 12 nonce1_0) fun p_3 h_4=>
  alW h_4 (ρ.T 24) (lumpV .u32 16 (List.replicate 16 0)) fun p_5 h_6=>
  alW h_6 (ρ.T 24) (lumpV .u32 16 (List.replicate 16 0)) fun p_7 h_8=>
  stAll h_8 p_7 0 (lumpV .u32 16 [(1634760805:Int),(857760878:Int),(2036477234:Int),(1797285236:Int),(0:Int),(0:Int),(0:Int),(0:Int),(0:Int),(0:Int),(0:Int),(0:Int),(0:Int),(0:Int),(0:Int),(0:Int)]) fun h_9=>
  cipher_start_L1 ρ Q counter2 p_1 p_3 p_5 p_7 (0:Int) h_9
def cipher_start_S (ρ:Ids):Spec:=fun args h K=>
  (tG fun cells0 rest0=>(tL .u8 32 fun key0_0=>tN ((tG fun cells1 rest1=>(tL .u8 12 fun nonce1_0=>tN ((tI .u32 fun counter2=>tN (cipher_start ρ key0_0 nonce1_0 counter2 h (fun r0 h=>K (.agg (lumpV .u32 16 r0).toArray) h))) rest1)) cells1) rest0)) cells0) args
def math_bits_RotateLeft32 (ρ:Ids) (x0:Int) (k1:Int) (h:Hp) (Q:Int→Hp→Prop):Prop:=
  (0≤(IntKind.wrap .u64 (((BitVec.ofInt (IntKind.bits .u64) (IntKind.wrap .u64 k1) &&& (BitVec.ofInt (IntKind.bits .u64) (31:Int))).toNat:Int))))∧
  (0≤(IntKind.wrap .u64 ((32:Int) - (IntKind.wrap .u64 (((BitVec.ofInt (IntKind.bits .u64) (IntKind.wrap .u64 k1) &&& (BitVec.ofInt (IntKind.bits .u64) (31:Int))).toNat:Int))))))∧
  Q (IntKind.wrap .u32 (((BitVec.ofInt (IntKind.bits .u32) (IntKind.wrap .u32 (x0*2 ^ (min (Int.toNat (IntKind.wrap .u64 (((BitVec.ofInt (IntKind.bits .u64) (IntKind.wrap .u64 k1) &&& (BitVec.ofInt (IntKind.bits .u64) (31:Int))).toNat:Int)))) (IntKind.bits .u32)))) ||| (BitVec.ofInt (IntKind.bits .u32) (Int.fdiv x0 (2 ^ (min (Int.toNat (IntKind.wrap .u64 ((32:Int) - (IntKind.wrap .u64 (((BitVec.ofInt (IntKind.bits .u64) (IntKind.wrap .u64 k1) &&& (BitVec.ofInt (IntKind.bits .u64) (31:Int))).toNat:Int)))))) (IntKind.bits .u32)))))).toNat:Int))) h
def math_bits_RotateLeft32_S (ρ:Ids):Spec:=fun args h K=>
  (tI .u32 fun x0=>tI .i64 fun k1=>tN (math_bits_RotateLeft32 ρ x0 k1 h (fun r0 h=>K (.int .u32 r0) h))) args
def cipher_Quarter_1 (ρ:Ids) (x0:Int) (y1:Int) (z2:Int) (by3:Int) (v4:Addr) (h:Hp) (Q:Hp→Prop):Prop:=
  ixW (some v4) 4 x0 1 fun p_1=>
  ldI .u32 h p_1 fun x_2=>
  ixW (some v4) 4 y1 1 fun p_3=>
  ldI .u32 h p_3 fun x_4=>
  ixW (some v4) 4 x0 1 fun p_5=>
  st h (p_5.add 0) (.int .u32 (IntKind.wrap .u32 (x_2+x_4))) fun h_6=>
  ixW (some v4) 4 z2 1 fun p_7=>
  ldI .u32 h_6 p_7 fun x_8=>
  ixW (some v4) 4 x0 1 fun p_9=>
  ldI .u32 h_6 p_9 fun x_10=>
  math_bits_RotateLeft32 ρ (IntKind.wrap .u32 (((BitVec.ofInt (IntKind.bits .u32) x_8 ^^^ (BitVec.ofInt (IntKind.bits .u32) x_10)).toNat:Int))) by3 h_6 fun r_11 h_12=>
  ixW (some v4) 4 z2 1 fun p_13=>
  st h_12 (p_13.add 0) (.int .u32 r_11) fun h_14=>
  Q h_14
def cipher_Quarter_1_S (ρ:Ids):Spec:=fun args h K=>
  (tI .i64 fun x0=>tI .i64 fun y1=>tI .i64 fun z2=>tI .i64 fun by3=>tA fun v4=>tN (cipher_Quarter_1 ρ x0 y1 z2 by3 v4 h (fun h=>K (.tuple [].toArray) h))) args
def cipher_Quarter (ρ:Ids) (w0_0:List Int) (h:Hp) (Q:List Int→Hp→Prop):Prop:=
  alW h (ρ.T 25) (lumpV .u32 4 w0_0) fun p_1 h_2=>
  alW h_2 (ρ.T 25) (lumpV .u32 4 (List.replicate 4 0)) fun p_3 h_4=>
  cipher_Quarter_1 ρ (0:Int) (1:Int) (3:Int) (16:Int) p_1 h_4 fun h_5=>
  isV (.tuple [].toArray) fun y_6=>
  cipher_Quarter_1 ρ (2:Int) (3:Int) (1:Int) (12:Int) p_1 h_5 fun h_7=>
  isV (.tuple [].toArray) fun y_8=>
  cipher_Quarter_1 ρ (0:Int) (1:Int) (3:Int) (8:Int) p_1 h_7 fun h_9=>
  isV (.tuple [].toArray) fun y_10=>
  cipher_Quarter_1 ρ (2:Int) (3:Int) (1:Int) (7:Int) p_1 h_9 fun h_11=>
  isV (.tuple [].toArray) fun y_12=>
  ldL .u32 4 h_11 (p_1.add 0) fun x_13=>
  stAll h_11 p_3 0 (lumpV .u32 4 x_13) fun h_14=>
  ldL .u32 4 h_14 (p_3.add 0) fun x_15=>
  Q (nrm 4 x_15) h_14
def cipher_Quarter_S (ρ:Ids):Spec:=fun args h K=>
  (tG fun cells0 rest0=>(tL .u32 4 fun w0_0=>tN ((tN (cipher_Quarter ρ w0_0 h (fun r0 h=>K (.agg (lumpV .u32 4 r0).toArray) h))) rest0)) cells0) args
def cipher_Block_1_K1 (ρ:Ids) (Q:Hp→Prop) (a0:Int) (b1:Int) (c2:Int) (d3:Int) (v4:Addr) (q9:Addr) (h:Hp):Prop:=
  ixW (some q9) 4 (0:Int) 1 fun p_18=>
  ldI .u32 h p_18 fun x_19=>
  ixW (some q9) 4 (1:Int) 1 fun p_20=>
  ldI .u32 h p_20 fun x_21=>
  ixW (some q9) 4 (2:Int) 1 fun p_22=>
  ldI .u32 h p_22 fun x_23=>
  ixW (some q9) 4 (3:Int) 1 fun p_24=>
  ldI .u32 h p_24 fun x_25=>
  ixW (some v4) 16 a0 1 fun p_26=>
  st h (p_26.add 0) (.int .u32 x_19) fun h_27=>
  (hcell h_27 p_24=some (.int .u32 x_25))∧
  ((hcell h_27 p_22=some (.int .u32 x_23))∧
  ((hcell h_27 p_20=some (.int .u32 x_21))∧
  (ixW (some v4) 16 b1 1 fun p_28=>
  st h_27 (p_28.add 0) (.int .u32 x_21) fun h_29=>
  (hcell h_29 p_24=some (.int .u32 x_25))∧
  ((hcell h_29 p_22=some (.int .u32 x_23))∧
  (ixW (some v4) 16 c2 1 fun p_30=>
  st h_29 (p_30.add 0) (.int .u32 x_23) fun h_31=>
  (hcell h_31 p_24=some (.int .u32 x_25))∧
  (ixW (some v4) 16 d3 1 fun p_32=>
  st h_31 (p_32.add 0) (.int .u32 x_25) fun h_33=>
  Q h_33))))))
def cipher_Block_1_K3 (ρ:Ids) (Q:Hp→Prop) (a0:Int) (b1:Int) (c2:Int) (d3:Int) (v4:Addr) (q9:Addr) (v23_0:List Int) (h:Hp):Prop:=
  stAll h q9 0 (lumpV .u32 4 v23_0) fun h_13=>
  cipher_Block_1_K1 ρ Q a0 b1 c2 d3 v4 q9 h_13
def cipher_Block_1_K2 (ρ:Ids) (Q:Hp→Prop) (a0:Int) (b1:Int) (c2:Int) (d3:Int) (v4:Addr) (v23_0:List Int) (h:Hp):Prop:=
  alW h (ρ.T 25) (lumpV .u32 4 (List.replicate 4 0)) fun p_11 h_12=>
  cipher_Block_1_K3 ρ Q a0 b1 c2 d3 v4 p_11 (nrm 4 v23_0) h_12
def cipher_Block_1 (ρ:Ids) (a0:Int) (b1:Int) (c2:Int) (d3:Int) (v4:Addr) (h:Hp) (Q:Hp→Prop):Prop:=
  ixW (some v4) 16 a0 1 fun p_1=>
  ldI .u32 h p_1 fun x_2=>
  ixW (some v4) 16 b1 1 fun p_3=>
  ldI .u32 h p_3 fun x_4=>
  ixW (some v4) 16 c2 1 fun p_5=>
  ldI .u32 h p_5 fun x_6=>
  ixW (some v4) 16 d3 1 fun p_7=>
  ldI .u32 h p_7 fun x_8=>
  (cipher_Quarter ρ (nrm 4 [x_2,x_4,x_6,x_8]) h fun r_9 h_10=>
  cipher_Block_1_K2 ρ Q a0 b1 c2 d3 v4 (nrm 4 r_9) h_10)∧
  (alW h (ρ.T 25) (lumpV .u32 4 (List.replicate 4 0)) fun p_14 h_15=>
  (hcell h_15 p_7=some (.int .u32 x_8))∧
  ((hcell h_15 p_5=some (.int .u32 x_6))∧
  ((hcell h_15 p_3=some (.int .u32 x_4))∧
  ((hcell h_15 p_1=some (.int .u32 x_2))∧
  (cipher_Quarter ρ (nrm 4 [x_2,x_4,x_6,x_8]) h_15 fun r_16 h_17=>
  cipher_Block_1_K3 ρ Q a0 b1 c2 d3 v4 p_14 (nrm 4 r_16) h_17)))))
def cipher_Block_1_S (ρ:Ids):Spec:=fun args h K=>
  (tI .i64 fun a0=>tI .i64 fun b1=>tI .i64 fun c2=>tI .i64 fun d3=>tA fun v4=>tN (cipher_Block_1 ρ a0 b1 c2 d3 v4 h (fun h=>K (.tuple [].toArray) h))) args
def cipher_Block_B3 (ρ:Ids) (S1:Addr→Addr→Addr→Addr→Int→Hp→Prop) (S3:Addr→Addr→Addr→Addr→Int→Int→Hp→Prop) (Q:List Int→Hp→Prop) (v6:Addr) (first7:Addr) (w8:Addr) (turn9_0:Addr) (v20:Int) (v35:Int) (h:Hp):Prop:=
  br (decide (v35<(4:Int)))
  (((4:Int) ≠ 0)∧
  ((4:Int) ≠ 0)∧
  ((4:Int) ≠ 0)∧
  cipher_Block_1 ρ v35 (IntKind.wrap .i64 ((4:Int)+(Int.tmod (IntKind.wrap .i64 (v35+(1:Int))) (4:Int)))) (IntKind.wrap .i64 ((8:Int)+(Int.tmod (IntKind.wrap .i64 (v35+(2:Int))) (4:Int)))) (IntKind.wrap .i64 ((12:Int)+(Int.tmod (IntKind.wrap .i64 (v35+(3:Int))) (4:Int)))) turn9_0 h fun h_22=>
  isV (.tuple [].toArray) fun y_23=>
  S3 v6 first7 w8 turn9_0 v20 (IntKind.wrap .i64 (v35+(1:Int))) h_22)
  (S1 v6 first7 w8 turn9_0 (IntKind.wrap .i64 (v20+(1:Int))) h)
def cipher_Block_L3 (ρ:Ids) (S1:Addr→Addr→Addr→Addr→Int→Hp→Prop) (Q:List Int→Hp→Prop) (v6:Addr) (first7:Addr) (w8:Addr) (turn9_0:Addr) (v20:Int) (v35:Int) (h:Hp):Prop:=
  Lfp (fun S vals h=>(tA fun v6=>tA fun first7=>tA fun w8=>tF (ρ.G 119) fun cells3 rest3=>(tA fun turn9_0=>tN ((tI .i64 fun v20=>tI .i64 fun v35=>tN (cipher_Block_B3 ρ S1 (fun v6 first7 w8 turn9_0 v20 v35 hh=>S [(.pointer (some v6)),(.pointer (some first7)),(.pointer (some w8)),(.func (.func (ρ.G 119)) #[] #[(.pointer (some turn9_0))]),(.int .i64 v20),(.int .i64 v35)] hh) Q v6 first7 w8 turn9_0 v20 v35 h)) rest3)) cells3) vals) [(.pointer (some v6)),(.pointer (some first7)),(.pointer (some w8)),(.func (.func (ρ.G 119)) #[] #[(.pointer (some turn9_0))]),(.int .i64 v20),(.int .i64 v35)] h
theorem cipher_Block_L3_in (ρ:Ids) (S1:Addr→Addr→Addr→Addr→Int→Hp→Prop) (Q:List Int→Hp→Prop) (v6:Addr) (first7:Addr) (w8:Addr) (turn9_0:Addr) (v20:Int) (v35:Int) (h:Hp) (H:cipher_Block_B3 ρ S1 (cipher_Block_L3 ρ S1 Q) Q v6 first7 w8 turn9_0 v20 v35 h):cipher_Block_L3 ρ S1 Q v6 first7 w8 turn9_0 v20 v35 h:=lfp_in (by
      simp only [tI,tA,tN,tF_self,sameKind,cnd]
      exact H)
def cipher_Block_B2 (ρ:Ids) (S1:Addr→Addr→Addr→Addr→Int→Hp→Prop) (S2:Addr→Addr→Addr→Addr→Int→Int→Hp→Prop) (Q:List Int→Hp→Prop) (v6:Addr) (first7:Addr) (w8:Addr) (turn9_0:Addr) (v20:Int) (v22:Int) (h:Hp):Prop:=
  br (decide (v22<(4:Int)))
  (cipher_Block_1 ρ v22 (IntKind.wrap .i64 ((4:Int)+v22)) (IntKind.wrap .i64 ((8:Int)+v22)) (IntKind.wrap .i64 ((12:Int)+v22)) turn9_0 h fun h_20=>
  isV (.tuple [].toArray) fun y_21=>
  S2 v6 first7 w8 turn9_0 v20 (IntKind.wrap .i64 (v22+(1:Int))) h_20)
  (cipher_Block_L3 ρ S1 Q v6 first7 w8 turn9_0 v20 (0:Int) h)
def cipher_Block_L2 (ρ:Ids) (S1:Addr→Addr→Addr→Addr→Int→Hp→Prop) (Q:List Int→Hp→Prop) (v6:Addr) (first7:Addr) (w8:Addr) (turn9_0:Addr) (v20:Int) (v22:Int) (h:Hp):Prop:=
  Lfp (fun S vals h=>(tA fun v6=>tA fun first7=>tA fun w8=>tF (ρ.G 119) fun cells3 rest3=>(tA fun turn9_0=>tN ((tI .i64 fun v20=>tI .i64 fun v22=>tN (cipher_Block_B2 ρ S1 (fun v6 first7 w8 turn9_0 v20 v22 hh=>S [(.pointer (some v6)),(.pointer (some first7)),(.pointer (some w8)),(.func (.func (ρ.G 119)) #[] #[(.pointer (some turn9_0))]),(.int .i64 v20),(.int .i64 v22)] hh) Q v6 first7 w8 turn9_0 v20 v22 h)) rest3)) cells3) vals) [(.pointer (some v6)),(.pointer (some first7)),(.pointer (some w8)),(.func (.func (ρ.G 119)) #[] #[(.pointer (some turn9_0))]),(.int .i64 v20),(.int .i64 v22)] h
theorem cipher_Block_L2_in (ρ:Ids) (S1:Addr→Addr→Addr→Addr→Int→Hp→Prop) (Q:List Int→Hp→Prop) (v6:Addr) (first7:Addr) (w8:Addr) (turn9_0:Addr) (v20:Int) (v22:Int) (h:Hp) (H:cipher_Block_B2 ρ S1 (cipher_Block_L2 ρ S1 Q) Q v6 first7 w8 turn9_0 v20 v22 h):cipher_Block_L2 ρ S1 Q v6 first7 w8 turn9_0 v20 v22 h:=lfp_in (by
      simp only [tI,tA,tN,tF_self,sameKind,cnd]
      exact H)
def cipher_Block_B4 (ρ:Ids) (S4:Addr→Addr→Addr→Addr→Int→Hp→Prop) (Q:List Int→Hp→Prop) (v6:Addr) (first7:Addr) (w8:Addr) (b12:Addr) (v55:Int) (h:Hp):Prop:=
  br (decide (v55<(64:Int)))
  (((4:Int) ≠ 0)∧
  ixW (some w8) 16 (IntKind.wrap .i64 (Int.tdiv v55 (4:Int))) 1 fun p_24=>
  ldI .u32 h p_24 fun x_25=>
  ((4:Int) ≠ 0)∧
  ixW (some first7) 16 (IntKind.wrap .i64 (Int.tdiv v55 (4:Int))) 1 fun p_26=>
  ldI .u32 h p_26 fun x_27=>
  ((4:Int) ≠ 0)∧
  (0≤(IntKind.wrap .i64 ((8:Int)*(Int.tmod v55 (4:Int)))))∧
  ixW (some b12) 64 v55 1 fun p_28=>
  st h (p_28.add 0) (.int .u8 (IntKind.wrap .u8 (Int.fdiv (IntKind.wrap .u32 (x_25+x_27)) (2 ^ (min (Int.toNat (IntKind.wrap .i64 ((8:Int)*(Int.tmod v55 (4:Int))))) (IntKind.bits .u32)))))) fun h_29=>
  S4 v6 first7 w8 b12 (IntKind.wrap .i64 (v55+(1:Int))) h_29)
  (ldL .u8 64 h (b12.add 0) fun x_30=>
  stAll h v6 0 (lumpV .u8 64 x_30) fun h_31=>
  ldL .u8 64 h_31 (v6.add 0) fun x_32=>
  Q (nrm 64 x_32) h_31)
def cipher_Block_L4 (ρ:Ids) (Q:List Int→Hp→Prop) (v6:Addr) (first7:Addr) (w8:Addr) (b12:Addr) (v55:Int) (h:Hp):Prop:=
  Lfp (fun S vals h=>(tA fun v6=>tA fun first7=>tA fun w8=>tA fun b12=>tI .i64 fun v55=>tN (cipher_Block_B4 ρ (fun v6 first7 w8 b12 v55 hh=>S [(.pointer (some v6)),(.pointer (some first7)),(.pointer (some w8)),(.pointer (some b12)),(.int .i64 v55)] hh) Q v6 first7 w8 b12 v55 h)) vals) [(.pointer (some v6)),(.pointer (some first7)),(.pointer (some w8)),(.pointer (some b12)),(.int .i64 v55)] h
theorem cipher_Block_L4_in (ρ:Ids) (Q:List Int→Hp→Prop) (v6:Addr) (first7:Addr) (w8:Addr) (b12:Addr) (v55:Int) (h:Hp) (H:cipher_Block_B4 ρ (cipher_Block_L4 ρ Q) Q v6 first7 w8 b12 v55 h):cipher_Block_L4 ρ Q v6 first7 w8 b12 v55 h:=lfp_in H
def cipher_Block_B1 (ρ:Ids) (S1:Addr→Addr→Addr→Addr→Int→Hp→Prop) (Q:List Int→Hp→Prop) (v6:Addr) (first7:Addr) (w8:Addr) (turn9_0:Addr) (v20:Int) (h:Hp):Prop:=
  br (decide (v20<(10:Int)))
  (cipher_Block_L2 ρ S1 Q v6 first7 w8 turn9_0 v20 (0:Int) h)
  (alW h (ρ.T 23) (lumpV .u8 64 (List.replicate 64 0)) fun p_18 h_19=>
  cipher_Block_L4 ρ Q v6 first7 w8 p_18 (0:Int) h_19)
def cipher_Block_L1 (ρ:Ids) (Q:List Int→Hp→Prop) (v6:Addr) (first7:Addr) (w8:Addr) (turn9_0:Addr) (v20:Int) (h:Hp):Prop:=
  Lfp (fun S vals h=>(tA fun v6=>tA fun first7=>tA fun w8=>tF (ρ.G 119) fun cells3 rest3=>(tA fun turn9_0=>tN ((tI .i64 fun v20=>tN (cipher_Block_B1 ρ (fun v6 first7 w8 turn9_0 v20 hh=>S [(.pointer (some v6)),(.pointer (some first7)),(.pointer (some w8)),(.func (.func (ρ.G 119)) #[] #[(.pointer (some turn9_0))]),(.int .i64 v20)] hh) Q v6 first7 w8 turn9_0 v20 h)) rest3)) cells3) vals) [(.pointer (some v6)),(.pointer (some first7)),(.pointer (some w8)),(.func (.func (ρ.G 119)) #[] #[(.pointer (some turn9_0))]),(.int .i64 v20)] h
theorem cipher_Block_L1_in (ρ:Ids) (Q:List Int→Hp→Prop) (v6:Addr) (first7:Addr) (w8:Addr) (turn9_0:Addr) (v20:Int) (h:Hp) (H:cipher_Block_B1 ρ (cipher_Block_L1 ρ Q) Q v6 first7 w8 turn9_0 v20 h):cipher_Block_L1 ρ Q v6 first7 w8 turn9_0 v20 h:=lfp_in (by
      simp only [tI,tA,tN,tF_self,sameKind,cnd]
      exact H)
def cipher_Block (ρ:Ids) (key0_0:List Int) (nonce1_0:List Int) (counter2:Int) (h:Hp) (Q:List Int→Hp→Prop):Prop:=
  alW h (ρ.T 19) (lumpV .u8 32 key0_0) fun p_1 h_2=>
  alW h_2 (ρ.T 22) (lumpV .u8 12 nonce1_0) fun p_3 h_4=>
  alW h_4 (ρ.T 23) (lumpV .u8 64 (List.replicate 64 0)) fun p_5 h_6=>
  ldL .u8 32 h_6 (p_1.add 0) fun x_7=>
  ldL .u8 12 h_6 (p_3.add 0) fun x_8=>
  cipher_start ρ (nrm 32 x_7) (nrm 12 x_8) counter2 h_6 fun r_9 h_10=>
  alW h_10 (ρ.T 24) (lumpV .u32 16 (List.replicate 16 0)) fun p_11 h_12=>
  stAll h_12 p_11 0 (lumpV .u32 16 r_9) fun h_13=>
  ldL .u32 16 h_13 (p_11.add 0) fun x_14=>
  alW h_13 (ρ.T 24) (lumpV .u32 16 (List.replicate 16 0)) fun p_15 h_16=>
  stAll h_16 p_15 0 (lumpV .u32 16 x_14) fun h_17=>
  cipher_Block_L1 ρ Q p_5 p_11 p_15 p_15 (0:Int) h_17
def cipher_Block_S (ρ:Ids):Spec:=fun args h K=>
  (tG fun cells0 rest0=>(tL .u8 32 fun key0_0=>tN ((tG fun cells1 rest1=>(tL .u8 12 fun nonce1_0=>tN ((tI .u32 fun counter2=>tN (cipher_Block ρ key0_0 nonce1_0 counter2 h (fun r0 h=>K (.agg (lumpV .u8 64 r0).toArray) h))) rest1)) cells1) rest0)) cells0) args
def cipher_Turn_B2 (ρ:Ids) (S1:Int→Addr→Addr→Sl→Int→Hp→Prop) (S2:Int→Addr→Addr→Sl→Int→Addr→Int→Int→Hp→Prop) (Q:Sl→Hp→Prop) (counter2:Int) (key4:Addr) (nonce5:Addr) (out9:Sl) (at10:Int) (s11:Addr) (v34:Int) (v35:Int) (h:Hp):Prop:=
  br (decide (v35<v34))
  (ixW out9.a out9.len (IntKind.wrap .i64 (at10+v35)) 1 fun p_15=>
  ldI .u8 h p_15 fun x_16=>
  ixW (some s11) 64 v35 1 fun p_17=>
  ldI .u8 h p_17 fun x_18=>
  ixW out9.a out9.len (IntKind.wrap .i64 (at10+v35)) 1 fun p_19=>
  st h (p_19.add 0) (.int .u8 (IntKind.wrap .u8 (((BitVec.ofInt (IntKind.bits .u8) x_16 ^^^ (BitVec.ofInt (IntKind.bits .u8) x_18)).toNat:Int)))) fun h_20=>
  S2 counter2 key4 nonce5 out9 at10 s11 v34 (IntKind.wrap .i64 (v35+(1:Int))) h_20)
  (S1 (IntKind.wrap .u32 (counter2+(1:Int))) key4 nonce5 out9 (IntKind.wrap .i64 (at10+(64:Int))) h)
def cipher_Turn_L2 (ρ:Ids) (S1:Int→Addr→Addr→Sl→Int→Hp→Prop) (Q:Sl→Hp→Prop) (counter2:Int) (key4:Addr) (nonce5:Addr) (out9:Sl) (at10:Int) (s11:Addr) (v34:Int) (v35:Int) (h:Hp):Prop:=
  Lfp (fun S vals h=>(tI .u32 fun counter2=>tA fun key4=>tA fun nonce5=>tS fun out9=>tI .i64 fun at10=>tA fun s11=>tI .i64 fun v34=>tI .i64 fun v35=>tN (cipher_Turn_B2 ρ S1 (fun counter2 key4 nonce5 out9 at10 s11 v34 v35 hh=>S [(.int .u32 counter2),(.pointer (some key4)),(.pointer (some nonce5)),(.slice out9.a out9.len out9.cap),(.int .i64 at10),(.pointer (some s11)),(.int .i64 v34),(.int .i64 v35)] hh) Q counter2 key4 nonce5 out9 at10 s11 v34 v35 h)) vals) [(.int .u32 counter2),(.pointer (some key4)),(.pointer (some nonce5)),(.slice out9.a out9.len out9.cap),(.int .i64 at10),(.pointer (some s11)),(.int .i64 v34),(.int .i64 v35)] h
theorem cipher_Turn_L2_in (ρ:Ids) (S1:Int→Addr→Addr→Sl→Int→Hp→Prop) (Q:Sl→Hp→Prop) (counter2:Int) (key4:Addr) (nonce5:Addr) (out9:Sl) (at10:Int) (s11:Addr) (v34:Int) (v35:Int) (h:Hp) (H:cipher_Turn_B2 ρ S1 (cipher_Turn_L2 ρ S1 Q) Q counter2 key4 nonce5 out9 at10 s11 v34 v35 h):cipher_Turn_L2 ρ S1 Q counter2 key4 nonce5 out9 at10 s11 v34 v35 h:=lfp_in H
def cipher_Turn_B1 (ρ:Ids) (S1:Int→Addr→Addr→Sl→Int→Hp→Prop) (Q:Sl→Hp→Prop) (counter2:Int) (key4:Addr) (nonce5:Addr) (out9:Sl) (at10:Int) (h:Hp):Prop:=
  br (decide (at10<(if (1048576:Int)<(out9.len:Int) then (1048576:Int) else (out9.len:Int))))
  (ldL .u8 32 h (key4.add 0) fun x_7=>
  ldL .u8 12 h (nonce5.add 0) fun x_8=>
  cipher_Block ρ (nrm 32 x_7) (nrm 12 x_8) counter2 h fun r_9 h_10=>
  alW h_10 (ρ.T 23) (lumpV .u8 64 (List.replicate 64 0)) fun p_11 h_12=>
  stAll h_12 p_11 0 (lumpV .u8 64 r_9) fun h_13=>
  slW out9 at10 (if (out9.len:Int)<(IntKind.wrap .i64 (at10+(64:Int))) then (out9.len:Int) else (IntKind.wrap .i64 (at10+(64:Int)))) 1 fun s_14=>
  cipher_Turn_L2 ρ S1 Q counter2 key4 nonce5 out9 at10 p_11 (s_14.len:Int) (0:Int) h_13)
  (Q out9 h)
def cipher_Turn_L1 (ρ:Ids) (Q:Sl→Hp→Prop) (counter2:Int) (key4:Addr) (nonce5:Addr) (out9:Sl) (at10:Int) (h:Hp):Prop:=
  Lfp (fun S vals h=>(tI .u32 fun counter2=>tA fun key4=>tA fun nonce5=>tS fun out9=>tI .i64 fun at10=>tN (cipher_Turn_B1 ρ (fun counter2 key4 nonce5 out9 at10 hh=>S [(.int .u32 counter2),(.pointer (some key4)),(.pointer (some nonce5)),(.slice out9.a out9.len out9.cap),(.int .i64 at10)] hh) Q counter2 key4 nonce5 out9 at10 h)) vals) [(.int .u32 counter2),(.pointer (some key4)),(.pointer (some nonce5)),(.slice out9.a out9.len out9.cap),(.int .i64 at10)] h
theorem cipher_Turn_L1_in (ρ:Ids) (Q:Sl→Hp→Prop) (counter2:Int) (key4:Addr) (nonce5:Addr) (out9:Sl) (at10:Int) (h:Hp) (H:cipher_Turn_B1 ρ (cipher_Turn_L1 ρ Q) Q counter2 key4 nonce5 out9 at10 h):cipher_Turn_L1 ρ Q counter2 key4 nonce5 out9 at10 h:=lfp_in H
def cipher_Turn (ρ:Ids) (key0_0:List Int) (nonce1_0:List Int) (counter2:Int) (b3:Sl) (h:Hp) (Q:Sl→Hp→Prop):Prop:=
  alW h (ρ.T 19) (lumpV .u8 32 key0_0) fun p_1 h_2=>
  alW h_2 (ρ.T 22) (lumpV .u8 12 nonce1_0) fun p_3 h_4=>
  apW (ρ.T 1) 1 1 (.int .u8 (0:Int)) h_4 (⟨none,0,0⟩:Sl) b3 fun s_5 h_6=>
  cipher_Turn_L1 ρ Q counter2 p_1 p_3 s_5 (0:Int) h_6
def cipher_Turn_S (ρ:Ids):Spec:=fun args h K=>
  (tG fun cells0 rest0=>(tL .u8 32 fun key0_0=>tN ((tG fun cells1 rest1=>(tL .u8 12 fun nonce1_0=>tN ((tI .u32 fun counter2=>tS fun b3=>tN (cipher_Turn ρ key0_0 nonce1_0 counter2 b3 h (fun r0 h=>K (.slice r0.a r0.len r0.cap) h))) rest1)) cells1) rest0)) cells0) args
def cipher_Nonce_K2 (ρ:Ids) (S1:Int→Int→Addr→Addr→Int→Hp→Prop) (Q:List Int→Hp→Prop) (epoch0:Int) (block1:Int) (v4:Addr) (n5:Addr) (v7:Int) (h:Hp):Prop:=
  S1 epoch0 block1 v4 n5 (IntKind.wrap .i64 (v7+(1:Int))) h
def cipher_Nonce_B1 (ρ:Ids) (S1:Int→Int→Addr→Addr→Int→Hp→Prop) (Q:List Int→Hp→Prop) (epoch0:Int) (block1:Int) (v4:Addr) (n5:Addr) (v7:Int) (h:Hp):Prop:=
  br (decide (v7<(12:Int)))
  (br (decide (v7<(4:Int)))
  ((0≤(IntKind.wrap .i64 ((8:Int)*v7)))∧
  ixW (some n5) 12 v7 1 fun p_5=>
  st h (p_5.add 0) (.int .u8 (IntKind.wrap .u8 (Int.fdiv epoch0 (2 ^ (min (Int.toNat (IntKind.wrap .i64 ((8:Int)*v7))) (IntKind.bits .u32)))))) fun h_6=>
  cipher_Nonce_K2 ρ S1 Q epoch0 block1 v4 n5 v7 h_6)
  ((0≤(IntKind.wrap .i64 ((8:Int)*(IntKind.wrap .i64 (v7 - (4:Int))))))∧
  ixW (some n5) 12 v7 1 fun p_7=>
  st h (p_7.add 0) (.int .u8 (IntKind.wrap .u8 (Int.fdiv block1 (2 ^ (min (Int.toNat (IntKind.wrap .i64 ((8:Int)*(IntKind.wrap .i64 (v7 - (4:Int)))))) (IntKind.bits .u64)))))) fun h_8=>
  cipher_Nonce_K2 ρ S1 Q epoch0 block1 v4 n5 v7 h_8))
  (ldL .u8 12 h (n5.add 0) fun x_9=>
  stAll h v4 0 (lumpV .u8 12 x_9) fun h_10=>
  ldL .u8 12 h_10 (v4.add 0) fun x_11=>
  Q (nrm 12 x_11) h_10)
def cipher_Nonce_L1 (ρ:Ids) (Q:List Int→Hp→Prop) (epoch0:Int) (block1:Int) (v4:Addr) (n5:Addr) (v7:Int) (h:Hp):Prop:=
  Lfp (fun S vals h=>(tI .u32 fun epoch0=>tI .u64 fun block1=>tA fun v4=>tA fun n5=>tI .i64 fun v7=>tN (cipher_Nonce_B1 ρ (fun epoch0 block1 v4 n5 v7 hh=>S [(.int .u32 epoch0),(.int .u64 block1),(.pointer (some v4)),(.pointer (some n5)),(.int .i64 v7)] hh) Q epoch0 block1 v4 n5 v7 h)) vals) [(.int .u32 epoch0),(.int .u64 block1),(.pointer (some v4)),(.pointer (some n5)),(.int .i64 v7)] h
theorem cipher_Nonce_L1_in (ρ:Ids) (Q:List Int→Hp→Prop) (epoch0:Int) (block1:Int) (v4:Addr) (n5:Addr) (v7:Int) (h:Hp) (H:cipher_Nonce_B1 ρ (cipher_Nonce_L1 ρ Q) Q epoch0 block1 v4 n5 v7 h):cipher_Nonce_L1 ρ Q epoch0 block1 v4 n5 v7 h:=lfp_in H
def cipher_Nonce (ρ:Ids) (epoch0:Int) (block1:Int) (h:Hp) (Q:List Int→Hp→Prop):Prop:=
  alW h (ρ.T 22) (lumpV .u8 12 (List.replicate 12 0)) fun p_1 h_2=>
  alW h_2 (ρ.T 22) (lumpV .u8 12 (List.replicate 12 0)) fun p_3 h_4=>
  cipher_Nonce_L1 ρ Q epoch0 block1 p_1 p_3 (0:Int) h_4
def cipher_Nonce_S (ρ:Ids):Spec:=fun args h K=>
  (tI .u32 fun epoch0=>tI .u64 fun block1=>tN (cipher_Nonce ρ epoch0 block1 h (fun r0 h=>K (.agg (lumpV .u8 12 r0).toArray) h))) args
def seal_Seal_K1 (ρ:Ids) (Q:Sl→Int→Hp→Prop) (epoch1:Int) (block2:Int) (page3:Sl) (key4:Addr) (v16:Bool) (h:Hp):Prop:=
  br v16
  (Q (⟨none,0,0⟩:Sl) (1:Int) h)
  (ldL .u8 32 h (key4.add 0) fun x_3=>
  cipher_Nonce ρ epoch1 (IntKind.wrap .u64 block2) h fun r_4 h_5=>
  (lfact .u8 32 x_3 (key4.add 0) h_5∧(True))∧
  (cipher_Turn ρ (nrm 32 x_3) (nrm 12 r_4) (0:Int) page3 h_5 fun r_6 h_7=>
  Q r_6 (0:Int) h_7))
def seal_Seal (ρ:Ids) (key0_0:List Int) (epoch1:Int) (block2:Int) (page3:Sl) (h:Hp) (Q:Sl→Int→Hp→Prop):Prop:=
  alW h (ρ.T 19) (lumpV .u8 32 key0_0) fun p_1 h_2=>
  br ((page3.len:Int) !=(256:Int))
  (seal_Seal_K1 ρ Q epoch1 block2 page3 p_1 true h_2)
  (seal_Seal_K1 ρ Q epoch1 block2 page3 p_1 (decide (block2<(0:Int))) h_2)
def seal_Seal_S (ρ:Ids):Spec:=fun args h K=>
  (tG fun cells0 rest0=>(tL .u8 32 fun key0_0=>tN ((tI .u32 fun epoch1=>tI .i64 fun block2=>tS fun page3=>tN (seal_Seal ρ key0_0 epoch1 block2 page3 h (fun r0 r1 h=>K (.tuple [(.slice r0.a r0.len r0.cap),(.int .i64 r1)].toArray) h))) rest0)) cells0) args
def seal_isPlace (ρ:Ids) (n0:Int) (h:Hp) (Q:Bool→Hp→Prop):Prop:=
  br (n0==(0:Int))
  (Q true h)
  (Q (n0==(1:Int)) h)
def seal_isPlace_S (ρ:Ids):Spec:=fun args h K=>
  (tI .i64 fun n0=>tN (seal_isPlace ρ n0 h (fun r0 h=>K (.bool r0) h))) args
def bytes_Clone (ρ:Ids) (b0:Sl) (h:Hp) (Q:Sl→Hp→Prop):Prop:=
  br (Option.isNone b0.a)
  (Q (⟨none,0,0⟩:Sl) h)
  (alW h (ρ.T 1) [] fun p_1 h_2=>
  apW (ρ.T 1) 1 1 (.int .u8 (0:Int)) h_2 (⟨some p_1,0,0⟩:Sl) b0 fun s_3 h_4=>
  Q s_3 h_4)
def bytes_Clone_S (ρ:Ids):Spec:=fun args h K=>
  (tS fun b0=>tN (bytes_Clone ρ b0 h (fun r0 h=>K (.slice r0.a r0.len r0.cap) h))) args
def sha_New (ρ:Ids) (h:Hp) (Q:List Int→Sl→Int→Hp→Prop):Prop:=
  alW h (ρ.T 27) (lumpV .u32 8 (List.replicate 8 0)++([(.slice none 0 0),(.int .u64 (0:Int))]:List Value)) fun p_1 h_2=>
  stAll h_2 p_1 0 (lumpV .u32 8 (List.replicate 8 0)++([(.slice none 0 0),(.int .u64 (0:Int))]:List Value)) fun h_3=>
  ldL .u32 8 h_3 (p_1.add 0) fun x_4=>
  ldS h_3 (p_1.add 8) fun x_5=>
  ldI .u64 h_3 (p_1.add 9) fun x_6=>
  Q (nrm 8 x_4) x_5 x_6 h_3
def sha_New_S (ρ:Ids):Spec:=fun args h K=>
  (tN (sha_New ρ h (fun r0 r1 r2 h=>K (.agg (lumpV .u32 8 r0++([(.slice r1.a r1.len r1.cap),(.int .u64 r2)]:List Value)).toArray) h))) args
def sha_first (ρ:Ids) (h:Hp) (Q:List Int→Hp→Prop):Prop:=
  alW h (ρ.T 28) (lumpV .u32 8 (List.replicate 8 0)) fun p_1 h_2=>
  stAll h_2 p_1 0 (lumpV .u32 8 [(1779033703:Int),(3144134277:Int),(1013904242:Int),(2773480762:Int),(1359893119:Int),(2600822924:Int),(528734635:Int),(1541459225:Int)]) fun h_3=>
  ldL .u32 8 h_3 (p_1.add 0) fun x_4=>
  Q (nrm 8 x_4) h_3
def sha_first_S (ρ:Ids):Spec:=fun args h K=>
  (tN (sha_first ρ h (fun r0 h=>K (.agg (lumpV .u32 8 r0).toArray) h))) args
def sha_Turn (ρ:Ids) (x0:Int) (n1:Int) (h:Hp) (Q:Int→Hp→Prop):Prop:=
  ((32:Int) ≠ 0)∧
  math_bits_RotateLeft32 ρ x0 (IntKind.wrap .i64 (0 - (Int.tmod n1 (32:Int)))) h fun r_1 h_2=>
  Q r_1 h_2
def sha_Turn_S (ρ:Ids):Spec:=fun args h K=>
  (tI .u32 fun x0=>tI .i64 fun n1=>tN (sha_Turn ρ x0 n1 h (fun r0 h=>K (.int .u32 r0) h))) args
def sha_join_B1 (ρ:Ids) (S1:Int→Sl→Int→Int→Hp→Prop) (Q:Int→Hp→Prop) (w3:Int) (v6:Sl) (v7:Int) (v8:Int) (h:Hp):Prop:=
  br (decide (v8<v7))
  (ixW v6.a v6.len v8 1 fun p_1=>
  ldI .u8 h p_1 fun x_2=>
  (0≤(8:Int))∧
  S1 (IntKind.wrap .u32 (((BitVec.ofInt (IntKind.bits .u32) (IntKind.wrap .u32 (w3*2 ^ (min (Int.toNat (8:Int)) (IntKind.bits .u32)))) ||| (BitVec.ofInt (IntKind.bits .u32) (IntKind.wrap .u32 x_2))).toNat:Int))) v6 v7 (IntKind.wrap .i64 (v8+(1:Int))) h)
  (Q w3 h)
def sha_join_L1 (ρ:Ids) (Q:Int→Hp→Prop) (w3:Int) (v6:Sl) (v7:Int) (v8:Int) (h:Hp):Prop:=
  Lfp (fun S vals h=>(tI .u32 fun w3=>tS fun v6=>tI .i64 fun v7=>tI .i64 fun v8=>tN (sha_join_B1 ρ (fun w3 v6 v7 v8 hh=>S [(.int .u32 w3),(.slice v6.a v6.len v6.cap),(.int .i64 v7),(.int .i64 v8)] hh) Q w3 v6 v7 v8 h)) vals) [(.int .u32 w3),(.slice v6.a v6.len v6.cap),(.int .i64 v7),(.int .i64 v8)] h
theorem sha_join_L1_in (ρ:Ids) (Q:Int→Hp→Prop) (w3:Int) (v6:Sl) (v7:Int) (v8:Int) (h:Hp) (H:sha_join_B1 ρ (sha_join_L1 ρ Q) Q w3 v6 v7 v8 h):sha_join_L1 ρ Q w3 v6 v7 v8 h:=lfp_in H
def sha_join (ρ:Ids) (b0:Sl) (h:Hp) (Q:Int→Hp→Prop):Prop:=
  sha_join_L1 ρ Q (0:Int) b0 (b0.len:Int) (0:Int) h
def sha_join_S (ρ:Ids):Spec:=fun args h K=>
  (tS fun b0=>tN (sha_join ρ b0 h (fun r0 h=>K (.int .u32 r0) h))) args
def sha_spread_K2 (ρ:Ids) (S1:Sl→Addr→Addr→Int→Hp→Prop) (Q:List Int→Hp→Prop) (b0:Sl) (v2:Addr) (w3:Addr) (v9:Int) (h:Hp):Prop:=
  S1 b0 v2 w3 (IntKind.wrap .i64 (v9+(1:Int))) h
def sha_spread_B1 (ρ:Ids) (S1:Sl→Addr→Addr→Int→Hp→Prop) (Q:List Int→Hp→Prop) (b0:Sl) (v2:Addr) (w3:Addr) (v9:Int) (h:Hp):Prop:=
  br (decide (v9<(64:Int)))
  (br (decide (v9<(16:Int)))
  (slW b0 (IntKind.wrap .i64 ((4:Int)*v9)) (IntKind.wrap .i64 ((IntKind.wrap .i64 ((4:Int)*v9))+(4:Int))) 1 fun s_5=>
  sha_join ρ s_5 h fun r_6 h_7=>
  ixW (some w3) 64 v9 1 fun p_8=>
  st h_7 (p_8.add 0) (.int .u32 r_6) fun h_9=>
  sha_spread_K2 ρ S1 Q b0 v2 w3 v9 h_9)
  (ixW (some w3) 64 (IntKind.wrap .i64 (v9 - (15:Int))) 1 fun p_10=>
  ldI .u32 h p_10 fun x_11=>
  ixW (some w3) 64 (IntKind.wrap .i64 (v9 - (2:Int))) 1 fun p_12=>
  ldI .u32 h p_12 fun x_13=>
  sha_Turn ρ x_11 (7:Int) h fun r_14 h_15=>
  sha_Turn ρ x_11 (18:Int) h_15 fun r_16 h_17=>
  (0≤(3:Int))∧
  sha_Turn ρ x_13 (17:Int) h_17 fun r_18 h_19=>
  sha_Turn ρ x_13 (19:Int) h_19 fun r_20 h_21=>
  (0≤(10:Int))∧
  ixW (some w3) 64 (IntKind.wrap .i64 (v9 - (7:Int))) 1 fun p_22=>
  ldI .u32 h_21 p_22 fun x_23=>
  ixW (some w3) 64 (IntKind.wrap .i64 (v9 - (16:Int))) 1 fun p_24=>
  ldI .u32 h_21 p_24 fun x_25=>
  ixW (some w3) 64 v9 1 fun p_26=>
  st h_21 (p_26.add 0) (.int .u32 (IntKind.wrap .u32 ((IntKind.wrap .u32 ((IntKind.wrap .u32 ((IntKind.wrap .u32 (((BitVec.ofInt (IntKind.bits .u32) (IntKind.wrap .u32 (((BitVec.ofInt (IntKind.bits .u32) r_18 ^^^ (BitVec.ofInt (IntKind.bits .u32) r_20)).toNat:Int))) ^^^ (BitVec.ofInt (IntKind.bits .u32) (Int.fdiv x_13 (2 ^ (min (Int.toNat (10:Int)) (IntKind.bits .u32)))))).toNat:Int)))+x_23))+(IntKind.wrap .u32 (((BitVec.ofInt (IntKind.bits .u32) (IntKind.wrap .u32 (((BitVec.ofInt (IntKind.bits .u32) r_14 ^^^ (BitVec.ofInt (IntKind.bits .u32) r_16)).toNat:Int))) ^^^ (BitVec.ofInt (IntKind.bits .u32) (Int.fdiv x_11 (2 ^ (min (Int.toNat (3:Int)) (IntKind.bits .u32)))))).toNat:Int)))))+x_25))) fun h_27=>
  sha_spread_K2 ρ S1 Q b0 v2 w3 v9 h_27))
  (ldL .u32 64 h (w3.add 0) fun x_28=>
  stAll h v2 0 (lumpV .u32 64 x_28) fun h_29=>
  ldL .u32 64 h_29 (v2.add 0) fun x_30=>
  Q (nrm 64 x_30) h_29)
def sha_spread_L1 (ρ:Ids) (Q:List Int→Hp→Prop) (b0:Sl) (v2:Addr) (w3:Addr) (v9:Int) (h:Hp):Prop:=
  Lfp (fun S vals h=>(tS fun b0=>tA fun v2=>tA fun w3=>tI .i64 fun v9=>tN (sha_spread_B1 ρ (fun b0 v2 w3 v9 hh=>S [(.slice b0.a b0.len b0.cap),(.pointer (some v2)),(.pointer (some w3)),(.int .i64 v9)] hh) Q b0 v2 w3 v9 h)) vals) [(.slice b0.a b0.len b0.cap),(.pointer (some v2)),(.pointer (some w3)),(.int .i64 v9)] h
theorem sha_spread_L1_in (ρ:Ids) (Q:List Int→Hp→Prop) (b0:Sl) (v2:Addr) (w3:Addr) (v9:Int) (h:Hp) (H:sha_spread_B1 ρ (sha_spread_L1 ρ Q) Q b0 v2 w3 v9 h):sha_spread_L1 ρ Q b0 v2 w3 v9 h:=lfp_in H
def sha_spread (ρ:Ids) (b0:Sl) (h:Hp) (Q:List Int→Hp→Prop):Prop:=
  alW h (ρ.T 29) (lumpV .u32 64 (List.replicate 64 0)) fun p_1 h_2=>
  alW h_2 (ρ.T 29) (lumpV .u32 64 (List.replicate 64 0)) fun p_3 h_4=>
  sha_spread_L1 ρ Q b0 p_1 p_3 (0:Int) h_4
def sha_spread_S (ρ:Ids):Spec:=fun args h K=>
  (tS fun b0=>tN (sha_spread ρ b0 h (fun r0 h=>K (.agg (lumpV .u32 64 r0).toArray) h))) args
def sha_constants (ρ:Ids) (h:Hp) (Q:List Int→Hp→Prop):Prop:=
  alW h (ρ.T 29) (lumpV .u32 64 (List.replicate 64 0)) fun p_1 h_2=>
  stAll h_2 p_1 0 (lumpV .u32 64 [(1116352408:Int),(1899447441:Int),(3049323471:Int),(3921009573:Int),(961987163:Int),(1508970993:Int),(2453635748:Int),(2870763221:Int),(3624381080:Int),(310598401:Int),(607225278:Int),(1426881987:Int),(1925078388:Int),(2162078206:Int),(2614888103:Int),(3248222580:Int),(3835390401:Int),(4022224774:Int),(264347078:Int),(604807628:Int),(770255983:Int),(1249150122:Int),(1555081692:Int),(1996064986:Int),(2554220882:Int),(2821834349:Int),(2952996808:Int),(3210313671:Int),(3336571891:Int),(3584528711:Int),(113926993:Int),(338241895:Int),(666307205:Int),(773529912:Int),(1294757372:Int),(1396182291:Int),(1695183700:Int),(1986661051:Int),(2177026350:Int),(2456956037:Int),(2730485921:Int),(2820302411:Int),(3259730800:Int),(3345764771:Int),(3516065817:Int),(3600352804:Int),(4094571909:Int),(275423344:Int),(430227734:Int),(506948616:Int),(659060556:Int),(883997877:Int),(958139571:Int),(1322822218:Int),(1537002063:Int),(1747873779:Int),(1955562222:Int),(2024104815:Int),(2227730452:Int),(2361852424:Int),(2428436474:Int),(2756734187:Int),(3204031479:Int),(3329325298:Int)]) fun h_3=>
  ldL .u32 64 h_3 (p_1.add 0) fun x_4=>
  Q (nrm 64 x_4) h_3
def sha_constants_S (ρ:Ids):Spec:=fun args h K=>
  (tN (sha_constants ρ h (fun r0 h=>K (.agg (lumpV .u32 64 r0).toArray) h))) args
def sha_block_B2 (ρ:Ids) (S2:Addr→Addr→Addr→Int→Hp→Prop) (Q:List Int→Hp→Prop) (h2:Addr) (v4:Addr) (x7:Addr) (v92:Int) (h:Hp):Prop:=
  br (decide (v92<(8:Int)))
  (ixW (some h2) 8 v92 1 fun p_63=>
  ldI .u32 h p_63 fun x_64=>
  ixW (some x7) 8 v92 1 fun p_65=>
  ldI .u32 h p_65 fun x_66=>
  ixW (some h2) 8 v92 1 fun p_67=>
  st h (p_67.add 0) (.int .u32 (IntKind.wrap .u32 (x_64+x_66))) fun h_68=>
  S2 h2 v4 x7 (IntKind.wrap .i64 (v92+(1:Int))) h_68)
  (ldL .u32 8 h (h2.add 0) fun x_69=>
  stAll h v4 0 (lumpV .u32 8 x_69) fun h_70=>
  ldL .u32 8 h_70 (v4.add 0) fun x_71=>
  Q (nrm 8 x_71) h_70)
def sha_block_L2 (ρ:Ids) (Q:List Int→Hp→Prop) (h2:Addr) (v4:Addr) (x7:Addr) (v92:Int) (h:Hp):Prop:=
  Lfp (fun S vals h=>(tA fun h2=>tA fun v4=>tA fun x7=>tI .i64 fun v92=>tN (sha_block_B2 ρ (fun h2 v4 x7 v92 hh=>S [(.pointer (some h2)),(.pointer (some v4)),(.pointer (some x7)),(.int .i64 v92)] hh) Q h2 v4 x7 v92 h)) vals) [(.pointer (some h2)),(.pointer (some v4)),(.pointer (some x7)),(.int .i64 v92)] h
theorem sha_block_L2_in (ρ:Ids) (Q:List Int→Hp→Prop) (h2:Addr) (v4:Addr) (x7:Addr) (v92:Int) (h:Hp) (H:sha_block_B2 ρ (sha_block_L2 ρ Q) Q h2 v4 x7 v92 h):sha_block_L2 ρ Q h2 v4 x7 v92 h:=lfp_in H
def sha_block_B1 (ρ:Ids) (S1:Addr→Addr→Addr→Addr→Addr→Int→Hp→Prop) (Q:List Int→Hp→Prop) (h2:Addr) (v4:Addr) (w5:Addr) (k6:Addr) (x7:Addr) (v18:Int) (h:Hp):Prop:=
  br (decide (v18<(64:Int)))
  (ixW (some x7) 8 (0:Int) 1 fun p_19=>
  ldI .u32 h p_19 fun x_20=>
  ixW (some x7) 8 (4:Int) 1 fun p_21=>
  ldI .u32 h p_21 fun x_22=>
  ixW (some x7) 8 (7:Int) 1 fun p_23=>
  ldI .u32 h p_23 fun x_24=>
  ixW (some x7) 8 (5:Int) 1 fun p_25=>
  ldI .u32 h p_25 fun x_26=>
  ixW (some x7) 8 (6:Int) 1 fun p_27=>
  ldI .u32 h p_27 fun x_28=>
  ixW (some k6) 64 v18 1 fun p_29=>
  ldI .u32 h p_29 fun x_30=>
  ixW (some w5) 64 v18 1 fun p_31=>
  ldI .u32 h p_31 fun x_32=>
  sha_Turn ρ x_22 (6:Int) h fun r_33 h_34=>
  (hcell h_34 p_31=some (.int .u32 x_32))∧
  ((hcell h_34 p_29=some (.int .u32 x_30))∧
  ((hcell h_34 p_27=some (.int .u32 x_28))∧
  ((hcell h_34 p_25=some (.int .u32 x_26))∧
  ((hcell h_34 p_23=some (.int .u32 x_24))∧
  (sha_Turn ρ x_22 (11:Int) h_34 fun r_35 h_36=>
  (hcell h_36 p_31=some (.int .u32 x_32))∧
  ((hcell h_36 p_29=some (.int .u32 x_30))∧
  ((hcell h_36 p_27=some (.int .u32 x_28))∧
  ((hcell h_36 p_25=some (.int .u32 x_26))∧
  ((hcell h_36 p_23=some (.int .u32 x_24))∧
  (sha_Turn ρ x_22 (25:Int) h_36 fun r_37 h_38=>
  (hcell h_38 p_31=some (.int .u32 x_32))∧
  ((hcell h_38 p_29=some (.int .u32 x_30))∧
  ((hcell h_38 p_27=some (.int .u32 x_28))∧
  ((hcell h_38 p_25=some (.int .u32 x_26))∧
  ((hcell h_38 p_23=some (.int .u32 x_24))∧
  (ixW (some x7) 8 (1:Int) 1 fun p_39=>
  ldI .u32 h_38 p_39 fun x_40=>
  ixW (some x7) 8 (2:Int) 1 fun p_41=>
  ldI .u32 h_38 p_41 fun x_42=>
  ixW (some x7) 8 (1:Int) 1 fun p_43=>
  ldI .u32 h_38 p_43 fun x_44=>
  ixW (some x7) 8 (2:Int) 1 fun p_45=>
  ldI .u32 h_38 p_45 fun x_46=>
  sha_Turn ρ x_20 (2:Int) h_38 fun r_47 h_48=>
  (hcell h_48 p_45=some (.int .u32 x_46))∧
  ((hcell h_48 p_43=some (.int .u32 x_44))∧
  ((hcell h_48 p_41=some (.int .u32 x_42))∧
  ((hcell h_48 p_39=some (.int .u32 x_40))∧
  (sha_Turn ρ x_20 (13:Int) h_48 fun r_49 h_50=>
  (hcell h_50 p_45=some (.int .u32 x_46))∧
  ((hcell h_50 p_43=some (.int .u32 x_44))∧
  ((hcell h_50 p_41=some (.int .u32 x_42))∧
  ((hcell h_50 p_39=some (.int .u32 x_40))∧
  (sha_Turn ρ x_20 (22:Int) h_50 fun r_51 h_52=>
  (hcell h_52 p_45=some (.int .u32 x_46))∧
  ((hcell h_52 p_43=some (.int .u32 x_44))∧
  ((hcell h_52 p_41=some (.int .u32 x_42))∧
  ((hcell h_52 p_39=some (.int .u32 x_40))∧
  (slW (⟨some x7,8,8⟩:Sl) (1:Int) ((8:Nat):Int) 1 fun s_53=>
  slW (⟨some x7,8,8⟩:Sl) (0:Int) (7:Int) 1 fun s_54=>
  cpW 1 h_52 s_53 s_54 fun n_55 h_56=>
  ixW (some x7) 8 (0:Int) 1 fun p_57=>
  st h_56 (p_57.add 0) (.int .u32 (IntKind.wrap .u32 ((IntKind.wrap .u32 ((IntKind.wrap .u32 ((IntKind.wrap .u32 ((IntKind.wrap .u32 (x_24+(IntKind.wrap .u32 (((BitVec.ofInt (IntKind.bits .u32) (IntKind.wrap .u32 (((BitVec.ofInt (IntKind.bits .u32) r_33 ^^^ (BitVec.ofInt (IntKind.bits .u32) r_35)).toNat:Int))) ^^^ (BitVec.ofInt (IntKind.bits .u32) r_37)).toNat:Int)))))+(IntKind.wrap .u32 (((BitVec.ofInt (IntKind.bits .u32) (IntKind.wrap .u32 (((BitVec.ofInt (IntKind.bits .u32) x_22 &&& (BitVec.ofInt (IntKind.bits .u32) x_26)).toNat:Int))) ^^^ (BitVec.ofInt (IntKind.bits .u32) (IntKind.wrap .u32 (((BitVec.ofInt (IntKind.bits .u32) (IntKind.wrap .u32 ((BitVec.ofInt (IntKind.bits .u32) (if IntKind.signed .u32 then -1 else IntKind.max .u32) ^^^ BitVec.ofInt (IntKind.bits .u32) x_22).toNat:Int)) &&& (BitVec.ofInt (IntKind.bits .u32) x_28)).toNat:Int))))).toNat:Int)))))+x_30))+x_32))+(IntKind.wrap .u32 ((IntKind.wrap .u32 (((BitVec.ofInt (IntKind.bits .u32) (IntKind.wrap .u32 (((BitVec.ofInt (IntKind.bits .u32) r_47 ^^^ (BitVec.ofInt (IntKind.bits .u32) r_49)).toNat:Int))) ^^^ (BitVec.ofInt (IntKind.bits .u32) r_51)).toNat:Int)))+(IntKind.wrap .u32 (((BitVec.ofInt (IntKind.bits .u32) (IntKind.wrap .u32 (((BitVec.ofInt (IntKind.bits .u32) (IntKind.wrap .u32 (((BitVec.ofInt (IntKind.bits .u32) x_20 &&& (BitVec.ofInt (IntKind.bits .u32) x_40)).toNat:Int))) ^^^ (BitVec.ofInt (IntKind.bits .u32) (IntKind.wrap .u32 (((BitVec.ofInt (IntKind.bits .u32) x_20 &&& (BitVec.ofInt (IntKind.bits .u32) x_42)).toNat:Int))))).toNat:Int))) ^^^ (BitVec.ofInt (IntKind.bits .u32) (IntKind.wrap .u32 (((BitVec.ofInt (IntKind.bits .u32) x_44 &&& (BitVec.ofInt (IntKind.bits .u32) x_46)).toNat:Int))))).toNat:Int)))))))) fun h_58=>
  ixW (some x7) 8 (4:Int) 1 fun p_59=>
  ldI .u32 h_58 p_59 fun x_60=>
  ixW (some x7) 8 (4:Int) 1 fun p_61=>
  st h_58 (p_61.add 0) (.int .u32 (IntKind.wrap .u32 (x_60+(IntKind.wrap .u32 ((IntKind.wrap .u32 ((IntKind.wrap .u32 ((IntKind.wrap .u32 (x_24+(IntKind.wrap .u32 (((BitVec.ofInt (IntKind.bits .u32) (IntKind.wrap .u32 (((BitVec.ofInt (IntKind.bits .u32) r_33 ^^^ (BitVec.ofInt (IntKind.bits .u32) r_35)).toNat:Int))) ^^^ (BitVec.ofInt (IntKind.bits .u32) r_37)).toNat:Int)))))+(IntKind.wrap .u32 (((BitVec.ofInt (IntKind.bits .u32) (IntKind.wrap .u32 (((BitVec.ofInt (IntKind.bits .u32) x_22 &&& (BitVec.ofInt (IntKind.bits .u32) x_26)).toNat:Int))) ^^^ (BitVec.ofInt (IntKind.bits .u32) (IntKind.wrap .u32 (((BitVec.ofInt (IntKind.bits .u32) (IntKind.wrap .u32 ((BitVec.ofInt (IntKind.bits .u32) (if IntKind.signed .u32 then -1 else IntKind.max .u32) ^^^ BitVec.ofInt (IntKind.bits .u32) x_22).toNat:Int)) &&& (BitVec.ofInt (IntKind.bits .u32) x_28)).toNat:Int))))).toNat:Int)))))+x_30))+x_32))))) fun h_62=>
  S1 h2 v4 w5 k6 x7 (IntKind.wrap .i64 (v18+(1:Int))) h_62))))))))))))))))))))))))))))
  (sha_block_L2 ρ Q h2 v4 x7 (0:Int) h)
def sha_block_L1 (ρ:Ids) (Q:List Int→Hp→Prop) (h2:Addr) (v4:Addr) (w5:Addr) (k6:Addr) (x7:Addr) (v18:Int) (h:Hp):Prop:=
  Lfp (fun S vals h=>(tA fun h2=>tA fun v4=>tA fun w5=>tA fun k6=>tA fun x7=>tI .i64 fun v18=>tN (sha_block_B1 ρ (fun h2 v4 w5 k6 x7 v18 hh=>S [(.pointer (some h2)),(.pointer (some v4)),(.pointer (some w5)),(.pointer (some k6)),(.pointer (some x7)),(.int .i64 v18)] hh) Q h2 v4 w5 k6 x7 v18 h)) vals) [(.pointer (some h2)),(.pointer (some v4)),(.pointer (some w5)),(.pointer (some k6)),(.pointer (some x7)),(.int .i64 v18)] h
theorem sha_block_L1_in (ρ:Ids) (Q:List Int→Hp→Prop) (h2:Addr) (v4:Addr) (w5:Addr) (k6:Addr) (x7:Addr) (v18:Int) (h:Hp) (H:sha_block_B1 ρ (sha_block_L1 ρ Q) Q h2 v4 w5 k6 x7 v18 h):sha_block_L1 ρ Q h2 v4 w5 k6 x7 v18 h:=lfp_in H
def sha_block (ρ:Ids) (h0_0:List Int) (b1:Sl) (h:Hp) (Q:List Int→Hp→Prop):Prop:=
  alW h (ρ.T 28) (lumpV .u32 8 h0_0) fun p_1 h_2=>
  alW h_2 (ρ.T 28) (lumpV .u32 8 (List.replicate 8 0)) fun p_3 h_4=>
  sha_spread ρ b1 h_4 fun r_5 h_6=>
  sha_constants ρ h_6 fun r_7 h_8=>
  alW h_8 (ρ.T 29) (lumpV .u32 64 (List.replicate 64 0)) fun p_9 h_10=>
  alW h_10 (ρ.T 29) (lumpV .u32 64 (List.replicate 64 0)) fun p_11 h_12=>
  stAll h_12 p_9 0 (lumpV .u32 64 r_5) fun h_13=>
  stAll h_13 p_11 0 (lumpV .u32 64 r_7) fun h_14=>
  ldL .u32 8 h_14 (p_1.add 0) fun x_15=>
  alW h_14 (ρ.T 28) (lumpV .u32 8 (List.replicate 8 0)) fun p_16 h_17=>
  stAll h_17 p_16 0 (lumpV .u32 8 x_15) fun h_18=>
  sha_block_L1 ρ Q p_1 p_3 p_9 p_11 p_16 (0:Int) h_18
def sha_block_S (ρ:Ids):Spec:=fun args h K=>
  (tG fun cells0 rest0=>(tL .u32 8 fun h0_0=>tN ((tS fun b1=>tN (sha_block ρ h0_0 b1 h (fun r0 h=>K (.agg (lumpV .u32 8 r0).toArray) h))) rest0)) cells0) args
def sha_State_Write_B2 (ρ:Ids) (S2:Addr→Addr→Sl→Hp→Prop) (Q:List Int→Sl→Int→Hp→Prop) (s2:Addr) (v4:Addr) (all5:Sl) (h:Hp):Prop:=
  br (decide ((all5.len:Int)≥(64:Int)))
  (ldL .u32 8 h ((s2.add 0).add 0) fun x_11=>
  slW all5 (0:Int) (64:Int) 1 fun s_12=>
  sha_block ρ (nrm 8 x_11) s_12 h fun r_13 h_14=>
  stAll h_14 (s2.add 0) 0 (lumpV .u32 8 r_13) fun h_15=>
  slW all5 (64:Int) (all5.len:Int) 1 fun s_16=>
  S2 s2 v4 s_16 h_15)
  (st h ((s2.add 8).add 0) (.slice all5.a all5.len all5.cap) fun h_17=>
  ldL .u32 8 h_17 (s2.add 0) fun x_18=>
  ldS h_17 (s2.add 8) fun x_19=>
  ldI .u64 h_17 (s2.add 9) fun x_20=>
  stAll h_17 v4 0 (lumpV .u32 8 x_18++([(.slice x_19.a x_19.len x_19.cap),(.int .u64 x_20)]:List Value)) fun h_21=>
  ldL .u32 8 h_21 (v4.add 0) fun x_22=>
  ldS h_21 (v4.add 8) fun x_23=>
  ldI .u64 h_21 (v4.add 9) fun x_24=>
  Q (nrm 8 x_22) x_23 x_24 h_21)
def sha_State_Write_L2 (ρ:Ids) (Q:List Int→Sl→Int→Hp→Prop) (s2:Addr) (v4:Addr) (all5:Sl) (h:Hp):Prop:=
  Lfp (fun S vals h=>(tA fun s2=>tA fun v4=>tS fun all5=>tN (sha_State_Write_B2 ρ (fun s2 v4 all5 hh=>S [(.pointer (some s2)),(.pointer (some v4)),(.slice all5.a all5.len all5.cap)] hh) Q s2 v4 all5 h)) vals) [(.pointer (some s2)),(.pointer (some v4)),(.slice all5.a all5.len all5.cap)] h
theorem sha_State_Write_L2_in (ρ:Ids) (Q:List Int→Sl→Int→Hp→Prop) (s2:Addr) (v4:Addr) (all5:Sl) (h:Hp) (H:sha_State_Write_B2 ρ (sha_State_Write_L2 ρ Q) Q s2 v4 all5 h):sha_State_Write_L2 ρ Q s2 v4 all5 h:=lfp_in H
def sha_State_Write_K3 (ρ:Ids) (Q:List Int→Sl→Int→Hp→Prop) (b1:Sl) (s2:Addr) (v4:Addr) (h:Hp):Prop:=
  ldI .u64 h (s2.add 9) fun x_25=>
  st h ((s2.add 9).add 0) (.int .u64 (IntKind.wrap .u64 (x_25+(IntKind.wrap .u64 (b1.len:Int))))) fun h_26=>
  ldS h_26 (s2.add 8) fun x_27=>
  apW (ρ.T 1) 1 1 (.int .u8 (0:Int)) h_26 (⟨none,0,0⟩:Sl) x_27 fun s_28 h_29=>
  apW (ρ.T 1) 1 1 (.int .u8 (0:Int)) h_29 s_28 b1 fun s_30 h_31=>
  sha_State_Write_L2 ρ Q s2 v4 s_30 h_31
def sha_State_Write_K1 (ρ:Ids) (Q:List Int→Sl→Int→Hp→Prop) (b1:Sl) (s2:Addr) (v4:Addr) (v17:Bool) (h:Hp):Prop:=
  br v17
  (sha_first ρ h fun r_8 h_9=>
  stAll h_9 (s2.add 0) 0 (lumpV .u32 8 r_8) fun h_10=>
  sha_State_Write_K3 ρ Q b1 s2 v4 h_10)
  (sha_State_Write_K3 ρ Q b1 s2 v4 h)
def sha_State_Write (ρ:Ids) (s0_0:List Int) (s0_1:Sl) (s0_2:Int) (b1:Sl) (h:Hp) (Q:List Int→Sl→Int→Hp→Prop):Prop:=
  alW h (ρ.T 27) (lumpV .u32 8 s0_0++([(.slice s0_1.a s0_1.len s0_1.cap),(.int .u64 s0_2)]:List Value)) fun p_1 h_2=>
  alW h_2 (ρ.T 27) (lumpV .u32 8 (List.replicate 8 0)++([(.slice none 0 0),(.int .u64 (0:Int))]:List Value)) fun p_3 h_4=>
  ldI .u64 h_4 (p_1.add 9) fun x_5=>
  br (decide (x_5<(64:Int)))
  (ldS h_4 (p_1.add 8) fun x_6=>
  ldI .u64 h_4 (p_1.add 9) fun x_7=>
  sha_State_Write_K1 ρ Q b1 p_1 p_3 ((x_6.len:Int)==(IntKind.wrap .i64 x_7)) h_4)
  (sha_State_Write_K1 ρ Q b1 p_1 p_3 false h_4)
def sha_State_Write_S (ρ:Ids):Spec:=fun args h K=>
  (tG fun cells0 rest0=>(tL .u32 8 fun s0_0=>tS fun s0_1=>tI .u64 fun s0_2=>tN ((tS fun b1=>tN (sha_State_Write ρ s0_0 s0_1 s0_2 b1 h (fun r0 r1 r2 h=>K (.agg (lumpV .u32 8 r0++([(.slice r1.a r1.len r1.cap),(.int .u64 r2)]:List Value)).toArray) h))) rest0)) cells0) args
def sha_State_Sum_B3 (ρ:Ids) (S3:Addr→Addr→Addr→Int→Hp→Prop) (Q:List Int→Hp→Prop) (v2:Addr) (last5:Addr) (d6:Addr) (v39:Int) (h:Hp):Prop:=
  br (decide (v39<(32:Int)))
  (((4:Int) ≠ 0)∧
  ixW (some (last5.add 0)) 8 (IntKind.wrap .i64 (Int.tdiv v39 (4:Int))) 1 fun p_29=>
  ldI .u32 h p_29 fun x_30=>
  ((4:Int) ≠ 0)∧
  (0≤(IntKind.wrap .i64 ((24:Int) - (IntKind.wrap .i64 ((8:Int)*(Int.tmod v39 (4:Int)))))))∧
  ixW (some d6) 32 v39 1 fun p_31=>
  st h (p_31.add 0) (.int .u8 (IntKind.wrap .u8 (Int.fdiv x_30 (2 ^ (min (Int.toNat (IntKind.wrap .i64 ((24:Int) - (IntKind.wrap .i64 ((8:Int)*(Int.tmod v39 (4:Int))))))) (IntKind.bits .u32)))))) fun h_32=>
  S3 v2 last5 d6 (IntKind.wrap .i64 (v39+(1:Int))) h_32)
  (ldL .u8 32 h (d6.add 0) fun x_33=>
  stAll h v2 0 (lumpV .u8 32 x_33) fun h_34=>
  ldL .u8 32 h_34 (v2.add 0) fun x_35=>
  Q (nrm 32 x_35) h_34)
def sha_State_Sum_L3 (ρ:Ids) (Q:List Int→Hp→Prop) (v2:Addr) (last5:Addr) (d6:Addr) (v39:Int) (h:Hp):Prop:=
  Lfp (fun S vals h=>(tA fun v2=>tA fun last5=>tA fun d6=>tI .i64 fun v39=>tN (sha_State_Sum_B3 ρ (fun v2 last5 d6 v39 hh=>S [(.pointer (some v2)),(.pointer (some last5)),(.pointer (some d6)),(.int .i64 v39)] hh) Q v2 last5 d6 v39 h)) vals) [(.pointer (some v2)),(.pointer (some last5)),(.pointer (some d6)),(.int .i64 v39)] h
theorem sha_State_Sum_L3_in (ρ:Ids) (Q:List Int→Hp→Prop) (v2:Addr) (last5:Addr) (d6:Addr) (v39:Int) (h:Hp) (H:sha_State_Sum_B3 ρ (sha_State_Sum_L3 ρ Q) Q v2 last5 d6 v39 h):sha_State_Sum_L3 ρ Q v2 last5 d6 v39 h:=lfp_in H
def sha_State_Sum_B2 (ρ:Ids) (S2:Addr→Addr→Sl→Int→Hp→Prop) (Q:List Int→Hp→Prop) (s1:Addr) (v2:Addr) (pad3:Sl) (v21:Int) (h:Hp):Prop:=
  br (decide (v21<(8:Int)))
  (ldI .u64 h (s1.add 9) fun x_12=>
  (0≤(IntKind.wrap .i64 ((8:Int)*(IntKind.wrap .i64 ((7:Int) - v21)))))∧
  alW h (ρ.T 1) [(.int .u8 (IntKind.wrap .u8 (Int.fdiv (IntKind.wrap .u64 ((8:Int)*x_12)) (2 ^ (min (Int.toNat (IntKind.wrap .i64 ((8:Int)*(IntKind.wrap .i64 ((7:Int) - v21))))) (IntKind.bits .u64))))))] fun p_13 h_14=>
  apW (ρ.T 1) 1 1 (.int .u8 (0:Int)) h_14 pad3 (⟨some p_13,1,1⟩:Sl) fun s_15 h_16=>
  S2 s1 v2 s_15 (IntKind.wrap .i64 (v21+(1:Int))) h_16)
  (ldL .u32 8 h (s1.add 0) fun x_17=>
  ldS h (s1.add 8) fun x_18=>
  ldI .u64 h (s1.add 9) fun x_19=>
  sha_State_Write ρ (nrm 8 x_17) x_18 x_19 pad3 h fun r_20 r_21 r_22 h_23=>
  alW h_23 (ρ.T 27) (lumpV .u32 8 (List.replicate 8 0)++([(.slice none 0 0),(.int .u64 (0:Int))]:List Value)) fun p_24 h_25=>
  stAll h_25 p_24 0 (lumpV .u32 8 r_20++([(.slice r_21.a r_21.len r_21.cap),(.int .u64 r_22)]:List Value)) fun h_26=>
  alW h_26 (ρ.T 19) (lumpV .u8 32 (List.replicate 32 0)) fun p_27 h_28=>
  sha_State_Sum_L3 ρ Q v2 p_24 p_27 (0:Int) h_28)
def sha_State_Sum_L2 (ρ:Ids) (Q:List Int→Hp→Prop) (s1:Addr) (v2:Addr) (pad3:Sl) (v21:Int) (h:Hp):Prop:=
  Lfp (fun S vals h=>(tA fun s1=>tA fun v2=>tS fun pad3=>tI .i64 fun v21=>tN (sha_State_Sum_B2 ρ (fun s1 v2 pad3 v21 hh=>S [(.pointer (some s1)),(.pointer (some v2)),(.slice pad3.a pad3.len pad3.cap),(.int .i64 v21)] hh) Q s1 v2 pad3 v21 h)) vals) [(.pointer (some s1)),(.pointer (some v2)),(.slice pad3.a pad3.len pad3.cap),(.int .i64 v21)] h
theorem sha_State_Sum_L2_in (ρ:Ids) (Q:List Int→Hp→Prop) (s1:Addr) (v2:Addr) (pad3:Sl) (v21:Int) (h:Hp) (H:sha_State_Sum_B2 ρ (sha_State_Sum_L2 ρ Q) Q s1 v2 pad3 v21 h):sha_State_Sum_L2 ρ Q s1 v2 pad3 v21 h:=lfp_in H
def sha_State_Sum_B1 (ρ:Ids) (S1:Addr→Addr→Sl→Hp→Prop) (Q:List Int→Hp→Prop) (s1:Addr) (v2:Addr) (pad3:Sl) (h:Hp):Prop:=
  ldS h (s1.add 8) fun x_7=>
  ((64:Int) ≠ 0)∧
  br ((Int.tmod (IntKind.wrap .i64 ((IntKind.wrap .i64 ((x_7.len:Int)+(pad3.len:Int)))+(8:Int))) (64:Int)) !=(0:Int))
  (alW h (ρ.T 1) [(.int .u8 (0:Int))] fun p_8 h_9=>
  apW (ρ.T 1) 1 1 (.int .u8 (0:Int)) h_9 pad3 (⟨some p_8,1,1⟩:Sl) fun s_10 h_11=>
  S1 s1 v2 s_10 h_11)
  (sha_State_Sum_L2 ρ Q s1 v2 pad3 (0:Int) h)
def sha_State_Sum_L1 (ρ:Ids) (Q:List Int→Hp→Prop) (s1:Addr) (v2:Addr) (pad3:Sl) (h:Hp):Prop:=
  Lfp (fun S vals h=>(tA fun s1=>tA fun v2=>tS fun pad3=>tN (sha_State_Sum_B1 ρ (fun s1 v2 pad3 hh=>S [(.pointer (some s1)),(.pointer (some v2)),(.slice pad3.a pad3.len pad3.cap)] hh) Q s1 v2 pad3 h)) vals) [(.pointer (some s1)),(.pointer (some v2)),(.slice pad3.a pad3.len pad3.cap)] h
theorem sha_State_Sum_L1_in (ρ:Ids) (Q:List Int→Hp→Prop) (s1:Addr) (v2:Addr) (pad3:Sl) (h:Hp) (H:sha_State_Sum_B1 ρ (sha_State_Sum_L1 ρ Q) Q s1 v2 pad3 h):sha_State_Sum_L1 ρ Q s1 v2 pad3 h:=lfp_in H
def sha_State_Sum (ρ:Ids) (s0_0:List Int) (s0_1:Sl) (s0_2:Int) (h:Hp) (Q:List Int→Hp→Prop):Prop:=
  alW h (ρ.T 27) (lumpV .u32 8 s0_0++([(.slice s0_1.a s0_1.len s0_1.cap),(.int .u64 s0_2)]:List Value)) fun p_1 h_2=>
  alW h_2 (ρ.T 19) (lumpV .u8 32 (List.replicate 32 0)) fun p_3 h_4=>
  alW h_4 (ρ.T 1) [(.int .u8 (128:Int))] fun p_5 h_6=>
  sha_State_Sum_L1 ρ Q p_1 p_3 (⟨some p_5,1,1⟩:Sl) h_6
def sha_State_Sum_S (ρ:Ids):Spec:=fun args h K=>
  (tG fun cells0 rest0=>(tL .u32 8 fun s0_0=>tS fun s0_1=>tI .u64 fun s0_2=>tN ((tN (sha_State_Sum ρ s0_0 s0_1 s0_2 h (fun r0 h=>K (.agg (lumpV .u8 32 r0).toArray) h))) rest0)) cells0) args
def sha_Sum_B1 (ρ:Ids) (S1:Addr→Addr→Sl→Int→Int→Hp→Prop) (Q:List Int→Hp→Prop) (v2:Addr) (s3:Addr) (v7:Sl) (v8:Int) (v9:Int) (h:Hp):Prop:=
  br (decide (v9<v8))
  (ixW v7.a v7.len v9 1 fun p_10=>
  ldS h p_10 fun x_11=>
  ldL .u32 8 h (s3.add 0) fun x_12=>
  ldS h (s3.add 8) fun x_13=>
  ldI .u64 h (s3.add 9) fun x_14=>
  sha_State_Write ρ (nrm 8 x_12) x_13 x_14 x_11 h fun r_15 r_16 r_17 h_18=>
  stAll h_18 s3 0 (lumpV .u32 8 r_15++([(.slice r_16.a r_16.len r_16.cap),(.int .u64 r_17)]:List Value)) fun h_19=>
  S1 v2 s3 v7 v8 (IntKind.wrap .i64 (v9+(1:Int))) h_19)
  (ldL .u32 8 h (s3.add 0) fun x_20=>
  ldS h (s3.add 8) fun x_21=>
  ldI .u64 h (s3.add 9) fun x_22=>
  sha_State_Sum ρ (nrm 8 x_20) x_21 x_22 h fun r_23 h_24=>
  stAll h_24 v2 0 (lumpV .u8 32 r_23) fun h_25=>
  ldL .u8 32 h_25 (v2.add 0) fun x_26=>
  Q (nrm 32 x_26) h_25)
def sha_Sum_L1 (ρ:Ids) (Q:List Int→Hp→Prop) (v2:Addr) (s3:Addr) (v7:Sl) (v8:Int) (v9:Int) (h:Hp):Prop:=
  Lfp (fun S vals h=>(tA fun v2=>tA fun s3=>tS fun v7=>tI .i64 fun v8=>tI .i64 fun v9=>tN (sha_Sum_B1 ρ (fun v2 s3 v7 v8 v9 hh=>S [(.pointer (some v2)),(.pointer (some s3)),(.slice v7.a v7.len v7.cap),(.int .i64 v8),(.int .i64 v9)] hh) Q v2 s3 v7 v8 v9 h)) vals) [(.pointer (some v2)),(.pointer (some s3)),(.slice v7.a v7.len v7.cap),(.int .i64 v8),(.int .i64 v9)] h
theorem sha_Sum_L1_in (ρ:Ids) (Q:List Int→Hp→Prop) (v2:Addr) (s3:Addr) (v7:Sl) (v8:Int) (v9:Int) (h:Hp) (H:sha_Sum_B1 ρ (sha_Sum_L1 ρ Q) Q v2 s3 v7 v8 v9 h):sha_Sum_L1 ρ Q v2 s3 v7 v8 v9 h:=lfp_in H
def sha_Sum (ρ:Ids) (parts0:Sl) (h:Hp) (Q:List Int→Hp→Prop):Prop:=
  alW h (ρ.T 19) (lumpV .u8 32 (List.replicate 32 0)) fun p_1 h_2=>
  sha_New ρ h_2 fun r_3 r_4 r_5 h_6=>
  alW h_6 (ρ.T 27) (lumpV .u32 8 (List.replicate 8 0)++([(.slice none 0 0),(.int .u64 (0:Int))]:List Value)) fun p_7 h_8=>
  stAll h_8 p_7 0 (lumpV .u32 8 r_3++([(.slice r_4.a r_4.len r_4.cap),(.int .u64 r_5)]:List Value)) fun h_9=>
  sha_Sum_L1 ρ Q p_1 p_7 parts0 (parts0.len:Int) (0:Int) h_9
def sha_Sum_S (ρ:Ids):Spec:=fun args h K=>
  (tS fun parts0=>tN (sha_Sum ρ parts0 h (fun r0 h=>K (.agg (lumpV .u8 32 r0).toArray) h))) args
def seal_Book_Digest_K2 (ρ:Ids) (Q:List Int→Hp→Prop) (text1:Sl) (v4:Addr) (h:Hp):Prop:=
  alW h (ρ.T 26) [(.slice text1.a text1.len text1.cap)] fun p_15 h_16=>
  sha_Sum ρ (⟨some p_15,1,1⟩:Sl) h_16 fun r_17 h_18=>
  stAll h_18 v4 0 (lumpV .u8 32 r_17) fun h_19=>
  ldL .u8 32 h_19 (v4.add 0) fun x_20=>
  Q (nrm 32 x_20) h_19
def seal_Book_Digest_K1 (ρ:Ids) (Q:List Int→Hp→Prop) (b0:Option Addr) (text1:Sl) (v4:Addr) (v14:Bool) (h:Hp):Prop:=
  br v14
  (nilW b0 fun p_5=>
  ldS h (p_5.add 0) fun x_6=>
  bytes_Clone ρ text1 h fun r_7 h_8=>
  (hcell h_8 (p_5.add 0)=some (.slice x_6.a x_6.len x_6.cap))∧
  (alW h_8 (ρ.T 26) [(.slice r_7.a r_7.len r_7.cap)] fun p_9 h_10=>
  (hcell h_10 (p_5.add 0)=some (.slice x_6.a x_6.len x_6.cap))∧
  (apW (ρ.T 26) 1 24 (.slice none 0 0) h_10 x_6 (⟨some p_9,1,1⟩:Sl) fun s_11 h_12=>
  nilW b0 fun p_13=>
  st h_12 ((p_13.add 0).add 0) (.slice s_11.a s_11.len s_11.cap) fun h_14=>
  seal_Book_Digest_K2 ρ Q text1 v4 h_14)))
  (seal_Book_Digest_K2 ρ Q text1 v4 h)
def seal_Book_Digest (ρ:Ids) (b0:Option Addr) (text1:Sl) (h:Hp) (Q:List Int→Hp→Prop):Prop:=
  alW h (ρ.T 19) (lumpV .u8 32 (List.replicate 32 0)) fun p_1 h_2=>
  br (!(Option.isNone b0))
  (nilW b0 fun p_3=>
  ldS h_2 (p_3.add 0) fun x_4=>
  seal_Book_Digest_K1 ρ Q b0 text1 p_1 (decide ((x_4.len:Int)<(100000:Int))) h_2)
  (seal_Book_Digest_K1 ρ Q b0 text1 p_1 false h_2)
def seal_Book_Digest_S (ρ:Ids):Spec:=fun args h K=>
  (tP fun b0=>tS fun text1=>tN (seal_Book_Digest ρ b0 text1 h (fun r0 h=>K (.agg (lumpV .u8 32 r0).toArray) h))) args
def seal_Hide_K1 (ρ:Ids) (Q:Sl→Int→Int→List Int→Int→Hp→Prop) (b0:Option Addr) (epoch2:Int) (place3:Int) (v13:Addr) (x15:Sl) (v31:Bool) (h:Hp):Prop:=
  br v31
  (stAll h v13 0 (([(.int .i64 (0:Int)),(.int .u32 (0:Int))]:List Value)++lumpV .u8 32 (List.replicate 32 0)) fun h_11=>
  ldI .i64 h_11 (v13.add 0) fun x_12=>
  ldI .u32 h_11 (v13.add 1) fun x_13=>
  ldL .u8 32 h_11 (v13.add 2) fun x_14=>
  Q (⟨none,0,0⟩:Sl) x_12 x_13 (nrm 32 x_14) (1:Int) h_11)
  (seal_Book_Digest ρ b0 x15 h fun r_15 h_16=>
  stAll h_16 v13 0 (([(.int .i64 place3),(.int .u32 epoch2)]:List Value)++lumpV .u8 32 r_15) fun h_17=>
  ldI .i64 h_17 (v13.add 0) fun x_18=>
  ldI .u32 h_17 (v13.add 1) fun x_19=>
  ldL .u8 32 h_17 (v13.add 2) fun x_20=>
  Q x15 x_18 x_19 (nrm 32 x_20) (0:Int) h_17)
def seal_Hide (ρ:Ids) (b0:Option Addr) (key1_0:List Int) (epoch2:Int) (place3:Int) (block4:Int) (page5:Sl) (h:Hp) (Q:Sl→Int→Int→List Int→Int→Hp→Prop):Prop:=
  alW h (ρ.T 19) (lumpV .u8 32 key1_0) fun p_1 h_2=>
  alW h_2 (ρ.T 16) (([(.int .i64 (0:Int)),(.int .u32 (0:Int))]:List Value)++lumpV .u8 32 (List.replicate 32 0)) fun p_3 h_4=>
  ldL .u8 32 h_4 (p_1.add 0) fun x_5=>
  seal_Seal ρ (nrm 32 x_5) epoch2 block4 page5 h_4 fun r_6 r_7 h_8=>
  br (r_7 !=(0:Int))
  (seal_Hide_K1 ρ Q b0 epoch2 place3 p_3 r_6 true h_8)
  (seal_isPlace ρ place3 h_8 fun r_9 h_10=>
  seal_Hide_K1 ρ Q b0 epoch2 place3 p_3 r_6 (!r_9) h_10)
def seal_Hide_S (ρ:Ids):Spec:=fun args h K=>
  (tP fun b0=>tG fun cells1 rest1=>(tL .u8 32 fun key1_0=>tN ((tI .u32 fun epoch2=>tI .i64 fun place3=>tI .i64 fun block4=>tS fun page5=>tN (seal_Hide ρ b0 key1_0 epoch2 place3 block4 page5 h (fun r0 r1 r2 r3 r4 h=>K (.tuple [(.slice r0.a r0.len r0.cap),(.agg (([(.int .i64 r1),(.int .u32 r2)]:List Value)++lumpV .u8 32 r3).toArray),(.int .i64 r4)].toArray) h))) rest1)) cells1) args
def commit_planner_hide_K1 (ρ:Ids) (Q:Hp→Prop) (p0:Option Addr) (was6:Addr) (n10:Int) (x11:Sl) (r12:Addr) (h:Hp):Prop:=
  nilW p0 fun p_15=>
  ldS h (p_15.add 70) fun x_16=>
  alW h (ρ.T 21) [(.int .i64 n10),(.slice x11.a x11.len x11.cap)] fun p_17 h_18=>
  apW (ρ.T 21) 2 32 (.agg [(.int .i64 (0:Int)),(.slice none 0 0)].toArray) h_18 x_16 (⟨some p_17,1,1⟩:Sl) fun s_19 h_20=>
  nilW p0 fun p_21=>
  st h_20 ((p_21.add 70).add 0) (.slice s_19.a s_19.len s_19.cap) fun h_22=>
  ldI .i64 h_22 (r12.add 0) fun x_23=>
  ldI .u32 h_22 (r12.add 1) fun x_24=>
  ldL .u8 32 h_22 (r12.add 2) fun x_25=>
  stAll h_22 was6 0 (([(.int .i64 x_23),(.int .u32 x_24)]:List Value)++lumpV .u8 32 x_25) fun h_26=>
  Q h_26
def commit_planner_hide_K4 (ρ:Ids) (Q:Hp→Prop) (p0:Option Addr) (was6:Addr) (n10:Int) (x11:Sl) (r12:Addr) (v70:Int) (h:Hp):Prop:=
  commit_planner_hide_K1 ρ Q p0 was6 n10 x11 r12 h
def commit_planner_hide_K3 (ρ:Ids) (Q:Hp→Prop) (p0:Option Addr) (was6:Addr) (n10:Int) (r12:Addr) (v68:Sl) (v69_0:Int) (v69_1:Int) (v69_2:List Int) (v70:Int) (h:Hp):Prop:=
  stAll h r12 0 (([(.int .i64 v69_0),(.int .u32 v69_1)]:List Value)++lumpV .u8 32 v69_2) fun h_47=>
  commit_planner_hide_K4 ρ Q p0 was6 n10 v68 r12 v70 h_47
def commit_planner_hide_K2 (ρ:Ids) (Q:Hp→Prop) (p0:Option Addr) (item1:Int) (page2:Sl) (was6:Addr) (h:Hp):Prop:=
  nilW p0 fun p_27=>
  ldS h ((p_27.add 34).add 0) fun x_28=>
  ldI .i64 h (was6.add 0) fun x_29=>
  shape_Shape_Block ρ x_28 item1 (IntKind.wrap .i64 ((1:Int) - x_29)) h fun r_30 h_31=>
  nilW p0 fun p_32=>
  ldP h_31 (p_32.add 0) fun x_33=>
  nilW p0 fun p_34=>
  ldL .u8 32 h_31 ((p_34.add 1).add 0) fun x_35=>
  nilW p0 fun p_36=>
  ldI .u32 h_31 (p_36.add 33) fun x_37=>
  ldI .i64 h_31 (was6.add 0) fun x_38=>
  (seal_Hide ρ x_33 (nrm 32 x_35) x_37 (IntKind.wrap .i64 ((1:Int) - x_38)) r_30 page2 h_31 fun r_39 r_40 r_41 r_42 r_43 h_44=>
  alW h_44 (ρ.T 16) (([(.int .i64 (0:Int)),(.int .u32 (0:Int))]:List Value)++lumpV .u8 32 (List.replicate 32 0)) fun p_45 h_46=>
  commit_planner_hide_K3 ρ Q p0 was6 r_30 p_45 r_39 r_40 r_41 (nrm 32 r_42) r_43 h_46)∧
  (alW h_31 (ρ.T 16) (([(.int .i64 (0:Int)),(.int .u32 (0:Int))]:List Value)++lumpV .u8 32 (List.replicate 32 0)) fun p_48 h_49=>
  (hcell h_49 (was6.add 0)=some (.int .i64 x_38))∧
  ((hcell h_49 (p_36.add 33)=some (.int .u32 x_37))∧
  ((lfact .u8 32 x_35 ((p_34.add 1).add 0) h_49∧(True))∧
  ((hcell h_49 (p_32.add 0)=some (.pointer x_33))∧
  (seal_Hide ρ x_33 (nrm 32 x_35) x_37 (IntKind.wrap .i64 ((1:Int) - x_38)) r_30 page2 h_49 fun r_50 r_51 r_52 r_53 r_54 h_55=>
  stAll h_55 p_48 0 (([(.int .i64 r_51),(.int .u32 r_52)]:List Value)++lumpV .u8 32 r_53) fun h_56=>
  commit_planner_hide_K4 ρ Q p0 was6 r_30 r_50 p_48 r_54 h_56)))))
def commit_planner_hide (ρ:Ids) (p0:Option Addr) (item1:Int) (page2:Sl) (h:Hp) (Q:Hp→Prop):Prop:=
  nilW p0 fun p_1=>
  nilW p0 fun p_2=>
  ldS h ((p_2.add 34).add 0) fun x_3=>
  shape_Shape_Parent ρ x_3 item1 h fun r_4 r_5 r_6 h_7=>
  br r_6
  (nilW p0 fun p_8=>
  ldM h_7 (p_8.add 69) fun x_9=>
  lkW (.int .i64) h_7 x_9 (.int .i64 r_4) fun f_10 o_11=>
  isS (o_11.getD (.slice none 0 0)) fun y_13=>
  letB o_11.isSome fun ok_12=>
  ixW y_13.a y_13.len r_5 34 fun p_14=>
  commit_planner_hide_K2 ρ Q p0 item1 page2 p_14 h_7)
  (commit_planner_hide_K2 ρ Q p0 item1 page2 (p_1.add 35) h_7)
def commit_planner_hide_S (ρ:Ids):Spec:=fun args h K=>
  (tP fun p0=>tI .i64 fun item1=>tS fun page2=>tN (commit_planner_hide ρ p0 item1 page2 h (fun h=>K (.tuple [].toArray) h))) args
def pack_sized (ρ:Ids) (size0:Int) (h:Hp) (Q:Int→Hp→Prop):Prop:=
  Q (if (8:Int)<(if (1:Int)>size0 then (1:Int) else size0) then (8:Int) else (if (1:Int)>size0 then (1:Int) else size0)) h
def pack_sized_S (ρ:Ids):Spec:=fun args h K=>
  (tI .i64 fun size0=>tN (pack_sized ρ size0 h (fun r0 h=>K (.int .i64 r0) h))) args
def pack_Num_K7 (ρ:Ids) (Q:Sl→Hp→Prop) (n1:Int) (out7:Sl) (h:Hp):Prop:=
  alW h (ρ.T 1) [(.int .u8 (IntKind.wrap .u8 n1))] fun p_33 h_34=>
  apW (ρ.T 1) 1 1 (.int .u8 (0:Int)) h_34 out7 (⟨some p_33,1,1⟩:Sl) fun s_35 h_36=>
  Q s_35 h_36
def pack_Num_K6 (ρ:Ids) (Q:Sl→Hp→Prop) (n1:Int) (out7:Sl) (h:Hp):Prop:=
  alW h (ρ.T 1) [(.int .u8 (IntKind.wrap .u8 n1))] fun p_29 h_30=>
  apW (ρ.T 1) 1 1 (.int .u8 (0:Int)) h_30 out7 (⟨some p_29,1,1⟩:Sl) fun s_31 h_32=>
  (0≤(8:Int))∧
  pack_Num_K7 ρ Q (Int.fdiv n1 (2 ^ (min (Int.toNat (8:Int)) (IntKind.bits .u64)))) s_31 h_32
def pack_Num_K5 (ρ:Ids) (Q:Sl→Hp→Prop) (n1:Int) (out7:Sl) (h:Hp):Prop:=
  alW h (ρ.T 1) [(.int .u8 (IntKind.wrap .u8 n1))] fun p_25 h_26=>
  apW (ρ.T 1) 1 1 (.int .u8 (0:Int)) h_26 out7 (⟨some p_25,1,1⟩:Sl) fun s_27 h_28=>
  (0≤(8:Int))∧
  pack_Num_K6 ρ Q (Int.fdiv n1 (2 ^ (min (Int.toNat (8:Int)) (IntKind.bits .u64)))) s_27 h_28
def pack_Num_K4 (ρ:Ids) (Q:Sl→Hp→Prop) (n1:Int) (out7:Sl) (h:Hp):Prop:=
  alW h (ρ.T 1) [(.int .u8 (IntKind.wrap .u8 n1))] fun p_21 h_22=>
  apW (ρ.T 1) 1 1 (.int .u8 (0:Int)) h_22 out7 (⟨some p_21,1,1⟩:Sl) fun s_23 h_24=>
  (0≤(8:Int))∧
  pack_Num_K5 ρ Q (Int.fdiv n1 (2 ^ (min (Int.toNat (8:Int)) (IntKind.bits .u64)))) s_23 h_24
def pack_Num_K3 (ρ:Ids) (Q:Sl→Hp→Prop) (n1:Int) (out7:Sl) (h:Hp):Prop:=
  alW h (ρ.T 1) [(.int .u8 (IntKind.wrap .u8 n1))] fun p_17 h_18=>
  apW (ρ.T 1) 1 1 (.int .u8 (0:Int)) h_18 out7 (⟨some p_17,1,1⟩:Sl) fun s_19 h_20=>
  (0≤(8:Int))∧
  pack_Num_K4 ρ Q (Int.fdiv n1 (2 ^ (min (Int.toNat (8:Int)) (IntKind.bits .u64)))) s_19 h_20
def pack_Num_K2 (ρ:Ids) (Q:Sl→Hp→Prop) (n1:Int) (out7:Sl) (h:Hp):Prop:=
  alW h (ρ.T 1) [(.int .u8 (IntKind.wrap .u8 n1))] fun p_13 h_14=>
  apW (ρ.T 1) 1 1 (.int .u8 (0:Int)) h_14 out7 (⟨some p_13,1,1⟩:Sl) fun s_15 h_16=>
  (0≤(8:Int))∧
  pack_Num_K3 ρ Q (Int.fdiv n1 (2 ^ (min (Int.toNat (8:Int)) (IntKind.bits .u64)))) s_15 h_16
def pack_Num_K1 (ρ:Ids) (Q:Sl→Hp→Prop) (n1:Int) (out7:Sl) (h:Hp):Prop:=
  alW h (ρ.T 1) [(.int .u8 (IntKind.wrap .u8 n1))] fun p_9 h_10=>
  apW (ρ.T 1) 1 1 (.int .u8 (0:Int)) h_10 out7 (⟨some p_9,1,1⟩:Sl) fun s_11 h_12=>
  (0≤(8:Int))∧
  pack_Num_K2 ρ Q (Int.fdiv n1 (2 ^ (min (Int.toNat (8:Int)) (IntKind.bits .u64)))) s_11 h_12
def pack_Num (ρ:Ids) (b0:Sl) (n1:Int) (size2:Int) (h:Hp) (Q:Sl→Hp→Prop):Prop:=
  bytes_Clone ρ b0 h fun r_1 h_2=>
  pack_sized ρ size2 h_2 fun r_3 h_4=>
  br (r_3==(8:Int))
  (alW h_4 (ρ.T 1) [(.int .u8 (IntKind.wrap .u8 n1))] fun p_5 h_6=>
  apW (ρ.T 1) 1 1 (.int .u8 (0:Int)) h_6 r_1 (⟨some p_5,1,1⟩:Sl) fun s_7 h_8=>
  (0≤(8:Int))∧
  pack_Num_K1 ρ Q (Int.fdiv n1 (2 ^ (min (Int.toNat (8:Int)) (IntKind.bits .u64)))) s_7 h_8)
  (br (r_3==(7:Int))
  (pack_Num_K1 ρ Q n1 r_1 h_4)
  (br (r_3==(6:Int))
  (pack_Num_K2 ρ Q n1 r_1 h_4)
  (br (r_3==(5:Int))
  (pack_Num_K3 ρ Q n1 r_1 h_4)
  (br (r_3==(4:Int))
  (pack_Num_K4 ρ Q n1 r_1 h_4)
  (br (r_3==(3:Int))
  (pack_Num_K5 ρ Q n1 r_1 h_4)
  (br (r_3==(2:Int))
  (pack_Num_K6 ρ Q n1 r_1 h_4)
  (pack_Num_K7 ρ Q n1 r_1 h_4)))))))
def pack_Num_S (ρ:Ids):Spec:=fun args h K=>
  (tS fun b0=>tI .u64 fun n1=>tI .i64 fun size2=>tN (pack_Num ρ b0 n1 size2 h (fun r0 h=>K (.slice r0.a r0.len r0.cap) h))) args
def seal_Lay (ρ:Ids) (r0_0:Int) (r0_1:Int) (r0_2:List Int) (h:Hp) (Q:Sl→Hp→Prop):Prop:=
  alW h (ρ.T 16) (([(.int .i64 r0_0),(.int .u32 r0_1)]:List Value)++lumpV .u8 32 r0_2) fun p_1 h_2=>
  ldI .i64 h_2 (p_1.add 0) fun x_3=>
  ldI .u32 h_2 (p_1.add 1) fun x_4=>
  slW (⟨some (p_1.add 2),32,32⟩:Sl) (0:Int) ((32:Nat):Int) 1 fun s_5=>
  pack_Num ρ (⟨none,0,0⟩:Sl) (IntKind.wrap .u64 x_3) (1:Int) h_2 fun r_6 h_7=>
  (True)∧
  ((hcell h_7 (p_1.add 1)=some (.int .u32 x_4))∧
  (pack_Num ρ r_6 (IntKind.wrap .u64 x_4) (4:Int) h_7 fun r_8 h_9=>
  apW (ρ.T 1) 1 1 (.int .u8 (0:Int)) h_9 r_8 s_5 fun s_10 h_11=>
  Q s_10 h_11))
def seal_Lay_S (ρ:Ids):Spec:=fun args h K=>
  (tG fun cells0 rest0=>(tI .i64 fun r0_0=>tI .u32 fun r0_1=>tL .u8 32 fun r0_2=>tN ((tN (seal_Lay ρ r0_0 r0_1 r0_2 h (fun r0 h=>K (.slice r0.a r0.len r0.cap) h))) rest0)) cells0) args
def pack_Fill (ρ:Ids) (b0:Sl) (size1:Int) (h:Hp) (Q:Sl→Int→Hp→Prop):Prop:=
  br (decide ((b0.len:Int)>size1))
  (Q (⟨none,0,0⟩:Sl) (1:Int) h)
  (bytes_Clone ρ b0 h fun r_1 h_2=>
  apZ (ρ.T 1) 1 1 (.int .u8 (0:Int)) h_2 r_1 (IntKind.wrap .i64 (size1 - (b0.len:Int))) fun s_3 h_4=>
  Q s_3 (0:Int) h_4)
def pack_Fill_S (ρ:Ids):Spec:=fun args h K=>
  (tS fun b0=>tI .i64 fun size1=>tN (pack_Fill ρ b0 size1 h (fun r0 r1 h=>K (.tuple [(.slice r0.a r0.len r0.cap),(.int .i64 r1)].toArray) h))) args
def node_Lay_K3 (ρ:Ids) (S2:Sl→Sl→Int→Int→Hp→Prop) (Q:Sl→Int→Hp→Prop) (b4:Sl) (r6:Addr) (v19:Sl) (v20:Int) (v21:Int) (v32:Bool) (h:Hp):Prop:=
  br v32
  (Q (⟨none,0,0⟩:Sl) (1:Int) h)
  (ldI .i64 h (r6.add 0) fun x_15=>
  ldI .u32 h (r6.add 1) fun x_16=>
  ldL .u8 32 h (r6.add 2) fun x_17=>
  seal_Lay ρ x_15 x_16 (nrm 32 x_17) h fun r_18 h_19=>
  apW (ρ.T 1) 1 1 (.int .u8 (0:Int)) h_19 b4 r_18 fun s_20 h_21=>
  S2 s_20 v19 v20 (IntKind.wrap .i64 (v21+(1:Int))) h_21)
def node_Lay_B2 (ρ:Ids) (S2:Sl→Sl→Int→Int→Hp→Prop) (Q:Sl→Int→Hp→Prop) (b4:Sl) (v19:Sl) (v20:Int) (v21:Int) (h:Hp):Prop:=
  br (decide (v21<v20))
  (ixW v19.a v19.len v21 34 fun p_3=>
  ldI .i64 h (p_3.add 0) fun x_4=>
  ldI .u32 h (p_3.add 1) fun x_5=>
  ldL .u8 32 h (p_3.add 2) fun x_6=>
  alW h (ρ.T 16) (([(.int .i64 (0:Int)),(.int .u32 (0:Int))]:List Value)++lumpV .u8 32 (List.replicate 32 0)) fun p_7 h_8=>
  stAll h_8 p_7 0 (([(.int .i64 x_4),(.int .u32 x_5)]:List Value)++lumpV .u8 32 x_6) fun h_9=>
  ldI .i64 h_9 (p_7.add 0) fun x_10=>
  br (x_10 !=(0:Int))
  (ldI .i64 h_9 (p_7.add 0) fun x_11=>
  node_Lay_K3 ρ S2 Q b4 p_7 v19 v20 v21 (x_11 !=(1:Int)) h_9)
  (node_Lay_K3 ρ S2 Q b4 p_7 v19 v20 v21 false h_9))
  (pack_Fill ρ b4 (256:Int) h fun r_12 r_13 h_14=>
  Q r_12 r_13 h_14)
def node_Lay_L2 (ρ:Ids) (Q:Sl→Int→Hp→Prop) (b4:Sl) (v19:Sl) (v20:Int) (v21:Int) (h:Hp):Prop:=
  Lfp (fun S vals h=>(tS fun b4=>tS fun v19=>tI .i64 fun v20=>tI .i64 fun v21=>tN (node_Lay_B2 ρ (fun b4 v19 v20 v21 hh=>S [(.slice b4.a b4.len b4.cap),(.slice v19.a v19.len v19.cap),(.int .i64 v20),(.int .i64 v21)] hh) Q b4 v19 v20 v21 h)) vals) [(.slice b4.a b4.len b4.cap),(.slice v19.a v19.len v19.cap),(.int .i64 v20),(.int .i64 v21)] h
theorem node_Lay_L2_in (ρ:Ids) (Q:Sl→Int→Hp→Prop) (b4:Sl) (v19:Sl) (v20:Int) (v21:Int) (h:Hp) (H:node_Lay_B2 ρ (node_Lay_L2 ρ Q) Q b4 v19 v20 v21 h):node_Lay_L2 ρ Q b4 v19 v20 v21 h:=lfp_in H
def node_Lay_K1 (ρ:Ids) (Q:Sl→Int→Hp→Prop) (refs0:Sl) (v14:Bool) (h:Hp):Prop:=
  br v14
  (Q (⟨none,0,0⟩:Sl) (1:Int) h)
  (alW h (ρ.T 1) [(.int .u8 (IntKind.wrap .u8 (refs0.len:Int)))] fun p_1 h_2=>
  node_Lay_L2 ρ Q (⟨some p_1,1,1⟩:Sl) refs0 (refs0.len:Int) (0:Int) h_2)
def node_Lay (ρ:Ids) (refs0:Sl) (h:Hp) (Q:Sl→Int→Hp→Prop):Prop:=
  br (decide ((refs0.len:Int)<(1:Int)))
  (node_Lay_K1 ρ Q refs0 true h)
  (node_Lay_K1 ρ Q refs0 (decide ((refs0.len:Int)>(6:Int))) h)
def node_Lay_S (ρ:Ids):Spec:=fun args h K=>
  (tS fun refs0=>tN (node_Lay ρ refs0 h (fun r0 r1 h=>K (.tuple [(.slice r0.a r0.len r0.cap),(.int .i64 r1)].toArray) h))) args
def commit_Plan_B4 (ρ:Ids) (S4:Addr→Addr→Sl→Sl→Int→Int→Hp→Prop) (Q:Sl→Sl→Int→Int→List Int→Int→Hp→Prop) (v16:Addr) (p18:Addr) (fresh24:Sl) (v83:Sl) (v84:Int) (v85:Int) (h:Hp):Prop:=
  br (decide (v85<v84))
  (ixW v83.a v83.len v85 1 fun p_51=>
  ldI .i64 h p_51 fun x_52=>
  ldM h (p18.add 69) fun x_53=>
  lkW (.int .i64) h x_53 (.int .i64 x_52) fun f_54 o_55=>
  isS (o_55.getD (.slice none 0 0)) fun y_57=>
  letB o_55.isSome fun ok_56=>
  slices_Clone_seal_Ref_seal_Ref ρ y_57 h fun r_58 h_59=>
  alW h_59 (ρ.T 14) [(.int .i64 x_52),(.slice r_58.a r_58.len r_58.cap)] fun p_60 h_61=>
  apW (ρ.T 14) 2 32 (.agg [(.int .i64 (0:Int)),(.slice none 0 0)].toArray) h_61 fresh24 (⟨some p_60,1,1⟩:Sl) fun s_62 h_63=>
  ldM h_63 (p18.add 69) fun x_64=>
  lkW (.int .i64) h_63 x_64 (.int .i64 x_52) fun f_65 o_66=>
  isS (o_66.getD (.slice none 0 0)) fun y_68=>
  letB o_66.isSome fun ok_67=>
  node_Lay ρ y_68 h_63 fun r_69 r_70 h_71=>
  commit_planner_hide ρ (some p18) x_52 r_69 h_71 fun h_72=>
  S4 v16 p18 s_62 v83 v84 (IntKind.wrap .i64 (v85+(1:Int))) h_72)
  (ldS h (p18.add 70) fun x_73=>
  ldI .i64 h ((p18.add 35).add 0) fun x_74=>
  ldI .u32 h ((p18.add 35).add 1) fun x_75=>
  ldL .u8 32 h ((p18.add 35).add 2) fun x_76=>
  stAll h v16 0 (([(.int .i64 x_74),(.int .u32 x_75)]:List Value)++lumpV .u8 32 x_76) fun h_77=>
  ldI .i64 h_77 (v16.add 0) fun x_78=>
  ldI .u32 h_77 (v16.add 1) fun x_79=>
  ldL .u8 32 h_77 (v16.add 2) fun x_80=>
  Q x_73 fresh24 x_78 x_79 (nrm 32 x_80) (0:Int) h_77)
def commit_Plan_L4 (ρ:Ids) (Q:Sl→Sl→Int→Int→List Int→Int→Hp→Prop) (v16:Addr) (p18:Addr) (fresh24:Sl) (v83:Sl) (v84:Int) (v85:Int) (h:Hp):Prop:=
  Lfp (fun S vals h=>(tA fun v16=>tA fun p18=>tS fun fresh24=>tS fun v83=>tI .i64 fun v84=>tI .i64 fun v85=>tN (commit_Plan_B4 ρ (fun v16 p18 fresh24 v83 v84 v85 hh=>S [(.pointer (some v16)),(.pointer (some p18)),(.slice fresh24.a fresh24.len fresh24.cap),(.slice v83.a v83.len v83.cap),(.int .i64 v84),(.int .i64 v85)] hh) Q v16 p18 fresh24 v83 v84 v85 h)) vals) [(.pointer (some v16)),(.pointer (some p18)),(.slice fresh24.a fresh24.len fresh24.cap),(.slice v83.a v83.len v83.cap),(.int .i64 v84),(.int .i64 v85)] h
theorem commit_Plan_L4_in (ρ:Ids) (Q:Sl→Sl→Int→Int→List Int→Int→Hp→Prop) (v16:Addr) (p18:Addr) (fresh24:Sl) (v83:Sl) (v84:Int) (v85:Int) (h:Hp) (H:commit_Plan_B4 ρ (commit_Plan_L4 ρ Q) Q v16 p18 fresh24 v83 v84 v85 h):commit_Plan_L4 ρ Q v16 p18 fresh24 v83 v84 v85 h:=lfp_in H
def commit_Plan_B3 (ρ:Ids) (S3:Addr→Addr→Sl→Sl→Int→Int→Hp→Prop) (Q:Sl→Sl→Int→Int→List Int→Int→Hp→Prop) (v16:Addr) (p18:Addr) (need19:Sl) (v70:Sl) (v71:Int) (v72:Int) (h:Hp):Prop:=
  br (decide (v72<v71))
  (ixW v70.a v70.len v72 2 fun p_42=>
  ldI .i64 h (p_42.add 0) fun x_43=>
  ldS h (p_42.add 1) fun x_44=>
  alW h (ρ.T 17) [(.int .i64 (0:Int)),(.slice none 0 0)] fun p_45 h_46=>
  stAll h_46 p_45 0 [(.int .i64 x_43),(.slice x_44.a x_44.len x_44.cap)] fun h_47=>
  ldI .i64 h_47 (p_45.add 0) fun x_48=>
  ldS h_47 (p_45.add 1) fun x_49=>
  commit_planner_hide ρ (some p18) x_48 x_49 h_47 fun h_50=>
  S3 v16 p18 need19 v70 v71 (IntKind.wrap .i64 (v72+(1:Int))) h_50)
  (commit_Plan_L4 ρ Q v16 p18 (⟨none,0,0⟩:Sl) need19 (need19.len:Int) (0:Int) h)
def commit_Plan_L3 (ρ:Ids) (Q:Sl→Sl→Int→Int→List Int→Int→Hp→Prop) (v16:Addr) (p18:Addr) (need19:Sl) (v70:Sl) (v71:Int) (v72:Int) (h:Hp):Prop:=
  Lfp (fun S vals h=>(tA fun v16=>tA fun p18=>tS fun need19=>tS fun v70=>tI .i64 fun v71=>tI .i64 fun v72=>tN (commit_Plan_B3 ρ (fun v16 p18 need19 v70 v71 v72 hh=>S [(.pointer (some v16)),(.pointer (some p18)),(.slice need19.a need19.len need19.cap),(.slice v70.a v70.len v70.cap),(.int .i64 v71),(.int .i64 v72)] hh) Q v16 p18 need19 v70 v71 v72 h)) vals) [(.pointer (some v16)),(.pointer (some p18)),(.slice need19.a need19.len need19.cap),(.slice v70.a v70.len v70.cap),(.int .i64 v71),(.int .i64 v72)] h
theorem commit_Plan_L3_in (ρ:Ids) (Q:Sl→Sl→Int→Int→List Int→Int→Hp→Prop) (v16:Addr) (p18:Addr) (need19:Sl) (v70:Sl) (v71:Int) (v72:Int) (h:Hp) (H:commit_Plan_B3 ρ (commit_Plan_L3 ρ Q) Q v16 p18 need19 v70 v71 v72 h):commit_Plan_L3 ρ Q v16 p18 need19 v70 v71 v72 h:=lfp_in H
def commit_Plan_B2 (ρ:Ids) (S2:Sl→Sl→Addr→Addr→Sl→Sl→Int→Int→Hp→Prop) (Q:Sl→Sl→Int→Int→List Int→Int→Hp→Prop) (nodes5:Sl) (changes6:Sl) (v16:Addr) (p18:Addr) (need19:Sl) (v52:Sl) (v53:Int) (v54:Int) (h:Hp):Prop:=
  br (decide (v54<v53))
  (ixW v52.a v52.len v54 1 fun p_35=>
  ldI .i64 h p_35 fun x_36=>
  ldM h (p18.add 69) fun x_37=>
  commit_Find ρ nodes5 x_36 h fun r_38 r_39 h_40=>
  (hcell h_40 (p18.add 69)=some (.map x_37))∧
  (muW (.int .i64) h_40 x_37 (.int .i64 x_36) (.slice r_38.a r_38.len r_38.cap) fun h_41=>
  S2 nodes5 changes6 v16 p18 need19 v52 v53 (IntKind.wrap .i64 (v54+(1:Int))) h_41))
  (commit_Plan_L3 ρ Q v16 p18 need19 changes6 (changes6.len:Int) (0:Int) h)
def commit_Plan_L2 (ρ:Ids) (Q:Sl→Sl→Int→Int→List Int→Int→Hp→Prop) (nodes5:Sl) (changes6:Sl) (v16:Addr) (p18:Addr) (need19:Sl) (v52:Sl) (v53:Int) (v54:Int) (h:Hp):Prop:=
  Lfp (fun S vals h=>(tS fun nodes5=>tS fun changes6=>tA fun v16=>tA fun p18=>tS fun need19=>tS fun v52=>tI .i64 fun v53=>tI .i64 fun v54=>tN (commit_Plan_B2 ρ (fun nodes5 changes6 v16 p18 need19 v52 v53 v54 hh=>S [(.slice nodes5.a nodes5.len nodes5.cap),(.slice changes6.a changes6.len changes6.cap),(.pointer (some v16)),(.pointer (some p18)),(.slice need19.a need19.len need19.cap),(.slice v52.a v52.len v52.cap),(.int .i64 v53),(.int .i64 v54)] hh) Q nodes5 changes6 v16 p18 need19 v52 v53 v54 h)) vals) [(.slice nodes5.a nodes5.len nodes5.cap),(.slice changes6.a changes6.len changes6.cap),(.pointer (some v16)),(.pointer (some p18)),(.slice need19.a need19.len need19.cap),(.slice v52.a v52.len v52.cap),(.int .i64 v53),(.int .i64 v54)] h
theorem commit_Plan_L2_in (ρ:Ids) (Q:Sl→Sl→Int→Int→List Int→Int→Hp→Prop) (nodes5:Sl) (changes6:Sl) (v16:Addr) (p18:Addr) (need19:Sl) (v52:Sl) (v53:Int) (v54:Int) (h:Hp) (H:commit_Plan_B2 ρ (commit_Plan_L2 ρ Q) Q nodes5 changes6 v16 p18 need19 v52 v53 v54 h):commit_Plan_L2 ρ Q nodes5 changes6 v16 p18 need19 v52 v53 v54 h:=lfp_in H
def commit_Plan_K1 (ρ:Ids) (Q:Sl→Sl→Int→Int→List Int→Int→Hp→Prop) (b0:Option Addr) (epoch2:Int) (nodes5:Sl) (changes6:Sl) (key8:Addr) (s10:Addr) (root11:Addr) (v16:Addr) (v38:Bool) (h:Hp):Prop:=
  br v38
  (stAll h v16 0 (([(.int .i64 (0:Int)),(.int .u32 (0:Int))]:List Value)++lumpV .u8 32 (List.replicate 32 0)) fun h_17=>
  ldI .i64 h_17 (v16.add 0) fun x_18=>
  ldI .u32 h_17 (v16.add 1) fun x_19=>
  ldL .u8 32 h_17 (v16.add 2) fun x_20=>
  Q (⟨none,0,0⟩:Sl) (⟨none,0,0⟩:Sl) x_18 x_19 (nrm 32 x_20) (1:Int) h_17)
  (ldL .u8 32 h (key8.add 0) fun x_21=>
  ldS h (s10.add 0) fun x_22=>
  ldI .i64 h (root11.add 0) fun x_23=>
  ldI .u32 h (root11.add 1) fun x_24=>
  ldL .u8 32 h (root11.add 2) fun x_25=>
  amW h fun m_26 h_27=>
  alW h_27 (ρ.T 20) (([(.pointer b0)]:List Value)++lumpV .u8 32 x_21++([(.int .u32 epoch2),(.slice x_22.a x_22.len x_22.cap),(.int .i64 x_23),(.int .u32 x_24)]:List Value)++lumpV .u8 32 x_25++([(.map (some m_26)),(.slice none 0 0)]:List Value)) fun p_28 h_29=>
  ldS h_29 (s10.add 0) fun x_30=>
  commit_pages ρ changes6 h_29 fun r_31 h_32=>
  (hcell h_32 (s10.add 0)=some (.slice x_30.a x_30.len x_30.cap)∧(True))∧
  (commit_Need ρ x_30 r_31 h_32 fun r_33 h_34=>
  commit_Plan_L2 ρ Q nodes5 changes6 v16 p_28 r_33 r_33 (r_33.len:Int) (0:Int) h_34))
def commit_Plan (ρ:Ids) (b0:Option Addr) (key1_0:List Int) (epoch2:Int) (s3_0:Sl) (root4_0:Int) (root4_1:Int) (root4_2:List Int) (nodes5:Sl) (changes6:Sl) (h:Hp) (Q:Sl→Sl→Int→Int→List Int→Int→Hp→Prop):Prop:=
  alW h (ρ.T 19) (lumpV .u8 32 key1_0) fun p_1 h_2=>
  alW h_2 (ρ.T 11) [(.slice s3_0.a s3_0.len s3_0.cap)] fun p_3 h_4=>
  alW h_4 (ρ.T 16) (([(.int .i64 root4_0),(.int .u32 root4_1)]:List Value)++lumpV .u8 32 root4_2) fun p_5 h_6=>
  alW h_6 (ρ.T 16) (([(.int .i64 (0:Int)),(.int .u32 (0:Int))]:List Value)++lumpV .u8 32 (List.replicate 32 0)) fun p_7 h_8=>
  ldS h_8 (p_3.add 0) fun x_9=>
  commit_May ρ x_9 nodes5 changes6 h_8 fun r_10 h_11=>
  br (!r_10)
  (commit_Plan_K1 ρ Q b0 epoch2 nodes5 changes6 p_1 p_3 p_5 p_7 true h_11)
  (ldI .i64 h_11 (p_5.add 0) fun x_12=>
  ldI .u32 h_11 (p_5.add 1) fun x_13=>
  ldL .u8 32 h_11 (p_5.add 2) fun x_14=>
  commit_isPlace ρ x_12 x_13 (nrm 32 x_14) h_11 fun r_15 h_16=>
  commit_Plan_K1 ρ Q b0 epoch2 nodes5 changes6 p_1 p_3 p_5 p_7 (!r_15) h_16)
def commit_Plan_S (ρ:Ids):Spec:=fun args h K=>
  (tP fun b0=>tG fun cells1 rest1=>(tL .u8 32 fun key1_0=>tN ((tI .u32 fun epoch2=>tG fun cells3 rest3=>(tS fun s3_0=>tN ((tG fun cells4 rest4=>(tI .i64 fun root4_0=>tI .u32 fun root4_1=>tL .u8 32 fun root4_2=>tN ((tS fun nodes5=>tS fun changes6=>tN (commit_Plan ρ b0 key1_0 epoch2 s3_0 root4_0 root4_1 root4_2 nodes5 changes6 h (fun r0 r1 r2 r3 r4 r5 h=>K (.tuple [(.slice r0.a r0.len r0.cap),(.slice r1.a r1.len r1.cap),(.agg (([(.int .i64 r2),(.int .u32 r3)]:List Value)++lumpV .u8 32 r4).toArray),(.int .i64 r5)].toArray) h))) rest4)) cells4) rest3)) cells3) rest1)) cells1) args
def carlinglaw16_alive_K1 (ρ:Ids) (Q:Bool→Hp→Prop) (s1:Addr) (l3:Sl) (n4:Sl) (r5:Addr) (e6:Int) (h:Hp):Prop:=
  br (e6==(0:Int))
  (br ((l3.len:Int)==(2:Int))
  (ixW l3.a l3.len (0:Int) 2 fun p_126=>
  ldI .i64 h (p_126.add 0) fun x_127=>
  br (x_127==(2:Int))
  (ixW l3.a l3.len (1:Int) 2 fun p_128=>
  ldI .i64 h (p_128.add 0) fun x_129=>
  br (x_129==(5:Int))
  (ldI .i64 h (r5.add 0) fun x_130=>
  br (x_130==(1:Int))
  (ldI .u32 h (r5.add 1) fun x_131=>
  br (x_131==(2:Int))
  (br ((n4.len:Int)==(1:Int))
  (ldS h (s1.add 0) fun x_132=>
  alW h (ρ.T 0) [(.int .i64 (0:Int))] fun p_133 h_134=>
  commit_Need ρ x_132 (⟨some p_133,1,1⟩:Sl) h_134 fun r_135 h_136=>
  Q ((r_135.len:Int)==(1:Int)) h_136)
  (Q false h))
  (Q false h))
  (Q false h))
  (Q false h))
  (Q false h))
  (Q false h))
  (Q false h)
def carlinglaw16_alive_K7 (ρ:Ids) (Q:Bool→Hp→Prop) (s1:Addr) (l3:Sl) (n4:Sl) (r5:Addr) (v26:Int) (h:Hp):Prop:=
  carlinglaw16_alive_K1 ρ Q s1 l3 n4 r5 v26 h
def carlinglaw16_alive_K6 (ρ:Ids) (Q:Bool→Hp→Prop) (s1:Addr) (r5:Addr) (v23:Sl) (v24:Sl) (v25_0:Int) (v25_1:Int) (v25_2:List Int) (v26:Int) (h:Hp):Prop:=
  stAll h r5 0 (([(.int .i64 v25_0),(.int .u32 v25_1)]:List Value)++lumpV .u8 32 v25_2) fun h_25=>
  carlinglaw16_alive_K7 ρ Q s1 v23 v24 r5 v26 h_25
def carlinglaw16_alive_K8 (ρ:Ids) (Q:Bool→Hp→Prop) (s1:Addr) (r5:Addr) (v12_0:List Int) (v13_0:Sl) (v14_0:Int) (v14_1:Int) (v14_2:List Int) (v18:Sl) (v21:Sl) (h:Hp):Prop:=
  commit_Plan ρ none (nrm 32 v12_0) (2:Int) v13_0 v14_0 v14_1 (nrm 32 v14_2) v18 v21 h fun r_28 r_29 r_30 r_31 r_32 r_33 h_34=>
  stAll h_34 r5 0 (([(.int .i64 r_30),(.int .u32 r_31)]:List Value)++lumpV .u8 32 r_32) fun h_35=>
  carlinglaw16_alive_K7 ρ Q s1 r_28 r_29 r5 r_33 h_35
def carlinglaw16_alive_K5 (ρ:Ids) (Q:Bool→Hp→Prop) (s1:Addr) (v12_0:List Int) (v13_0:Sl) (v14_0:Int) (v14_1:Int) (v14_2:List Int) (v18:Sl) (v21:Sl) (h:Hp):Prop:=
  (commit_Plan ρ none (nrm 32 v12_0) (2:Int) v13_0 v14_0 v14_1 (nrm 32 v14_2) v18 v21 h fun r_16 r_17 r_18 r_19 r_20 r_21 h_22=>
  alW h_22 (ρ.T 16) (([(.int .i64 (0:Int)),(.int .u32 (0:Int))]:List Value)++lumpV .u8 32 (List.replicate 32 0)) fun p_23 h_24=>
  carlinglaw16_alive_K6 ρ Q s1 p_23 r_16 r_17 r_18 r_19 (nrm 32 r_20) r_21 h_24)∧
  (alW h (ρ.T 16) (([(.int .i64 (0:Int)),(.int .u32 (0:Int))]:List Value)++lumpV .u8 32 (List.replicate 32 0)) fun p_26 h_27=>
  (hcell h_27 (s1.add 0)=some (.slice v13_0.a v13_0.len v13_0.cap)∧(True))∧
  (carlinglaw16_alive_K8 ρ Q s1 p_26 (nrm 32 v12_0) v13_0 v14_0 v14_1 (nrm 32 v14_2) v18 v21 h_27))
def carlinglaw16_alive_K9 (ρ:Ids) (Q:Bool→Hp→Prop) (s1:Addr) (r5:Addr) (v12_0:List Int) (v13_0:Sl) (v14_0:Int) (v14_1:Int) (v14_2:List Int) (v18:Sl) (v20_0:Int) (v20_1:Sl) (h:Hp):Prop:=
  alW h (ρ.T 17) [(.int .i64 v20_0),(.slice v20_1.a v20_1.len v20_1.cap)] fun p_38 h_39=>
  (hcell h_39 (s1.add 0)=some (.slice v13_0.a v13_0.len v13_0.cap)∧(True))∧
  (carlinglaw16_alive_K8 ρ Q s1 r5 (nrm 32 v12_0) v13_0 v14_0 v14_1 (nrm 32 v14_2) v18 (⟨some p_38,1,1⟩:Sl) h_39)
def carlinglaw16_alive_K4 (ρ:Ids) (Q:Bool→Hp→Prop) (s1:Addr) (v12_0:List Int) (v13_0:Sl) (v14_0:Int) (v14_1:Int) (v14_2:List Int) (v18:Sl) (v19:Sl) (h:Hp):Prop:=
  (alW h (ρ.T 17) [(.int .i64 (0:Int)),(.slice v19.a v19.len v19.cap)] fun p_14 h_15=>
  (hcell h_15 (s1.add 0)=some (.slice v13_0.a v13_0.len v13_0.cap)∧(True))∧
  (carlinglaw16_alive_K5 ρ Q s1 (nrm 32 v12_0) v13_0 v14_0 v14_1 (nrm 32 v14_2) v18 (⟨some p_14,1,1⟩:Sl) h_15))∧
  (alW h (ρ.T 16) (([(.int .i64 (0:Int)),(.int .u32 (0:Int))]:List Value)++lumpV .u8 32 (List.replicate 32 0)) fun p_36 h_37=>
  (hcell h_37 (s1.add 0)=some (.slice v13_0.a v13_0.len v13_0.cap)∧(True))∧
  (carlinglaw16_alive_K9 ρ Q s1 p_36 (nrm 32 v12_0) v13_0 v14_0 v14_1 (nrm 32 v14_2) v18 (0:Int) v19 h_37))
def carlinglaw16_alive_K11 (ρ:Ids) (Q:Bool→Hp→Prop) (s1:Addr) (r5:Addr) (v12_0:List Int) (v13_0:Sl) (v14_0:Int) (v14_1:Int) (v14_2:List Int) (v18:Sl) (v19:Sl) (h:Hp):Prop:=
  alW h (ρ.T 17) [(.int .i64 (0:Int)),(.slice v19.a v19.len v19.cap)] fun p_44 h_45=>
  (hcell h_45 (s1.add 0)=some (.slice v13_0.a v13_0.len v13_0.cap)∧(True))∧
  (carlinglaw16_alive_K8 ρ Q s1 r5 (nrm 32 v12_0) v13_0 v14_0 v14_1 (nrm 32 v14_2) v18 (⟨some p_44,1,1⟩:Sl) h_45)
def carlinglaw16_alive_K10 (ρ:Ids) (Q:Bool→Hp→Prop) (s1:Addr) (r5:Addr) (v12_0:List Int) (v13_0:Sl) (v14_0:Int) (v14_1:Int) (v14_2:List Int) (v18:Sl) (h:Hp):Prop:=
  mkW (ρ.T 1) 1 1 (.int .u8 (0:Int)) h (256:Int) (256:Int) fun s_42 h_43=>
  (hcell h_43 (s1.add 0)=some (.slice v13_0.a v13_0.len v13_0.cap)∧(True))∧
  (carlinglaw16_alive_K11 ρ Q s1 r5 (nrm 32 v12_0) v13_0 v14_0 v14_1 (nrm 32 v14_2) v18 s_42 h_43)
def carlinglaw16_alive_K3 (ρ:Ids) (Q:Bool→Hp→Prop) (s1:Addr) (v12_0:List Int) (v13_0:Sl) (v14_0:Int) (v14_1:Int) (v14_2:List Int) (v18:Sl) (h:Hp):Prop:=
  (mkW (ρ.T 1) 1 1 (.int .u8 (0:Int)) h (256:Int) (256:Int) fun s_12 h_13=>
  (hcell h_13 (s1.add 0)=some (.slice v13_0.a v13_0.len v13_0.cap)∧(True))∧
  (carlinglaw16_alive_K4 ρ Q s1 (nrm 32 v12_0) v13_0 v14_0 v14_1 (nrm 32 v14_2) v18 s_12 h_13))∧
  (alW h (ρ.T 16) (([(.int .i64 (0:Int)),(.int .u32 (0:Int))]:List Value)++lumpV .u8 32 (List.replicate 32 0)) fun p_40 h_41=>
  (hcell h_41 (s1.add 0)=some (.slice v13_0.a v13_0.len v13_0.cap)∧(True))∧
  (carlinglaw16_alive_K10 ρ Q s1 p_40 (nrm 32 v12_0) v13_0 v14_0 v14_1 (nrm 32 v14_2) v18 h_41))
def carlinglaw16_alive_K13 (ρ:Ids) (Q:Bool→Hp→Prop) (s1:Addr) (v12_0:List Int) (v13_0:Sl) (v14_0:Int) (v14_1:Int) (v14_2:List Int) (v18:Sl) (v20_0:Int) (v20_1:Sl) (h:Hp):Prop:=
  (alW h (ρ.T 17) [(.int .i64 v20_0),(.slice v20_1.a v20_1.len v20_1.cap)] fun p_50 h_51=>
  (hcell h_51 (s1.add 0)=some (.slice v13_0.a v13_0.len v13_0.cap)∧(True))∧
  (carlinglaw16_alive_K5 ρ Q s1 (nrm 32 v12_0) v13_0 v14_0 v14_1 (nrm 32 v14_2) v18 (⟨some p_50,1,1⟩:Sl) h_51))∧
  (alW h (ρ.T 16) (([(.int .i64 (0:Int)),(.int .u32 (0:Int))]:List Value)++lumpV .u8 32 (List.replicate 32 0)) fun p_52 h_53=>
  (hcell h_53 (s1.add 0)=some (.slice v13_0.a v13_0.len v13_0.cap)∧(True))∧
  (carlinglaw16_alive_K9 ρ Q s1 p_52 (nrm 32 v12_0) v13_0 v14_0 v14_1 (nrm 32 v14_2) v18 v20_0 v20_1 h_53))
def carlinglaw16_alive_K15 (ρ:Ids) (Q:Bool→Hp→Prop) (s1:Addr) (r5:Addr) (v12_0:List Int) (v13_0:Sl) (v14_0:Int) (v14_1:Int) (v14_2:List Int) (v17_0:Int) (v17_1:Sl) (v21:Sl) (h:Hp):Prop:=
  alW h (ρ.T 14) [(.int .i64 v17_0),(.slice v17_1.a v17_1.len v17_1.cap)] fun p_60 h_61=>
  (hcell h_61 (s1.add 0)=some (.slice v13_0.a v13_0.len v13_0.cap)∧(True))∧
  (carlinglaw16_alive_K8 ρ Q s1 r5 (nrm 32 v12_0) v13_0 v14_0 v14_1 (nrm 32 v14_2) (⟨some p_60,1,1⟩:Sl) v21 h_61)
def carlinglaw16_alive_K14 (ρ:Ids) (Q:Bool→Hp→Prop) (s1:Addr) (v12_0:List Int) (v13_0:Sl) (v14_0:Int) (v14_1:Int) (v14_2:List Int) (v17_0:Int) (v17_1:Sl) (v21:Sl) (h:Hp):Prop:=
  (alW h (ρ.T 14) [(.int .i64 v17_0),(.slice v17_1.a v17_1.len v17_1.cap)] fun p_56 h_57=>
  (hcell h_57 (s1.add 0)=some (.slice v13_0.a v13_0.len v13_0.cap)∧(True))∧
  (carlinglaw16_alive_K5 ρ Q s1 (nrm 32 v12_0) v13_0 v14_0 v14_1 (nrm 32 v14_2) (⟨some p_56,1,1⟩:Sl) v21 h_57))∧
  (alW h (ρ.T 16) (([(.int .i64 (0:Int)),(.int .u32 (0:Int))]:List Value)++lumpV .u8 32 (List.replicate 32 0)) fun p_58 h_59=>
  (hcell h_59 (s1.add 0)=some (.slice v13_0.a v13_0.len v13_0.cap)∧(True))∧
  (carlinglaw16_alive_K15 ρ Q s1 p_58 (nrm 32 v12_0) v13_0 v14_0 v14_1 (nrm 32 v14_2) v17_0 v17_1 v21 h_59))
def carlinglaw16_alive_K16 (ρ:Ids) (Q:Bool→Hp→Prop) (s1:Addr) (r5:Addr) (v12_0:List Int) (v13_0:Sl) (v14_0:Int) (v14_1:Int) (v14_2:List Int) (v17_0:Int) (v17_1:Sl) (v20_0:Int) (v20_1:Sl) (h:Hp):Prop:=
  (alW h (ρ.T 14) [(.int .i64 v17_0),(.slice v17_1.a v17_1.len v17_1.cap)] fun p_64 h_65=>
  (hcell h_65 (s1.add 0)=some (.slice v13_0.a v13_0.len v13_0.cap)∧(True))∧
  (carlinglaw16_alive_K9 ρ Q s1 r5 (nrm 32 v12_0) v13_0 v14_0 v14_1 (nrm 32 v14_2) (⟨some p_64,1,1⟩:Sl) v20_0 v20_1 h_65))∧
  (alW h (ρ.T 17) [(.int .i64 v20_0),(.slice v20_1.a v20_1.len v20_1.cap)] fun p_66 h_67=>
  (hcell h_67 (s1.add 0)=some (.slice v13_0.a v13_0.len v13_0.cap)∧(True))∧
  (carlinglaw16_alive_K15 ρ Q s1 r5 (nrm 32 v12_0) v13_0 v14_0 v14_1 (nrm 32 v14_2) v17_0 v17_1 (⟨some p_66,1,1⟩:Sl) h_67))
def carlinglaw16_alive_K12 (ρ:Ids) (Q:Bool→Hp→Prop) (s1:Addr) (v12_0:List Int) (v13_0:Sl) (v14_0:Int) (v14_1:Int) (v14_2:List Int) (v17_0:Int) (v17_1:Sl) (v19:Sl) (h:Hp):Prop:=
  (alW h (ρ.T 14) [(.int .i64 v17_0),(.slice v17_1.a v17_1.len v17_1.cap)] fun p_48 h_49=>
  (hcell h_49 (s1.add 0)=some (.slice v13_0.a v13_0.len v13_0.cap)∧(True))∧
  (carlinglaw16_alive_K13 ρ Q s1 (nrm 32 v12_0) v13_0 v14_0 v14_1 (nrm 32 v14_2) (⟨some p_48,1,1⟩:Sl) (0:Int) v19 h_49))∧
  ((alW h (ρ.T 17) [(.int .i64 (0:Int)),(.slice v19.a v19.len v19.cap)] fun p_54 h_55=>
  (hcell h_55 (s1.add 0)=some (.slice v13_0.a v13_0.len v13_0.cap)∧(True))∧
  (carlinglaw16_alive_K14 ρ Q s1 (nrm 32 v12_0) v13_0 v14_0 v14_1 (nrm 32 v14_2) v17_0 v17_1 (⟨some p_54,1,1⟩:Sl) h_55))∧
  (alW h (ρ.T 16) (([(.int .i64 (0:Int)),(.int .u32 (0:Int))]:List Value)++lumpV .u8 32 (List.replicate 32 0)) fun p_62 h_63=>
  (hcell h_63 (s1.add 0)=some (.slice v13_0.a v13_0.len v13_0.cap)∧(True))∧
  (carlinglaw16_alive_K16 ρ Q s1 p_62 (nrm 32 v12_0) v13_0 v14_0 v14_1 (nrm 32 v14_2) v17_0 v17_1 (0:Int) v19 h_63)))
def carlinglaw16_alive_K18 (ρ:Ids) (Q:Bool→Hp→Prop) (s1:Addr) (r5:Addr) (v12_0:List Int) (v13_0:Sl) (v14_0:Int) (v14_1:Int) (v14_2:List Int) (v17_0:Int) (v17_1:Sl) (v19:Sl) (h:Hp):Prop:=
  (alW h (ρ.T 14) [(.int .i64 v17_0),(.slice v17_1.a v17_1.len v17_1.cap)] fun p_74 h_75=>
  (hcell h_75 (s1.add 0)=some (.slice v13_0.a v13_0.len v13_0.cap)∧(True))∧
  (carlinglaw16_alive_K9 ρ Q s1 r5 (nrm 32 v12_0) v13_0 v14_0 v14_1 (nrm 32 v14_2) (⟨some p_74,1,1⟩:Sl) (0:Int) v19 h_75))∧
  (alW h (ρ.T 17) [(.int .i64 (0:Int)),(.slice v19.a v19.len v19.cap)] fun p_76 h_77=>
  (hcell h_77 (s1.add 0)=some (.slice v13_0.a v13_0.len v13_0.cap)∧(True))∧
  (carlinglaw16_alive_K15 ρ Q s1 r5 (nrm 32 v12_0) v13_0 v14_0 v14_1 (nrm 32 v14_2) v17_0 v17_1 (⟨some p_76,1,1⟩:Sl) h_77))
def carlinglaw16_alive_K17 (ρ:Ids) (Q:Bool→Hp→Prop) (s1:Addr) (r5:Addr) (v12_0:List Int) (v13_0:Sl) (v14_0:Int) (v14_1:Int) (v14_2:List Int) (v17_0:Int) (v17_1:Sl) (h:Hp):Prop:=
  (alW h (ρ.T 14) [(.int .i64 v17_0),(.slice v17_1.a v17_1.len v17_1.cap)] fun p_70 h_71=>
  (hcell h_71 (s1.add 0)=some (.slice v13_0.a v13_0.len v13_0.cap)∧(True))∧
  (carlinglaw16_alive_K10 ρ Q s1 r5 (nrm 32 v12_0) v13_0 v14_0 v14_1 (nrm 32 v14_2) (⟨some p_70,1,1⟩:Sl) h_71))∧
  (mkW (ρ.T 1) 1 1 (.int .u8 (0:Int)) h (256:Int) (256:Int) fun s_72 h_73=>
  (hcell h_73 (s1.add 0)=some (.slice v13_0.a v13_0.len v13_0.cap)∧(True))∧
  (carlinglaw16_alive_K18 ρ Q s1 r5 (nrm 32 v12_0) v13_0 v14_0 v14_1 (nrm 32 v14_2) v17_0 v17_1 s_72 h_73))
def carlinglaw16_alive_K2 (ρ:Ids) (Q:Bool→Hp→Prop) (s1:Addr) (v12_0:List Int) (v13_0:Sl) (v14_0:Int) (v14_1:Int) (v14_2:List Int) (v16:Sl) (h:Hp):Prop:=
  (alW h (ρ.T 14) [(.int .i64 (1:Int)),(.slice v16.a v16.len v16.cap)] fun p_10 h_11=>
  (hcell h_11 (s1.add 0)=some (.slice v13_0.a v13_0.len v13_0.cap)∧(True))∧
  (carlinglaw16_alive_K3 ρ Q s1 (nrm 32 v12_0) v13_0 v14_0 v14_1 (nrm 32 v14_2) (⟨some p_10,1,1⟩:Sl) h_11))∧
  ((mkW (ρ.T 1) 1 1 (.int .u8 (0:Int)) h (256:Int) (256:Int) fun s_46 h_47=>
  (hcell h_47 (s1.add 0)=some (.slice v13_0.a v13_0.len v13_0.cap)∧(True))∧
  (carlinglaw16_alive_K12 ρ Q s1 (nrm 32 v12_0) v13_0 v14_0 v14_1 (nrm 32 v14_2) (1:Int) v16 s_46 h_47))∧
  (alW h (ρ.T 16) (([(.int .i64 (0:Int)),(.int .u32 (0:Int))]:List Value)++lumpV .u8 32 (List.replicate 32 0)) fun p_68 h_69=>
  (hcell h_69 (s1.add 0)=some (.slice v13_0.a v13_0.len v13_0.cap)∧(True))∧
  (carlinglaw16_alive_K17 ρ Q s1 p_68 (nrm 32 v12_0) v13_0 v14_0 v14_1 (nrm 32 v14_2) (1:Int) v16 h_69)))
def carlinglaw16_alive_K20 (ρ:Ids) (Q:Bool→Hp→Prop) (s1:Addr) (v12_0:List Int) (v13_0:Sl) (v14_0:Int) (v14_1:Int) (v14_2:List Int) (v16:Sl) (v20_0:Int) (v20_1:Sl) (h:Hp):Prop:=
  (alW h (ρ.T 14) [(.int .i64 (1:Int)),(.slice v16.a v16.len v16.cap)] fun p_82 h_83=>
  (hcell h_83 (s1.add 0)=some (.slice v13_0.a v13_0.len v13_0.cap)∧(True))∧
  (carlinglaw16_alive_K13 ρ Q s1 (nrm 32 v12_0) v13_0 v14_0 v14_1 (nrm 32 v14_2) (⟨some p_82,1,1⟩:Sl) v20_0 v20_1 h_83))∧
  ((alW h (ρ.T 17) [(.int .i64 v20_0),(.slice v20_1.a v20_1.len v20_1.cap)] fun p_84 h_85=>
  (hcell h_85 (s1.add 0)=some (.slice v13_0.a v13_0.len v13_0.cap)∧(True))∧
  (carlinglaw16_alive_K14 ρ Q s1 (nrm 32 v12_0) v13_0 v14_0 v14_1 (nrm 32 v14_2) (1:Int) v16 (⟨some p_84,1,1⟩:Sl) h_85))∧
  (alW h (ρ.T 16) (([(.int .i64 (0:Int)),(.int .u32 (0:Int))]:List Value)++lumpV .u8 32 (List.replicate 32 0)) fun p_86 h_87=>
  (hcell h_87 (s1.add 0)=some (.slice v13_0.a v13_0.len v13_0.cap)∧(True))∧
  (carlinglaw16_alive_K16 ρ Q s1 p_86 (nrm 32 v12_0) v13_0 v14_0 v14_1 (nrm 32 v14_2) (1:Int) v16 v20_0 v20_1 h_87)))
def carlinglaw16_alive_K22 (ρ:Ids) (Q:Bool→Hp→Prop) (s1:Addr) (v12_0:List Int) (v13_0:Sl) (v14_0:Int) (v14_1:Int) (v14_2:List Int) (v16:Sl) (v21:Sl) (h:Hp):Prop:=
  (alW h (ρ.T 14) [(.int .i64 (1:Int)),(.slice v16.a v16.len v16.cap)] fun p_92 h_93=>
  (hcell h_93 (s1.add 0)=some (.slice v13_0.a v13_0.len v13_0.cap)∧(True))∧
  (carlinglaw16_alive_K5 ρ Q s1 (nrm 32 v12_0) v13_0 v14_0 v14_1 (nrm 32 v14_2) (⟨some p_92,1,1⟩:Sl) v21 h_93))∧
  (alW h (ρ.T 16) (([(.int .i64 (0:Int)),(.int .u32 (0:Int))]:List Value)++lumpV .u8 32 (List.replicate 32 0)) fun p_94 h_95=>
  (hcell h_95 (s1.add 0)=some (.slice v13_0.a v13_0.len v13_0.cap)∧(True))∧
  (carlinglaw16_alive_K15 ρ Q s1 p_94 (nrm 32 v12_0) v13_0 v14_0 v14_1 (nrm 32 v14_2) (1:Int) v16 v21 h_95))
def carlinglaw16_alive_K24 (ρ:Ids) (Q:Bool→Hp→Prop) (s1:Addr) (r5:Addr) (v12_0:List Int) (v13_0:Sl) (v14_0:Int) (v14_1:Int) (v14_2:List Int) (v16:Sl) (v21:Sl) (h:Hp):Prop:=
  alW h (ρ.T 14) [(.int .i64 (1:Int)),(.slice v16.a v16.len v16.cap)] fun p_100 h_101=>
  (hcell h_101 (s1.add 0)=some (.slice v13_0.a v13_0.len v13_0.cap)∧(True))∧
  (carlinglaw16_alive_K8 ρ Q s1 r5 (nrm 32 v12_0) v13_0 v14_0 v14_1 (nrm 32 v14_2) (⟨some p_100,1,1⟩:Sl) v21 h_101)
def carlinglaw16_alive_K23 (ρ:Ids) (Q:Bool→Hp→Prop) (s1:Addr) (r5:Addr) (v12_0:List Int) (v13_0:Sl) (v14_0:Int) (v14_1:Int) (v14_2:List Int) (v15_0:Int) (v15_1:Int) (v15_2:List Int) (v21:Sl) (h:Hp):Prop:=
  alW h (ρ.T 16) (([(.int .i64 v15_0),(.int .u32 v15_1)]:List Value)++lumpV .u8 32 v15_2) fun p_98 h_99=>
  (hcell h_99 (s1.add 0)=some (.slice v13_0.a v13_0.len v13_0.cap)∧(True))∧
  (carlinglaw16_alive_K24 ρ Q s1 r5 (nrm 32 v12_0) v13_0 v14_0 v14_1 (nrm 32 v14_2) (⟨some p_98,1,1⟩:Sl) v21 h_99)
def carlinglaw16_alive_K21 (ρ:Ids) (Q:Bool→Hp→Prop) (s1:Addr) (v12_0:List Int) (v13_0:Sl) (v14_0:Int) (v14_1:Int) (v14_2:List Int) (v15_0:Int) (v15_1:Int) (v15_2:List Int) (v21:Sl) (h:Hp):Prop:=
  (alW h (ρ.T 16) (([(.int .i64 v15_0),(.int .u32 v15_1)]:List Value)++lumpV .u8 32 v15_2) fun p_90 h_91=>
  (hcell h_91 (s1.add 0)=some (.slice v13_0.a v13_0.len v13_0.cap)∧(True))∧
  (carlinglaw16_alive_K22 ρ Q s1 (nrm 32 v12_0) v13_0 v14_0 v14_1 (nrm 32 v14_2) (⟨some p_90,1,1⟩:Sl) v21 h_91))∧
  (alW h (ρ.T 16) (([(.int .i64 (0:Int)),(.int .u32 (0:Int))]:List Value)++lumpV .u8 32 (List.replicate 32 0)) fun p_96 h_97=>
  (hcell h_97 (s1.add 0)=some (.slice v13_0.a v13_0.len v13_0.cap)∧(True))∧
  (carlinglaw16_alive_K23 ρ Q s1 p_96 (nrm 32 v12_0) v13_0 v14_0 v14_1 (nrm 32 v14_2) v15_0 v15_1 (nrm 32 v15_2) v21 h_97))
def carlinglaw16_alive_K26 (ρ:Ids) (Q:Bool→Hp→Prop) (s1:Addr) (r5:Addr) (v12_0:List Int) (v13_0:Sl) (v14_0:Int) (v14_1:Int) (v14_2:List Int) (v16:Sl) (v20_0:Int) (v20_1:Sl) (h:Hp):Prop:=
  (alW h (ρ.T 14) [(.int .i64 (1:Int)),(.slice v16.a v16.len v16.cap)] fun p_106 h_107=>
  (hcell h_107 (s1.add 0)=some (.slice v13_0.a v13_0.len v13_0.cap)∧(True))∧
  (carlinglaw16_alive_K9 ρ Q s1 r5 (nrm 32 v12_0) v13_0 v14_0 v14_1 (nrm 32 v14_2) (⟨some p_106,1,1⟩:Sl) v20_0 v20_1 h_107))∧
  (alW h (ρ.T 17) [(.int .i64 v20_0),(.slice v20_1.a v20_1.len v20_1.cap)] fun p_108 h_109=>
  (hcell h_109 (s1.add 0)=some (.slice v13_0.a v13_0.len v13_0.cap)∧(True))∧
  (carlinglaw16_alive_K15 ρ Q s1 r5 (nrm 32 v12_0) v13_0 v14_0 v14_1 (nrm 32 v14_2) (1:Int) v16 (⟨some p_108,1,1⟩:Sl) h_109))
def carlinglaw16_alive_K25 (ρ:Ids) (Q:Bool→Hp→Prop) (s1:Addr) (r5:Addr) (v12_0:List Int) (v13_0:Sl) (v14_0:Int) (v14_1:Int) (v14_2:List Int) (v15_0:Int) (v15_1:Int) (v15_2:List Int) (v20_0:Int) (v20_1:Sl) (h:Hp):Prop:=
  (alW h (ρ.T 16) (([(.int .i64 v15_0),(.int .u32 v15_1)]:List Value)++lumpV .u8 32 v15_2) fun p_104 h_105=>
  (hcell h_105 (s1.add 0)=some (.slice v13_0.a v13_0.len v13_0.cap)∧(True))∧
  (carlinglaw16_alive_K26 ρ Q s1 r5 (nrm 32 v12_0) v13_0 v14_0 v14_1 (nrm 32 v14_2) (⟨some p_104,1,1⟩:Sl) v20_0 v20_1 h_105))∧
  (alW h (ρ.T 17) [(.int .i64 v20_0),(.slice v20_1.a v20_1.len v20_1.cap)] fun p_110 h_111=>
  (hcell h_111 (s1.add 0)=some (.slice v13_0.a v13_0.len v13_0.cap)∧(True))∧
  (carlinglaw16_alive_K23 ρ Q s1 r5 (nrm 32 v12_0) v13_0 v14_0 v14_1 (nrm 32 v14_2) v15_0 v15_1 (nrm 32 v15_2) (⟨some p_110,1,1⟩:Sl) h_111))
def carlinglaw16_alive_K19 (ρ:Ids) (Q:Bool→Hp→Prop) (s1:Addr) (v12_0:List Int) (v13_0:Sl) (v14_0:Int) (v14_1:Int) (v14_2:List Int) (v15_0:Int) (v15_1:Int) (v15_2:List Int) (v19:Sl) (h:Hp):Prop:=
  (alW h (ρ.T 16) (([(.int .i64 v15_0),(.int .u32 v15_1)]:List Value)++lumpV .u8 32 v15_2) fun p_80 h_81=>
  (hcell h_81 (s1.add 0)=some (.slice v13_0.a v13_0.len v13_0.cap)∧(True))∧
  (carlinglaw16_alive_K20 ρ Q s1 (nrm 32 v12_0) v13_0 v14_0 v14_1 (nrm 32 v14_2) (⟨some p_80,1,1⟩:Sl) (0:Int) v19 h_81))∧
  ((alW h (ρ.T 17) [(.int .i64 (0:Int)),(.slice v19.a v19.len v19.cap)] fun p_88 h_89=>
  (hcell h_89 (s1.add 0)=some (.slice v13_0.a v13_0.len v13_0.cap)∧(True))∧
  (carlinglaw16_alive_K21 ρ Q s1 (nrm 32 v12_0) v13_0 v14_0 v14_1 (nrm 32 v14_2) v15_0 v15_1 (nrm 32 v15_2) (⟨some p_88,1,1⟩:Sl) h_89))∧
  (alW h (ρ.T 16) (([(.int .i64 (0:Int)),(.int .u32 (0:Int))]:List Value)++lumpV .u8 32 (List.replicate 32 0)) fun p_102 h_103=>
  (hcell h_103 (s1.add 0)=some (.slice v13_0.a v13_0.len v13_0.cap)∧(True))∧
  (carlinglaw16_alive_K25 ρ Q s1 p_102 (nrm 32 v12_0) v13_0 v14_0 v14_1 (nrm 32 v14_2) v15_0 v15_1 (nrm 32 v15_2) (0:Int) v19 h_103)))
def carlinglaw16_alive_K28 (ρ:Ids) (Q:Bool→Hp→Prop) (s1:Addr) (r5:Addr) (v12_0:List Int) (v13_0:Sl) (v14_0:Int) (v14_1:Int) (v14_2:List Int) (v16:Sl) (h:Hp):Prop:=
  (alW h (ρ.T 14) [(.int .i64 (1:Int)),(.slice v16.a v16.len v16.cap)] fun p_116 h_117=>
  (hcell h_117 (s1.add 0)=some (.slice v13_0.a v13_0.len v13_0.cap)∧(True))∧
  (carlinglaw16_alive_K10 ρ Q s1 r5 (nrm 32 v12_0) v13_0 v14_0 v14_1 (nrm 32 v14_2) (⟨some p_116,1,1⟩:Sl) h_117))∧
  (mkW (ρ.T 1) 1 1 (.int .u8 (0:Int)) h (256:Int) (256:Int) fun s_118 h_119=>
  (hcell h_119 (s1.add 0)=some (.slice v13_0.a v13_0.len v13_0.cap)∧(True))∧
  (carlinglaw16_alive_K18 ρ Q s1 r5 (nrm 32 v12_0) v13_0 v14_0 v14_1 (nrm 32 v14_2) (1:Int) v16 s_118 h_119))
def carlinglaw16_alive_K29 (ρ:Ids) (Q:Bool→Hp→Prop) (s1:Addr) (r5:Addr) (v12_0:List Int) (v13_0:Sl) (v14_0:Int) (v14_1:Int) (v14_2:List Int) (v15_0:Int) (v15_1:Int) (v15_2:List Int) (v19:Sl) (h:Hp):Prop:=
  (alW h (ρ.T 16) (([(.int .i64 v15_0),(.int .u32 v15_1)]:List Value)++lumpV .u8 32 v15_2) fun p_122 h_123=>
  (hcell h_123 (s1.add 0)=some (.slice v13_0.a v13_0.len v13_0.cap)∧(True))∧
  (carlinglaw16_alive_K26 ρ Q s1 r5 (nrm 32 v12_0) v13_0 v14_0 v14_1 (nrm 32 v14_2) (⟨some p_122,1,1⟩:Sl) (0:Int) v19 h_123))∧
  (alW h (ρ.T 17) [(.int .i64 (0:Int)),(.slice v19.a v19.len v19.cap)] fun p_124 h_125=>
  (hcell h_125 (s1.add 0)=some (.slice v13_0.a v13_0.len v13_0.cap)∧(True))∧
  (carlinglaw16_alive_K23 ρ Q s1 r5 (nrm 32 v12_0) v13_0 v14_0 v14_1 (nrm 32 v14_2) v15_0 v15_1 (nrm 32 v15_2) (⟨some p_124,1,1⟩:Sl) h_125))
def carlinglaw16_alive_K27 (ρ:Ids) (Q:Bool→Hp→Prop) (s1:Addr) (r5:Addr) (v12_0:List Int) (v13_0:Sl) (v14_0:Int) (v14_1:Int) (v14_2:List Int) (v15_0:Int) (v15_1:Int) (v15_2:List Int) (h:Hp):Prop:=
  (alW h (ρ.T 16) (([(.int .i64 v15_0),(.int .u32 v15_1)]:List Value)++lumpV .u8 32 v15_2) fun p_114 h_115=>
  (hcell h_115 (s1.add 0)=some (.slice v13_0.a v13_0.len v13_0.cap)∧(True))∧
  (carlinglaw16_alive_K28 ρ Q s1 r5 (nrm 32 v12_0) v13_0 v14_0 v14_1 (nrm 32 v14_2) (⟨some p_114,1,1⟩:Sl) h_115))∧
  (mkW (ρ.T 1) 1 1 (.int .u8 (0:Int)) h (256:Int) (256:Int) fun s_120 h_121=>
  (hcell h_121 (s1.add 0)=some (.slice v13_0.a v13_0.len v13_0.cap)∧(True))∧
  (carlinglaw16_alive_K29 ρ Q s1 r5 (nrm 32 v12_0) v13_0 v14_0 v14_1 (nrm 32 v14_2) v15_0 v15_1 (nrm 32 v15_2) s_120 h_121))
def carlinglaw16_alive (ρ:Ids) (h:Hp) (Q:Bool→Hp→Prop):Prop:=
  shape_New ρ (1:Int) h fun r_1 r_2 h_3=>
  alW h_3 (ρ.T 11) [(.slice none 0 0)] fun p_4 h_5=>
  st h_5 (p_4.add 0) (.slice r_1.a r_1.len r_1.cap) fun h_6=>
  ldS h_6 (p_4.add 0) fun x_7=>
  (alW h_6 (ρ.T 16) (([(.int .i64 (1:Int)),(.int .u32 (0:Int))]:List Value)++lumpV .u8 32 (List.replicate 32 0)) fun p_8 h_9=>
  (hcell h_9 (p_4.add 0)=some (.slice x_7.a x_7.len x_7.cap)∧(True))∧
  (carlinglaw16_alive_K2 ρ Q p_4 (nrm 32 (List.replicate 32 0)) x_7 (0:Int) (0:Int) (nrm 32 (List.replicate 32 0)) (⟨some p_8,1,1⟩:Sl) h_9))∧
  ((mkW (ρ.T 1) 1 1 (.int .u8 (0:Int)) h_6 (256:Int) (256:Int) fun s_78 h_79=>
  (hcell h_79 (p_4.add 0)=some (.slice x_7.a x_7.len x_7.cap)∧(True))∧
  (carlinglaw16_alive_K19 ρ Q p_4 (nrm 32 (List.replicate 32 0)) x_7 (0:Int) (0:Int) (nrm 32 (List.replicate 32 0)) (1:Int) (0:Int) (nrm 32 (List.replicate 32 0)) s_78 h_79))∧
  (alW h_6 (ρ.T 16) (([(.int .i64 (0:Int)),(.int .u32 (0:Int))]:List Value)++lumpV .u8 32 (List.replicate 32 0)) fun p_112 h_113=>
  (hcell h_113 (p_4.add 0)=some (.slice x_7.a x_7.len x_7.cap)∧(True))∧
  (carlinglaw16_alive_K27 ρ Q p_4 p_112 (nrm 32 (List.replicate 32 0)) x_7 (0:Int) (0:Int) (nrm 32 (List.replicate 32 0)) (1:Int) (0:Int) (nrm 32 (List.replicate 32 0)) h_113)))
def carlinglaw16_alive_S (ρ:Ids):Spec:=fun args h K=>
  (tN (carlinglaw16_alive ρ h (fun r0 h=>K (.bool r0) h))) args
def carlingref16_has_B1 (ρ:Ids) (S1:Sl→Int→Int→Hp→Prop) (Q:Bool→Hp→Prop) (l0:Sl) (n1:Int) (i5:Int) (h:Hp):Prop:=
  br (decide (i5<(l0.len:Int)))
  (ixW l0.a l0.len i5 1 fun p_1=>
  ldI .i64 h p_1 fun x_2=>
  br (x_2==n1)
  (Q true h)
  (S1 l0 n1 (IntKind.wrap .i64 (i5+(1:Int))) h))
  (Q false h)
def carlingref16_has_L1 (ρ:Ids) (Q:Bool→Hp→Prop) (l0:Sl) (n1:Int) (i5:Int) (h:Hp):Prop:=
  Lfp (fun S vals h=>(tS fun l0=>tI .i64 fun n1=>tI .i64 fun i5=>tN (carlingref16_has_B1 ρ (fun l0 n1 i5 hh=>S [(.slice l0.a l0.len l0.cap),(.int .i64 n1),(.int .i64 i5)] hh) Q l0 n1 i5 h)) vals) [(.slice l0.a l0.len l0.cap),(.int .i64 n1),(.int .i64 i5)] h
theorem carlingref16_has_L1_in (ρ:Ids) (Q:Bool→Hp→Prop) (l0:Sl) (n1:Int) (i5:Int) (h:Hp) (H:carlingref16_has_B1 ρ (carlingref16_has_L1 ρ Q) Q l0 n1 i5 h):carlingref16_has_L1 ρ Q l0 n1 i5 h:=lfp_in H
def carlingref16_has (ρ:Ids) (l0:Sl) (n1:Int) (h:Hp) (Q:Bool→Hp→Prop):Prop:=
  carlingref16_has_L1 ρ Q l0 n1 (0:Int) h
def carlingref16_has_S (ρ:Ids):Spec:=fun args h K=>
  (tS fun l0=>tI .i64 fun n1=>tN (carlingref16_has ρ l0 n1 h (fun r0 h=>K (.bool r0) h))) args
def carlingref12_Shape_has (ρ:Ids) (s0_0:Int) (s0_1:Sl) (s0_2:Sl) (item1:Int) (h:Hp) (Q:Bool→Hp→Prop):Prop:=
  alW h (ρ.T 12) [(.int .i64 s0_0),(.slice s0_1.a s0_1.len s0_1.cap),(.slice s0_2.a s0_2.len s0_2.cap)] fun p_1 h_2=>
  br (decide (item1≥(0:Int)))
  (ldS h_2 (p_1.add 1) fun x_3=>
  Q (decide (item1<(x_3.len:Int))) h_2)
  (Q false h_2)
def carlingref12_Shape_has_S (ρ:Ids):Spec:=fun args h K=>
  (tG fun cells0 rest0=>(tI .i64 fun s0_0=>tS fun s0_1=>tS fun s0_2=>tN ((tI .i64 fun item1=>tN (carlingref12_Shape_has ρ s0_0 s0_1 s0_2 item1 h (fun r0 h=>K (.bool r0) h))) rest0)) cells0) args
def carlingref12_Shape_Kids_K3 (ρ:Ids) (S2:Int→Addr→Sl→Int→Hp→Prop) (Q:Sl→Hp→Prop) (item1:Int) (s2:Addr) (out5:Sl) (k6:Int) (v45:Bool) (h:Hp):Prop:=
  br v45
  (alW h (ρ.T 0) [(.int .i64 k6)] fun p_20 h_21=>
  apW (ρ.T 0) 1 8 (.int .i64 (0:Int)) h_21 out5 (⟨some p_20,1,1⟩:Sl) fun s_22 h_23=>
  S2 item1 s2 s_22 (IntKind.wrap .i64 (k6+(1:Int))) h_23)
  (Q out5 h)
def carlingref12_Shape_Kids_B2 (ρ:Ids) (S2:Int→Addr→Sl→Int→Hp→Prop) (Q:Sl→Hp→Prop) (item1:Int) (s2:Addr) (out5:Sl) (k6:Int) (h:Hp):Prop:=
  br (decide ((out5.len:Int)<(6:Int)))
  (br (decide (k6<item1))
  (ldS h (s2.add 1) fun x_14=>
  ixW x_14.a x_14.len k6 1 fun p_15=>
  ldI .i64 h p_15 fun x_16=>
  ldS h (s2.add 1) fun x_17=>
  ixW x_17.a x_17.len item1 1 fun p_18=>
  ldI .i64 h p_18 fun x_19=>
  carlingref12_Shape_Kids_K3 ρ S2 Q item1 s2 out5 k6 (x_16==(IntKind.wrap .i64 (x_19 - (1:Int)))) h)
  (carlingref12_Shape_Kids_K3 ρ S2 Q item1 s2 out5 k6 false h))
  (carlingref12_Shape_Kids_K3 ρ S2 Q item1 s2 out5 k6 false h)
def carlingref12_Shape_Kids_L2 (ρ:Ids) (Q:Sl→Hp→Prop) (item1:Int) (s2:Addr) (out5:Sl) (k6:Int) (h:Hp):Prop:=
  Lfp (fun S vals h=>(tI .i64 fun item1=>tA fun s2=>tS fun out5=>tI .i64 fun k6=>tN (carlingref12_Shape_Kids_B2 ρ (fun item1 s2 out5 k6 hh=>S [(.int .i64 item1),(.pointer (some s2)),(.slice out5.a out5.len out5.cap),(.int .i64 k6)] hh) Q item1 s2 out5 k6 h)) vals) [(.int .i64 item1),(.pointer (some s2)),(.slice out5.a out5.len out5.cap),(.int .i64 k6)] h
theorem carlingref12_Shape_Kids_L2_in (ρ:Ids) (Q:Sl→Hp→Prop) (item1:Int) (s2:Addr) (out5:Sl) (k6:Int) (h:Hp) (H:carlingref12_Shape_Kids_B2 ρ (carlingref12_Shape_Kids_L2 ρ Q) Q item1 s2 out5 k6 h):carlingref12_Shape_Kids_L2 ρ Q item1 s2 out5 k6 h:=lfp_in H
def carlingref12_Shape_Kids_K1 (ρ:Ids) (Q:Sl→Hp→Prop) (item1:Int) (s2:Addr) (out5:Sl) (v18:Bool) (h:Hp):Prop:=
  br v18
  (Q (⟨none,0,0⟩:Sl) h)
  (ldS h (s2.add 2) fun x_11=>
  ixW x_11.a x_11.len item1 1 fun p_12=>
  ldI .i64 h p_12 fun x_13=>
  carlingref12_Shape_Kids_L2 ρ Q item1 s2 out5 x_13 h)
def carlingref12_Shape_Kids (ρ:Ids) (s0_0:Int) (s0_1:Sl) (s0_2:Sl) (item1:Int) (h:Hp) (Q:Sl→Hp→Prop):Prop:=
  alW h (ρ.T 12) [(.int .i64 s0_0),(.slice s0_1.a s0_1.len s0_1.cap),(.slice s0_2.a s0_2.len s0_2.cap)] fun p_1 h_2=>
  ldI .i64 h_2 (p_1.add 0) fun x_3=>
  ldS h_2 (p_1.add 1) fun x_4=>
  ldS h_2 (p_1.add 2) fun x_5=>
  carlingref12_Shape_has ρ x_3 x_4 x_5 item1 h_2 fun r_6 h_7=>
  br (!r_6)
  (carlingref12_Shape_Kids_K1 ρ Q item1 p_1 (⟨none,0,0⟩:Sl) true h_7)
  (ldS h_7 (p_1.add 2) fun x_8=>
  ixW x_8.a x_8.len item1 1 fun p_9=>
  ldI .i64 h_7 p_9 fun x_10=>
  carlingref12_Shape_Kids_K1 ρ Q item1 p_1 (⟨none,0,0⟩:Sl) (decide (x_10<(0:Int))) h_7)
def carlingref12_Shape_Kids_S (ρ:Ids):Spec:=fun args h K=>
  (tG fun cells0 rest0=>(tI .i64 fun s0_0=>tS fun s0_1=>tS fun s0_2=>tN ((tI .i64 fun item1=>tN (carlingref12_Shape_Kids ρ s0_0 s0_1 s0_2 item1 h (fun r0 h=>K (.slice r0.a r0.len r0.cap) h))) rest0)) cells0) args
def carlingref12_Shape_Parent_B2 (ρ:Ids) (S1:Int→Addr→Int→Hp→Prop) (S2:Int→Addr→Int→Sl→Int→Hp→Prop) (Q:Int→Int→Bool→Hp→Prop) (item1:Int) (s2:Addr) (p7:Int) (l8:Sl) (i9:Int) (h:Hp):Prop:=
  br (decide (i9<(l8.len:Int)))
  (ixW l8.a l8.len i9 1 fun p_9=>
  ldI .i64 h p_9 fun x_10=>
  br (x_10==item1)
  (Q p7 i9 true h)
  (S2 item1 s2 p7 l8 (IntKind.wrap .i64 (i9+(1:Int))) h))
  (S1 item1 s2 (IntKind.wrap .i64 (p7+(1:Int))) h)
def carlingref12_Shape_Parent_L2 (ρ:Ids) (S1:Int→Addr→Int→Hp→Prop) (Q:Int→Int→Bool→Hp→Prop) (item1:Int) (s2:Addr) (p7:Int) (l8:Sl) (i9:Int) (h:Hp):Prop:=
  Lfp (fun S vals h=>(tI .i64 fun item1=>tA fun s2=>tI .i64 fun p7=>tS fun l8=>tI .i64 fun i9=>tN (carlingref12_Shape_Parent_B2 ρ S1 (fun item1 s2 p7 l8 i9 hh=>S [(.int .i64 item1),(.pointer (some s2)),(.int .i64 p7),(.slice l8.a l8.len l8.cap),(.int .i64 i9)] hh) Q item1 s2 p7 l8 i9 h)) vals) [(.int .i64 item1),(.pointer (some s2)),(.int .i64 p7),(.slice l8.a l8.len l8.cap),(.int .i64 i9)] h
theorem carlingref12_Shape_Parent_L2_in (ρ:Ids) (S1:Int→Addr→Int→Hp→Prop) (Q:Int→Int→Bool→Hp→Prop) (item1:Int) (s2:Addr) (p7:Int) (l8:Sl) (i9:Int) (h:Hp) (H:carlingref12_Shape_Parent_B2 ρ S1 (carlingref12_Shape_Parent_L2 ρ S1 Q) Q item1 s2 p7 l8 i9 h):carlingref12_Shape_Parent_L2 ρ S1 Q item1 s2 p7 l8 i9 h:=lfp_in H
def carlingref12_Shape_Parent_B1 (ρ:Ids) (S1:Int→Addr→Int→Hp→Prop) (Q:Int→Int→Bool→Hp→Prop) (item1:Int) (s2:Addr) (p7:Int) (h:Hp):Prop:=
  ldS h (s2.add 1) fun x_3=>
  br (decide (p7<(x_3.len:Int)))
  (ldI .i64 h (s2.add 0) fun x_4=>
  ldS h (s2.add 1) fun x_5=>
  ldS h (s2.add 2) fun x_6=>
  carlingref12_Shape_Kids ρ x_4 x_5 x_6 p7 h fun r_7 h_8=>
  carlingref12_Shape_Parent_L2 ρ S1 Q item1 s2 p7 r_7 (0:Int) h_8)
  (Q (0:Int) (0:Int) false h)
def carlingref12_Shape_Parent_L1 (ρ:Ids) (Q:Int→Int→Bool→Hp→Prop) (item1:Int) (s2:Addr) (p7:Int) (h:Hp):Prop:=
  Lfp (fun S vals h=>(tI .i64 fun item1=>tA fun s2=>tI .i64 fun p7=>tN (carlingref12_Shape_Parent_B1 ρ (fun item1 s2 p7 hh=>S [(.int .i64 item1),(.pointer (some s2)),(.int .i64 p7)] hh) Q item1 s2 p7 h)) vals) [(.int .i64 item1),(.pointer (some s2)),(.int .i64 p7)] h
theorem carlingref12_Shape_Parent_L1_in (ρ:Ids) (Q:Int→Int→Bool→Hp→Prop) (item1:Int) (s2:Addr) (p7:Int) (h:Hp) (H:carlingref12_Shape_Parent_B1 ρ (carlingref12_Shape_Parent_L1 ρ Q) Q item1 s2 p7 h):carlingref12_Shape_Parent_L1 ρ Q item1 s2 p7 h:=lfp_in H
def carlingref12_Shape_Parent (ρ:Ids) (s0_0:Int) (s0_1:Sl) (s0_2:Sl) (item1:Int) (h:Hp) (Q:Int→Int→Bool→Hp→Prop):Prop:=
  alW h (ρ.T 12) [(.int .i64 s0_0),(.slice s0_1.a s0_1.len s0_1.cap),(.slice s0_2.a s0_2.len s0_2.cap)] fun p_1 h_2=>
  carlingref12_Shape_Parent_L1 ρ Q item1 p_1 (0:Int) h_2
def carlingref12_Shape_Parent_S (ρ:Ids):Spec:=fun args h K=>
  (tG fun cells0 rest0=>(tI .i64 fun s0_0=>tS fun s0_1=>tS fun s0_2=>tN ((tI .i64 fun item1=>tN (carlingref12_Shape_Parent ρ s0_0 s0_1 s0_2 item1 h (fun r0 r1 r2 h=>K (.tuple [(.int .i64 r0),(.int .i64 r1),(.bool r2)].toArray) h))) rest0)) cells0) args
def carlingref12_Shape_Path_B2 (ρ:Ids) (S2:Addr→Sl→Int→Hp→Prop) (Q:Sl→Hp→Prop) (s2:Addr) (out5:Sl) (n6:Int) (h:Hp):Prop:=
  br (decide (n6<(10:Int)))
  (ldI .i64 h (s2.add 0) fun x_6=>
  ldS h (s2.add 1) fun x_7=>
  ldS h (s2.add 2) fun x_8=>
  ixW out5.a out5.len (IntKind.wrap .i64 ((out5.len:Int) - (1:Int))) 1 fun p_9=>
  ldI .i64 h p_9 fun x_10=>
  carlingref12_Shape_Parent ρ x_6 x_7 x_8 x_10 h fun r_11 r_12 r_13 h_14=>
  br (!r_13)
  (Q out5 h_14)
  (alW h_14 (ρ.T 0) [(.int .i64 r_11)] fun p_15 h_16=>
  apW (ρ.T 0) 1 8 (.int .i64 (0:Int)) h_16 out5 (⟨some p_15,1,1⟩:Sl) fun s_17 h_18=>
  S2 s2 s_17 (IntKind.wrap .i64 (n6+(1:Int))) h_18))
  (Q out5 h)
def carlingref12_Shape_Path_L2 (ρ:Ids) (Q:Sl→Hp→Prop) (s2:Addr) (out5:Sl) (n6:Int) (h:Hp):Prop:=
  Lfp (fun S vals h=>(tA fun s2=>tS fun out5=>tI .i64 fun n6=>tN (carlingref12_Shape_Path_B2 ρ (fun s2 out5 n6 hh=>S [(.pointer (some s2)),(.slice out5.a out5.len out5.cap),(.int .i64 n6)] hh) Q s2 out5 n6 h)) vals) [(.pointer (some s2)),(.slice out5.a out5.len out5.cap),(.int .i64 n6)] h
theorem carlingref12_Shape_Path_L2_in (ρ:Ids) (Q:Sl→Hp→Prop) (s2:Addr) (out5:Sl) (n6:Int) (h:Hp) (H:carlingref12_Shape_Path_B2 ρ (carlingref12_Shape_Path_L2 ρ Q) Q s2 out5 n6 h):carlingref12_Shape_Path_L2 ρ Q s2 out5 n6 h:=lfp_in H
def carlingref12_Shape_Path_K1 (ρ:Ids) (Q:Sl→Hp→Prop) (page1:Int) (s2:Addr) (v17:Bool) (h:Hp):Prop:=
  br v17
  (Q (⟨none,0,0⟩:Sl) h)
  (alW h (ρ.T 0) [(.int .i64 page1)] fun p_4 h_5=>
  carlingref12_Shape_Path_L2 ρ Q s2 (⟨some p_4,1,1⟩:Sl) (0:Int) h_5)
def carlingref12_Shape_Path (ρ:Ids) (s0_0:Int) (s0_1:Sl) (s0_2:Sl) (page1:Int) (h:Hp) (Q:Sl→Hp→Prop):Prop:=
  alW h (ρ.T 12) [(.int .i64 s0_0),(.slice s0_1.a s0_1.len s0_1.cap),(.slice s0_2.a s0_2.len s0_2.cap)] fun p_1 h_2=>
  br (decide (page1<(0:Int)))
  (carlingref12_Shape_Path_K1 ρ Q page1 p_1 true h_2)
  (ldI .i64 h_2 (p_1.add 0) fun x_3=>
  carlingref12_Shape_Path_K1 ρ Q page1 p_1 (decide (page1≥x_3)) h_2)
def carlingref12_Shape_Path_S (ρ:Ids):Spec:=fun args h K=>
  (tG fun cells0 rest0=>(tI .i64 fun s0_0=>tS fun s0_1=>tS fun s0_2=>tN ((tI .i64 fun page1=>tN (carlingref12_Shape_Path ρ s0_0 s0_1 s0_2 page1 h (fun r0 h=>K (.slice r0.a r0.len r0.cap) h))) rest0)) cells0) args
def carlingref16_Need_K3 (ρ:Ids) (S1:Sl→Addr→Sl→Int→Hp→Prop) (Q:Sl→Hp→Prop) (pages1:Sl) (s2:Addr) (out5:Sl) (item6:Int) (h:Hp):Prop:=
  S1 pages1 s2 out5 (IntKind.wrap .i64 (item6+(1:Int))) h
def carlingref16_Need_B2 (ρ:Ids) (S1:Sl→Addr→Sl→Int→Hp→Prop) (S2:Sl→Addr→Sl→Int→Int→Hp→Prop) (Q:Sl→Hp→Prop) (pages1:Sl) (s2:Addr) (out5:Sl) (item6:Int) (i7:Int) (h:Hp):Prop:=
  br (decide (i7<(pages1.len:Int)))
  (ldI .i64 h (s2.add 0) fun x_5=>
  ldS h (s2.add 1) fun x_6=>
  ldS h (s2.add 2) fun x_7=>
  ixW pages1.a pages1.len i7 1 fun p_8=>
  ldI .i64 h p_8 fun x_9=>
  carlingref12_Shape_Path ρ x_5 x_6 x_7 x_9 h fun r_10 h_11=>
  carlingref16_has ρ r_10 item6 h_11 fun r_12 h_13=>
  br r_12
  (alW h_13 (ρ.T 0) [(.int .i64 item6)] fun p_14 h_15=>
  apW (ρ.T 0) 1 8 (.int .i64 (0:Int)) h_15 out5 (⟨some p_14,1,1⟩:Sl) fun s_16 h_17=>
  carlingref16_Need_K3 ρ S1 Q pages1 s2 s_16 item6 h_17)
  (S2 pages1 s2 out5 item6 (IntKind.wrap .i64 (i7+(1:Int))) h_13))
  (carlingref16_Need_K3 ρ S1 Q pages1 s2 out5 item6 h)
def carlingref16_Need_L2 (ρ:Ids) (S1:Sl→Addr→Sl→Int→Hp→Prop) (Q:Sl→Hp→Prop) (pages1:Sl) (s2:Addr) (out5:Sl) (item6:Int) (i7:Int) (h:Hp):Prop:=
  Lfp (fun S vals h=>(tS fun pages1=>tA fun s2=>tS fun out5=>tI .i64 fun item6=>tI .i64 fun i7=>tN (carlingref16_Need_B2 ρ S1 (fun pages1 s2 out5 item6 i7 hh=>S [(.slice pages1.a pages1.len pages1.cap),(.pointer (some s2)),(.slice out5.a out5.len out5.cap),(.int .i64 item6),(.int .i64 i7)] hh) Q pages1 s2 out5 item6 i7 h)) vals) [(.slice pages1.a pages1.len pages1.cap),(.pointer (some s2)),(.slice out5.a out5.len out5.cap),(.int .i64 item6),(.int .i64 i7)] h
theorem carlingref16_Need_L2_in (ρ:Ids) (S1:Sl→Addr→Sl→Int→Hp→Prop) (Q:Sl→Hp→Prop) (pages1:Sl) (s2:Addr) (out5:Sl) (item6:Int) (i7:Int) (h:Hp) (H:carlingref16_Need_B2 ρ S1 (carlingref16_Need_L2 ρ S1 Q) Q pages1 s2 out5 item6 i7 h):carlingref16_Need_L2 ρ S1 Q pages1 s2 out5 item6 i7 h:=lfp_in H
def carlingref16_Need_B1 (ρ:Ids) (S1:Sl→Addr→Sl→Int→Hp→Prop) (Q:Sl→Hp→Prop) (pages1:Sl) (s2:Addr) (out5:Sl) (item6:Int) (h:Hp):Prop:=
  ldS h (s2.add 1) fun x_4=>
  br (decide (item6<(x_4.len:Int)))
  (carlingref16_Need_L2 ρ S1 Q pages1 s2 out5 item6 (0:Int) h)
  (Q out5 h)
def carlingref16_Need_L1 (ρ:Ids) (Q:Sl→Hp→Prop) (pages1:Sl) (s2:Addr) (out5:Sl) (item6:Int) (h:Hp):Prop:=
  Lfp (fun S vals h=>(tS fun pages1=>tA fun s2=>tS fun out5=>tI .i64 fun item6=>tN (carlingref16_Need_B1 ρ (fun pages1 s2 out5 item6 hh=>S [(.slice pages1.a pages1.len pages1.cap),(.pointer (some s2)),(.slice out5.a out5.len out5.cap),(.int .i64 item6)] hh) Q pages1 s2 out5 item6 h)) vals) [(.slice pages1.a pages1.len pages1.cap),(.pointer (some s2)),(.slice out5.a out5.len out5.cap),(.int .i64 item6)] h
theorem carlingref16_Need_L1_in (ρ:Ids) (Q:Sl→Hp→Prop) (pages1:Sl) (s2:Addr) (out5:Sl) (item6:Int) (h:Hp) (H:carlingref16_Need_B1 ρ (carlingref16_Need_L1 ρ Q) Q pages1 s2 out5 item6 h):carlingref16_Need_L1 ρ Q pages1 s2 out5 item6 h:=lfp_in H
def carlingref16_Need (ρ:Ids) (s0_0:Int) (s0_1:Sl) (s0_2:Sl) (pages1:Sl) (h:Hp) (Q:Sl→Hp→Prop):Prop:=
  alW h (ρ.T 12) [(.int .i64 s0_0),(.slice s0_1.a s0_1.len s0_1.cap),(.slice s0_2.a s0_2.len s0_2.cap)] fun p_1 h_2=>
  ldI .i64 h_2 (p_1.add 0) fun x_3=>
  carlingref16_Need_L1 ρ Q pages1 p_1 (⟨none,0,0⟩:Sl) x_3 h_2
def carlingref16_Need_S (ρ:Ids):Spec:=fun args h K=>
  (tG fun cells0 rest0=>(tI .i64 fun s0_0=>tS fun s0_1=>tS fun s0_2=>tN ((tS fun pages1=>tN (carlingref16_Need ρ s0_0 s0_1 s0_2 pages1 h (fun r0 h=>K (.slice r0.a r0.len r0.cap) h))) rest0)) cells0) args
def carlinglaw16_theirs_B2 (ρ:Ids) (S1:Sl→Sl→Int→Int→Hp→Prop) (S2:Sl→Addr→Sl→Int→Int→Sl→Int→Int→Hp→Prop) (Q:Sl→Hp→Prop) (out3:Sl) (x6:Addr) (v9:Sl) (v10:Int) (v11:Int) (v19:Sl) (v20:Int) (v21:Int) (h:Hp):Prop:=
  br (decide (v21<v20))
  (ixW v19.a v19.len v21 34 fun p_12=>
  ldI .i64 h (p_12.add 0) fun x_13=>
  ldI .u32 h (p_12.add 1) fun x_14=>
  ldL .u8 32 h (p_12.add 2) fun x_15=>
  alW h (ρ.T 30) (([(.int .i64 (0:Int)),(.int .u32 (0:Int))]:List Value)++lumpV .u8 32 (List.replicate 32 0)) fun p_16 h_17=>
  stAll h_17 p_16 0 (([(.int .i64 x_13),(.int .u32 x_14)]:List Value)++lumpV .u8 32 x_15) fun h_18=>
  ldS h_18 (x6.add 1) fun x_19=>
  ldI .i64 h_18 (p_16.add 0) fun x_20=>
  ldI .u32 h_18 (p_16.add 1) fun x_21=>
  ldL .u8 32 h_18 (p_16.add 2) fun x_22=>
  alW h_18 (ρ.T 16) (([(.int .i64 x_20),(.int .u32 x_21)]:List Value)++lumpV .u8 32 x_22) fun p_23 h_24=>
  apW (ρ.T 16) 34 48 (.agg (([(.int .i64 (0:Int)),(.int .u32 (0:Int))]:List Value)++lumpV .u8 32 (List.replicate 32 0)).toArray) h_24 x_19 (⟨some p_23,1,1⟩:Sl) fun s_25 h_26=>
  st h_26 ((x6.add 1).add 0) (.slice s_25.a s_25.len s_25.cap) fun h_27=>
  S2 out3 x6 v9 v10 v11 v19 v20 (IntKind.wrap .i64 (v21+(1:Int))) h_27)
  (ldI .i64 h (x6.add 0) fun x_28=>
  ldS h (x6.add 1) fun x_29=>
  alW h (ρ.T 14) [(.int .i64 x_28),(.slice x_29.a x_29.len x_29.cap)] fun p_30 h_31=>
  apW (ρ.T 14) 2 32 (.agg [(.int .i64 (0:Int)),(.slice none 0 0)].toArray) h_31 out3 (⟨some p_30,1,1⟩:Sl) fun s_32 h_33=>
  S1 s_32 v9 v10 (IntKind.wrap .i64 (v11+(1:Int))) h_33)
def carlinglaw16_theirs_L2 (ρ:Ids) (S1:Sl→Sl→Int→Int→Hp→Prop) (Q:Sl→Hp→Prop) (out3:Sl) (x6:Addr) (v9:Sl) (v10:Int) (v11:Int) (v19:Sl) (v20:Int) (v21:Int) (h:Hp):Prop:=
  Lfp (fun S vals h=>(tS fun out3=>tA fun x6=>tS fun v9=>tI .i64 fun v10=>tI .i64 fun v11=>tS fun v19=>tI .i64 fun v20=>tI .i64 fun v21=>tN (carlinglaw16_theirs_B2 ρ S1 (fun out3 x6 v9 v10 v11 v19 v20 v21 hh=>S [(.slice out3.a out3.len out3.cap),(.pointer (some x6)),(.slice v9.a v9.len v9.cap),(.int .i64 v10),(.int .i64 v11),(.slice v19.a v19.len v19.cap),(.int .i64 v20),(.int .i64 v21)] hh) Q out3 x6 v9 v10 v11 v19 v20 v21 h)) vals) [(.slice out3.a out3.len out3.cap),(.pointer (some x6)),(.slice v9.a v9.len v9.cap),(.int .i64 v10),(.int .i64 v11),(.slice v19.a v19.len v19.cap),(.int .i64 v20),(.int .i64 v21)] h
theorem carlinglaw16_theirs_L2_in (ρ:Ids) (S1:Sl→Sl→Int→Int→Hp→Prop) (Q:Sl→Hp→Prop) (out3:Sl) (x6:Addr) (v9:Sl) (v10:Int) (v11:Int) (v19:Sl) (v20:Int) (v21:Int) (h:Hp) (H:carlinglaw16_theirs_B2 ρ S1 (carlinglaw16_theirs_L2 ρ S1 Q) Q out3 x6 v9 v10 v11 v19 v20 v21 h):carlinglaw16_theirs_L2 ρ S1 Q out3 x6 v9 v10 v11 v19 v20 v21 h:=lfp_in H
def carlinglaw16_theirs_B1 (ρ:Ids) (S1:Sl→Sl→Int→Int→Hp→Prop) (Q:Sl→Hp→Prop) (out3:Sl) (v9:Sl) (v10:Int) (v11:Int) (h:Hp):Prop:=
  br (decide (v11<v10))
  (ixW v9.a v9.len v11 2 fun p_1=>
  ldI .i64 h (p_1.add 0) fun x_2=>
  ldS h (p_1.add 1) fun x_3=>
  alW h (ρ.T 15) [(.int .i64 (0:Int)),(.slice none 0 0)] fun p_4 h_5=>
  stAll h_5 p_4 0 [(.int .i64 x_2),(.slice x_3.a x_3.len x_3.cap)] fun h_6=>
  ldI .i64 h_6 (p_4.add 0) fun x_7=>
  alW h_6 (ρ.T 14) [(.int .i64 (0:Int)),(.slice none 0 0)] fun p_8 h_9=>
  stAll h_9 p_8 0 [(.int .i64 x_7),(.slice none 0 0)] fun h_10=>
  ldS h_10 (p_4.add 1) fun x_11=>
  carlinglaw16_theirs_L2 ρ S1 Q out3 p_8 v9 v10 v11 x_11 (x_11.len:Int) (0:Int) h_10)
  (Q out3 h)
def carlinglaw16_theirs_L1 (ρ:Ids) (Q:Sl→Hp→Prop) (out3:Sl) (v9:Sl) (v10:Int) (v11:Int) (h:Hp):Prop:=
  Lfp (fun S vals h=>(tS fun out3=>tS fun v9=>tI .i64 fun v10=>tI .i64 fun v11=>tN (carlinglaw16_theirs_B1 ρ (fun out3 v9 v10 v11 hh=>S [(.slice out3.a out3.len out3.cap),(.slice v9.a v9.len v9.cap),(.int .i64 v10),(.int .i64 v11)] hh) Q out3 v9 v10 v11 h)) vals) [(.slice out3.a out3.len out3.cap),(.slice v9.a v9.len v9.cap),(.int .i64 v10),(.int .i64 v11)] h
theorem carlinglaw16_theirs_L1_in (ρ:Ids) (Q:Sl→Hp→Prop) (out3:Sl) (v9:Sl) (v10:Int) (v11:Int) (h:Hp) (H:carlinglaw16_theirs_B1 ρ (carlinglaw16_theirs_L1 ρ Q) Q out3 v9 v10 v11 h):carlinglaw16_theirs_L1 ρ Q out3 v9 v10 v11 h:=lfp_in H
def carlinglaw16_theirs (ρ:Ids) (l0:Sl) (h:Hp) (Q:Sl→Hp→Prop):Prop:=
  carlinglaw16_theirs_L1 ρ Q (⟨none,0,0⟩:Sl) l0 (l0.len:Int) (0:Int) h
def carlinglaw16_theirs_S (ρ:Ids):Spec:=fun args h K=>
  (tS fun l0=>tN (carlinglaw16_theirs ρ l0 h (fun r0 h=>K (.slice r0.a r0.len r0.cap) h))) args
def carlingref16_Find_B1 (ρ:Ids) (S1:Sl→Int→Int→Hp→Prop) (Q:Sl→Bool→Hp→Prop) (l0:Sl) (item1:Int) (i6:Int) (h:Hp):Prop:=
  br (decide (i6<(l0.len:Int)))
  (ixW l0.a l0.len i6 2 fun p_1=>
  ldI .i64 h (p_1.add 0) fun x_2=>
  br (x_2==item1)
  (ixW l0.a l0.len i6 2 fun p_3=>
  ldS h (p_3.add 1) fun x_4=>
  Q x_4 true h)
  (S1 l0 item1 (IntKind.wrap .i64 (i6+(1:Int))) h))
  (Q (⟨none,0,0⟩:Sl) false h)
def carlingref16_Find_L1 (ρ:Ids) (Q:Sl→Bool→Hp→Prop) (l0:Sl) (item1:Int) (i6:Int) (h:Hp):Prop:=
  Lfp (fun S vals h=>(tS fun l0=>tI .i64 fun item1=>tI .i64 fun i6=>tN (carlingref16_Find_B1 ρ (fun l0 item1 i6 hh=>S [(.slice l0.a l0.len l0.cap),(.int .i64 item1),(.int .i64 i6)] hh) Q l0 item1 i6 h)) vals) [(.slice l0.a l0.len l0.cap),(.int .i64 item1),(.int .i64 i6)] h
theorem carlingref16_Find_L1_in (ρ:Ids) (Q:Sl→Bool→Hp→Prop) (l0:Sl) (item1:Int) (i6:Int) (h:Hp) (H:carlingref16_Find_B1 ρ (carlingref16_Find_L1 ρ Q) Q l0 item1 i6 h):carlingref16_Find_L1 ρ Q l0 item1 i6 h:=lfp_in H
def carlingref16_Find (ρ:Ids) (l0:Sl) (item1:Int) (h:Hp) (Q:Sl→Bool→Hp→Prop):Prop:=
  carlingref16_Find_L1 ρ Q l0 item1 (0:Int) h
def carlingref16_Find_S (ρ:Ids):Spec:=fun args h K=>
  (tS fun l0=>tI .i64 fun item1=>tN (carlingref16_Find ρ l0 item1 h (fun r0 r1 h=>K (.tuple [(.slice r0.a r0.len r0.cap),(.bool r1)].toArray) h))) args
def carlinglaw16_same_B3 (ρ:Ids) (S1:Sl→Sl→Int→Int→Hp→Prop) (S3:Sl→Sl→Int→Int→Int→Sl→Int→Int→Hp→Prop) (Q:Bool→Hp→Prop) (a0:Sl) (b1:Sl) (i5:Int) (v14:Int) (v15:Int) (v48:Sl) (v49:Int) (v50:Int) (h:Hp):Prop:=
  br (decide (v50<v49))
  (ixW v48.a v48.len v50 34 fun p_11=>
  ldI .i64 h (p_11.add 0) fun x_12=>
  ldI .u32 h (p_11.add 1) fun x_13=>
  ldL .u8 32 h (p_11.add 2) fun x_14=>
  alW h (ρ.T 16) (([(.int .i64 (0:Int)),(.int .u32 (0:Int))]:List Value)++lumpV .u8 32 (List.replicate 32 0)) fun p_15 h_16=>
  stAll h_16 p_15 0 (([(.int .i64 x_12),(.int .u32 x_13)]:List Value)++lumpV .u8 32 x_14) fun h_17=>
  ldI .i64 h_17 (p_15.add 0) fun x_18=>
  ldI .u32 h_17 (p_15.add 1) fun x_19=>
  ldL .u8 32 h_17 (p_15.add 2) fun x_20=>
  ixW b1.a b1.len i5 2 fun p_21=>
  ldS h_17 (p_21.add 1) fun x_22=>
  ixW x_22.a x_22.len v50 34 fun p_23=>
  ldI .i64 h_17 (p_23.add 0) fun x_24=>
  ldI .u32 h_17 (p_23.add 1) fun x_25=>
  ldL .u8 32 h_17 (p_23.add 2) fun x_26=>
  br (!((x_18==x_24) && ((x_19==x_25) && ((nrm 32 x_20==nrm 32 x_26) && true))))
  (Q false h_17)
  (S3 a0 b1 i5 v14 v15 v48 v49 (IntKind.wrap .i64 (v50+(1:Int))) h_17))
  (S1 a0 b1 v14 (IntKind.wrap .i64 (v15+(1:Int))) h)
def carlinglaw16_same_L3 (ρ:Ids) (S1:Sl→Sl→Int→Int→Hp→Prop) (Q:Bool→Hp→Prop) (a0:Sl) (b1:Sl) (i5:Int) (v14:Int) (v15:Int) (v48:Sl) (v49:Int) (v50:Int) (h:Hp):Prop:=
  Lfp (fun S vals h=>(tS fun a0=>tS fun b1=>tI .i64 fun i5=>tI .i64 fun v14=>tI .i64 fun v15=>tS fun v48=>tI .i64 fun v49=>tI .i64 fun v50=>tN (carlinglaw16_same_B3 ρ S1 (fun a0 b1 i5 v14 v15 v48 v49 v50 hh=>S [(.slice a0.a a0.len a0.cap),(.slice b1.a b1.len b1.cap),(.int .i64 i5),(.int .i64 v14),(.int .i64 v15),(.slice v48.a v48.len v48.cap),(.int .i64 v49),(.int .i64 v50)] hh) Q a0 b1 i5 v14 v15 v48 v49 v50 h)) vals) [(.slice a0.a a0.len a0.cap),(.slice b1.a b1.len b1.cap),(.int .i64 i5),(.int .i64 v14),(.int .i64 v15),(.slice v48.a v48.len v48.cap),(.int .i64 v49),(.int .i64 v50)] h
theorem carlinglaw16_same_L3_in (ρ:Ids) (S1:Sl→Sl→Int→Int→Hp→Prop) (Q:Bool→Hp→Prop) (a0:Sl) (b1:Sl) (i5:Int) (v14:Int) (v15:Int) (v48:Sl) (v49:Int) (v50:Int) (h:Hp) (H:carlinglaw16_same_B3 ρ S1 (carlinglaw16_same_L3 ρ S1 Q) Q a0 b1 i5 v14 v15 v48 v49 v50 h):carlinglaw16_same_L3 ρ S1 Q a0 b1 i5 v14 v15 v48 v49 v50 h:=lfp_in H
def carlinglaw16_same_K2 (ρ:Ids) (S1:Sl→Sl→Int→Int→Hp→Prop) (Q:Bool→Hp→Prop) (a0:Sl) (b1:Sl) (i5:Int) (v14:Int) (v15:Int) (v43:Bool) (h:Hp):Prop:=
  br v43
  (Q false h)
  (ixW a0.a a0.len i5 2 fun p_9=>
  ldS h (p_9.add 1) fun x_10=>
  carlinglaw16_same_L3 ρ S1 Q a0 b1 i5 v14 v15 x_10 (x_10.len:Int) (0:Int) h)
def carlinglaw16_same_B1 (ρ:Ids) (S1:Sl→Sl→Int→Int→Hp→Prop) (Q:Bool→Hp→Prop) (a0:Sl) (b1:Sl) (v14:Int) (v15:Int) (h:Hp):Prop:=
  br (decide (v15<v14))
  (ixW a0.a a0.len v15 2 fun p_1=>
  ldI .i64 h (p_1.add 0) fun x_2=>
  ixW b1.a b1.len v15 2 fun p_3=>
  ldI .i64 h (p_3.add 0) fun x_4=>
  br (x_2 !=x_4)
  (carlinglaw16_same_K2 ρ S1 Q a0 b1 v15 v14 v15 true h)
  (ixW a0.a a0.len v15 2 fun p_5=>
  ldS h (p_5.add 1) fun x_6=>
  ixW b1.a b1.len v15 2 fun p_7=>
  ldS h (p_7.add 1) fun x_8=>
  carlinglaw16_same_K2 ρ S1 Q a0 b1 v15 v14 v15 ((x_6.len:Int) !=(x_8.len:Int)) h))
  (Q true h)
def carlinglaw16_same_L1 (ρ:Ids) (Q:Bool→Hp→Prop) (a0:Sl) (b1:Sl) (v14:Int) (v15:Int) (h:Hp):Prop:=
  Lfp (fun S vals h=>(tS fun a0=>tS fun b1=>tI .i64 fun v14=>tI .i64 fun v15=>tN (carlinglaw16_same_B1 ρ (fun a0 b1 v14 v15 hh=>S [(.slice a0.a a0.len a0.cap),(.slice b1.a b1.len b1.cap),(.int .i64 v14),(.int .i64 v15)] hh) Q a0 b1 v14 v15 h)) vals) [(.slice a0.a a0.len a0.cap),(.slice b1.a b1.len b1.cap),(.int .i64 v14),(.int .i64 v15)] h
theorem carlinglaw16_same_L1_in (ρ:Ids) (Q:Bool→Hp→Prop) (a0:Sl) (b1:Sl) (v14:Int) (v15:Int) (h:Hp) (H:carlinglaw16_same_B1 ρ (carlinglaw16_same_L1 ρ Q) Q a0 b1 v14 v15 h):carlinglaw16_same_L1 ρ Q a0 b1 v14 v15 h:=lfp_in H
def carlinglaw16_same (ρ:Ids) (a0:Sl) (b1:Sl) (h:Hp) (Q:Bool→Hp→Prop):Prop:=
  br ((a0.len:Int) !=(b1.len:Int))
  (Q false h)
  (carlinglaw16_same_L1 ρ Q a0 b1 (a0.len:Int) (0:Int) h)
def carlinglaw16_same_S (ρ:Ids):Spec:=fun args h K=>
  (tS fun a0=>tS fun b1=>tN (carlinglaw16_same ρ a0 b1 h (fun r0 h=>K (.bool r0) h))) args
def carlinglaw16_changed_B1 (ρ:Ids) (S1:Sl→Sl→Int→Int→Hp→Prop) (Q:Sl→Hp→Prop) (out3:Sl) (v6:Sl) (v7:Int) (v8:Int) (h:Hp):Prop:=
  br (decide (v8<v7))
  (ixW v6.a v6.len v8 2 fun p_1=>
  ldI .i64 h (p_1.add 0) fun x_2=>
  ldS h (p_1.add 1) fun x_3=>
  alW h (ρ.T 13) [(.int .i64 (0:Int)),(.slice none 0 0)] fun p_4 h_5=>
  stAll h_5 p_4 0 [(.int .i64 x_2),(.slice x_3.a x_3.len x_3.cap)] fun h_6=>
  ldI .i64 h_6 (p_4.add 0) fun x_7=>
  ldS h_6 (p_4.add 1) fun x_8=>
  alW h_6 (ρ.T 17) [(.int .i64 x_7),(.slice x_8.a x_8.len x_8.cap)] fun p_9 h_10=>
  apW (ρ.T 17) 2 32 (.agg [(.int .i64 (0:Int)),(.slice none 0 0)].toArray) h_10 out3 (⟨some p_9,1,1⟩:Sl) fun s_11 h_12=>
  S1 s_11 v6 v7 (IntKind.wrap .i64 (v8+(1:Int))) h_12)
  (Q out3 h)
def carlinglaw16_changed_L1 (ρ:Ids) (Q:Sl→Hp→Prop) (out3:Sl) (v6:Sl) (v7:Int) (v8:Int) (h:Hp):Prop:=
  Lfp (fun S vals h=>(tS fun out3=>tS fun v6=>tI .i64 fun v7=>tI .i64 fun v8=>tN (carlinglaw16_changed_B1 ρ (fun out3 v6 v7 v8 hh=>S [(.slice out3.a out3.len out3.cap),(.slice v6.a v6.len v6.cap),(.int .i64 v7),(.int .i64 v8)] hh) Q out3 v6 v7 v8 h)) vals) [(.slice out3.a out3.len out3.cap),(.slice v6.a v6.len v6.cap),(.int .i64 v7),(.int .i64 v8)] h
theorem carlinglaw16_changed_L1_in (ρ:Ids) (Q:Sl→Hp→Prop) (out3:Sl) (v6:Sl) (v7:Int) (v8:Int) (h:Hp) (H:carlinglaw16_changed_B1 ρ (carlinglaw16_changed_L1 ρ Q) Q out3 v6 v7 v8 h):carlinglaw16_changed_L1 ρ Q out3 v6 v7 v8 h:=lfp_in H
def carlinglaw16_changed (ρ:Ids) (l0:Sl) (h:Hp) (Q:Sl→Hp→Prop):Prop:=
  carlinglaw16_changed_L1 ρ Q (⟨none,0,0⟩:Sl) l0 (l0.len:Int) (0:Int) h
def carlinglaw16_changed_S (ρ:Ids):Spec:=fun args h K=>
  (tS fun l0=>tN (carlinglaw16_changed ρ l0 h (fun r0 h=>K (.slice r0.a r0.len r0.cap) h))) args
def carlingref16_pages_B1 (ρ:Ids) (S1:Sl→Sl→Int→Hp→Prop) (Q:Sl→Hp→Prop) (l0:Sl) (out3:Sl) (i4:Int) (h:Hp):Prop:=
  br (decide (i4<(l0.len:Int)))
  (ixW l0.a l0.len i4 2 fun p_1=>
  ldI .i64 h (p_1.add 0) fun x_2=>
  alW h (ρ.T 0) [(.int .i64 x_2)] fun p_3 h_4=>
  apW (ρ.T 0) 1 8 (.int .i64 (0:Int)) h_4 out3 (⟨some p_3,1,1⟩:Sl) fun s_5 h_6=>
  S1 l0 s_5 (IntKind.wrap .i64 (i4+(1:Int))) h_6)
  (Q out3 h)
def carlingref16_pages_L1 (ρ:Ids) (Q:Sl→Hp→Prop) (l0:Sl) (out3:Sl) (i4:Int) (h:Hp):Prop:=
  Lfp (fun S vals h=>(tS fun l0=>tS fun out3=>tI .i64 fun i4=>tN (carlingref16_pages_B1 ρ (fun l0 out3 i4 hh=>S [(.slice l0.a l0.len l0.cap),(.slice out3.a out3.len out3.cap),(.int .i64 i4)] hh) Q l0 out3 i4 h)) vals) [(.slice l0.a l0.len l0.cap),(.slice out3.a out3.len out3.cap),(.int .i64 i4)] h
theorem carlingref16_pages_L1_in (ρ:Ids) (Q:Sl→Hp→Prop) (l0:Sl) (out3:Sl) (i4:Int) (h:Hp) (H:carlingref16_pages_B1 ρ (carlingref16_pages_L1 ρ Q) Q l0 out3 i4 h):carlingref16_pages_L1 ρ Q l0 out3 i4 h:=lfp_in H
def carlingref16_pages (ρ:Ids) (l0:Sl) (h:Hp) (Q:Sl→Hp→Prop):Prop:=
  carlingref16_pages_L1 ρ Q l0 (⟨none,0,0⟩:Sl) (0:Int) h
def carlingref16_pages_S (ρ:Ids):Spec:=fun args h K=>
  (tS fun l0=>tN (carlingref16_pages ρ l0 h (fun r0 h=>K (.slice r0.a r0.len r0.cap) h))) args
def carlingref16_right (ρ:Ids) (r0_0:Int) (r0_1:Int) (r0_2:List Int) (h:Hp) (Q:Bool→Hp→Prop):Prop:=
  alW h (ρ.T 30) (([(.int .i64 r0_0),(.int .u32 r0_1)]:List Value)++lumpV .u8 32 r0_2) fun p_1 h_2=>
  ldI .i64 h_2 (p_1.add 0) fun x_3=>
  br (x_3==(0:Int))
  (Q true h_2)
  (ldI .i64 h_2 (p_1.add 0) fun x_4=>
  Q (x_4==(1:Int)) h_2)
def carlingref16_right_S (ρ:Ids):Spec:=fun args h K=>
  (tG fun cells0 rest0=>(tI .i64 fun r0_0=>tI .u32 fun r0_1=>tL .u8 32 fun r0_2=>tN ((tN (carlingref16_right ρ r0_0 r0_1 r0_2 h (fun r0 h=>K (.bool r0) h))) rest0)) cells0) args
def carlingref16_May_K2 (ρ:Ids) (S1:Sl→Sl→Addr→Int→Hp→Prop) (Q:Bool→Hp→Prop) (l1:Sl) (c2:Sl) (s3:Addr) (i7:Int) (v61:Bool) (h:Hp):Prop:=
  br v61
  (Q false h)
  (S1 l1 c2 s3 (IntKind.wrap .i64 (i7+(1:Int))) h)
def carlingref16_May_B5 (ρ:Ids) (S3:Sl→Addr→Sl→Int→Hp→Prop) (S5:Sl→Addr→Sl→Int→Sl→Int→Hp→Prop) (Q:Bool→Hp→Prop) (l1:Sl) (s3:Addr) (need8:Sl) (i9:Int) (refs10:Sl) (k12:Int) (h:Hp):Prop:=
  br (decide (k12<(refs10.len:Int)))
  (ixW refs10.a refs10.len k12 34 fun p_35=>
  ldI .i64 h (p_35.add 0) fun x_36=>
  ldI .u32 h (p_35.add 1) fun x_37=>
  ldL .u8 32 h (p_35.add 2) fun x_38=>
  carlingref16_right ρ x_36 x_37 (nrm 32 x_38) h fun r_39 h_40=>
  br (!r_39)
  (Q false h_40)
  (S5 l1 s3 need8 i9 refs10 (IntKind.wrap .i64 (k12+(1:Int))) h_40))
  (S3 l1 s3 need8 (IntKind.wrap .i64 (i9+(1:Int))) h)
def carlingref16_May_L5 (ρ:Ids) (S3:Sl→Addr→Sl→Int→Hp→Prop) (Q:Bool→Hp→Prop) (l1:Sl) (s3:Addr) (need8:Sl) (i9:Int) (refs10:Sl) (k12:Int) (h:Hp):Prop:=
  Lfp (fun S vals h=>(tS fun l1=>tA fun s3=>tS fun need8=>tI .i64 fun i9=>tS fun refs10=>tI .i64 fun k12=>tN (carlingref16_May_B5 ρ S3 (fun l1 s3 need8 i9 refs10 k12 hh=>S [(.slice l1.a l1.len l1.cap),(.pointer (some s3)),(.slice need8.a need8.len need8.cap),(.int .i64 i9),(.slice refs10.a refs10.len refs10.cap),(.int .i64 k12)] hh) Q l1 s3 need8 i9 refs10 k12 h)) vals) [(.slice l1.a l1.len l1.cap),(.pointer (some s3)),(.slice need8.a need8.len need8.cap),(.int .i64 i9),(.slice refs10.a refs10.len refs10.cap),(.int .i64 k12)] h
theorem carlingref16_May_L5_in (ρ:Ids) (S3:Sl→Addr→Sl→Int→Hp→Prop) (Q:Bool→Hp→Prop) (l1:Sl) (s3:Addr) (need8:Sl) (i9:Int) (refs10:Sl) (k12:Int) (h:Hp) (H:carlingref16_May_B5 ρ S3 (carlingref16_May_L5 ρ S3 Q) Q l1 s3 need8 i9 refs10 k12 h):carlingref16_May_L5 ρ S3 Q l1 s3 need8 i9 refs10 k12 h:=lfp_in H
def carlingref16_May_K4 (ρ:Ids) (S3:Sl→Addr→Sl→Int→Hp→Prop) (Q:Bool→Hp→Prop) (l1:Sl) (s3:Addr) (need8:Sl) (i9:Int) (refs10:Sl) (v94:Bool) (h:Hp):Prop:=
  br v94
  (Q false h)
  (carlingref16_May_L5 ρ S3 Q l1 s3 need8 i9 refs10 (0:Int) h)
def carlingref16_May_B3 (ρ:Ids) (S3:Sl→Addr→Sl→Int→Hp→Prop) (Q:Bool→Hp→Prop) (l1:Sl) (s3:Addr) (need8:Sl) (i9:Int) (h:Hp):Prop:=
  br (decide (i9<(need8.len:Int)))
  (ixW need8.a need8.len i9 1 fun p_23=>
  ldI .i64 h p_23 fun x_24=>
  carlingref16_Find ρ l1 x_24 h fun r_25 r_26 h_27=>
  br (!r_26)
  (carlingref16_May_K4 ρ S3 Q l1 s3 need8 i9 r_25 true h_27)
  (ldI .i64 h_27 (s3.add 0) fun x_28=>
  ldS h_27 (s3.add 1) fun x_29=>
  ldS h_27 (s3.add 2) fun x_30=>
  ixW need8.a need8.len i9 1 fun p_31=>
  ldI .i64 h_27 p_31 fun x_32=>
  carlingref12_Shape_Kids ρ x_28 x_29 x_30 x_32 h_27 fun r_33 h_34=>
  (True)∧
  (carlingref16_May_K4 ρ S3 Q l1 s3 need8 i9 r_25 ((r_25.len:Int) !=(r_33.len:Int)) h_34)))
  (Q true h)
def carlingref16_May_L3 (ρ:Ids) (Q:Bool→Hp→Prop) (l1:Sl) (s3:Addr) (need8:Sl) (i9:Int) (h:Hp):Prop:=
  Lfp (fun S vals h=>(tS fun l1=>tA fun s3=>tS fun need8=>tI .i64 fun i9=>tN (carlingref16_May_B3 ρ (fun l1 s3 need8 i9 hh=>S [(.slice l1.a l1.len l1.cap),(.pointer (some s3)),(.slice need8.a need8.len need8.cap),(.int .i64 i9)] hh) Q l1 s3 need8 i9 h)) vals) [(.slice l1.a l1.len l1.cap),(.pointer (some s3)),(.slice need8.a need8.len need8.cap),(.int .i64 i9)] h
theorem carlingref16_May_L3_in (ρ:Ids) (Q:Bool→Hp→Prop) (l1:Sl) (s3:Addr) (need8:Sl) (i9:Int) (h:Hp) (H:carlingref16_May_B3 ρ (carlingref16_May_L3 ρ Q) Q l1 s3 need8 i9 h):carlingref16_May_L3 ρ Q l1 s3 need8 i9 h:=lfp_in H
def carlingref16_May_B1 (ρ:Ids) (S1:Sl→Sl→Addr→Int→Hp→Prop) (Q:Bool→Hp→Prop) (l1:Sl) (c2:Sl) (s3:Addr) (i7:Int) (h:Hp):Prop:=
  br (decide (i7<(c2.len:Int)))
  (ixW c2.a c2.len i7 2 fun p_3=>
  ldI .i64 h (p_3.add 0) fun x_4=>
  br (decide (x_4<(0:Int)))
  (carlingref16_May_K2 ρ S1 Q l1 c2 s3 i7 true h)
  (ixW c2.a c2.len i7 2 fun p_5=>
  ldI .i64 h (p_5.add 0) fun x_6=>
  ldI .i64 h (s3.add 0) fun x_7=>
  br (decide (x_6≥x_7))
  (carlingref16_May_K2 ρ S1 Q l1 c2 s3 i7 true h)
  (br (decide (i7>(0:Int)))
  (ixW c2.a c2.len (IntKind.wrap .i64 (i7 - (1:Int))) 2 fun p_8=>
  ldI .i64 h (p_8.add 0) fun x_9=>
  ixW c2.a c2.len i7 2 fun p_10=>
  ldI .i64 h (p_10.add 0) fun x_11=>
  br (decide (x_9≥x_11))
  (carlingref16_May_K2 ρ S1 Q l1 c2 s3 i7 true h)
  (ixW c2.a c2.len i7 2 fun p_12=>
  ldS h (p_12.add 1) fun x_13=>
  carlingref16_May_K2 ρ S1 Q l1 c2 s3 i7 ((x_13.len:Int) !=(256:Int)) h))
  (ixW c2.a c2.len i7 2 fun p_14=>
  ldS h (p_14.add 1) fun x_15=>
  carlingref16_May_K2 ρ S1 Q l1 c2 s3 i7 ((x_15.len:Int) !=(256:Int)) h))))
  (ldI .i64 h (s3.add 0) fun x_16=>
  ldS h (s3.add 1) fun x_17=>
  ldS h (s3.add 2) fun x_18=>
  carlingref16_pages ρ c2 h fun r_19 h_20=>
  (hcell h_20 (s3.add 0)=some (.int .i64 x_16)∧(hcell h_20 (s3.add 1)=some (.slice x_17.a x_17.len x_17.cap)∧(hcell h_20 (s3.add 2)=some (.slice x_18.a x_18.len x_18.cap)∧(True))))∧
  (carlingref16_Need ρ x_16 x_17 x_18 r_19 h_20 fun r_21 h_22=>
  carlingref16_May_L3 ρ Q l1 s3 r_21 (0:Int) h_22))
def carlingref16_May_L1 (ρ:Ids) (Q:Bool→Hp→Prop) (l1:Sl) (c2:Sl) (s3:Addr) (i7:Int) (h:Hp):Prop:=
  Lfp (fun S vals h=>(tS fun l1=>tS fun c2=>tA fun s3=>tI .i64 fun i7=>tN (carlingref16_May_B1 ρ (fun l1 c2 s3 i7 hh=>S [(.slice l1.a l1.len l1.cap),(.slice c2.a c2.len c2.cap),(.pointer (some s3)),(.int .i64 i7)] hh) Q l1 c2 s3 i7 h)) vals) [(.slice l1.a l1.len l1.cap),(.slice c2.a c2.len c2.cap),(.pointer (some s3)),(.int .i64 i7)] h
theorem carlingref16_May_L1_in (ρ:Ids) (Q:Bool→Hp→Prop) (l1:Sl) (c2:Sl) (s3:Addr) (i7:Int) (h:Hp) (H:carlingref16_May_B1 ρ (carlingref16_May_L1 ρ Q) Q l1 c2 s3 i7 h):carlingref16_May_L1 ρ Q l1 c2 s3 i7 h:=lfp_in H
def carlingref16_May (ρ:Ids) (s0_0:Int) (s0_1:Sl) (s0_2:Sl) (l1:Sl) (c2:Sl) (h:Hp) (Q:Bool→Hp→Prop):Prop:=
  alW h (ρ.T 12) [(.int .i64 s0_0),(.slice s0_1.a s0_1.len s0_1.cap),(.slice s0_2.a s0_2.len s0_2.cap)] fun p_1 h_2=>
  carlingref16_May_L1 ρ Q l1 c2 p_1 (0:Int) h_2
def carlingref16_May_S (ρ:Ids):Spec:=fun args h K=>
  (tG fun cells0 rest0=>(tI .i64 fun s0_0=>tS fun s0_1=>tS fun s0_2=>tN ((tS fun l1=>tS fun c2=>tN (carlingref16_May ρ s0_0 s0_1 s0_2 l1 c2 h (fun r0 h=>K (.bool r0) h))) rest0)) cells0) args
def carlinglaw16_full_B1 (ρ:Ids) (S1:Sl→Sl→Int→Int→Hp→Prop) (Q:Sl→Hp→Prop) (out3:Sl) (v7:Sl) (v8:Int) (v9:Int) (h:Hp):Prop:=
  br (decide (v9<v8))
  (ixW v7.a v7.len v9 2 fun p_1=>
  ldI .i64 h (p_1.add 0) fun x_2=>
  ldS h (p_1.add 1) fun x_3=>
  alW h (ρ.T 13) [(.int .i64 (0:Int)),(.slice none 0 0)] fun p_4 h_5=>
  stAll h_5 p_4 0 [(.int .i64 x_2),(.slice x_3.a x_3.len x_3.cap)] fun h_6=>
  mkW (ρ.T 1) 1 1 (.int .u8 (0:Int)) h_6 (256:Int) (256:Int) fun s_7 h_8=>
  ldS h_8 (p_4.add 1) fun x_9=>
  cpW 1 h_8 s_7 x_9 fun n_10 h_11=>
  ldI .i64 h_11 (p_4.add 0) fun x_12=>
  alW h_11 (ρ.T 13) [(.int .i64 x_12),(.slice s_7.a s_7.len s_7.cap)] fun p_13 h_14=>
  apW (ρ.T 13) 2 32 (.agg [(.int .i64 (0:Int)),(.slice none 0 0)].toArray) h_14 out3 (⟨some p_13,1,1⟩:Sl) fun s_15 h_16=>
  S1 s_15 v7 v8 (IntKind.wrap .i64 (v9+(1:Int))) h_16)
  (Q out3 h)
def carlinglaw16_full_L1 (ρ:Ids) (Q:Sl→Hp→Prop) (out3:Sl) (v7:Sl) (v8:Int) (v9:Int) (h:Hp):Prop:=
  Lfp (fun S vals h=>(tS fun out3=>tS fun v7=>tI .i64 fun v8=>tI .i64 fun v9=>tN (carlinglaw16_full_B1 ρ (fun out3 v7 v8 v9 hh=>S [(.slice out3.a out3.len out3.cap),(.slice v7.a v7.len v7.cap),(.int .i64 v8),(.int .i64 v9)] hh) Q out3 v7 v8 v9 h)) vals) [(.slice out3.a out3.len out3.cap),(.slice v7.a v7.len v7.cap),(.int .i64 v8),(.int .i64 v9)] h
theorem carlinglaw16_full_L1_in (ρ:Ids) (Q:Sl→Hp→Prop) (out3:Sl) (v7:Sl) (v8:Int) (v9:Int) (h:Hp) (H:carlinglaw16_full_B1 ρ (carlinglaw16_full_L1 ρ Q) Q out3 v7 v8 v9 h):carlinglaw16_full_L1 ρ Q out3 v7 v8 v9 h:=lfp_in H
def carlinglaw16_full (ρ:Ids) (l0:Sl) (h:Hp) (Q:Sl→Hp→Prop):Prop:=
  carlinglaw16_full_L1 ρ Q (⟨none,0,0⟩:Sl) l0 (l0.len:Int) (0:Int) h
def carlinglaw16_full_S (ρ:Ids):Spec:=fun args h K=>
  (tS fun l0=>tN (carlinglaw16_full ρ l0 h (fun r0 h=>K (.slice r0.a r0.len r0.cap) h))) args
def carlinglaw16_CommitNeeds_K5 (ρ:Ids) (S4:Sl→Sl→Addr→Addr→Int→Int→Hp→Prop) (Q:Bool→Hp→Prop) (l1:Sl) (c2:Sl) (s8:Addr) (h10:Addr) (v89:Int) (v90:Int) (v118:Bool) (h:Hp):Prop:=
  br v118
  (Q false h)
  (S4 l1 c2 s8 h10 v89 (IntKind.wrap .i64 (v90+(1:Int))) h)
def carlinglaw16_CommitNeeds_B4 (ρ:Ids) (S4:Sl→Sl→Addr→Addr→Int→Int→Hp→Prop) (Q:Bool→Hp→Prop) (l1:Sl) (c2:Sl) (s8:Addr) (h10:Addr) (v89:Int) (v90:Int) (h:Hp):Prop:=
  br (decide (v90<v89))
  (carlinglaw16_theirs ρ l1 h fun r_45 h_46=>
  commit_Find ρ r_45 v90 h_46 fun r_47 r_48 h_49=>
  carlingref16_Find ρ l1 v90 h_49 fun r_50 r_51 h_52=>
  br (!(r_48==r_51))
  (carlinglaw16_CommitNeeds_K5 ρ S4 Q l1 c2 s8 h10 v89 v90 true h_52)
  (alW h_52 (ρ.T 14) [(.int .i64 (0:Int)),(.slice r_47.a r_47.len r_47.cap)] fun p_53 h_54=>
  alW h_54 (ρ.T 15) [(.int .i64 (0:Int)),(.slice r_50.a r_50.len r_50.cap)] fun p_55 h_56=>
  carlinglaw16_same ρ (⟨some p_53,1,1⟩:Sl) (⟨some p_55,1,1⟩:Sl) h_56 fun r_57 h_58=>
  carlinglaw16_CommitNeeds_K5 ρ S4 Q l1 c2 s8 h10 v89 v90 (!r_57) h_58))
  (ldS h (s8.add 0) fun x_59=>
  ldI .i64 h (h10.add 0) fun x_60=>
  ldS h (h10.add 1) fun x_61=>
  ldS h (h10.add 2) fun x_62=>
  carlinglaw16_theirs ρ l1 h fun r_63 h_64=>
  (hcell h_64 (h10.add 0)=some (.int .i64 x_60)∧(hcell h_64 (h10.add 1)=some (.slice x_61.a x_61.len x_61.cap)∧(hcell h_64 (h10.add 2)=some (.slice x_62.a x_62.len x_62.cap)∧(True))))∧
  ((hcell h_64 (s8.add 0)=some (.slice x_59.a x_59.len x_59.cap)∧(True))∧
  (carlinglaw16_changed ρ c2 h_64 fun r_65 h_66=>
  (hcell h_66 (h10.add 0)=some (.int .i64 x_60)∧(hcell h_66 (h10.add 1)=some (.slice x_61.a x_61.len x_61.cap)∧(hcell h_66 (h10.add 2)=some (.slice x_62.a x_62.len x_62.cap)∧(True))))∧
  ((hcell h_66 (s8.add 0)=some (.slice x_59.a x_59.len x_59.cap)∧(True))∧
  (commit_May ρ x_59 r_63 r_65 h_66 fun r_67 h_68=>
  (hcell h_68 (h10.add 0)=some (.int .i64 x_60)∧(hcell h_68 (h10.add 1)=some (.slice x_61.a x_61.len x_61.cap)∧(hcell h_68 (h10.add 2)=some (.slice x_62.a x_62.len x_62.cap)∧(True))))∧
  (carlingref16_May ρ x_60 x_61 x_62 l1 c2 h_68 fun r_69 h_70=>
  br (r_67==r_69)
  (ldS h_70 (s8.add 0) fun x_71=>
  ldI .i64 h_70 (h10.add 0) fun x_72=>
  ldS h_70 (h10.add 1) fun x_73=>
  ldS h_70 (h10.add 2) fun x_74=>
  carlinglaw16_theirs ρ l1 h_70 fun r_75 h_76=>
  (hcell h_76 (h10.add 0)=some (.int .i64 x_72)∧(hcell h_76 (h10.add 1)=some (.slice x_73.a x_73.len x_73.cap)∧(hcell h_76 (h10.add 2)=some (.slice x_74.a x_74.len x_74.cap)∧(True))))∧
  ((hcell h_76 (s8.add 0)=some (.slice x_71.a x_71.len x_71.cap)∧(True))∧
  (carlinglaw16_full ρ c2 h_76 fun r_77 h_78=>
  (hcell h_78 (h10.add 0)=some (.int .i64 x_72)∧(hcell h_78 (h10.add 1)=some (.slice x_73.a x_73.len x_73.cap)∧(hcell h_78 (h10.add 2)=some (.slice x_74.a x_74.len x_74.cap)∧(True))))∧
  ((hcell h_78 (s8.add 0)=some (.slice x_71.a x_71.len x_71.cap)∧(True))∧
  (carlinglaw16_changed ρ r_77 h_78 fun r_79 h_80=>
  (hcell h_80 (h10.add 0)=some (.int .i64 x_72)∧(hcell h_80 (h10.add 1)=some (.slice x_73.a x_73.len x_73.cap)∧(hcell h_80 (h10.add 2)=some (.slice x_74.a x_74.len x_74.cap)∧(True))))∧
  ((hcell h_80 (s8.add 0)=some (.slice x_71.a x_71.len x_71.cap)∧(True))∧
  (commit_May ρ x_71 r_75 r_79 h_80 fun r_81 h_82=>
  (hcell h_82 (h10.add 0)=some (.int .i64 x_72)∧(hcell h_82 (h10.add 1)=some (.slice x_73.a x_73.len x_73.cap)∧(hcell h_82 (h10.add 2)=some (.slice x_74.a x_74.len x_74.cap)∧(True))))∧
  (carlinglaw16_full ρ c2 h_82 fun r_83 h_84=>
  (hcell h_84 (h10.add 0)=some (.int .i64 x_72)∧(hcell h_84 (h10.add 1)=some (.slice x_73.a x_73.len x_73.cap)∧(hcell h_84 (h10.add 2)=some (.slice x_74.a x_74.len x_74.cap)∧(True))))∧
  (carlingref16_May ρ x_72 x_73 x_74 l1 r_83 h_84 fun r_85 h_86=>
  br (r_81==r_85)
  (carlinglaw16_alive ρ h_86 fun r_87 h_88=>
  Q r_87 h_88)
  (Q false h_86))))))))))
  (Q false h_70)))))))
def carlinglaw16_CommitNeeds_L4 (ρ:Ids) (Q:Bool→Hp→Prop) (l1:Sl) (c2:Sl) (s8:Addr) (h10:Addr) (v89:Int) (v90:Int) (h:Hp):Prop:=
  Lfp (fun S vals h=>(tS fun l1=>tS fun c2=>tA fun s8=>tA fun h10=>tI .i64 fun v89=>tI .i64 fun v90=>tN (carlinglaw16_CommitNeeds_B4 ρ (fun l1 c2 s8 h10 v89 v90 hh=>S [(.slice l1.a l1.len l1.cap),(.slice c2.a c2.len c2.cap),(.pointer (some s8)),(.pointer (some h10)),(.int .i64 v89),(.int .i64 v90)] hh) Q l1 c2 s8 h10 v89 v90 h)) vals) [(.slice l1.a l1.len l1.cap),(.slice c2.a c2.len c2.cap),(.pointer (some s8)),(.pointer (some h10)),(.int .i64 v89),(.int .i64 v90)] h
theorem carlinglaw16_CommitNeeds_L4_in (ρ:Ids) (Q:Bool→Hp→Prop) (l1:Sl) (c2:Sl) (s8:Addr) (h10:Addr) (v89:Int) (v90:Int) (h:Hp) (H:carlinglaw16_CommitNeeds_B4 ρ (carlinglaw16_CommitNeeds_L4 ρ Q) Q l1 c2 s8 h10 v89 v90 h):carlinglaw16_CommitNeeds_L4 ρ Q l1 c2 s8 h10 v89 v90 h:=lfp_in H
def carlinglaw16_CommitNeeds_B3 (ρ:Ids) (S3:Sl→Sl→Addr→Addr→Sl→Sl→Int→Int→Hp→Prop) (Q:Bool→Hp→Prop) (l1:Sl) (c2:Sl) (s8:Addr) (h10:Addr) (a15:Sl) (b16:Sl) (v73:Int) (v74:Int) (h:Hp):Prop:=
  br (decide (v74<v73))
  (ixW a15.a a15.len v74 1 fun p_38=>
  ldI .i64 h p_38 fun x_39=>
  ixW b16.a b16.len v74 1 fun p_40=>
  ldI .i64 h p_40 fun x_41=>
  br (x_39 !=x_41)
  (Q false h)
  (S3 l1 c2 s8 h10 a15 b16 v73 (IntKind.wrap .i64 (v74+(1:Int))) h))
  (ldS h (s8.add 0) fun x_42=>
  shape_Shape_Items ρ x_42 h fun r_43 h_44=>
  carlinglaw16_CommitNeeds_L4 ρ Q l1 c2 s8 h10 (IntKind.wrap .i64 (r_43+(1:Int))) (0:Int) h_44)
def carlinglaw16_CommitNeeds_L3 (ρ:Ids) (Q:Bool→Hp→Prop) (l1:Sl) (c2:Sl) (s8:Addr) (h10:Addr) (a15:Sl) (b16:Sl) (v73:Int) (v74:Int) (h:Hp):Prop:=
  Lfp (fun S vals h=>(tS fun l1=>tS fun c2=>tA fun s8=>tA fun h10=>tS fun a15=>tS fun b16=>tI .i64 fun v73=>tI .i64 fun v74=>tN (carlinglaw16_CommitNeeds_B3 ρ (fun l1 c2 s8 h10 a15 b16 v73 v74 hh=>S [(.slice l1.a l1.len l1.cap),(.slice c2.a c2.len c2.cap),(.pointer (some s8)),(.pointer (some h10)),(.slice a15.a a15.len a15.cap),(.slice b16.a b16.len b16.cap),(.int .i64 v73),(.int .i64 v74)] hh) Q l1 c2 s8 h10 a15 b16 v73 v74 h)) vals) [(.slice l1.a l1.len l1.cap),(.slice c2.a c2.len c2.cap),(.pointer (some s8)),(.pointer (some h10)),(.slice a15.a a15.len a15.cap),(.slice b16.a b16.len b16.cap),(.int .i64 v73),(.int .i64 v74)] h
theorem carlinglaw16_CommitNeeds_L3_in (ρ:Ids) (Q:Bool→Hp→Prop) (l1:Sl) (c2:Sl) (s8:Addr) (h10:Addr) (a15:Sl) (b16:Sl) (v73:Int) (v74:Int) (h:Hp) (H:carlinglaw16_CommitNeeds_B3 ρ (carlinglaw16_CommitNeeds_L3 ρ Q) Q l1 c2 s8 h10 a15 b16 v73 v74 h):carlinglaw16_CommitNeeds_L3 ρ Q l1 c2 s8 h10 a15 b16 v73 v74 h:=lfp_in H
def carlinglaw16_CommitNeeds_B2 (ρ:Ids) (S2:Sl→Sl→Addr→Addr→Sl→Sl→Int→Int→Hp→Prop) (Q:Bool→Hp→Prop) (l1:Sl) (c2:Sl) (s8:Addr) (h10:Addr) (list12:Sl) (v49:Sl) (v50:Int) (v51:Int) (h:Hp):Prop:=
  br (decide (v51<v50))
  (ixW v49.a v49.len v51 2 fun p_19=>
  ldI .i64 h (p_19.add 0) fun x_20=>
  ldS h (p_19.add 1) fun x_21=>
  alW h (ρ.T 13) [(.int .i64 (0:Int)),(.slice none 0 0)] fun p_22 h_23=>
  stAll h_23 p_22 0 [(.int .i64 x_20),(.slice x_21.a x_21.len x_21.cap)] fun h_24=>
  ldI .i64 h_24 (p_22.add 0) fun x_25=>
  alW h_24 (ρ.T 0) [(.int .i64 x_25)] fun p_26 h_27=>
  apW (ρ.T 0) 1 8 (.int .i64 (0:Int)) h_27 list12 (⟨some p_26,1,1⟩:Sl) fun s_28 h_29=>
  S2 l1 c2 s8 h10 s_28 v49 v50 (IntKind.wrap .i64 (v51+(1:Int))) h_29)
  (ldS h (s8.add 0) fun x_30=>
  ldI .i64 h (h10.add 0) fun x_31=>
  ldS h (h10.add 1) fun x_32=>
  ldS h (h10.add 2) fun x_33=>
  commit_Need ρ x_30 list12 h fun r_34 h_35=>
  (hcell h_35 (h10.add 0)=some (.int .i64 x_31)∧(hcell h_35 (h10.add 1)=some (.slice x_32.a x_32.len x_32.cap)∧(hcell h_35 (h10.add 2)=some (.slice x_33.a x_33.len x_33.cap)∧(True))))∧
  (carlingref16_Need ρ x_31 x_32 x_33 list12 h_35 fun r_36 h_37=>
  br ((r_34.len:Int) !=(r_36.len:Int))
  (Q false h_37)
  (carlinglaw16_CommitNeeds_L3 ρ Q l1 c2 s8 h10 r_34 r_36 (r_34.len:Int) (0:Int) h_37)))
def carlinglaw16_CommitNeeds_L2 (ρ:Ids) (Q:Bool→Hp→Prop) (l1:Sl) (c2:Sl) (s8:Addr) (h10:Addr) (list12:Sl) (v49:Sl) (v50:Int) (v51:Int) (h:Hp):Prop:=
  Lfp (fun S vals h=>(tS fun l1=>tS fun c2=>tA fun s8=>tA fun h10=>tS fun list12=>tS fun v49=>tI .i64 fun v50=>tI .i64 fun v51=>tN (carlinglaw16_CommitNeeds_B2 ρ (fun l1 c2 s8 h10 list12 v49 v50 v51 hh=>S [(.slice l1.a l1.len l1.cap),(.slice c2.a c2.len c2.cap),(.pointer (some s8)),(.pointer (some h10)),(.slice list12.a list12.len list12.cap),(.slice v49.a v49.len v49.cap),(.int .i64 v50),(.int .i64 v51)] hh) Q l1 c2 s8 h10 list12 v49 v50 v51 h)) vals) [(.slice l1.a l1.len l1.cap),(.slice c2.a c2.len c2.cap),(.pointer (some s8)),(.pointer (some h10)),(.slice list12.a list12.len list12.cap),(.slice v49.a v49.len v49.cap),(.int .i64 v50),(.int .i64 v51)] h
theorem carlinglaw16_CommitNeeds_L2_in (ρ:Ids) (Q:Bool→Hp→Prop) (l1:Sl) (c2:Sl) (s8:Addr) (h10:Addr) (list12:Sl) (v49:Sl) (v50:Int) (v51:Int) (h:Hp) (H:carlinglaw16_CommitNeeds_B2 ρ (carlinglaw16_CommitNeeds_L2 ρ Q) Q l1 c2 s8 h10 list12 v49 v50 v51 h):carlinglaw16_CommitNeeds_L2 ρ Q l1 c2 s8 h10 list12 v49 v50 v51 h:=lfp_in H
def carlinglaw16_CommitNeeds_K1 (ρ:Ids) (Q:Bool→Hp→Prop) (l1:Sl) (c2:Sl) (s8:Addr) (e9:Int) (h10:Addr) (v43:Bool) (h:Hp):Prop:=
  br v43
  (br (e9==(0:Int))
  (carlinglaw16_alive ρ h fun r_17 h_18=>
  Q r_17 h_18)
  (Q false h))
  (carlinglaw16_CommitNeeds_L2 ρ Q l1 c2 s8 h10 (⟨none,0,0⟩:Sl) c2 (c2.len:Int) (0:Int) h)
def carlinglaw16_CommitNeeds (ρ:Ids) (pages0:Int) (l1:Sl) (c2:Sl) (h:Hp) (Q:Bool→Hp→Prop):Prop:=
  ((14:Int) ≠ 0)∧
  shape_New ρ (IntKind.wrap .i64 ((Int.tmod (IntKind.wrap .i64 pages0) (14:Int))+(1:Int))) h fun r_1 r_2 h_3=>
  alW h_3 (ρ.T 11) [(.slice none 0 0)] fun p_4 h_5=>
  st h_5 (p_4.add 0) (.slice r_1.a r_1.len r_1.cap) fun h_6=>
  carlingref12_New ρ (IntKind.wrap .i64 ((Int.tmod (IntKind.wrap .i64 pages0) (14:Int))+(1:Int))) h_6 fun r_7 r_8 r_9 r_10 h_11=>
  alW h_11 (ρ.T 12) [(.int .i64 (0:Int)),(.slice none 0 0),(.slice none 0 0)] fun p_12 h_13=>
  stAll h_13 p_12 0 [(.int .i64 r_7),(.slice r_8.a r_8.len r_8.cap),(.slice r_9.a r_9.len r_9.cap)] fun h_14=>
  carlinglaw16_far ρ l1 c2 h_14 fun r_15 h_16=>
  br r_15
  (carlinglaw16_CommitNeeds_K1 ρ Q l1 c2 p_4 r_2 p_12 true h_16)
  (carlinglaw16_CommitNeeds_K1 ρ Q l1 c2 p_4 r_2 p_12 (r_2 !=(0:Int)) h_16)
def carlinglaw16_CommitNeeds_S (ρ:Ids):Spec:=fun args h K=>
  (tI .u8 fun pages0=>tS fun l1=>tS fun c2=>tN (carlinglaw16_CommitNeeds ρ pages0 l1 c2 h (fun r0 h=>K (.bool r0) h))) args
end Go.Tx
