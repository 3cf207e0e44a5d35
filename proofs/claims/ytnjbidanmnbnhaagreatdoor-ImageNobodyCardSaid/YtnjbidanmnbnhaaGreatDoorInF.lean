import Derived.Test.YtnjbidanmnbnhaaGreatDoorInB
import Derived.Test.YtnjbidanmnbnhaaGreatDoorInG
set_option linter.unusedVariables false
set_option linter.unusedSimpArgs false
set_option maxHeartbeats 4000000
set_option maxRecDepth 100000
namespace Go.Pt
open Go Go.Wc Go.Pu
variable {ρ:Ids} {h:Hp} {A:List At}
structure sha_State where
  h:Vector Int 8
  rest:List Int
  n:Int
  deriving DecidableEq
inductive Obj where
  | none_
def sha_New (Q:sha_State→Prop):Prop:=
  Q (⟨(Vector.replicate 8 (0:Int)),([]:List Int),(0:Int)⟩:sha_State)
theorem sha_New_r {Q':sha_State→Prop} {Q:List Int→Sl→Int→Hp→Prop} (I:Inv h (A)) (H:sha_New Q')
    (k: ∀ (r0:sha_State) (ra0_1:Option Addr) (rc0_1:Nat) (h':Hp),Inv h' (roS (rI .u8) ra0_1 r0.rest.length rc0_1 r0.rest::A)→Q' r0→Q r0.h.toList ⟨ra0_1,r0.rest.length,rc0_1⟩ r0.n h'):Tx.sha_New ρ h Q:=by
  unfold Tx.sha_New
  unfold sha_New at H
  refine al_r [.vec .u32 8 (Vector.replicate 8 (0:Int)), .one (.slice none 0 0), .one (.int .u64 (0:Int))] rfl I fun p_1 h I=> ?_
  refine stA_r I 0 3 0 [.vec .u32 8 (Vector.replicate 8 (0:Int)), .one (.slice none 0 0), .one (.int .u64 (0:Int))] rfl rfl rfl (by first | exact all_segs rfl | exact all_one (by simp [segs,Seg.cells,allOne,allOne_append,allOne_lump,Value.oneCell'])) fun h (I:Inv h (blk p_1 (ρ.T 27) [.vec .u32 8 (Vector.replicate 8 (0:Int)), .one (.slice none 0 0), .one (.int .u64 (0:Int))]::_))=> ?_
  refine ldL_r (I.lump 0 0 rfl) ?_
  refine ldS_r (I.cell 1 8 rfl) ?_
  refine ldI_r (I.cell 2 9 rfl) ?_
  try simp only [nrm_v]
  replace I:=I.nilR (rI .u8)
  replace I:=I.pull1.drop1
  exact k (⟨(Vector.replicate 8 (0:Int)),([]:List Int),(0:Int)⟩:sha_State) none 0 _ I H
def sha_first (Q:(Vector Int 8)→Prop):Prop:=
  Q (#v[(1779033703:Int),(3144134277:Int),(1013904242:Int),(2773480762:Int),(1359893119:Int),(2600822924:Int),(528734635:Int),(1541459225:Int)])
theorem sha_first_r {Q':(Vector Int 8)→Prop} {Q:List Int→Hp→Prop} (I:Inv h (A)) (H:sha_first Q')
    (k: ∀ (r0:Vector Int 8) (h':Hp),Inv h' (A)→Q' r0→Q r0.toList h'):Tx.sha_first ρ h Q:=by
  unfold Tx.sha_first
  unfold sha_first at H
  refine al_r [.vec .u32 8 (Vector.replicate 8 (0:Int))] rfl I fun p_1 h I=> ?_
  refine stA_r I 0 1 0 [.vec .u32 8 (#v[(1779033703:Int),(3144134277:Int),(1013904242:Int),(2773480762:Int),(1359893119:Int),(2600822924:Int),(528734635:Int),(1541459225:Int)])] rfl rfl rfl (by first | exact all_segs rfl | exact all_one (by simp [segs,Seg.cells,allOne,allOne_append,allOne_lump,Value.oneCell'])) fun h (I:Inv h (blk p_1 (ρ.T 28) [.vec .u32 8 (#v[(1779033703:Int),(3144134277:Int),(1013904242:Int),(2773480762:Int),(1359893119:Int),(2600822924:Int),(528734635:Int),(1541459225:Int)])]::_))=> ?_
  refine ldL_r (I.lump 0 0 rfl) ?_
  try simp only [nrm_v]
  replace I:=I.drop1
  exact k (#v[(1779033703:Int),(3144134277:Int),(1013904242:Int),(2773480762:Int),(1359893119:Int),(2600822924:Int),(528734635:Int),(1541459225:Int)]) _ I H
def math_bits_RotateLeft32 (x0:Int) (k1:Int) (Q:Int→Prop):Prop:=
  (0≤(IntKind.wrap .u64 (((BitVec.ofInt (IntKind.bits .u64) (IntKind.wrap .u64 k1) &&& (BitVec.ofInt (IntKind.bits .u64) (31:Int))).toNat:Int))))∧
  (0≤(IntKind.wrap .u64 ((32:Int) - (IntKind.wrap .u64 (((BitVec.ofInt (IntKind.bits .u64) (IntKind.wrap .u64 k1) &&& (BitVec.ofInt (IntKind.bits .u64) (31:Int))).toNat:Int))))))∧
  Q (IntKind.wrap .u32 (((BitVec.ofInt (IntKind.bits .u32) (IntKind.wrap .u32 (x0*2 ^ (min (Int.toNat (IntKind.wrap .u64 (((BitVec.ofInt (IntKind.bits .u64) (IntKind.wrap .u64 k1) &&& (BitVec.ofInt (IntKind.bits .u64) (31:Int))).toNat:Int)))) (IntKind.bits .u32)))) ||| (BitVec.ofInt (IntKind.bits .u32) (Int.fdiv x0 (2 ^ (min (Int.toNat (IntKind.wrap .u64 ((32:Int) - (IntKind.wrap .u64 (((BitVec.ofInt (IntKind.bits .u64) (IntKind.wrap .u64 k1) &&& (BitVec.ofInt (IntKind.bits .u64) (31:Int))).toNat:Int)))))) (IntKind.bits .u32)))))).toNat:Int)))
theorem math_bits_RotateLeft32_r {x0:Int} {k1:Int} {Q':Int→Prop} {Q:Int→Hp→Prop} (I:Inv h (A)) (H:math_bits_RotateLeft32 x0 k1 Q')
    (k: ∀ (r0:Int) (h':Hp),Inv h' (A)→Q' r0→Q r0 h'):Tx.math_bits_RotateLeft32 ρ x0 k1 h Q:=by
  unfold Tx.math_bits_RotateLeft32
  unfold math_bits_RotateLeft32 at H
  refine and_r H fun H=> ?_
  refine and_r H fun H=> ?_
  exact k (IntKind.wrap .u32 (((BitVec.ofInt (IntKind.bits .u32) (IntKind.wrap .u32 (x0*2 ^ (min (Int.toNat (IntKind.wrap .u64 (((BitVec.ofInt (IntKind.bits .u64) (IntKind.wrap .u64 k1) &&& (BitVec.ofInt (IntKind.bits .u64) (31:Int))).toNat:Int)))) (IntKind.bits .u32)))) ||| (BitVec.ofInt (IntKind.bits .u32) (Int.fdiv x0 (2 ^ (min (Int.toNat (IntKind.wrap .u64 ((32:Int) - (IntKind.wrap .u64 (((BitVec.ofInt (IntKind.bits .u64) (IntKind.wrap .u64 k1) &&& (BitVec.ofInt (IntKind.bits .u64) (31:Int))).toNat:Int)))))) (IntKind.bits .u32)))))).toNat:Int))) _ I H
def sha_Turn (x0:Int) (n1:Int) (Q:Int→Prop):Prop:=
  math_bits_RotateLeft32 x0 (IntKind.wrap .i64 (0 - (Int.tmod n1 (32:Int)))) fun r_1=>
  Q r_1
theorem sha_Turn_r {x0:Int} {n1:Int} {Q':Int→Prop} {Q:Int→Hp→Prop} (I:Inv h (A)) (H:sha_Turn x0 n1 Q')
    (k: ∀ (r0:Int) (h':Hp),Inv h' (A)→Q' r0→Q r0 h'):Tx.sha_Turn ρ x0 n1 h Q:=by
  unfold Tx.sha_Turn
  unfold sha_Turn at H
  refine ⟨by decide, ?_⟩
  refine math_bits_RotateLeft32_r (x0:=x0) (k1:=(IntKind.wrap .i64 (0 - (Int.tmod n1 (32:Int))))) I H fun r_1 h I H=> ?_
  exact k r_1 _ I H
namespace sha_join
structure V where
  w3:Int
  v6:List Int
  v7:Int
  v8:Int
structure W where
  a_v6:Option Addr
  c_v6:Nat
def v0:V:=⟨0,[],0,0⟩
def w0:W:=⟨none,0⟩
abbrev QT:=Int→Prop
abbrev RT:=Int→Hp→Prop
def kt (ρ:Ids) (X_b0:At) (A:List At) (Q':QT) (Q:RT):Prop:=
  ∀ (r0:Int) (h':Hp),Inv h' (X_b0::A)→Q' r0→Q r0 h'
def I1 (ρ:Ids) (X_b0:At) (c:V) (w:W) (A:List At) (h:Hp):Prop:=
  Rd (rI .u8) X_b0 w.a_v6 c.v6.length w.c_v6 c.v6∧Inv h (X_b0::A)
abbrev Y1:=Int→Sl→Int→Int→Hp→Prop
abbrev T1 (X_b0:At) (S:Y1) (c:V) (w:W) (h:Hp):Prop:=S c.w3 ⟨w.a_v6,c.v6.length,w.c_v6⟩ c.v7 c.v8 h
def k1t (ρ:Ids) (X_b0:At) (A:List At) (S':V→Prop) (S:Y1):Prop:= ∀ (c:V) (w:W) (h:Hp),I1 ρ X_b0 c w A h→S' c→T1 X_b0 S c w h
variable {X_b0:At} {c:V} {w:W} {Q':QT} {Q:RT} {S1':V→Prop} {S1:Y1}
def B1 (S1:V→Prop) (Q:QT) (c:V):Prop:=
  br (decide (c.v8<c.v7))
  (ixP c.v6 c.v8 fun x_3=>
  S1 {c with w3:=(IntKind.wrap .u32 (((BitVec.ofInt (IntKind.bits .u32) (IntKind.wrap .u32 (c.w3*2 ^ (min (Int.toNat (8:Int)) (IntKind.bits .u32)))) ||| (BitVec.ofInt (IntKind.bits .u32) (IntKind.wrap .u32 x_3))).toNat:Int))),v8:=(IntKind.wrap .i64 (c.v8+(1:Int)))})
  (Q c.w3)
def L1 (Q:QT) (c:V):Prop:=Lf (fun S=>B1 S Q) c
theorem L1_in {Q:QT} {c:V} (H:B1 (L1 Q) Q c):L1 Q c:=Lf.fold H
theorem B1_r (I:I1 ρ X_b0 c w A h) (H:B1 S1' Q' c) (kS1:k1t ρ X_b0 A S1' S1) (k:kt ρ X_b0 A Q' Q):T1 X_b0 (Tx.sha_join_B1 ρ S1 Q) c w h:=by
  obtain ⟨hX_v6,I⟩:=I
  unfold T1 Tx.sha_join_B1
  unfold B1 at H
  refine br_r H (fun hb H=> ?_) (fun hb H=> ?_)
  · refine ixI_a hX_v6 I (ixP_keep H) fun p_4 x_3 he_5 hb_6 hc_7 H => ?_
    obtain ⟨hg_8,H⟩:=H
    refine ldI_r hc_7 ?_
    refine ⟨by decide, ?_⟩
    exact kS1 {c with w3:=(IntKind.wrap .u32 (((BitVec.ofInt (IntKind.bits .u32) (IntKind.wrap .u32 (c.w3*2 ^ (min (Int.toNat (8:Int)) (IntKind.bits .u32)))) ||| (BitVec.ofInt (IntKind.bits .u32) (IntKind.wrap .u32 x_3))).toNat:Int))),v8:=(IntKind.wrap .i64 (c.v8+(1:Int)))} w _ ⟨hX_v6,I⟩ H
  · exact k c.w3 _ I H
theorem L1_r (I:I1 ρ X_b0 c w A h) (H:L1 Q' c) (k:kt ρ X_b0 A Q' Q):T1 X_b0 (Tx.sha_join_L1 ρ Q) c w h:=by
  refine Lf.ind H (fun v=> ∀ (w:W) (h:Hp),I1 ρ X_b0 v w A h→T1 X_b0 (Tx.sha_join_L1 ρ Q) v w h) ?_ w h I
  rintro c S hS HB w h I
  refine Tx.sha_join_L1_in _ _ _ _ _ _ _ ?_
  try simp only [nrm_v]
  exact B1_r (c:=c) (w:=w) I HB (fun c w h I H=>hS _ H w h I) k
end sha_join
def sha_join (b0:List Int) (Q:sha_join.QT):Prop:=
  sha_join.L1 Q {sha_join.v0 with w3:=(0:Int),v6:=b0,v7:=(b0.length:Int),v8:=(0:Int)}
theorem sha_join_r {b0:List Int} {a_b0:Option Addr} {c_b0:Nat} {n_b0:Nat} {X_b0:At} {Q':sha_join.QT} {Q:sha_join.RT} (hX_b0:Rd (rI .u8) X_b0 a_b0 n_b0 c_b0 b0) (I:Inv h (X_b0::A)) (H:sha_join b0 Q')
    (k:sha_join.kt ρ X_b0 A Q' Q):Tx.sha_join ρ ⟨a_b0,n_b0,c_b0⟩ h Q:=by
  obtain rfl:=rd_len hX_b0 I
  unfold Tx.sha_join
  unfold sha_join at H
  exact sha_join.L1_r (c:= {sha_join.v0 with w3:=(0:Int),v6:=b0,v7:=(b0.length:Int),v8:=(0:Int)}) (w:= {sha_join.w0 with a_v6:=a_b0,c_v6:=c_b0}) ⟨hX_b0,I⟩ H k
namespace sha_spread
structure V where
  b0:List Int
  v2:Vector Int 64
  w3:Vector Int 64
  v9:Int
structure W where
  a_b0:Option Addr
  c_b0:Nat
  p_v2:Addr
  p_w3:Addr
def v0:V:=⟨[],Vector.replicate 64 0,Vector.replicate 64 0,0⟩
def w0:W:=⟨none,0,⟨0,0,none⟩,⟨0,0,none⟩⟩
abbrev QT:=(Vector Int 64)→Prop
abbrev RT:=List Int→Hp→Prop
def kt (ρ:Ids) (X_b0:At) (A:List At) (Q':QT) (Q:RT):Prop:=
  ∀ (r0:Vector Int 64) (h':Hp),Inv h' (X_b0::A)→Q' r0→Q r0.toList h'
def I1 (ρ:Ids) (X_b0:At) (c:V) (w:W) (A:List At) (h:Hp):Prop:=
  Rd (rI .u8) X_b0 w.a_b0 c.b0.length w.c_b0 c.b0∧Inv h (X_b0::blk w.p_v2 (ρ.T 29) [.vec .u32 64 c.v2]::blk w.p_w3 (ρ.T 29) [.vec .u32 64 c.w3]::A)
abbrev Y1:=Sl→Addr→Addr→Int→Hp→Prop
abbrev T1 (X_b0:At) (S:Y1) (c:V) (w:W) (h:Hp):Prop:=S ⟨w.a_b0,c.b0.length,w.c_b0⟩ w.p_v2 w.p_w3 c.v9 h
def k1t (ρ:Ids) (X_b0:At) (A:List At) (S':V→Prop) (S:Y1):Prop:= ∀ (c:V) (w:W) (h:Hp),I1 ρ X_b0 c w A h→S' c→T1 X_b0 S c w h
def I2 (ρ:Ids) (X_b0:At) (c:V) (w:W) (A:List At) (h:Hp):Prop:=
  Rd (rI .u8) X_b0 w.a_b0 c.b0.length w.c_b0 c.b0∧Inv h (X_b0::blk w.p_v2 (ρ.T 29) [.vec .u32 64 c.v2]::blk w.p_w3 (ρ.T 29) [.vec .u32 64 c.w3]::A)
variable {X_b0:At} {c:V} {w:W} {Q':QT} {Q:RT} {S1':V→Prop} {S1:Y1}
def K2 (S1:V→Prop) (Q:QT) (c:V):Prop:=
  S1 {c with v9:=(IntKind.wrap .i64 (c.v9+(1:Int)))}
theorem K2_r (I:I2 ρ X_b0 c w A h) (H:K2 S1' Q' c) (kS1:k1t ρ X_b0 A S1' S1) (k:kt ρ X_b0 A Q' Q):Tx.sha_spread_K2 ρ S1 Q ⟨w.a_b0,c.b0.length,w.c_b0⟩ w.p_v2 w.p_w3 c.v9 h:=by
  obtain ⟨hX_b0,I⟩:=I
  unfold Tx.sha_spread_K2
  unfold K2 at H
  replace I:=I.pull2.pull2.pull2
  exact kS1 {c with v9:=(IntKind.wrap .i64 (c.v9+(1:Int)))} w _ ⟨hX_b0,I⟩ H
def B1 (S1:V→Prop) (Q:QT) (c:V):Prop:=
  br (decide (c.v9<(64:Int)))
  (br (decide (c.v9<(16:Int)))
  ((SlOk c.b0 (IntKind.wrap .i64 ((4:Int)*c.v9)) (IntKind.wrap .i64 ((IntKind.wrap .i64 ((4:Int)*c.v9))+(4:Int))))∧
  sha_join (sub c.b0 (IntKind.wrap .i64 ((4:Int)*c.v9)) (IntKind.wrap .i64 ((IntKind.wrap .i64 ((4:Int)*c.v9))+(4:Int)))) fun r_12=>
  ixP c.w3.toList c.v9 fun x_14=>
  K2 S1 Q {c with w3:=(c.w3.setIfInBounds (Int.toNat c.v9) r_12)})
  (ixP c.w3.toList (IntKind.wrap .i64 (c.v9 - (15:Int))) fun x_21=>
  ixP c.w3.toList (IntKind.wrap .i64 (c.v9 - (2:Int))) fun x_27=>
  sha_Turn x_21 (7:Int) fun r_32=>
  sha_Turn x_21 (18:Int) fun r_33=>
  sha_Turn x_27 (17:Int) fun r_34=>
  sha_Turn x_27 (19:Int) fun r_35=>
  ixP c.w3.toList (IntKind.wrap .i64 (c.v9 - (7:Int))) fun x_37=>
  ixP c.w3.toList (IntKind.wrap .i64 (c.v9 - (16:Int))) fun x_43=>
  ixP c.w3.toList c.v9 fun x_49=>
  K2 S1 Q {c with w3:=(c.w3.setIfInBounds (Int.toNat c.v9) (IntKind.wrap .u32 ((IntKind.wrap .u32 ((IntKind.wrap .u32 ((IntKind.wrap .u32 (((BitVec.ofInt (IntKind.bits .u32) (IntKind.wrap .u32 (((BitVec.ofInt (IntKind.bits .u32) r_34 ^^^ (BitVec.ofInt (IntKind.bits .u32) r_35)).toNat:Int))) ^^^ (BitVec.ofInt (IntKind.bits .u32) (Int.fdiv x_27 (2 ^ (min (Int.toNat (10:Int)) (IntKind.bits .u32)))))).toNat:Int)))+x_37))+(IntKind.wrap .u32 (((BitVec.ofInt (IntKind.bits .u32) (IntKind.wrap .u32 (((BitVec.ofInt (IntKind.bits .u32) r_32 ^^^ (BitVec.ofInt (IntKind.bits .u32) r_33)).toNat:Int))) ^^^ (BitVec.ofInt (IntKind.bits .u32) (Int.fdiv x_21 (2 ^ (min (Int.toNat (3:Int)) (IntKind.bits .u32)))))).toNat:Int)))))+x_43)))}))
  (Q c.w3)
def L1 (Q:QT) (c:V):Prop:=Lf (fun S=>B1 S Q) c
theorem L1_in {Q:QT} {c:V} (H:B1 (L1 Q) Q c):L1 Q c:=Lf.fold H
theorem B1_r (I:I1 ρ X_b0 c w A h) (H:B1 S1' Q' c) (kS1:k1t ρ X_b0 A S1' S1) (k:kt ρ X_b0 A Q' Q):T1 X_b0 (Tx.sha_spread_B1 ρ S1 Q) c w h:=by
  obtain ⟨hX_b0,I⟩:=I
  unfold T1 Tx.sha_spread_B1
  unfold B1 at H
  refine br_r H (fun hb H=> ?_) (fun hb H=> ?_)
  · refine br_r H (fun hb H => ?_) (fun hb H => ?_)
    · refine sl_rd hX_b0 I H.1 fun a_9 c_10 hr_11 => ?_
      replace H:=H.2
      refine sha_join_r (b0:=(sub c.b0 (IntKind.wrap .i64 ((4:Int)*c.v9)) (IntKind.wrap .i64 ((IntKind.wrap .i64 ((4:Int)*c.v9))+(4:Int))))) hr_11 I H fun r_12 h I H=> ?_
      refine ix_vec I.pull2 (j:=0) (off:=0) rfl (ixP_keep H) fun q_13 x_14 hq_15 hb_16 hc_17 H=> ?_
      obtain ⟨hg_18,H⟩:=H
      refine st_vec (I.pull2) (j:=0) (off:=0) rfl hq_15 hb_16 fun h I=> ?_
      replace I:=I.pull2.pull2
      exact K2_r (c:= {c with w3:=(c.w3.setIfInBounds (Int.toNat c.v9) r_12)}) (w:=w) ⟨hX_b0,I⟩ H kS1 k
    · refine ix_vec I.pull2 (j := 0) (off := 0) rfl (ixP_keep H) fun q_20 x_21 hq_22 hb_23 hc_24 H => ?_
      obtain ⟨hg_25,H⟩:=H
      refine ldI_r hc_24 ?_
      refine ix_vec I.pull2 (j:=0) (off:=0) rfl (ixP_keep H) fun q_26 x_27 hq_28 hb_29 hc_30 H=> ?_
      obtain ⟨hg_31,H⟩:=H
      refine ldI_r hc_30 ?_
      refine sha_Turn_r (x0:=x_21) (n1:=(7:Int)) I H fun r_32 h I H=> ?_
      refine sha_Turn_r (x0:=x_21) (n1:=(18:Int)) I H fun r_33 h I H=> ?_
      refine ⟨by decide, ?_⟩
      refine sha_Turn_r (x0:=x_27) (n1:=(17:Int)) I H fun r_34 h I H=> ?_
      refine sha_Turn_r (x0:=x_27) (n1:=(19:Int)) I H fun r_35 h I H=> ?_
      refine ⟨by decide, ?_⟩
      refine ix_vec I.pull2 (j:=0) (off:=0) rfl (ixP_keep H) fun q_36 x_37 hq_38 hb_39 hc_40 H=> ?_
      obtain ⟨hg_41,H⟩:=H
      refine ldI_r hc_40 ?_
      refine ix_vec I.pull2 (j:=0) (off:=0) rfl (ixP_keep H) fun q_42 x_43 hq_44 hb_45 hc_46 H=> ?_
      obtain ⟨hg_47,H⟩:=H
      refine ldI_r hc_46 ?_
      refine ix_vec I.pull2 (j:=0) (off:=0) rfl (ixP_keep H) fun q_48 x_49 hq_50 hb_51 hc_52 H=> ?_
      obtain ⟨hg_53,H⟩:=H
      refine st_vec (I.pull2) (j:=0) (off:=0) rfl hq_50 hb_51 fun h I=> ?_
      replace I:=I.pull2.pull2
      exact K2_r (c:= {c with w3:=(c.w3.setIfInBounds (Int.toNat c.v9) (IntKind.wrap .u32 ((IntKind.wrap .u32 ((IntKind.wrap .u32 ((IntKind.wrap .u32 (((BitVec.ofInt (IntKind.bits .u32) (IntKind.wrap .u32 (((BitVec.ofInt (IntKind.bits .u32) r_34 ^^^ (BitVec.ofInt (IntKind.bits .u32) r_35)).toNat:Int))) ^^^ (BitVec.ofInt (IntKind.bits .u32) (Int.fdiv x_27 (2 ^ (min (Int.toNat (10:Int)) (IntKind.bits .u32)))))).toNat:Int)))+x_37))+(IntKind.wrap .u32 (((BitVec.ofInt (IntKind.bits .u32) (IntKind.wrap .u32 (((BitVec.ofInt (IntKind.bits .u32) r_32 ^^^ (BitVec.ofInt (IntKind.bits .u32) r_33)).toNat:Int))) ^^^ (BitVec.ofInt (IntKind.bits .u32) (Int.fdiv x_21 (2 ^ (min (Int.toNat (3:Int)) (IntKind.bits .u32)))))).toNat:Int)))))+x_43)))}) (w:=w) ⟨hX_b0,I⟩ H kS1 k
  · refine ldL_r (I.pull2.lump 0 0 rfl) ?_
    try simp only [nrm_v]
    refine stA_r I.pull1 0 1 0 [.vec .u32 64 c.w3] rfl rfl rfl (by first | exact all_segs rfl | exact all_one (by simp [segs,Seg.cells,allOne,allOne_append,allOne_lump,Value.oneCell'])) fun h (I:Inv h (blk w.p_v2 (ρ.T 29) [.vec .u32 64 c.w3]::_))=> ?_
    refine ldL_r (I.lump 0 0 rfl) ?_
    try simp only [nrm_v]
    replace I:=I.drop1
    replace I:=I.pull1.drop1
    exact k c.w3 _ I H
theorem L1_r (I:I1 ρ X_b0 c w A h) (H:L1 Q' c) (k:kt ρ X_b0 A Q' Q):T1 X_b0 (Tx.sha_spread_L1 ρ Q) c w h:=by
  refine Lf.ind H (fun v=> ∀ (w:W) (h:Hp),I1 ρ X_b0 v w A h→T1 X_b0 (Tx.sha_spread_L1 ρ Q) v w h) ?_ w h I
  rintro c S hS HB w h I
  refine Tx.sha_spread_L1_in _ _ _ _ _ _ _ ?_
  try simp only [nrm_v]
  exact B1_r (c:=c) (w:=w) I HB (fun c w h I H=>hS _ H w h I) k
end sha_spread
def sha_spread (b0:List Int) (Q:sha_spread.QT):Prop:=
  sha_spread.L1 Q {sha_spread.v0 with b0:=b0,v2:=(Vector.replicate 64 (0:Int)),w3:=(Vector.replicate 64 (0:Int)),v9:=(0:Int)}
theorem sha_spread_r {b0:List Int} {a_b0:Option Addr} {c_b0:Nat} {n_b0:Nat} {X_b0:At} {Q':sha_spread.QT} {Q:sha_spread.RT} (hX_b0:Rd (rI .u8) X_b0 a_b0 n_b0 c_b0 b0) (I:Inv h (X_b0::A)) (H:sha_spread b0 Q')
    (k:sha_spread.kt ρ X_b0 A Q' Q):Tx.sha_spread ρ ⟨a_b0,n_b0,c_b0⟩ h Q:=by
  obtain rfl:=rd_len hX_b0 I
  unfold Tx.sha_spread
  unfold sha_spread at H
  refine al_r [.vec .u32 64 (Vector.replicate 64 (0:Int))] rfl I fun p_2 h I=> ?_
  refine al_r [.vec .u32 64 (Vector.replicate 64 (0:Int))] rfl I fun p_4 h I=> ?_
  replace I:=I.pull1.pull2
  exact sha_spread.L1_r (c:= {sha_spread.v0 with b0:=b0,v2:=(Vector.replicate 64 (0:Int)),w3:=(Vector.replicate 64 (0:Int)),v9:=(0:Int)}) (w:= {sha_spread.w0 with a_b0:=a_b0,c_b0:=c_b0,p_v2:=p_2,p_w3:=p_4}) ⟨hX_b0,I⟩ H k
def sha_constants (Q:(Vector Int 64)→Prop):Prop:=
  Q (#v[(1116352408:Int),(1899447441:Int),(3049323471:Int),(3921009573:Int),(961987163:Int),(1508970993:Int),(2453635748:Int),(2870763221:Int),(3624381080:Int),(310598401:Int),(607225278:Int),(1426881987:Int),(1925078388:Int),(2162078206:Int),(2614888103:Int),(3248222580:Int),(3835390401:Int),(4022224774:Int),(264347078:Int),(604807628:Int),(770255983:Int),(1249150122:Int),(1555081692:Int),(1996064986:Int),(2554220882:Int),(2821834349:Int),(2952996808:Int),(3210313671:Int),(3336571891:Int),(3584528711:Int),(113926993:Int),(338241895:Int),(666307205:Int),(773529912:Int),(1294757372:Int),(1396182291:Int),(1695183700:Int),(1986661051:Int),(2177026350:Int),(2456956037:Int),(2730485921:Int),(2820302411:Int),(3259730800:Int),(3345764771:Int),(3516065817:Int),(3600352804:Int),(4094571909:Int),(275423344:Int),(430227734:Int),(506948616:Int),(659060556:Int),(883997877:Int),(958139571:Int),(1322822218:Int),(1537002063:Int),(1747873779:Int),(1955562222:Int),(2024104815:Int),(2227730452:Int),(2361852424:Int),(2428436474:Int),(2756734187:Int),(3204031479:Int),(3329325298:Int)])
theorem sha_constants_r {Q':(Vector Int 64)→Prop} {Q:List Int→Hp→Prop} (I:Inv h (A)) (H:sha_constants Q')
    (k: ∀ (r0:Vector Int 64) (h':Hp),Inv h' (A)→Q' r0→Q r0.toList h'):Tx.sha_constants ρ h Q:=by
  unfold Tx.sha_constants
  unfold sha_constants at H
  refine al_r [.vec .u32 64 (Vector.replicate 64 (0:Int))] rfl I fun p_1 h I=> ?_
  refine stA_r I 0 1 0 [.vec .u32 64 (#v[(1116352408:Int),(1899447441:Int),(3049323471:Int),(3921009573:Int),(961987163:Int),(1508970993:Int),(2453635748:Int),(2870763221:Int),(3624381080:Int),(310598401:Int),(607225278:Int),(1426881987:Int),(1925078388:Int),(2162078206:Int),(2614888103:Int),(3248222580:Int),(3835390401:Int),(4022224774:Int),(264347078:Int),(604807628:Int),(770255983:Int),(1249150122:Int),(1555081692:Int),(1996064986:Int),(2554220882:Int),(2821834349:Int),(2952996808:Int),(3210313671:Int),(3336571891:Int),(3584528711:Int),(113926993:Int),(338241895:Int),(666307205:Int),(773529912:Int),(1294757372:Int),(1396182291:Int),(1695183700:Int),(1986661051:Int),(2177026350:Int),(2456956037:Int),(2730485921:Int),(2820302411:Int),(3259730800:Int),(3345764771:Int),(3516065817:Int),(3600352804:Int),(4094571909:Int),(275423344:Int),(430227734:Int),(506948616:Int),(659060556:Int),(883997877:Int),(958139571:Int),(1322822218:Int),(1537002063:Int),(1747873779:Int),(1955562222:Int),(2024104815:Int),(2227730452:Int),(2361852424:Int),(2428436474:Int),(2756734187:Int),(3204031479:Int),(3329325298:Int)])] rfl rfl rfl (by first | exact all_segs rfl | exact all_one (by simp [segs,Seg.cells,allOne,allOne_append,allOne_lump,Value.oneCell'])) fun h (I:Inv h (blk p_1 (ρ.T 29) [.vec .u32 64 (#v[(1116352408:Int),(1899447441:Int),(3049323471:Int),(3921009573:Int),(961987163:Int),(1508970993:Int),(2453635748:Int),(2870763221:Int),(3624381080:Int),(310598401:Int),(607225278:Int),(1426881987:Int),(1925078388:Int),(2162078206:Int),(2614888103:Int),(3248222580:Int),(3835390401:Int),(4022224774:Int),(264347078:Int),(604807628:Int),(770255983:Int),(1249150122:Int),(1555081692:Int),(1996064986:Int),(2554220882:Int),(2821834349:Int),(2952996808:Int),(3210313671:Int),(3336571891:Int),(3584528711:Int),(113926993:Int),(338241895:Int),(666307205:Int),(773529912:Int),(1294757372:Int),(1396182291:Int),(1695183700:Int),(1986661051:Int),(2177026350:Int),(2456956037:Int),(2730485921:Int),(2820302411:Int),(3259730800:Int),(3345764771:Int),(3516065817:Int),(3600352804:Int),(4094571909:Int),(275423344:Int),(430227734:Int),(506948616:Int),(659060556:Int),(883997877:Int),(958139571:Int),(1322822218:Int),(1537002063:Int),(1747873779:Int),(1955562222:Int),(2024104815:Int),(2227730452:Int),(2361852424:Int),(2428436474:Int),(2756734187:Int),(3204031479:Int),(3329325298:Int)])]::_))=> ?_
  refine ldL_r (I.lump 0 0 rfl) ?_
  try simp only [nrm_v]
  replace I:=I.drop1
  exact k (#v[(1116352408:Int),(1899447441:Int),(3049323471:Int),(3921009573:Int),(961987163:Int),(1508970993:Int),(2453635748:Int),(2870763221:Int),(3624381080:Int),(310598401:Int),(607225278:Int),(1426881987:Int),(1925078388:Int),(2162078206:Int),(2614888103:Int),(3248222580:Int),(3835390401:Int),(4022224774:Int),(264347078:Int),(604807628:Int),(770255983:Int),(1249150122:Int),(1555081692:Int),(1996064986:Int),(2554220882:Int),(2821834349:Int),(2952996808:Int),(3210313671:Int),(3336571891:Int),(3584528711:Int),(113926993:Int),(338241895:Int),(666307205:Int),(773529912:Int),(1294757372:Int),(1396182291:Int),(1695183700:Int),(1986661051:Int),(2177026350:Int),(2456956037:Int),(2730485921:Int),(2820302411:Int),(3259730800:Int),(3345764771:Int),(3516065817:Int),(3600352804:Int),(4094571909:Int),(275423344:Int),(430227734:Int),(506948616:Int),(659060556:Int),(883997877:Int),(958139571:Int),(1322822218:Int),(1537002063:Int),(1747873779:Int),(1955562222:Int),(2024104815:Int),(2227730452:Int),(2361852424:Int),(2428436474:Int),(2756734187:Int),(3204031479:Int),(3329325298:Int)]) _ I H
namespace sha_block
structure V where
  h2:Vector Int 8
  v4:Vector Int 8
  w5:Vector Int 64
  k6:Vector Int 64
  x7:Vector Int 8
  v18:Int
  v92:Int
structure W where
  p_h2:Addr
  p_v4:Addr
  p_w5:Addr
  p_k6:Addr
  p_x7:Addr
def v0:V:=⟨Vector.replicate 8 0,Vector.replicate 8 0,Vector.replicate 64 0,Vector.replicate 64 0,Vector.replicate 8 0,0,0⟩
def w0:W:=⟨⟨0,0,none⟩,⟨0,0,none⟩,⟨0,0,none⟩,⟨0,0,none⟩,⟨0,0,none⟩⟩
abbrev QT:=(Vector Int 8)→Prop
abbrev RT:=List Int→Hp→Prop
def kt (ρ:Ids) (X_b1:At) (A:List At) (Q':QT) (Q:RT):Prop:=
  ∀ (r0:Vector Int 8) (h':Hp),Inv h' (X_b1::A)→Q' r0→Q r0.toList h'
def I1 (ρ:Ids) (X_b1:At) (c:V) (w:W) (A:List At) (h:Hp):Prop:=
  Inv h (X_b1::blk w.p_h2 (ρ.T 28) [.vec .u32 8 c.h2]::blk w.p_v4 (ρ.T 28) [.vec .u32 8 c.v4]::blk w.p_w5 (ρ.T 29) [.vec .u32 64 c.w5]::blk w.p_k6 (ρ.T 29) [.vec .u32 64 c.k6]::blk w.p_x7 (ρ.T 28) [.vec .u32 8 c.x7]::A)
abbrev Y1:=Addr→Addr→Addr→Addr→Addr→Int→Hp→Prop
abbrev T1 (X_b1:At) (S:Y1) (c:V) (w:W) (h:Hp):Prop:=S w.p_h2 w.p_v4 w.p_w5 w.p_k6 w.p_x7 c.v18 h
def k1t (ρ:Ids) (X_b1:At) (A:List At) (S':V→Prop) (S:Y1):Prop:= ∀ (c:V) (w:W) (h:Hp),I1 ρ X_b1 c w A h→S' c→T1 X_b1 S c w h
def I2 (ρ:Ids) (X_b1:At) (c:V) (w:W) (A:List At) (h:Hp):Prop:=
  Inv h (X_b1::blk w.p_h2 (ρ.T 28) [.vec .u32 8 c.h2]::blk w.p_v4 (ρ.T 28) [.vec .u32 8 c.v4]::blk w.p_x7 (ρ.T 28) [.vec .u32 8 c.x7]::A)
abbrev Y2:=Addr→Addr→Addr→Int→Hp→Prop
abbrev T2 (X_b1:At) (S:Y2) (c:V) (w:W) (h:Hp):Prop:=S w.p_h2 w.p_v4 w.p_x7 c.v92 h
def k2t (ρ:Ids) (X_b1:At) (A:List At) (S':V→Prop) (S:Y2):Prop:= ∀ (c:V) (w:W) (h:Hp),I2 ρ X_b1 c w A h→S' c→T2 X_b1 S c w h
variable {X_b1:At} {c:V} {w:W} {Q':QT} {Q:RT} {S1' S2':V→Prop} {S1:Y1} {S2:Y2}
def B2 (S2:V→Prop) (Q:QT) (c:V):Prop:=
  br (decide (c.v92<(8:Int)))
  (ixP c.h2.toList c.v92 fun x_125=>
  ixP c.x7.toList c.v92 fun x_131=>
  ixP c.h2.toList c.v92 fun x_137=>
  S2 {c with h2:=(c.h2.setIfInBounds (Int.toNat c.v92) (IntKind.wrap .u32 (x_125+x_131))),v92:=(IntKind.wrap .i64 (c.v92+(1:Int)))})
  (Q c.h2)
def L2 (Q:QT) (c:V):Prop:=Lf (fun S=>B2 S Q) c
theorem L2_in {Q:QT} {c:V} (H:B2 (L2 Q) Q c):L2 Q c:=Lf.fold H
theorem B2_r (I:I2 ρ X_b1 c w A h) (H:B2 S2' Q' c) (kS2:k2t ρ X_b1 A S2' S2) (k:kt ρ X_b1 A Q' Q):T2 X_b1 (Tx.sha_block_B2 ρ S2 Q) c w h:=by
  unfold I2 at I
  unfold T2 Tx.sha_block_B2
  unfold B2 at H
  refine br_r H (fun hb H=> ?_) (fun hb H=> ?_)
  · refine ix_vec I.pull1 (j := 0) (off := 0) rfl (ixP_keep H) fun q_124 x_125 hq_126 hb_127 hc_128 H => ?_
    obtain ⟨hg_129,H⟩:=H
    refine ldI_r hc_128 ?_
    refine ix_vec I.pull3 (j:=0) (off:=0) rfl (ixP_keep H) fun q_130 x_131 hq_132 hb_133 hc_134 H=> ?_
    obtain ⟨hg_135,H⟩:=H
    refine ldI_r hc_134 ?_
    refine ix_vec I.pull1 (j:=0) (off:=0) rfl (ixP_keep H) fun q_136 x_137 hq_138 hb_139 hc_140 H=> ?_
    obtain ⟨hg_141,H⟩:=H
    refine st_vec (I.pull1) (j:=0) (off:=0) rfl hq_138 hb_139 fun h I=> ?_
    replace I:=I.pull3.pull3.pull2.pull3
    exact kS2 {c with h2:=(c.h2.setIfInBounds (Int.toNat c.v92) (IntKind.wrap .u32 (x_125+x_131))),v92:=(IntKind.wrap .i64 (c.v92+(1:Int)))} w _ I H
  · refine ldL_r (I.pull1.lump 0 0 rfl) ?_
    try simp only [nrm_v]
    refine stA_r I.pull2 0 1 0 [.vec .u32 8 c.h2] rfl rfl rfl (by first | exact all_segs rfl | exact all_one (by simp [segs,Seg.cells,allOne,allOne_append,allOne_lump,Value.oneCell'])) fun h (I:Inv h (blk w.p_v4 (ρ.T 28) [.vec .u32 8 c.h2]::_))=> ?_
    refine ldL_r (I.lump 0 0 rfl) ?_
    try simp only [nrm_v]
    replace I:=I.drop1
    replace I:=I.pull1.drop1
    replace I:=I.pull1.drop1
    exact k c.h2 _ I H
theorem L2_r (I:I2 ρ X_b1 c w A h) (H:L2 Q' c) (k:kt ρ X_b1 A Q' Q):T2 X_b1 (Tx.sha_block_L2 ρ Q) c w h:=by
  refine Lf.ind H (fun v=> ∀ (w:W) (h:Hp),I2 ρ X_b1 v w A h→T2 X_b1 (Tx.sha_block_L2 ρ Q) v w h) ?_ w h I
  rintro c S hS HB w h I
  refine Tx.sha_block_L2_in _ _ _ _ _ _ _ ?_
  try simp only [nrm_v]
  exact B2_r (c:=c) (w:=w) I HB (fun c w h I H=>hS _ H w h I) k
def B1 (S1:V→Prop) (Q:QT) (c:V):Prop:=
  br (decide (c.v18<(64:Int)))
  (ixP c.x7.toList (0:Int) fun x_21=>
  ixP c.x7.toList (4:Int) fun x_27=>
  ixP c.x7.toList (7:Int) fun x_33=>
  ixP c.x7.toList (5:Int) fun x_39=>
  ixP c.x7.toList (6:Int) fun x_45=>
  ixP c.k6.toList c.v18 fun x_51=>
  ixP c.w5.toList c.v18 fun x_57=>
  sha_Turn x_27 (6:Int) fun r_62=>
  sha_Turn x_27 (11:Int) fun r_63=>
  sha_Turn x_27 (25:Int) fun r_64=>
  ixP c.x7.toList (1:Int) fun x_66=>
  ixP c.x7.toList (2:Int) fun x_72=>
  ixP c.x7.toList (1:Int) fun x_78=>
  ixP c.x7.toList (2:Int) fun x_84=>
  sha_Turn x_21 (2:Int) fun r_89=>
  sha_Turn x_21 (13:Int) fun r_90=>
  sha_Turn x_21 (22:Int) fun r_91=>
  (SlOk c.x7.toList (1:Int) ((8:Nat):Int))∧
  (SlOk c.x7.toList (0:Int) (7:Int))∧
  ixP (cpV c.x7 (Int.toNat (1:Int)) (sub c.x7.toList (0:Int) (7:Int))).toList (0:Int) fun x_101=>
  ixP ((cpV c.x7 (Int.toNat (1:Int)) (sub c.x7.toList (0:Int) (7:Int))).setIfInBounds (Int.toNat (0:Int)) (IntKind.wrap .u32 ((IntKind.wrap .u32 ((IntKind.wrap .u32 ((IntKind.wrap .u32 ((IntKind.wrap .u32 (x_33+(IntKind.wrap .u32 (((BitVec.ofInt (IntKind.bits .u32) (IntKind.wrap .u32 (((BitVec.ofInt (IntKind.bits .u32) r_62 ^^^ (BitVec.ofInt (IntKind.bits .u32) r_63)).toNat:Int))) ^^^ (BitVec.ofInt (IntKind.bits .u32) r_64)).toNat:Int)))))+(IntKind.wrap .u32 (((BitVec.ofInt (IntKind.bits .u32) (IntKind.wrap .u32 (((BitVec.ofInt (IntKind.bits .u32) x_27 &&& (BitVec.ofInt (IntKind.bits .u32) x_39)).toNat:Int))) ^^^ (BitVec.ofInt (IntKind.bits .u32) (IntKind.wrap .u32 (((BitVec.ofInt (IntKind.bits .u32) (IntKind.wrap .u32 ((BitVec.ofInt (IntKind.bits .u32) (if IntKind.signed .u32 then -1 else IntKind.max .u32) ^^^ BitVec.ofInt (IntKind.bits .u32) x_27).toNat:Int)) &&& (BitVec.ofInt (IntKind.bits .u32) x_45)).toNat:Int))))).toNat:Int)))))+x_51))+x_57))+(IntKind.wrap .u32 ((IntKind.wrap .u32 (((BitVec.ofInt (IntKind.bits .u32) (IntKind.wrap .u32 (((BitVec.ofInt (IntKind.bits .u32) r_89 ^^^ (BitVec.ofInt (IntKind.bits .u32) r_90)).toNat:Int))) ^^^ (BitVec.ofInt (IntKind.bits .u32) r_91)).toNat:Int)))+(IntKind.wrap .u32 (((BitVec.ofInt (IntKind.bits .u32) (IntKind.wrap .u32 (((BitVec.ofInt (IntKind.bits .u32) (IntKind.wrap .u32 (((BitVec.ofInt (IntKind.bits .u32) x_21 &&& (BitVec.ofInt (IntKind.bits .u32) x_66)).toNat:Int))) ^^^ (BitVec.ofInt (IntKind.bits .u32) (IntKind.wrap .u32 (((BitVec.ofInt (IntKind.bits .u32) x_21 &&& (BitVec.ofInt (IntKind.bits .u32) x_72)).toNat:Int))))).toNat:Int))) ^^^ (BitVec.ofInt (IntKind.bits .u32) (IntKind.wrap .u32 (((BitVec.ofInt (IntKind.bits .u32) x_78 &&& (BitVec.ofInt (IntKind.bits .u32) x_84)).toNat:Int))))).toNat:Int)))))))).toList (4:Int) fun x_108=>
  ixP ((cpV c.x7 (Int.toNat (1:Int)) (sub c.x7.toList (0:Int) (7:Int))).setIfInBounds (Int.toNat (0:Int)) (IntKind.wrap .u32 ((IntKind.wrap .u32 ((IntKind.wrap .u32 ((IntKind.wrap .u32 ((IntKind.wrap .u32 (x_33+(IntKind.wrap .u32 (((BitVec.ofInt (IntKind.bits .u32) (IntKind.wrap .u32 (((BitVec.ofInt (IntKind.bits .u32) r_62 ^^^ (BitVec.ofInt (IntKind.bits .u32) r_63)).toNat:Int))) ^^^ (BitVec.ofInt (IntKind.bits .u32) r_64)).toNat:Int)))))+(IntKind.wrap .u32 (((BitVec.ofInt (IntKind.bits .u32) (IntKind.wrap .u32 (((BitVec.ofInt (IntKind.bits .u32) x_27 &&& (BitVec.ofInt (IntKind.bits .u32) x_39)).toNat:Int))) ^^^ (BitVec.ofInt (IntKind.bits .u32) (IntKind.wrap .u32 (((BitVec.ofInt (IntKind.bits .u32) (IntKind.wrap .u32 ((BitVec.ofInt (IntKind.bits .u32) (if IntKind.signed .u32 then -1 else IntKind.max .u32) ^^^ BitVec.ofInt (IntKind.bits .u32) x_27).toNat:Int)) &&& (BitVec.ofInt (IntKind.bits .u32) x_45)).toNat:Int))))).toNat:Int)))))+x_51))+x_57))+(IntKind.wrap .u32 ((IntKind.wrap .u32 (((BitVec.ofInt (IntKind.bits .u32) (IntKind.wrap .u32 (((BitVec.ofInt (IntKind.bits .u32) r_89 ^^^ (BitVec.ofInt (IntKind.bits .u32) r_90)).toNat:Int))) ^^^ (BitVec.ofInt (IntKind.bits .u32) r_91)).toNat:Int)))+(IntKind.wrap .u32 (((BitVec.ofInt (IntKind.bits .u32) (IntKind.wrap .u32 (((BitVec.ofInt (IntKind.bits .u32) (IntKind.wrap .u32 (((BitVec.ofInt (IntKind.bits .u32) x_21 &&& (BitVec.ofInt (IntKind.bits .u32) x_66)).toNat:Int))) ^^^ (BitVec.ofInt (IntKind.bits .u32) (IntKind.wrap .u32 (((BitVec.ofInt (IntKind.bits .u32) x_21 &&& (BitVec.ofInt (IntKind.bits .u32) x_72)).toNat:Int))))).toNat:Int))) ^^^ (BitVec.ofInt (IntKind.bits .u32) (IntKind.wrap .u32 (((BitVec.ofInt (IntKind.bits .u32) x_78 &&& (BitVec.ofInt (IntKind.bits .u32) x_84)).toNat:Int))))).toNat:Int)))))))).toList (4:Int) fun x_114=>
  S1 {c with x7:=(((cpV c.x7 (Int.toNat (1:Int)) (sub c.x7.toList (0:Int) (7:Int))).setIfInBounds (Int.toNat (0:Int)) (IntKind.wrap .u32 ((IntKind.wrap .u32 ((IntKind.wrap .u32 ((IntKind.wrap .u32 ((IntKind.wrap .u32 (x_33+(IntKind.wrap .u32 (((BitVec.ofInt (IntKind.bits .u32) (IntKind.wrap .u32 (((BitVec.ofInt (IntKind.bits .u32) r_62 ^^^ (BitVec.ofInt (IntKind.bits .u32) r_63)).toNat:Int))) ^^^ (BitVec.ofInt (IntKind.bits .u32) r_64)).toNat:Int)))))+(IntKind.wrap .u32 (((BitVec.ofInt (IntKind.bits .u32) (IntKind.wrap .u32 (((BitVec.ofInt (IntKind.bits .u32) x_27 &&& (BitVec.ofInt (IntKind.bits .u32) x_39)).toNat:Int))) ^^^ (BitVec.ofInt (IntKind.bits .u32) (IntKind.wrap .u32 (((BitVec.ofInt (IntKind.bits .u32) (IntKind.wrap .u32 ((BitVec.ofInt (IntKind.bits .u32) (if IntKind.signed .u32 then -1 else IntKind.max .u32) ^^^ BitVec.ofInt (IntKind.bits .u32) x_27).toNat:Int)) &&& (BitVec.ofInt (IntKind.bits .u32) x_45)).toNat:Int))))).toNat:Int)))))+x_51))+x_57))+(IntKind.wrap .u32 ((IntKind.wrap .u32 (((BitVec.ofInt (IntKind.bits .u32) (IntKind.wrap .u32 (((BitVec.ofInt (IntKind.bits .u32) r_89 ^^^ (BitVec.ofInt (IntKind.bits .u32) r_90)).toNat:Int))) ^^^ (BitVec.ofInt (IntKind.bits .u32) r_91)).toNat:Int)))+(IntKind.wrap .u32 (((BitVec.ofInt (IntKind.bits .u32) (IntKind.wrap .u32 (((BitVec.ofInt (IntKind.bits .u32) (IntKind.wrap .u32 (((BitVec.ofInt (IntKind.bits .u32) x_21 &&& (BitVec.ofInt (IntKind.bits .u32) x_66)).toNat:Int))) ^^^ (BitVec.ofInt (IntKind.bits .u32) (IntKind.wrap .u32 (((BitVec.ofInt (IntKind.bits .u32) x_21 &&& (BitVec.ofInt (IntKind.bits .u32) x_72)).toNat:Int))))).toNat:Int))) ^^^ (BitVec.ofInt (IntKind.bits .u32) (IntKind.wrap .u32 (((BitVec.ofInt (IntKind.bits .u32) x_78 &&& (BitVec.ofInt (IntKind.bits .u32) x_84)).toNat:Int))))).toNat:Int)))))))).setIfInBounds (Int.toNat (4:Int)) (IntKind.wrap .u32 (x_108+(IntKind.wrap .u32 ((IntKind.wrap .u32 ((IntKind.wrap .u32 ((IntKind.wrap .u32 (x_33+(IntKind.wrap .u32 (((BitVec.ofInt (IntKind.bits .u32) (IntKind.wrap .u32 (((BitVec.ofInt (IntKind.bits .u32) r_62 ^^^ (BitVec.ofInt (IntKind.bits .u32) r_63)).toNat:Int))) ^^^ (BitVec.ofInt (IntKind.bits .u32) r_64)).toNat:Int)))))+(IntKind.wrap .u32 (((BitVec.ofInt (IntKind.bits .u32) (IntKind.wrap .u32 (((BitVec.ofInt (IntKind.bits .u32) x_27 &&& (BitVec.ofInt (IntKind.bits .u32) x_39)).toNat:Int))) ^^^ (BitVec.ofInt (IntKind.bits .u32) (IntKind.wrap .u32 (((BitVec.ofInt (IntKind.bits .u32) (IntKind.wrap .u32 ((BitVec.ofInt (IntKind.bits .u32) (if IntKind.signed .u32 then -1 else IntKind.max .u32) ^^^ BitVec.ofInt (IntKind.bits .u32) x_27).toNat:Int)) &&& (BitVec.ofInt (IntKind.bits .u32) x_45)).toNat:Int))))).toNat:Int)))))+x_51))+x_57))))),v18:=(IntKind.wrap .i64 (c.v18+(1:Int)))})
  (L2 Q {c with v92:=(0:Int)})
def L1 (Q:QT) (c:V):Prop:=Lf (fun S=>B1 S Q) c
theorem L1_in {Q:QT} {c:V} (H:B1 (L1 Q) Q c):L1 Q c:=Lf.fold H
theorem B1_r (I:I1 ρ X_b1 c w A h) (H:B1 S1' Q' c) (kS1:k1t ρ X_b1 A S1' S1) (k:kt ρ X_b1 A Q' Q):T1 X_b1 (Tx.sha_block_B1 ρ S1 Q) c w h:=by
  unfold I1 at I
  unfold T1 Tx.sha_block_B1
  unfold B1 at H
  refine br_r H (fun hb H=> ?_) (fun hb H=> ?_)
  · refine ix_vec I.pull5 (j := 0) (off := 0) rfl (ixP_keep H) fun q_20 x_21 hq_22 hb_23 hc_24 H => ?_
    obtain ⟨hg_25,H⟩:=H
    refine ldI_r hc_24 ?_
    refine ix_vec I.pull5 (j:=0) (off:=0) rfl (ixP_keep H) fun q_26 x_27 hq_28 hb_29 hc_30 H=> ?_
    obtain ⟨hg_31,H⟩:=H
    refine ldI_r hc_30 ?_
    refine ix_vec I.pull5 (j:=0) (off:=0) rfl (ixP_keep H) fun q_32 x_33 hq_34 hb_35 hc_36 H=> ?_
    obtain ⟨hg_37,H⟩:=H
    refine ldI_r hc_36 ?_
    refine ix_vec I.pull5 (j:=0) (off:=0) rfl (ixP_keep H) fun q_38 x_39 hq_40 hb_41 hc_42 H=> ?_
    obtain ⟨hg_43,H⟩:=H
    refine ldI_r hc_42 ?_
    refine ix_vec I.pull5 (j:=0) (off:=0) rfl (ixP_keep H) fun q_44 x_45 hq_46 hb_47 hc_48 H=> ?_
    obtain ⟨hg_49,H⟩:=H
    refine ldI_r hc_48 ?_
    refine ix_vec I.pull4 (j:=0) (off:=0) rfl (ixP_keep H) fun q_50 x_51 hq_52 hb_53 hc_54 H=> ?_
    obtain ⟨hg_55,H⟩:=H
    refine ldI_r hc_54 ?_
    refine ix_vec I.pull3 (j:=0) (off:=0) rfl (ixP_keep H) fun q_56 x_57 hq_58 hb_59 hc_60 H=> ?_
    obtain ⟨hg_61,H⟩:=H
    refine ldI_r hc_60 ?_
    refine sha_Turn_r (x0:=x_27) (n1:=(6:Int)) I H fun r_62 h I H=> ?_
    refine ⟨(vel_keep I.pull3 (j:=0) (off:=0) rfl hq_58 hb_59 hg_61), ?_⟩
    refine ⟨(vel_keep I.pull4 (j:=0) (off:=0) rfl hq_52 hb_53 hg_55), ?_⟩
    refine ⟨(vel_keep I.pull5 (j:=0) (off:=0) rfl hq_46 hb_47 hg_49), ?_⟩
    refine ⟨(vel_keep I.pull5 (j:=0) (off:=0) rfl hq_40 hb_41 hg_43), ?_⟩
    refine ⟨(vel_keep I.pull5 (j:=0) (off:=0) rfl hq_34 hb_35 hg_37), ?_⟩
    refine sha_Turn_r (x0:=x_27) (n1:=(11:Int)) I H fun r_63 h I H=> ?_
    refine ⟨(vel_keep I.pull3 (j:=0) (off:=0) rfl hq_58 hb_59 hg_61), ?_⟩
    refine ⟨(vel_keep I.pull4 (j:=0) (off:=0) rfl hq_52 hb_53 hg_55), ?_⟩
    refine ⟨(vel_keep I.pull5 (j:=0) (off:=0) rfl hq_46 hb_47 hg_49), ?_⟩
    refine ⟨(vel_keep I.pull5 (j:=0) (off:=0) rfl hq_40 hb_41 hg_43), ?_⟩
    refine ⟨(vel_keep I.pull5 (j:=0) (off:=0) rfl hq_34 hb_35 hg_37), ?_⟩
    refine sha_Turn_r (x0:=x_27) (n1:=(25:Int)) I H fun r_64 h I H=> ?_
    refine ⟨(vel_keep I.pull3 (j:=0) (off:=0) rfl hq_58 hb_59 hg_61), ?_⟩
    refine ⟨(vel_keep I.pull4 (j:=0) (off:=0) rfl hq_52 hb_53 hg_55), ?_⟩
    refine ⟨(vel_keep I.pull5 (j:=0) (off:=0) rfl hq_46 hb_47 hg_49), ?_⟩
    refine ⟨(vel_keep I.pull5 (j:=0) (off:=0) rfl hq_40 hb_41 hg_43), ?_⟩
    refine ⟨(vel_keep I.pull5 (j:=0) (off:=0) rfl hq_34 hb_35 hg_37), ?_⟩
    refine ix_vec I.pull5 (j:=0) (off:=0) rfl (ixP_keep H) fun q_65 x_66 hq_67 hb_68 hc_69 H=> ?_
    obtain ⟨hg_70,H⟩:=H
    refine ldI_r hc_69 ?_
    refine ix_vec I.pull5 (j:=0) (off:=0) rfl (ixP_keep H) fun q_71 x_72 hq_73 hb_74 hc_75 H=> ?_
    obtain ⟨hg_76,H⟩:=H
    refine ldI_r hc_75 ?_
    refine ix_vec I.pull5 (j:=0) (off:=0) rfl (ixP_keep H) fun q_77 x_78 hq_79 hb_80 hc_81 H=> ?_
    obtain ⟨hg_82,H⟩:=H
    refine ldI_r hc_81 ?_
    refine ix_vec I.pull5 (j:=0) (off:=0) rfl (ixP_keep H) fun q_83 x_84 hq_85 hb_86 hc_87 H=> ?_
    obtain ⟨hg_88,H⟩:=H
    refine ldI_r hc_87 ?_
    refine sha_Turn_r (x0:=x_21) (n1:=(2:Int)) I H fun r_89 h I H=> ?_
    refine ⟨(vel_keep I.pull5 (j:=0) (off:=0) rfl hq_85 hb_86 hg_88), ?_⟩
    refine ⟨(vel_keep I.pull5 (j:=0) (off:=0) rfl hq_79 hb_80 hg_82), ?_⟩
    refine ⟨(vel_keep I.pull5 (j:=0) (off:=0) rfl hq_73 hb_74 hg_76), ?_⟩
    refine ⟨(vel_keep I.pull5 (j:=0) (off:=0) rfl hq_67 hb_68 hg_70), ?_⟩
    refine sha_Turn_r (x0:=x_21) (n1:=(13:Int)) I H fun r_90 h I H=> ?_
    refine ⟨(vel_keep I.pull5 (j:=0) (off:=0) rfl hq_85 hb_86 hg_88), ?_⟩
    refine ⟨(vel_keep I.pull5 (j:=0) (off:=0) rfl hq_79 hb_80 hg_82), ?_⟩
    refine ⟨(vel_keep I.pull5 (j:=0) (off:=0) rfl hq_73 hb_74 hg_76), ?_⟩
    refine ⟨(vel_keep I.pull5 (j:=0) (off:=0) rfl hq_67 hb_68 hg_70), ?_⟩
    refine sha_Turn_r (x0:=x_21) (n1:=(22:Int)) I H fun r_91 h I H=> ?_
    refine ⟨(vel_keep I.pull5 (j:=0) (off:=0) rfl hq_85 hb_86 hg_88), ?_⟩
    refine ⟨(vel_keep I.pull5 (j:=0) (off:=0) rfl hq_79 hb_80 hg_82), ?_⟩
    refine ⟨(vel_keep I.pull5 (j:=0) (off:=0) rfl hq_73 hb_74 hg_76), ?_⟩
    refine ⟨(vel_keep I.pull5 (j:=0) (off:=0) rfl hq_67 hb_68 hg_70), ?_⟩
    refine sl_vec (ss:=[.vec .u32 8 c.x7]) (T:=(ρ.T 28)) (j:=0) (off:=0) (v:=c.x7) rfl H.1 fun a_92 c_93 hs_94 hr_95=> ?_
    replace H:=H.2
    refine sl_vec (ss:=[.vec .u32 8 c.x7]) (T:=(ρ.T 28)) (j:=0) (off:=0) (v:=c.x7) rfl H.1 fun a_96 c_97 hs_98 hr_99=> ?_
    replace H:=H.2
    refine cp_self (v:=c.x7) (j:=0) (off:=0) (lo:=(1:Int)) rfl hs_94 ⟨by decide,by decide⟩ (by simp [sub]) hr_99 I.pull5 fun h I=> ?_
    refine ix_vec I (j:=0) (off:=0) rfl (ixP_keep H) fun q_100 x_101 hq_102 hb_103 hc_104 H=> ?_
    obtain ⟨hg_105,H⟩:=H
    refine st_vec (I) (j:=0) (off:=0) rfl hq_102 hb_103 fun h I=> ?_
    refine ix_vec I (j:=0) (off:=0) rfl (ixP_keep H) fun q_107 x_108 hq_109 hb_110 hc_111 H=> ?_
    obtain ⟨hg_112,H⟩:=H
    refine ldI_r hc_111 ?_
    refine ix_vec I (j:=0) (off:=0) rfl (ixP_keep H) fun q_113 x_114 hq_115 hb_116 hc_117 H=> ?_
    obtain ⟨hg_118,H⟩:=H
    refine st_vec (I) (j:=0) (off:=0) rfl hq_115 hb_116 fun h I=> ?_
    replace I:=I.pull5.pull5.pull5.pull5.pull5
    exact kS1 {c with x7:=(((cpV c.x7 (Int.toNat (1:Int)) (sub c.x7.toList (0:Int) (7:Int))).setIfInBounds (Int.toNat (0:Int)) (IntKind.wrap .u32 ((IntKind.wrap .u32 ((IntKind.wrap .u32 ((IntKind.wrap .u32 ((IntKind.wrap .u32 (x_33+(IntKind.wrap .u32 (((BitVec.ofInt (IntKind.bits .u32) (IntKind.wrap .u32 (((BitVec.ofInt (IntKind.bits .u32) r_62 ^^^ (BitVec.ofInt (IntKind.bits .u32) r_63)).toNat:Int))) ^^^ (BitVec.ofInt (IntKind.bits .u32) r_64)).toNat:Int)))))+(IntKind.wrap .u32 (((BitVec.ofInt (IntKind.bits .u32) (IntKind.wrap .u32 (((BitVec.ofInt (IntKind.bits .u32) x_27 &&& (BitVec.ofInt (IntKind.bits .u32) x_39)).toNat:Int))) ^^^ (BitVec.ofInt (IntKind.bits .u32) (IntKind.wrap .u32 (((BitVec.ofInt (IntKind.bits .u32) (IntKind.wrap .u32 ((BitVec.ofInt (IntKind.bits .u32) (if IntKind.signed .u32 then -1 else IntKind.max .u32) ^^^ BitVec.ofInt (IntKind.bits .u32) x_27).toNat:Int)) &&& (BitVec.ofInt (IntKind.bits .u32) x_45)).toNat:Int))))).toNat:Int)))))+x_51))+x_57))+(IntKind.wrap .u32 ((IntKind.wrap .u32 (((BitVec.ofInt (IntKind.bits .u32) (IntKind.wrap .u32 (((BitVec.ofInt (IntKind.bits .u32) r_89 ^^^ (BitVec.ofInt (IntKind.bits .u32) r_90)).toNat:Int))) ^^^ (BitVec.ofInt (IntKind.bits .u32) r_91)).toNat:Int)))+(IntKind.wrap .u32 (((BitVec.ofInt (IntKind.bits .u32) (IntKind.wrap .u32 (((BitVec.ofInt (IntKind.bits .u32) (IntKind.wrap .u32 (((BitVec.ofInt (IntKind.bits .u32) x_21 &&& (BitVec.ofInt (IntKind.bits .u32) x_66)).toNat:Int))) ^^^ (BitVec.ofInt (IntKind.bits .u32) (IntKind.wrap .u32 (((BitVec.ofInt (IntKind.bits .u32) x_21 &&& (BitVec.ofInt (IntKind.bits .u32) x_72)).toNat:Int))))).toNat:Int))) ^^^ (BitVec.ofInt (IntKind.bits .u32) (IntKind.wrap .u32 (((BitVec.ofInt (IntKind.bits .u32) x_78 &&& (BitVec.ofInt (IntKind.bits .u32) x_84)).toNat:Int))))).toNat:Int)))))))).setIfInBounds (Int.toNat (4:Int)) (IntKind.wrap .u32 (x_108+(IntKind.wrap .u32 ((IntKind.wrap .u32 ((IntKind.wrap .u32 ((IntKind.wrap .u32 (x_33+(IntKind.wrap .u32 (((BitVec.ofInt (IntKind.bits .u32) (IntKind.wrap .u32 (((BitVec.ofInt (IntKind.bits .u32) r_62 ^^^ (BitVec.ofInt (IntKind.bits .u32) r_63)).toNat:Int))) ^^^ (BitVec.ofInt (IntKind.bits .u32) r_64)).toNat:Int)))))+(IntKind.wrap .u32 (((BitVec.ofInt (IntKind.bits .u32) (IntKind.wrap .u32 (((BitVec.ofInt (IntKind.bits .u32) x_27 &&& (BitVec.ofInt (IntKind.bits .u32) x_39)).toNat:Int))) ^^^ (BitVec.ofInt (IntKind.bits .u32) (IntKind.wrap .u32 (((BitVec.ofInt (IntKind.bits .u32) (IntKind.wrap .u32 ((BitVec.ofInt (IntKind.bits .u32) (if IntKind.signed .u32 then -1 else IntKind.max .u32) ^^^ BitVec.ofInt (IntKind.bits .u32) x_27).toNat:Int)) &&& (BitVec.ofInt (IntKind.bits .u32) x_45)).toNat:Int))))).toNat:Int)))))+x_51))+x_57))))),v18:=(IntKind.wrap .i64 (c.v18+(1:Int)))} w _ I H
  · replace I := I.pull3.drop1
    replace I:=I.pull3.drop1
    replace I:=I.pull3.pull3.pull3.pull3
    exact L2_r (c:= {c with v92:=(0:Int)}) (w:=w) I H k
theorem L1_r (I:I1 ρ X_b1 c w A h) (H:L1 Q' c) (k:kt ρ X_b1 A Q' Q):T1 X_b1 (Tx.sha_block_L1 ρ Q) c w h:=by
  refine Lf.ind H (fun v=> ∀ (w:W) (h:Hp),I1 ρ X_b1 v w A h→T1 X_b1 (Tx.sha_block_L1 ρ Q) v w h) ?_ w h I
  rintro c S hS HB w h I
  refine Tx.sha_block_L1_in _ _ _ _ _ _ _ _ _ ?_
  try simp only [nrm_v]
  exact B1_r (c:=c) (w:=w) I HB (fun c w h I H=>hS _ H w h I) k
end sha_block
def sha_block (h0:Vector Int 8) (b1:List Int) (Q:sha_block.QT):Prop:=
  sha_spread b1 fun r_6=>
  sha_constants fun r_7=>
  sha_block.L1 Q {sha_block.v0 with h2:=h0,v4:=(Vector.replicate 8 (0:Int)),w5:=r_6,k6:=r_7,x7:=h0,v18:=(0:Int)}
theorem sha_block_r {h0:Vector Int 8} {b1:List Int} {a_b1:Option Addr} {c_b1:Nat} {n_b1:Nat} {X_b1:At} {Q':sha_block.QT} {Q:sha_block.RT} (hX_b1:Rd (rI .u8) X_b1 a_b1 n_b1 c_b1 b1) (I:Inv h (X_b1::A)) (H:sha_block h0 b1 Q')
    (k:sha_block.kt ρ X_b1 A Q' Q):Tx.sha_block ρ h0.toList ⟨a_b1,n_b1,c_b1⟩ h Q:=by
  obtain rfl:=rd_len hX_b1 I
  unfold Tx.sha_block
  unfold sha_block at H
  try simp only [nrm_v]
  refine al_r [.vec .u32 8 h0] rfl I fun p_2 h I=> ?_
  refine al_r [.vec .u32 8 (Vector.replicate 8 (0:Int))] rfl I fun p_4 h I=> ?_
  replace I:=I.pull2
  refine sha_spread_r (b0:=b1) hX_b1 I H fun r_6 h I H=> ?_
  refine sha_constants_r I H fun r_7 h I H=> ?_
  refine al_r [.vec .u32 64 (Vector.replicate 64 (0:Int))] rfl I fun p_8 h I=> ?_
  refine al_r [.vec .u32 64 (Vector.replicate 64 (0:Int))] rfl I fun p_10 h I=> ?_
  refine stA_r I.pull1 0 1 0 [.vec .u32 64 r_6] rfl rfl rfl (by first | exact all_segs rfl | exact all_one (by simp [segs,Seg.cells,allOne,allOne_append,allOne_lump,Value.oneCell'])) fun h (I:Inv h (blk p_8 (ρ.T 29) [.vec .u32 64 r_6]::_))=> ?_
  refine stA_r I.pull1 0 1 0 [.vec .u32 64 r_7] rfl rfl rfl (by first | exact all_segs rfl | exact all_one (by simp [segs,Seg.cells,allOne,allOne_append,allOne_lump,Value.oneCell'])) fun h (I:Inv h (blk p_10 (ρ.T 29) [.vec .u32 64 r_7]::_))=> ?_
  refine ldL_r (I.pull4.lump 0 0 rfl) ?_
  try simp only [nrm_v]
  refine al_r [.vec .u32 8 (Vector.replicate 8 (0:Int))] rfl I fun p_12 h I=> ?_
  refine stA_r I 0 1 0 [.vec .u32 8 h0] rfl rfl rfl (by first | exact all_segs rfl | exact all_one (by simp [segs,Seg.cells,allOne,allOne_append,allOne_lump,Value.oneCell'])) fun h (I:Inv h (blk p_12 (ρ.T 28) [.vec .u32 8 h0]::_))=> ?_
  replace I:=I.pull1.pull2.pull4.pull5.pull5
  exact sha_block.L1_r (c:= {sha_block.v0 with h2:=h0,v4:=(Vector.replicate 8 (0:Int)),w5:=r_6,k6:=r_7,x7:=h0,v18:=(0:Int)}) (w:= {sha_block.w0 with p_h2:=p_2,p_v4:=p_4,p_w5:=p_8,p_k6:=p_10,p_x7:=p_12}) I H k
namespace sha_State_Write
structure V where
  b1:List Int
  s2:sha_State
  v4:sha_State
  v17:Bool
  all5:List Int
structure W where
  a_b1:Option Addr
  c_b1:Nat
  p_s2:Addr
  a_s2_1:Option Addr
  c_s2_1:Nat
  p_v4:Addr
  a_v4_1:Option Addr
  c_v4_1:Nat
  a_all5:Option Addr
  c_all5:Nat
def v0:V:=⟨[],(⟨(Vector.replicate 8 (0:Int)),[],(0:Int)⟩:sha_State),(⟨(Vector.replicate 8 (0:Int)),[],(0:Int)⟩:sha_State),false,[]⟩
def w0:W:=⟨none,0,⟨0,0,none⟩,none,0,⟨0,0,none⟩,none,0,none,0⟩
abbrev QT:=sha_State→Prop
abbrev RT:=List Int→Sl→Int→Hp→Prop
def kt (ρ:Ids) (X_b1:At) (A:List At) (Q':QT) (Q:RT):Prop:=
  ∀ (r0:sha_State) (ra0_1:Option Addr) (rc0_1:Nat) (h':Hp),Inv h' (roS (rI .u8) ra0_1 r0.rest.length rc0_1 r0.rest::X_b1::A)→Q' r0→Q r0.h.toList ⟨ra0_1,r0.rest.length,rc0_1⟩ r0.n h'
def I1 (ρ:Ids) (X_b1:At) (c:V) (w:W) (A:List At) (h:Hp):Prop:=
  Rd (rI .u8) X_b1 w.a_b1 c.b1.length w.c_b1 c.b1∧Inv h (X_b1::blk w.p_s2 (ρ.T 27) [.vec .u32 8 c.s2.h, .one (.slice w.a_s2_1 c.s2.rest.length w.c_s2_1), .one (.int .u64 c.s2.n)]::roS (rI .u8) w.a_s2_1 c.s2.rest.length w.c_s2_1 c.s2.rest::blk w.p_v4 (ρ.T 27) [.vec .u32 8 c.v4.h, .one (.slice w.a_v4_1 c.v4.rest.length w.c_v4_1), .one (.int .u64 c.v4.n)]::ownS (rI .u8) w.a_v4_1 c.v4.rest.length w.c_v4_1 c.v4.rest::A)
def I2 (ρ:Ids) (X_b1:At) (c:V) (w:W) (A:List At) (h:Hp):Prop:=
  Inv h (X_b1::blk w.p_s2 (ρ.T 27) [.vec .u32 8 c.s2.h, .one (.slice w.a_s2_1 c.s2.rest.length w.c_s2_1), .one (.int .u64 c.s2.n)]::roS (rI .u8) w.a_s2_1 c.s2.rest.length w.c_s2_1 c.s2.rest::blk w.p_v4 (ρ.T 27) [.vec .u32 8 c.v4.h, .one (.slice w.a_v4_1 c.v4.rest.length w.c_v4_1), .one (.int .u64 c.v4.n)]::ownS (rI .u8) w.a_v4_1 c.v4.rest.length w.c_v4_1 c.v4.rest::ownS (rI .u8) w.a_all5 c.all5.length w.c_all5 c.all5::A)
abbrev Y2:=Addr→Addr→Sl→Hp→Prop
abbrev T2 (X_b1:At) (S:Y2) (c:V) (w:W) (h:Hp):Prop:=S w.p_s2 w.p_v4 ⟨w.a_all5,c.all5.length,w.c_all5⟩ h
def k2t (ρ:Ids) (X_b1:At) (A:List At) (S':V→Prop) (S:Y2):Prop:= ∀ (c:V) (w:W) (h:Hp),I2 ρ X_b1 c w A h→S' c→T2 X_b1 S c w h
def I3 (ρ:Ids) (X_b1:At) (c:V) (w:W) (A:List At) (h:Hp):Prop:=
  Rd (rI .u8) X_b1 w.a_b1 c.b1.length w.c_b1 c.b1∧Inv h (X_b1::blk w.p_s2 (ρ.T 27) [.vec .u32 8 c.s2.h, .one (.slice w.a_s2_1 c.s2.rest.length w.c_s2_1), .one (.int .u64 c.s2.n)]::roS (rI .u8) w.a_s2_1 c.s2.rest.length w.c_s2_1 c.s2.rest::blk w.p_v4 (ρ.T 27) [.vec .u32 8 c.v4.h, .one (.slice w.a_v4_1 c.v4.rest.length w.c_v4_1), .one (.int .u64 c.v4.n)]::ownS (rI .u8) w.a_v4_1 c.v4.rest.length w.c_v4_1 c.v4.rest::A)
variable {X_b1:At} {c:V} {w:W} {Q':QT} {Q:RT} {S2':V→Prop} {S2:Y2}
def B2 (S2:V→Prop) (Q:QT) (c:V):Prop:=
  br (decide ((c.all5.length:Int)≥(64:Int)))
  ((SlOk c.all5 (0:Int) (64:Int))∧
  sha_block c.s2.h (sub c.all5 (0:Int) (64:Int)) fun r_29=>
  (SlOk c.all5 (64:Int) (c.all5.length:Int))∧
  S2 {c with s2:=(⟨r_29,c.s2.rest,c.s2.n⟩:sha_State),all5:=(sub c.all5 (64:Int) (c.all5.length:Int))})
  (Q (⟨c.s2.h,c.all5,c.s2.n⟩:sha_State))
def L2 (Q:QT) (c:V):Prop:=Lf (fun S=>B2 S Q) c
theorem L2_in {Q:QT} {c:V} (H:B2 (L2 Q) Q c):L2 Q c:=Lf.fold H
theorem B2_r (I:I2 ρ X_b1 c w A h) (H:B2 S2' Q' c) (kS2:k2t ρ X_b1 A S2' S2) (k:kt ρ X_b1 A Q' Q):T2 X_b1 (Tx.sha_State_Write_B2 ρ S2 Q) c w h:=by
  unfold I2 at I
  unfold T2 Tx.sha_State_Write_B2
  unfold B2 at H
  refine br_r H (fun hb H=> ?_) (fun hb H=> ?_)
  · refine ldL_r (I.pull1.lump 0 0 rfl) ?_
    try simp only [nrm_v]
    have hS_28:=H.1
    replace H:=H.2
    refine sl_part I.pull5 hS_28 ?_
    have hr_27:Rd (rI .u8) (ownS (rI .u8) w.a_all5 c.all5.length w.c_all5 c.all5) (resl w.a_all5 w.c_all5 1 ((Int.toNat (0:Int):Nat):Int)) (sub c.all5 (0:Int) (64:Int)).length (w.c_all5 - Int.toNat (0:Int)) (sub c.all5 (0:Int) (64:Int)):=rd_part rd_own hS_28
    replace I:=I.pull5
    try simp only [nrm_v]
    refine sha_block_r (h0:=c.s2.h) (b1:=(sub c.all5 (0:Int) (64:Int))) hr_27 I H fun r_29 h I H=> ?_
    refine stA_r I.pull2 0 1 0 [.vec .u32 8 r_29] rfl rfl rfl (by first | exact all_segs rfl | exact all_one (by simp [segs,Seg.cells,allOne,allOne_append,allOne_lump,Value.oneCell'])) fun h (I:Inv h (blk w.p_s2 (ρ.T 27) [.vec .u32 8 r_29, .one (.slice w.a_s2_1 c.s2.rest.length w.c_s2_1), .one (.int .u64 c.s2.n)]::_))=> ?_
    refine sl_own I.pull1 H.1 fun a_30 c_31 I=> ?_
    replace H:=H.2
    replace I:=I.pull3.dupR
    replace I:=I.pull1.drop1
    replace I:=I.pull1.pull5.pull5.pull3.pull4.pull5
    exact kS2 {c with s2:=(⟨r_29,c.s2.rest,c.s2.n⟩:sha_State),all5:=(sub c.all5 (64:Int) (c.all5.length:Int))} {w with a_all5:=a_30,c_all5:=c_31} _ I H
  · refine st_r I.pull1 1 8 rfl fun h (I : Inv h (blk w.p_s2 (ρ.T 27) [.vec .u32 8 c.s2.h, .one (.slice w.a_all5 c.all5.length w.c_all5), .one (.int .u64 c.s2.n)] :: _)) => ?_
    refine ldL_r (I.lump 0 0 rfl) ?_
    refine ldS_r (I.cell 1 8 rfl) ?_
    refine ldI_r (I.cell 2 9 rfl) ?_
    try simp only [nrm_v]
    refine stA_r I.pull3 0 3 0 [.vec .u32 8 c.s2.h, .one (.slice w.a_all5 c.all5.length w.c_all5), .one (.int .u64 c.s2.n)] rfl rfl rfl (by first | exact all_segs rfl | exact all_one (by simp [segs,Seg.cells,allOne,allOne_append,allOne_lump,Value.oneCell'])) fun h (I:Inv h (blk w.p_v4 (ρ.T 27) [.vec .u32 8 c.s2.h, .one (.slice w.a_all5 c.all5.length w.c_all5), .one (.int .u64 c.s2.n)]::_))=> ?_
    refine ldL_r (I.lump 0 0 rfl) ?_
    refine ldS_r (I.cell 1 8 rfl) ?_
    refine ldI_r (I.cell 2 9 rfl) ?_
    try simp only [nrm_v]
    replace I:=I.pull5.freeze
    replace I:=I.dupR
    replace I:=I.pull1.drop1
    replace I:=I.pull1.drop1
    replace I:=I.pull1.drop1
    replace I:=I.pull2.drop1
    replace I:=I.pull2.drop1
    replace I:=I.pull1.pull1
    exact k (⟨c.s2.h,c.all5,c.s2.n⟩:sha_State) w.a_all5 w.c_all5 _ I H
theorem L2_r (I:I2 ρ X_b1 c w A h) (H:L2 Q' c) (k:kt ρ X_b1 A Q' Q):T2 X_b1 (Tx.sha_State_Write_L2 ρ Q) c w h:=by
  refine Lf.ind H (fun v=> ∀ (w:W) (h:Hp),I2 ρ X_b1 v w A h→T2 X_b1 (Tx.sha_State_Write_L2 ρ Q) v w h) ?_ w h I
  rintro c S hS HB w h I
  refine Tx.sha_State_Write_L2_in _ _ _ _ _ _ ?_
  try simp only [nrm_v]
  exact B2_r (c:=c) (w:=w) I HB (fun c w h I H=>hS _ H w h I) k
def K3 (Q:QT) (c:V):Prop:=
  (Bnd (([]:List Int).length+c.s2.rest.length))∧
  (Bnd ((([]:List Int)++c.s2.rest).length+c.b1.length))∧
  L2 Q {c with s2:=(⟨c.s2.h,c.s2.rest,(IntKind.wrap .u64 (c.s2.n+(IntKind.wrap .u64 (c.b1.length:Int))))⟩:sha_State),all5:=((([]:List Int)++c.s2.rest)++c.b1)}
theorem K3_r (I:I3 ρ X_b1 c w A h) (H:K3 Q' c) (k:kt ρ X_b1 A Q' Q):Tx.sha_State_Write_K3 ρ Q ⟨w.a_b1,c.b1.length,w.c_b1⟩ w.p_s2 w.p_v4 h:=by
  obtain ⟨hX_b1,I⟩:=I
  unfold Tx.sha_State_Write_K3
  unfold K3 at H
  refine ldI_r (I.pull1.cell 2 9 rfl) ?_
  refine st_r I.pull1 2 9 rfl fun h (I:Inv h (blk w.p_s2 (ρ.T 27) [.vec .u32 8 c.s2.h, .one (.slice w.a_s2_1 c.s2.rest.length w.c_s2_1), .one (.int .u64 (IntKind.wrap .u64 (c.s2.n+(IntKind.wrap .u64 (c.b1.length:Int)))))]::_))=> ?_
  refine ldS_r (I.cell 1 8 rfl) ?_
  replace I:=I.nilO (rI .u8)
  refine ap_r rd_ro I.pull3.pull1 rfl (by decide) (by decide) H.1 fun a_41 c_42 h I=> ?_
  replace H:=H.2
  refine ap_r hX_b1 I.pull3.pull1 rfl (by decide) (by decide) H.1 fun a_44 c_45 h I=> ?_
  replace H:=H.2
  replace I:=I.pull2.dupR
  replace I:=I.pull1.drop1
  replace I:=I.pull1.pull5.pull5.pull3.pull5.pull5
  exact L2_r (c:= {c with s2:=(⟨c.s2.h,c.s2.rest,(IntKind.wrap .u64 (c.s2.n+(IntKind.wrap .u64 (c.b1.length:Int))))⟩:sha_State),all5:=((([]:List Int)++c.s2.rest)++c.b1)}) (w:= {w with a_all5:=a_44,c_all5:=c_45}) I H k
def K1 (Q:QT) (c:V):Prop:=
  br c.v17
  (sha_first fun r_16=>
  K3 Q {c with s2:=(⟨r_16,c.s2.rest,c.s2.n⟩:sha_State)})
  (K3 Q c)
theorem K1_r (I:I1 ρ X_b1 c w A h) (H:K1 Q' c) (k:kt ρ X_b1 A Q' Q):Tx.sha_State_Write_K1 ρ Q ⟨w.a_b1,c.b1.length,w.c_b1⟩ w.p_s2 w.p_v4 c.v17 h:=by
  obtain ⟨hX_b1,I⟩:=I
  unfold Tx.sha_State_Write_K1
  unfold K1 at H
  refine br_r H (fun hb H=> ?_) (fun hb H=> ?_)
  · refine sha_first_r  I H fun r_16 h I H => ?_
    refine stA_r I.pull1 0 1 0 [.vec .u32 8 r_16] rfl rfl rfl (by first | exact all_segs rfl | exact all_one (by simp [segs,Seg.cells,allOne,allOne_append,allOne_lump,Value.oneCell'])) fun h (I:Inv h (blk w.p_s2 (ρ.T 27) [.vec .u32 8 r_16, .one (.slice w.a_s2_1 c.s2.rest.length w.c_s2_1), .one (.int .u64 c.s2.n)]::_))=> ?_
    replace I:=I.pull2.dupR
    replace I:=I.pull1.drop1
    replace I:=I.pull4.pull4.pull2.pull3.pull4
    exact K3_r (c:= {c with s2:=(⟨r_16,c.s2.rest,c.s2.n⟩:sha_State)}) (w:=w) ⟨hX_b1,I⟩ H k
  · replace I := I.pull2.dupR
    replace I:=I.pull1.drop1
    replace I:=I.pull4.pull4.pull2.pull4.pull4
    exact K3_r (c:=c) (w:=w) ⟨hX_b1,I⟩ H k
end sha_State_Write
def sha_State_Write (s0:sha_State) (b1:List Int) (Q:sha_State_Write.QT):Prop:=
  br (decide (s0.n<(64:Int)))
  (sha_State_Write.K1 Q {sha_State_Write.v0 with b1:=b1,s2:=s0,v4:=(⟨(Vector.replicate 8 (0:Int)),([]:List Int),(0:Int)⟩:sha_State),v17:=((s0.rest.length:Int)==(IntKind.wrap .i64 s0.n))})
  (sha_State_Write.K1 Q {sha_State_Write.v0 with b1:=b1,s2:=s0,v4:=(⟨(Vector.replicate 8 (0:Int)),([]:List Int),(0:Int)⟩:sha_State),v17:=false})
theorem sha_State_Write_r {s0:sha_State} {b1:List Int} {a_s0_1:Option Addr} {c_s0_1:Nat} {n_s0_1:Nat} {a_b1:Option Addr} {c_b1:Nat} {n_b1:Nat} {X_b1:At} {Q':sha_State_Write.QT} {Q:sha_State_Write.RT} (hX_b1:Rd (rI .u8) X_b1 a_b1 n_b1 c_b1 b1) (I:Inv h (roS (rI .u8) a_s0_1 n_s0_1 c_s0_1 s0.rest::X_b1::A)) (H:sha_State_Write s0 b1 Q')
    (k:sha_State_Write.kt ρ X_b1 A Q' Q):Tx.sha_State_Write ρ s0.h.toList ⟨a_s0_1,n_s0_1,c_s0_1⟩ s0.n ⟨a_b1,n_b1,c_b1⟩ h Q:=by
  obtain rfl:=ro_len I
  obtain rfl:=rd_len hX_b1 I.pull1
  unfold Tx.sha_State_Write
  unfold sha_State_Write at H
  try simp only [nrm_v]
  refine al_r [.vec .u32 8 s0.h, .one (.slice a_s0_1 s0.rest.length c_s0_1), .one (.int .u64 s0.n)] rfl I fun p_3 h I=> ?_
  refine al_r [.vec .u32 8 (Vector.replicate 8 (0:Int)), .one (.slice none 0 0), .one (.int .u64 (0:Int))] rfl I fun p_5 h I=> ?_
  refine ldI_r (I.pull1.cell 2 9 rfl) ?_
  refine br_r H (fun hb H=> ?_) (fun hb H=> ?_)
  · refine ldS_r (I.pull1.cell 1 8 rfl) ?_
    refine ldI_r (I.pull1.cell 2 9 rfl) ?_
    replace I:=I.pull2.dupR
    replace I:=I.nilO (rI .u8)
    replace I:=I.pull2.drop1
    replace I:=I.pull2.pull2.pull3.pull4
    exact sha_State_Write.K1_r (c:= {sha_State_Write.v0 with b1:=b1,s2:=s0,v4:=(⟨(Vector.replicate 8 (0:Int)),([]:List Int),(0:Int)⟩:sha_State),v17:=((s0.rest.length:Int)==(IntKind.wrap .i64 s0.n))}) (w:= {sha_State_Write.w0 with a_b1:=a_b1,c_b1:=c_b1,p_s2:=p_3,a_s2_1:=a_s0_1,c_s2_1:=c_s0_1,p_v4:=p_5,a_v4_1:=none,c_v4_1:=0}) ⟨hX_b1,I⟩ H k
  · replace I := I.pull2.dupR
    replace I:=I.nilO (rI .u8)
    replace I:=I.pull2.drop1
    replace I:=I.pull2.pull2.pull3.pull4
    exact sha_State_Write.K1_r (c:= {sha_State_Write.v0 with b1:=b1,s2:=s0,v4:=(⟨(Vector.replicate 8 (0:Int)),([]:List Int),(0:Int)⟩:sha_State),v17:=false}) (w:= {sha_State_Write.w0 with a_b1:=a_b1,c_b1:=c_b1,p_s2:=p_3,a_s2_1:=a_s0_1,c_s2_1:=c_s0_1,p_v4:=p_5,a_v4_1:=none,c_v4_1:=0}) ⟨hX_b1,I⟩ H k
namespace sha_State_Sum
structure V where
  s1:sha_State
  v2:Vector Int 32
  pad3:List Int
  v21:Int
  last5:sha_State
  d6:Vector Int 32
  v39:Int
structure W where
  p_s1:Addr
  a_s1_1:Option Addr
  c_s1_1:Nat
  p_v2:Addr
  a_pad3:Option Addr
  c_pad3:Nat
  p_last5:Addr
  a_last5_1:Option Addr
  c_last5_1:Nat
  p_d6:Addr
def v0:V:=⟨(⟨(Vector.replicate 8 (0:Int)),[],(0:Int)⟩:sha_State),Vector.replicate 32 0,[],0,(⟨(Vector.replicate 8 (0:Int)),[],(0:Int)⟩:sha_State),Vector.replicate 32 0,0⟩
def w0:W:=⟨⟨0,0,none⟩,none,0,⟨0,0,none⟩,none,0,⟨0,0,none⟩,none,0,⟨0,0,none⟩⟩
abbrev QT:=(Vector Int 32)→Prop
abbrev RT:=List Int→Hp→Prop
def kt (ρ:Ids) (A:List At) (Q':QT) (Q:RT):Prop:=
  ∀ (r0:Vector Int 32) (h':Hp),Inv h' (A)→Q' r0→Q r0.toList h'
def I1 (ρ:Ids) (c:V) (w:W) (A:List At) (h:Hp):Prop:=
  Inv h (blk w.p_s1 (ρ.T 27) [.vec .u32 8 c.s1.h, .one (.slice w.a_s1_1 c.s1.rest.length w.c_s1_1), .one (.int .u64 c.s1.n)]::roS (rI .u8) w.a_s1_1 c.s1.rest.length w.c_s1_1 c.s1.rest::blk w.p_v2 (ρ.T 19) [.vec .u8 32 c.v2]::ownS (rI .u8) w.a_pad3 c.pad3.length w.c_pad3 c.pad3::A)
abbrev Y1:=Addr→Addr→Sl→Hp→Prop
abbrev T1 (S:Y1) (c:V) (w:W) (h:Hp):Prop:=S w.p_s1 w.p_v2 ⟨w.a_pad3,c.pad3.length,w.c_pad3⟩ h
def k1t (ρ:Ids) (A:List At) (S':V→Prop) (S:Y1):Prop:= ∀ (c:V) (w:W) (h:Hp),I1 ρ c w A h→S' c→T1 S c w h
def I2 (ρ:Ids) (c:V) (w:W) (A:List At) (h:Hp):Prop:=
  Inv h (blk w.p_s1 (ρ.T 27) [.vec .u32 8 c.s1.h, .one (.slice w.a_s1_1 c.s1.rest.length w.c_s1_1), .one (.int .u64 c.s1.n)]::roS (rI .u8) w.a_s1_1 c.s1.rest.length w.c_s1_1 c.s1.rest::blk w.p_v2 (ρ.T 19) [.vec .u8 32 c.v2]::ownS (rI .u8) w.a_pad3 c.pad3.length w.c_pad3 c.pad3::A)
abbrev Y2:=Addr→Addr→Sl→Int→Hp→Prop
abbrev T2 (S:Y2) (c:V) (w:W) (h:Hp):Prop:=S w.p_s1 w.p_v2 ⟨w.a_pad3,c.pad3.length,w.c_pad3⟩ c.v21 h
def k2t (ρ:Ids) (A:List At) (S':V→Prop) (S:Y2):Prop:= ∀ (c:V) (w:W) (h:Hp),I2 ρ c w A h→S' c→T2 S c w h
def I3 (ρ:Ids) (c:V) (w:W) (A:List At) (h:Hp):Prop:=
  Inv h (blk w.p_v2 (ρ.T 19) [.vec .u8 32 c.v2]::blk w.p_last5 (ρ.T 27) [.vec .u32 8 c.last5.h, .one (.slice w.a_last5_1 c.last5.rest.length w.c_last5_1), .one (.int .u64 c.last5.n)]::roS (rI .u8) w.a_last5_1 c.last5.rest.length w.c_last5_1 c.last5.rest::blk w.p_d6 (ρ.T 19) [.vec .u8 32 c.d6]::A)
abbrev Y3:=Addr→Addr→Addr→Int→Hp→Prop
abbrev T3 (S:Y3) (c:V) (w:W) (h:Hp):Prop:=S w.p_v2 w.p_last5 w.p_d6 c.v39 h
def k3t (ρ:Ids) (A:List At) (S':V→Prop) (S:Y3):Prop:= ∀ (c:V) (w:W) (h:Hp),I3 ρ c w A h→S' c→T3 S c w h
variable {c:V} {w:W} {Q':QT} {Q:RT} {S1' S2' S3':V→Prop} {S1:Y1} {S2:Y2} {S3:Y3}
def B3 (S3:V→Prop) (Q:QT) (c:V):Prop:=
  br (decide (c.v39<(32:Int)))
  (ixP c.last5.h.toList (IntKind.wrap .i64 (Int.tdiv c.v39 (4:Int))) fun x_54=>
  (0≤(IntKind.wrap .i64 ((24:Int) - (IntKind.wrap .i64 ((8:Int)*(Int.tmod c.v39 (4:Int)))))))∧
  ixP c.d6.toList c.v39 fun x_60=>
  S3 {c with d6:=(c.d6.setIfInBounds (Int.toNat c.v39) (IntKind.wrap .u8 (Int.fdiv x_54 (2 ^ (min (Int.toNat (IntKind.wrap .i64 ((24:Int) - (IntKind.wrap .i64 ((8:Int)*(Int.tmod c.v39 (4:Int))))))) (IntKind.bits .u32)))))),v39:=(IntKind.wrap .i64 (c.v39+(1:Int)))})
  (Q c.d6)
def L3 (Q:QT) (c:V):Prop:=Lf (fun S=>B3 S Q) c
theorem L3_in {Q:QT} {c:V} (H:B3 (L3 Q) Q c):L3 Q c:=Lf.fold H
theorem B3_r (I:I3 ρ c w A h) (H:B3 S3' Q' c) (kS3:k3t ρ A S3' S3) (k:kt ρ A Q' Q):T3 (Tx.sha_State_Sum_B3 ρ S3 Q) c w h:=by
  unfold I3 at I
  unfold T3 Tx.sha_State_Sum_B3
  unfold B3 at H
  refine br_r H (fun hb H=> ?_) (fun hb H=> ?_)
  · refine ⟨by decide, ?_⟩
    refine ix_vec I.pull1 (j:=0) (off:=0) rfl (ixP_keep H) fun q_53 x_54 hq_55 hb_56 hc_57 H=> ?_
    obtain ⟨hg_58,H⟩:=H
    refine ldI_r hc_57 ?_
    refine ⟨by decide, ?_⟩
    refine and_r H fun H=> ?_
    refine ix_vec I.pull3 (j:=0) (off:=0) rfl (ixP_keep H) fun q_59 x_60 hq_61 hb_62 hc_63 H=> ?_
    obtain ⟨hg_64,H⟩:=H
    refine st_vec (I.pull3) (j:=0) (off:=0) rfl hq_61 hb_62 fun h I=> ?_
    replace I:=I.pull3.dupR
    replace I:=I.pull1.drop1
    replace I:=I.pull1.pull1.pull3.pull3
    exact kS3 {c with d6:=(c.d6.setIfInBounds (Int.toNat c.v39) (IntKind.wrap .u8 (Int.fdiv x_54 (2 ^ (min (Int.toNat (IntKind.wrap .i64 ((24:Int) - (IntKind.wrap .i64 ((8:Int)*(Int.tmod c.v39 (4:Int))))))) (IntKind.bits .u32)))))),v39:=(IntKind.wrap .i64 (c.v39+(1:Int)))} w _ I H
  · refine ldL_r (I.pull3.lump 0 0 rfl) ?_
    try simp only [nrm_v]
    refine stA_r I 0 1 0 [.vec .u8 32 c.d6] rfl rfl rfl (by first | exact all_segs rfl | exact all_one (by simp [segs,Seg.cells,allOne,allOne_append,allOne_lump,Value.oneCell'])) fun h (I:Inv h (blk w.p_v2 (ρ.T 19) [.vec .u8 32 c.d6]::_))=> ?_
    refine ldL_r (I.lump 0 0 rfl) ?_
    try simp only [nrm_v]
    replace I:=I.drop1
    replace I:=I.drop1
    replace I:=I.drop1
    replace I:=I.drop1
    exact k c.d6 _ I H
theorem L3_r (I:I3 ρ c w A h) (H:L3 Q' c) (k:kt ρ A Q' Q):T3 (Tx.sha_State_Sum_L3 ρ Q) c w h:=by
  refine Lf.ind H (fun v=> ∀ (w:W) (h:Hp),I3 ρ v w A h→T3 (Tx.sha_State_Sum_L3 ρ Q) v w h) ?_ w h I
  rintro c S hS HB w h I
  refine Tx.sha_State_Sum_L3_in _ _ _ _ _ _ _ ?_
  try simp only [nrm_v]
  exact B3_r (c:=c) (w:=w) I HB (fun c w h I H=>hS _ H w h I) k
def B2 (S2:V→Prop) (Q:QT) (c:V):Prop:=
  br (decide (c.v21<(8:Int)))
  ((0≤(IntKind.wrap .i64 ((8:Int)*(IntKind.wrap .i64 ((7:Int) - c.v21)))))∧
  (Bnd (c.pad3.length+([(IntKind.wrap .u8 (Int.fdiv (IntKind.wrap .u64 ((8:Int)*c.s1.n)) (2 ^ (min (Int.toNat (IntKind.wrap .i64 ((8:Int)*(IntKind.wrap .i64 ((7:Int) - c.v21))))) (IntKind.bits .u64)))))]).length))∧
  S2 {c with pad3:=(c.pad3++[(IntKind.wrap .u8 (Int.fdiv (IntKind.wrap .u64 ((8:Int)*c.s1.n)) (2 ^ (min (Int.toNat (IntKind.wrap .i64 ((8:Int)*(IntKind.wrap .i64 ((7:Int) - c.v21))))) (IntKind.bits .u64)))))]),v21:=(IntKind.wrap .i64 (c.v21+(1:Int)))})
  (sha_State_Write c.s1 c.pad3 fun r_40=>
  L3 Q {c with last5:=r_40,d6:=(Vector.replicate 32 (0:Int)),v39:=(0:Int)})
def L2 (Q:QT) (c:V):Prop:=Lf (fun S=>B2 S Q) c
theorem L2_in {Q:QT} {c:V} (H:B2 (L2 Q) Q c):L2 Q c:=Lf.fold H
theorem B2_r (I:I2 ρ c w A h) (H:B2 S2' Q' c) (kS2:k2t ρ A S2' S2) (k:kt ρ A Q' Q):T2 (Tx.sha_State_Sum_B2 ρ S2 Q) c w h:=by
  unfold I2 at I
  unfold T2 Tx.sha_State_Sum_B2
  unfold B2 at H
  refine br_r H (fun hb H=> ?_) (fun hb H=> ?_)
  · refine ldI_r (I.cell 2 9 rfl) ?_
    refine and_r H fun H=> ?_
    refine al_r [.one (.int .u8 (IntKind.wrap .u8 (Int.fdiv (IntKind.wrap .u64 ((8:Int)*c.s1.n)) (2 ^ (min (Int.toNat (IntKind.wrap .i64 ((8:Int)*(IntKind.wrap .i64 ((7:Int) - c.v21))))) (IntKind.bits .u64))))))] rfl I fun p_30 h I=> ?_
    replace I:=I.litN (rI .u8)
    replace I:=I.repI (k:= .u8) (IntKind.wrap .u8 (Int.fdiv (IntKind.wrap .u64 ((8:Int)*c.s1.n)) (2 ^ (min (Int.toNat (IntKind.wrap .i64 ((8:Int)*(IntKind.wrap .i64 ((7:Int) - c.v21))))) (IntKind.bits .u64)))))
    replace I:=I.pull1.pull1
    replace I:=I.litC
    replace I:=I.pull1.pull1
    replace I:=Inv.litL (l:=[(IntKind.wrap .u8 (Int.fdiv (IntKind.wrap .u64 ((8:Int)*c.s1.n)) (2 ^ (min (Int.toNat (IntKind.wrap .i64 ((8:Int)*(IntKind.wrap .i64 ((7:Int) - c.v21))))) (IntKind.bits .u64)))))]) I rfl rfl
    refine ap_r rd_own I.pull4 rfl (by decide) (by decide) H.1 fun a_35 c_36 h I=> ?_
    replace H:=H.2
    replace I:=I.pull1.drop1
    replace I:=I.pull2.dupR
    replace I:=I.pull1.drop1
    replace I:=I.pull1.pull3.pull2.pull3
    exact kS2 {c with pad3:=(c.pad3++[(IntKind.wrap .u8 (Int.fdiv (IntKind.wrap .u64 ((8:Int)*c.s1.n)) (2 ^ (min (Int.toNat (IntKind.wrap .i64 ((8:Int)*(IntKind.wrap .i64 ((7:Int) - c.v21))))) (IntKind.bits .u64)))))]),v21:=(IntKind.wrap .i64 (c.v21+(1:Int)))} {w with a_pad3:=a_35,c_pad3:=c_36} _ I H
  · refine ldL_r (I.lump 0 0 rfl) ?_
    refine ldS_r (I.cell 1 8 rfl) ?_
    refine ldI_r (I.cell 2 9 rfl) ?_
    try simp only [nrm_v]
    replace I:=I.pull1.dupR
    replace I:=I.pull4.pull1
    try simp only [nrm_v]
    refine sha_State_Write_r (s0:=c.s1) (b1:=c.pad3) rd_own I H fun r_40 a_41 c_42 h I H=> ?_
    refine al_r [.vec .u32 8 (Vector.replicate 8 (0:Int)), .one (.slice none 0 0), .one (.int .u64 (0:Int))] rfl I fun p_44 h I=> ?_
    refine stA_r I 0 3 0 [.vec .u32 8 r_40.h, .one (.slice a_41 r_40.rest.length c_42), .one (.int .u64 r_40.n)] rfl rfl rfl (by first | exact all_segs rfl | exact all_one (by simp [segs,Seg.cells,allOne,allOne_append,allOne_lump,Value.oneCell'])) fun h (I:Inv h (blk p_44 (ρ.T 27) [.vec .u32 8 r_40.h, .one (.slice a_41 r_40.rest.length c_42), .one (.int .u64 r_40.n)]::_))=> ?_
    refine al_r [.vec .u8 32 (Vector.replicate 32 (0:Int))] rfl I fun p_46 h I=> ?_
    replace I:=I.pull2.dupR
    replace I:=I.pull1.drop1
    replace I:=I.pull3.drop1
    replace I:=I.pull3.drop1
    replace I:=I.pull3.drop1
    replace I:=I.pull1.pull1.pull2.pull3
    exact L3_r (c:= {c with last5:=r_40,d6:=(Vector.replicate 32 (0:Int)),v39:=(0:Int)}) (w:= {w with p_last5:=p_44,a_last5_1:=a_41,c_last5_1:=c_42,p_d6:=p_46}) I H k
theorem L2_r (I:I2 ρ c w A h) (H:L2 Q' c) (k:kt ρ A Q' Q):T2 (Tx.sha_State_Sum_L2 ρ Q) c w h:=by
  refine Lf.ind H (fun v=> ∀ (w:W) (h:Hp),I2 ρ v w A h→T2 (Tx.sha_State_Sum_L2 ρ Q) v w h) ?_ w h I
  rintro c S hS HB w h I
  refine Tx.sha_State_Sum_L2_in _ _ _ _ _ _ _ ?_
  try simp only [nrm_v]
  exact B2_r (c:=c) (w:=w) I HB (fun c w h I H=>hS _ H w h I) k
def B1 (S1:V→Prop) (Q:QT) (c:V):Prop:=
  br ((Int.tmod (IntKind.wrap .i64 ((IntKind.wrap .i64 ((c.s1.rest.length:Int)+(c.pad3.length:Int)))+(8:Int))) (64:Int)) !=(0:Int))
  ((Bnd (c.pad3.length+([(0:Int)]).length))∧
  S1 {c with pad3:=(c.pad3++[(0:Int)])})
  (L2 Q {c with v21:=(0:Int)})
def L1 (Q:QT) (c:V):Prop:=Lf (fun S=>B1 S Q) c
theorem L1_in {Q:QT} {c:V} (H:B1 (L1 Q) Q c):L1 Q c:=Lf.fold H
theorem B1_r (I:I1 ρ c w A h) (H:B1 S1' Q' c) (kS1:k1t ρ A S1' S1) (k:kt ρ A Q' Q):T1 (Tx.sha_State_Sum_B1 ρ S1 Q) c w h:=by
  unfold I1 at I
  unfold T1 Tx.sha_State_Sum_B1
  unfold B1 at H
  refine ldS_r (I.cell 1 8 rfl) ?_
  refine ⟨by decide, ?_⟩
  refine br_r H (fun hb H=> ?_) (fun hb H=> ?_)
  · refine al_r [.one (.int .u8 (0 : Int))] rfl I fun p_16 h I => ?_
    replace I:=I.litN (rI .u8)
    replace I:=I.repI (k:= .u8) (0:Int)
    replace I:=I.pull1.pull1
    replace I:=I.litC
    replace I:=I.pull1.pull1
    replace I:=Inv.litL (l:=[(0:Int)]) I rfl rfl
    refine ap_r rd_own I.pull4 rfl (by decide) (by decide) H.1 fun a_21 c_22 h I=> ?_
    replace H:=H.2
    replace I:=I.pull1.drop1
    replace I:=I.pull2.dupR
    replace I:=I.pull1.drop1
    replace I:=I.pull1.pull3.pull2.pull3
    exact kS1 {c with pad3:=(c.pad3++[(0:Int)])} {w with a_pad3:=a_21,c_pad3:=c_22} _ I H
  · replace I := I.pull1.dupR
    replace I:=I.pull1.drop1
    replace I:=I.pull3.pull3.pull2.pull3
    exact L2_r (c:= {c with v21:=(0:Int)}) (w:=w) I H k
theorem L1_r (I:I1 ρ c w A h) (H:L1 Q' c) (k:kt ρ A Q' Q):T1 (Tx.sha_State_Sum_L1 ρ Q) c w h:=by
  refine Lf.ind H (fun v=> ∀ (w:W) (h:Hp),I1 ρ v w A h→T1 (Tx.sha_State_Sum_L1 ρ Q) v w h) ?_ w h I
  rintro c S hS HB w h I
  refine Tx.sha_State_Sum_L1_in _ _ _ _ _ _ ?_
  try simp only [nrm_v]
  exact B1_r (c:=c) (w:=w) I HB (fun c w h I H=>hS _ H w h I) k
end sha_State_Sum
def sha_State_Sum (s0:sha_State) (Q:sha_State_Sum.QT):Prop:=
  sha_State_Sum.L1 Q {sha_State_Sum.v0 with s1:=s0,v2:=(Vector.replicate 32 (0:Int)),pad3:=[(128:Int)]}
theorem sha_State_Sum_r {s0:sha_State} {a_s0_1:Option Addr} {c_s0_1:Nat} {n_s0_1:Nat} {Q':sha_State_Sum.QT} {Q:sha_State_Sum.RT} (I:Inv h (roS (rI .u8) a_s0_1 n_s0_1 c_s0_1 s0.rest::A)) (H:sha_State_Sum s0 Q')
    (k:sha_State_Sum.kt ρ A Q' Q):Tx.sha_State_Sum ρ s0.h.toList ⟨a_s0_1,n_s0_1,c_s0_1⟩ s0.n h Q:=by
  obtain rfl:=ro_len I
  unfold Tx.sha_State_Sum
  unfold sha_State_Sum at H
  try simp only [nrm_v]
  refine al_r [.vec .u32 8 s0.h, .one (.slice a_s0_1 s0.rest.length c_s0_1), .one (.int .u64 s0.n)] rfl I fun p_2 h I=> ?_
  refine al_r [.vec .u8 32 (Vector.replicate 32 (0:Int))] rfl I fun p_4 h I=> ?_
  refine al_r [.one (.int .u8 (128:Int))] rfl I fun p_6 h I=> ?_
  replace I:=I.litN (rI .u8)
  replace I:=I.repI (k:= .u8) (128:Int)
  replace I:=I.pull1.pull1
  replace I:=I.litC
  replace I:=I.pull1.pull1
  replace I:=Inv.litL (l:=[(128:Int)]) I rfl rfl
  replace I:=I.pull3.dupR
  replace I:=I.pull1.drop1
  replace I:=I.pull1.pull2.pull2.pull3
  exact sha_State_Sum.L1_r (c:= {sha_State_Sum.v0 with s1:=s0,v2:=(Vector.replicate 32 (0:Int)),pad3:=[(128:Int)]}) (w:= {sha_State_Sum.w0 with p_s1:=p_2,a_s1_1:=a_s0_1,c_s1_1:=c_s0_1,p_v2:=p_4,a_pad3:=(some p_6),c_pad3:=1}) I H k
namespace sha_Sum
structure V where
  v2:Vector Int 32
  s3:sha_State
  v7:List (List Int)
  v8:Int
  v9:Int
structure W where
  p_v2:Addr
  p_s3:Addr
  a_s3_1:Option Addr
  c_s3_1:Nat
  a_v7:Option Addr
  c_v7:Nat
def v0:V:=⟨Vector.replicate 32 0,(⟨(Vector.replicate 8 (0:Int)),[],(0:Int)⟩:sha_State),[],0,0⟩
def w0:W:=⟨⟨0,0,none⟩,⟨0,0,none⟩,none,0,none,0⟩
abbrev QT:=(Vector Int 32)→Prop
abbrev RT:=List Int→Hp→Prop
def kt (ρ:Ids) (X_parts0:At) (A:List At) (Q':QT) (Q:RT):Prop:=
  ∀ (r0:Vector Int 32) (h':Hp),Inv h' (X_parts0::A)→Q' r0→Q r0.toList h'
def I1 (ρ:Ids) (X_parts0:At) (c:V) (w:W) (A:List At) (h:Hp):Prop:=
  Rd (rS (rI .u8)) X_parts0 w.a_v7 c.v7.length w.c_v7 c.v7∧Inv h (X_parts0::blk w.p_v2 (ρ.T 19) [.vec .u8 32 c.v2]::blk w.p_s3 (ρ.T 27) [.vec .u32 8 c.s3.h, .one (.slice w.a_s3_1 c.s3.rest.length w.c_s3_1), .one (.int .u64 c.s3.n)]::roS (rI .u8) w.a_s3_1 c.s3.rest.length w.c_s3_1 c.s3.rest::A)
abbrev Y1:=Addr→Addr→Sl→Int→Int→Hp→Prop
abbrev T1 (X_parts0:At) (S:Y1) (c:V) (w:W) (h:Hp):Prop:=S w.p_v2 w.p_s3 ⟨w.a_v7,c.v7.length,w.c_v7⟩ c.v8 c.v9 h
def k1t (ρ:Ids) (X_parts0:At) (A:List At) (S':V→Prop) (S:Y1):Prop:= ∀ (c:V) (w:W) (h:Hp),I1 ρ X_parts0 c w A h→S' c→T1 X_parts0 S c w h
variable {X_parts0:At} {c:V} {w:W} {Q':QT} {Q:RT} {S1':V→Prop} {S1:Y1}
def B1 (S1:V→Prop) (Q:QT) (c:V):Prop:=
  br (decide (c.v9<c.v8))
  (ixP c.v7 c.v9 fun x_15=>
  sha_State_Write c.s3 x_15 fun r_24=>
  S1 {c with s3:=r_24,v9:=(IntKind.wrap .i64 (c.v9+(1:Int)))})
  (sha_State_Sum c.s3 fun r_30=>
  Q r_30)
def L1 (Q:QT) (c:V):Prop:=Lf (fun S=>B1 S Q) c
theorem L1_in {Q:QT} {c:V} (H:B1 (L1 Q) Q c):L1 Q c:=Lf.fold H
theorem B1_r (I:I1 ρ X_parts0 c w A h) (H:B1 S1' Q' c) (kS1:k1t ρ X_parts0 A S1' S1) (k:kt ρ X_parts0 A Q' Q):T1 X_parts0 (Tx.sha_Sum_B1 ρ S1 Q) c w h:=by
  obtain ⟨hX_v7,I⟩:=I
  unfold T1 Tx.sha_Sum_B1
  unfold B1 at H
  refine br_r H (fun hb H=> ?_) (fun hb H=> ?_)
  · refine ixS_a hX_v7 I H fun p_16 a_20 c_21 x_15 he_17 hb_18 hc_19 I H => ?_
    refine ldS_r hc_19 ?_
    refine ldL_r (I.pull3.lump 0 0 rfl) ?_
    refine ldS_r (I.pull3.cell 1 8 rfl) ?_
    refine ldI_r (I.pull3.cell 2 9 rfl) ?_
    try simp only [nrm_v]
    replace I:=I.pull4.dupR
    replace I:=I.pull2.pull1
    try simp only [nrm_v]
    refine sha_State_Write_r (s0:=c.s3) (b1:=x_15) rd_ro I H fun r_24 a_25 c_26 h I H=> ?_
    refine stA_r I.pull5 0 3 0 [.vec .u32 8 r_24.h, .one (.slice a_25 r_24.rest.length c_26), .one (.int .u64 r_24.n)] rfl rfl rfl (by first | exact all_segs rfl | exact all_one (by simp [segs,Seg.cells,allOne,allOne_append,allOne_lump,Value.oneCell'])) fun h (I:Inv h (blk w.p_s3 (ρ.T 27) [.vec .u32 8 r_24.h, .one (.slice a_25 r_24.rest.length c_26), .one (.int .u64 r_24.n)]::_))=> ?_
    replace I:=I.pull1.dupR
    replace I:=I.pull1.drop1
    replace I:=I.pull2.drop1
    replace I:=I.pull2.drop1
    replace I:=I.pull1.pull3.pull3
    exact kS1 {c with s3:=r_24,v9:=(IntKind.wrap .i64 (c.v9+(1:Int)))} {w with a_s3_1:=a_25,c_s3_1:=c_26} _ ⟨hX_v7,I⟩ H
  · refine ldL_r (I.pull2.lump 0 0 rfl) ?_
    refine ldS_r (I.pull2.cell 1 8 rfl) ?_
    refine ldI_r (I.pull2.cell 2 9 rfl) ?_
    try simp only [nrm_v]
    replace I:=I.pull3.dupR
    try simp only [nrm_v]
    refine sha_State_Sum_r (s0:=c.s3) I H fun r_30 h I H=> ?_
    refine stA_r I.pull2 0 1 0 [.vec .u8 32 r_30] rfl rfl rfl (by first | exact all_segs rfl | exact all_one (by simp [segs,Seg.cells,allOne,allOne_append,allOne_lump,Value.oneCell'])) fun h (I:Inv h (blk w.p_v2 (ρ.T 19) [.vec .u8 32 r_30]::_))=> ?_
    refine ldL_r (I.lump 0 0 rfl) ?_
    try simp only [nrm_v]
    replace I:=I.drop1
    replace I:=I.drop1
    replace I:=I.pull1.drop1
    exact k r_30 _ I H
theorem L1_r (I:I1 ρ X_parts0 c w A h) (H:L1 Q' c) (k:kt ρ X_parts0 A Q' Q):T1 X_parts0 (Tx.sha_Sum_L1 ρ Q) c w h:=by
  refine Lf.ind H (fun v=> ∀ (w:W) (h:Hp),I1 ρ X_parts0 v w A h→T1 X_parts0 (Tx.sha_Sum_L1 ρ Q) v w h) ?_ w h I
  rintro c S hS HB w h I
  refine Tx.sha_Sum_L1_in _ _ _ _ _ _ _ _ ?_
  try simp only [nrm_v]
  exact B1_r (c:=c) (w:=w) I HB (fun c w h I H=>hS _ H w h I) k
end sha_Sum
def sha_Sum (parts0:List (List Int)) (Q:sha_Sum.QT):Prop:=
  sha_New fun r_4=>
  sha_Sum.L1 Q {sha_Sum.v0 with v2:=(Vector.replicate 32 (0:Int)),s3:=r_4,v7:=parts0,v8:=(parts0.length:Int),v9:=(0:Int)}
theorem sha_Sum_r {parts0:List (List Int)} {a_parts0:Option Addr} {c_parts0:Nat} {n_parts0:Nat} {X_parts0:At} {Q':sha_Sum.QT} {Q:sha_Sum.RT} (hX_parts0:Rd (rS (rI .u8)) X_parts0 a_parts0 n_parts0 c_parts0 parts0) (I:Inv h (X_parts0::A)) (H:sha_Sum parts0 Q')
    (k:sha_Sum.kt ρ X_parts0 A Q' Q):Tx.sha_Sum ρ ⟨a_parts0,n_parts0,c_parts0⟩ h Q:=by
  obtain rfl:=rd_len hX_parts0 I
  unfold Tx.sha_Sum
  unfold sha_Sum at H
  refine al_r [.vec .u8 32 (Vector.replicate 32 (0:Int))] rfl I fun p_2 h I=> ?_
  refine sha_New_r I H fun r_4 a_5 c_6 h I H=> ?_
  refine al_r [.vec .u32 8 (Vector.replicate 8 (0:Int)), .one (.slice none 0 0), .one (.int .u64 (0:Int))] rfl I fun p_8 h I=> ?_
  refine stA_r I 0 3 0 [.vec .u32 8 r_4.h, .one (.slice a_5 r_4.rest.length c_6), .one (.int .u64 r_4.n)] rfl rfl rfl (by first | exact all_segs rfl | exact all_one (by simp [segs,Seg.cells,allOne,allOne_append,allOne_lump,Value.oneCell'])) fun h (I:Inv h (blk p_8 (ρ.T 27) [.vec .u32 8 r_4.h, .one (.slice a_5 r_4.rest.length c_6), .one (.int .u64 r_4.n)]::_))=> ?_
  replace I:=I.pull1.dupR
  replace I:=I.pull1.drop1
  replace I:=I.pull1.pull2.pull3
  exact sha_Sum.L1_r (c:= {sha_Sum.v0 with v2:=(Vector.replicate 32 (0:Int)),s3:=r_4,v7:=parts0,v8:=(parts0.length:Int),v9:=(0:Int)}) (w:= {sha_Sum.w0 with p_v2:=p_2,p_s3:=p_8,a_s3_1:=a_5,c_s3_1:=c_6,a_v7:=a_parts0,c_v7:=c_parts0}) ⟨hX_parts0,I⟩ H k
def cipher_join (b0:List Int) (Q:Int→Prop):Prop:=
  ixP b0 (0:Int) fun x_2=>
  ixP b0 (1:Int) fun x_8=>
  ixP b0 (2:Int) fun x_14=>
  ixP b0 (3:Int) fun x_20=>
  Q (IntKind.wrap .u32 (((BitVec.ofInt (IntKind.bits .u32) (IntKind.wrap .u32 (((BitVec.ofInt (IntKind.bits .u32) (IntKind.wrap .u32 (((BitVec.ofInt (IntKind.bits .u32) (IntKind.wrap .u32 x_2) ||| (BitVec.ofInt (IntKind.bits .u32) (IntKind.wrap .u32 ((IntKind.wrap .u32 x_8)*2 ^ (min (Int.toNat (8:Int)) (IntKind.bits .u32)))))).toNat:Int))) ||| (BitVec.ofInt (IntKind.bits .u32) (IntKind.wrap .u32 ((IntKind.wrap .u32 x_14)*2 ^ (min (Int.toNat (16:Int)) (IntKind.bits .u32)))))).toNat:Int))) ||| (BitVec.ofInt (IntKind.bits .u32) (IntKind.wrap .u32 ((IntKind.wrap .u32 x_20)*2 ^ (min (Int.toNat (24:Int)) (IntKind.bits .u32)))))).toNat:Int)))
theorem cipher_join_r {b0:List Int} {a_b0:Option Addr} {c_b0:Nat} {n_b0:Nat} {X_b0:At} {Q':Int→Prop} {Q:Int→Hp→Prop} (hX_b0:Rd (rI .u8) X_b0 a_b0 n_b0 c_b0 b0) (I:Inv h (X_b0::A)) (H:cipher_join b0 Q')
    (k: ∀ (r0:Int) (h':Hp),Inv h' (X_b0::A)→Q' r0→Q r0 h'):Tx.cipher_join ρ ⟨a_b0,n_b0,c_b0⟩ h Q:=by
  obtain rfl:=rd_len hX_b0 I
  unfold Tx.cipher_join
  unfold cipher_join at H
  refine ixI_a hX_b0 I (ixP_keep H) fun p_3 x_2 he_4 hb_5 hc_6 H=> ?_
  obtain ⟨hg_7,H⟩:=H
  refine ldI_r hc_6 ?_
  refine ixI_a hX_b0 I (ixP_keep H) fun p_9 x_8 he_10 hb_11 hc_12 H=> ?_
  obtain ⟨hg_13,H⟩:=H
  refine ldI_r hc_12 ?_
  refine ⟨by decide, ?_⟩
  refine ixI_a hX_b0 I (ixP_keep H) fun p_15 x_14 he_16 hb_17 hc_18 H=> ?_
  obtain ⟨hg_19,H⟩:=H
  refine ldI_r hc_18 ?_
  refine ⟨by decide, ?_⟩
  refine ixI_a hX_b0 I (ixP_keep H) fun p_21 x_20 he_22 hb_23 hc_24 H=> ?_
  obtain ⟨hg_25,H⟩:=H
  refine ldI_r hc_24 ?_
  refine ⟨by decide, ?_⟩
  exact k (IntKind.wrap .u32 (((BitVec.ofInt (IntKind.bits .u32) (IntKind.wrap .u32 (((BitVec.ofInt (IntKind.bits .u32) (IntKind.wrap .u32 (((BitVec.ofInt (IntKind.bits .u32) (IntKind.wrap .u32 x_2) ||| (BitVec.ofInt (IntKind.bits .u32) (IntKind.wrap .u32 ((IntKind.wrap .u32 x_8)*2 ^ (min (Int.toNat (8:Int)) (IntKind.bits .u32)))))).toNat:Int))) ||| (BitVec.ofInt (IntKind.bits .u32) (IntKind.wrap .u32 ((IntKind.wrap .u32 x_14)*2 ^ (min (Int.toNat (16:Int)) (IntKind.bits .u32)))))).toNat:Int))) ||| (BitVec.ofInt (IntKind.bits .u32) (IntKind.wrap .u32 ((IntKind.wrap .u32 x_20)*2 ^ (min (Int.toNat (24:Int)) (IntKind.bits .u32)))))).toNat:Int))) _ I H
namespace cipher_start
structure V where
  counter2:Int
  key3:Vector Int 32
  nonce4:Vector Int 12
  v6:Vector Int 16
  w7:Vector Int 16
  v11:Int
  v24:Int
structure W where
  p_key3:Addr
  p_nonce4:Addr
  p_v6:Addr
  p_w7:Addr
def v0:V:=⟨0,Vector.replicate 32 0,Vector.replicate 12 0,Vector.replicate 16 0,Vector.replicate 16 0,0,0⟩
def w0:W:=⟨⟨0,0,none⟩,⟨0,0,none⟩,⟨0,0,none⟩,⟨0,0,none⟩⟩
abbrev QT:=(Vector Int 16)→Prop
abbrev RT:=List Int→Hp→Prop
def kt (ρ:Ids) (A:List At) (Q':QT) (Q:RT):Prop:=
  ∀ (r0:Vector Int 16) (h':Hp),Inv h' (A)→Q' r0→Q r0.toList h'
def I1 (ρ:Ids) (c:V) (w:W) (A:List At) (h:Hp):Prop:=
  Inv h (blk w.p_key3 (ρ.T 19) [.vec .u8 32 c.key3]::blk w.p_nonce4 (ρ.T 22) [.vec .u8 12 c.nonce4]::blk w.p_v6 (ρ.T 24) [.vec .u32 16 c.v6]::blk w.p_w7 (ρ.T 24) [.vec .u32 16 c.w7]::A)
abbrev Y1:=Int→Addr→Addr→Addr→Addr→Int→Hp→Prop
abbrev T1 (S:Y1) (c:V) (w:W) (h:Hp):Prop:=S c.counter2 w.p_key3 w.p_nonce4 w.p_v6 w.p_w7 c.v11 h
def k1t (ρ:Ids) (A:List At) (S':V→Prop) (S:Y1):Prop:= ∀ (c:V) (w:W) (h:Hp),I1 ρ c w A h→S' c→T1 S c w h
def I2 (ρ:Ids) (c:V) (w:W) (A:List At) (h:Hp):Prop:=
  Inv h (blk w.p_nonce4 (ρ.T 22) [.vec .u8 12 c.nonce4]::blk w.p_v6 (ρ.T 24) [.vec .u32 16 c.v6]::blk w.p_w7 (ρ.T 24) [.vec .u32 16 c.w7]::A)
abbrev Y2:=Addr→Addr→Addr→Int→Hp→Prop
abbrev T2 (S:Y2) (c:V) (w:W) (h:Hp):Prop:=S w.p_nonce4 w.p_v6 w.p_w7 c.v24 h
def k2t (ρ:Ids) (A:List At) (S':V→Prop) (S:Y2):Prop:= ∀ (c:V) (w:W) (h:Hp),I2 ρ c w A h→S' c→T2 S c w h
variable {c:V} {w:W} {Q':QT} {Q:RT} {S1' S2':V→Prop} {S1:Y1} {S2:Y2}
def B2 (S2:V→Prop) (Q:QT) (c:V):Prop:=
  br (decide (c.v24<(3:Int)))
  ((SlOk c.nonce4.toList (IntKind.wrap .i64 ((4:Int)*c.v24)) ((12:Nat):Int))∧
  cipher_join (sub c.nonce4.toList (IntKind.wrap .i64 ((4:Int)*c.v24)) ((12:Nat):Int)) fun r_39=>
  ixP c.w7.toList (IntKind.wrap .i64 ((13:Int)+c.v24)) fun x_41=>
  S2 {c with w7:=(c.w7.setIfInBounds (Int.toNat (IntKind.wrap .i64 ((13:Int)+c.v24))) r_39),v24:=(IntKind.wrap .i64 (c.v24+(1:Int)))})
  (Q c.w7)
def L2 (Q:QT) (c:V):Prop:=Lf (fun S=>B2 S Q) c
theorem L2_in {Q:QT} {c:V} (H:B2 (L2 Q) Q c):L2 Q c:=Lf.fold H
theorem B2_r (I:I2 ρ c w A h) (H:B2 S2' Q' c) (kS2:k2t ρ A S2' S2) (k:kt ρ A Q' Q):T2 (Tx.cipher_start_B2 ρ S2 Q) c w h:=by
  unfold I2 at I
  unfold T2 Tx.cipher_start_B2
  unfold B2 at H
  refine br_r H (fun hb H=> ?_) (fun hb H=> ?_)
  · refine sl_vec (ss := [.vec .u8 12 c.nonce4]) (T := (ρ.T 22)) (j := 0) (off := 0) (v := c.nonce4) rfl H.1 fun a_35 c_36 hs_37 hr_38 => ?_
    replace H:=H.2
    refine cipher_join_r (b0:=(sub c.nonce4.toList (IntKind.wrap .i64 ((4:Int)*c.v24)) ((12:Nat):Int))) hr_38 I H fun r_39 h I H=> ?_
    refine ix_vec I.pull2 (j:=0) (off:=0) rfl (ixP_keep H) fun q_40 x_41 hq_42 hb_43 hc_44 H=> ?_
    obtain ⟨hg_45,H⟩:=H
    refine st_vec (I.pull2) (j:=0) (off:=0) rfl hq_42 hb_43 fun h I=> ?_
    replace I:=I.pull2.pull2
    exact kS2 {c with w7:=(c.w7.setIfInBounds (Int.toNat (IntKind.wrap .i64 ((13:Int)+c.v24))) r_39),v24:=(IntKind.wrap .i64 (c.v24+(1:Int)))} w _ I H
  · refine ldL_r (I.pull2.lump 0 0 rfl) ?_
    try simp only [nrm_v]
    refine stA_r I.pull1 0 1 0 [.vec .u32 16 c.w7] rfl rfl rfl (by first | exact all_segs rfl | exact all_one (by simp [segs,Seg.cells,allOne,allOne_append,allOne_lump,Value.oneCell'])) fun h (I:Inv h (blk w.p_v6 (ρ.T 24) [.vec .u32 16 c.w7]::_))=> ?_
    refine ldL_r (I.lump 0 0 rfl) ?_
    try simp only [nrm_v]
    replace I:=I.drop1
    replace I:=I.drop1
    replace I:=I.drop1
    exact k c.w7 _ I H
theorem L2_r (I:I2 ρ c w A h) (H:L2 Q' c) (k:kt ρ A Q' Q):T2 (Tx.cipher_start_L2 ρ Q) c w h:=by
  refine Lf.ind H (fun v=> ∀ (w:W) (h:Hp),I2 ρ v w A h→T2 (Tx.cipher_start_L2 ρ Q) v w h) ?_ w h I
  rintro c S hS HB w h I
  refine Tx.cipher_start_L2_in _ _ _ _ _ _ _ ?_
  try simp only [nrm_v]
  exact B2_r (c:=c) (w:=w) I HB (fun c w h I H=>hS _ H w h I) k
def B1 (S1:V→Prop) (Q:QT) (c:V):Prop:=
  br (decide (c.v11<(8:Int)))
  ((SlOk c.key3.toList (IntKind.wrap .i64 ((4:Int)*c.v11)) ((32:Nat):Int))∧
  cipher_join (sub c.key3.toList (IntKind.wrap .i64 ((4:Int)*c.v11)) ((32:Nat):Int)) fun r_17=>
  ixP c.w7.toList (IntKind.wrap .i64 ((4:Int)+c.v11)) fun x_19=>
  S1 {c with w7:=(c.w7.setIfInBounds (Int.toNat (IntKind.wrap .i64 ((4:Int)+c.v11))) r_17),v11:=(IntKind.wrap .i64 (c.v11+(1:Int)))})
  (ixP c.w7.toList (12:Int) fun x_26=>
  L2 Q {c with w7:=(c.w7.setIfInBounds (Int.toNat (12:Int)) c.counter2),v24:=(0:Int)})
def L1 (Q:QT) (c:V):Prop:=Lf (fun S=>B1 S Q) c
theorem L1_in {Q:QT} {c:V} (H:B1 (L1 Q) Q c):L1 Q c:=Lf.fold H
theorem B1_r (I:I1 ρ c w A h) (H:B1 S1' Q' c) (kS1:k1t ρ A S1' S1) (k:kt ρ A Q' Q):T1 (Tx.cipher_start_B1 ρ S1 Q) c w h:=by
  unfold I1 at I
  unfold T1 Tx.cipher_start_B1
  unfold B1 at H
  refine br_r H (fun hb H=> ?_) (fun hb H=> ?_)
  · refine sl_vec (ss := [.vec .u8 32 c.key3]) (T := (ρ.T 19)) (j := 0) (off := 0) (v := c.key3) rfl H.1 fun a_13 c_14 hs_15 hr_16 => ?_
    replace H:=H.2
    refine cipher_join_r (b0:=(sub c.key3.toList (IntKind.wrap .i64 ((4:Int)*c.v11)) ((32:Nat):Int))) hr_16 I H fun r_17 h I H=> ?_
    refine ix_vec I.pull3 (j:=0) (off:=0) rfl (ixP_keep H) fun q_18 x_19 hq_20 hb_21 hc_22 H=> ?_
    obtain ⟨hg_23,H⟩:=H
    refine st_vec (I.pull3) (j:=0) (off:=0) rfl hq_20 hb_21 fun h I=> ?_
    replace I:=I.pull3.pull3.pull3
    exact kS1 {c with w7:=(c.w7.setIfInBounds (Int.toNat (IntKind.wrap .i64 ((4:Int)+c.v11))) r_17),v11:=(IntKind.wrap .i64 (c.v11+(1:Int)))} w _ I H
  · refine ix_vec I.pull3 (j := 0) (off := 0) rfl (ixP_keep H) fun q_25 x_26 hq_27 hb_28 hc_29 H => ?_
    obtain ⟨hg_30,H⟩:=H
    refine st_vec (I.pull3) (j:=0) (off:=0) rfl hq_27 hb_28 fun h I=> ?_
    replace I:=I.pull1.drop1
    replace I:=I.pull2.pull2
    exact L2_r (c:= {c with w7:=(c.w7.setIfInBounds (Int.toNat (12:Int)) c.counter2),v24:=(0:Int)}) (w:=w) I H k
theorem L1_r (I:I1 ρ c w A h) (H:L1 Q' c) (k:kt ρ A Q' Q):T1 (Tx.cipher_start_L1 ρ Q) c w h:=by
  refine Lf.ind H (fun v=> ∀ (w:W) (h:Hp),I1 ρ v w A h→T1 (Tx.cipher_start_L1 ρ Q) v w h) ?_ w h I
  rintro c S hS HB w h I
  refine Tx.cipher_start_L1_in _ _ _ _ _ _ _ _ _ ?_
  try simp only [nrm_v]
  exact B1_r (c:=c) (w:=w) I HB (fun c w h I H=>hS _ H w h I) k
end cipher_start
def cipher_start (key0:Vector Int 32) (nonce1:Vector Int 12) (counter2:Int) (Q:cipher_start.QT):Prop:=
  cipher_start.L1 Q {cipher_start.v0 with counter2:=counter2,key3:=key0,nonce4:=nonce1,v6:=(Vector.replicate 16 (0:Int)),w7:= #v[(1634760805:Int),(857760878:Int),(2036477234:Int),(1797285236:Int),(0:Int),(0:Int),(0:Int),(0:Int),(0:Int),(0:Int),(0:Int),(0:Int),(0:Int),(0:Int),(0:Int),(0:Int)],v11:=(0:Int)}
theorem cipher_start_r {key0:Vector Int 32} {nonce1:Vector Int 12} {counter2:Int} {Q':cipher_start.QT} {Q:cipher_start.RT} (I:Inv h (A)) (H:cipher_start key0 nonce1 counter2 Q')
    (k:cipher_start.kt ρ A Q' Q):Tx.cipher_start ρ key0.toList nonce1.toList counter2 h Q:=by
  unfold Tx.cipher_start
  unfold cipher_start at H
  try simp only [nrm_v]
  refine al_r [.vec .u8 32 key0] rfl I fun p_1 h I=> ?_
  refine al_r [.vec .u8 12 nonce1] rfl I fun p_3 h I=> ?_
  refine al_r [.vec .u32 16 (Vector.replicate 16 (0:Int))] rfl I fun p_5 h I=> ?_
  refine al_r [.vec .u32 16 (Vector.replicate 16 (0:Int))] rfl I fun p_7 h I=> ?_
  refine stA_r I 0 1 0 [.vec .u32 16 (#v[(1634760805:Int),(857760878:Int),(2036477234:Int),(1797285236:Int),(0:Int),(0:Int),(0:Int),(0:Int),(0:Int),(0:Int),(0:Int),(0:Int),(0:Int),(0:Int),(0:Int),(0:Int)])] rfl rfl rfl (by first | exact all_segs rfl | exact all_one (by simp [segs,Seg.cells,allOne,allOne_append,allOne_lump,Value.oneCell'])) fun h (I:Inv h (blk p_7 (ρ.T 24) [.vec .u32 16 (#v[(1634760805:Int),(857760878:Int),(2036477234:Int),(1797285236:Int),(0:Int),(0:Int),(0:Int),(0:Int),(0:Int),(0:Int),(0:Int),(0:Int),(0:Int),(0:Int),(0:Int),(0:Int)])]::_))=> ?_
  replace I:=I.pull1.pull2.pull3
  exact cipher_start.L1_r (c:= {cipher_start.v0 with counter2:=counter2,key3:=key0,nonce4:=nonce1,v6:=(Vector.replicate 16 (0:Int)),w7:= #v[(1634760805:Int),(857760878:Int),(2036477234:Int),(1797285236:Int),(0:Int),(0:Int),(0:Int),(0:Int),(0:Int),(0:Int),(0:Int),(0:Int),(0:Int),(0:Int),(0:Int),(0:Int)],v11:=(0:Int)}) (w:= {cipher_start.w0 with p_key3:=p_1,p_nonce4:=p_3,p_v6:=p_5,p_w7:=p_7}) I H k
def cipher_Quarter_1 (x0:Int) (y1:Int) (z2:Int) (by3:Int) (v4:Vector Int 4) (Q:(Vector Int 4)→Prop):Prop:=
  ixP v4.toList x0 fun x_3=>
  ixP v4.toList y1 fun x_9=>
  ixP v4.toList x0 fun x_15=>
  ixP (v4.setIfInBounds (Int.toNat x0) (IntKind.wrap .u32 (x_3+x_9))).toList z2 fun x_22=>
  ixP (v4.setIfInBounds (Int.toNat x0) (IntKind.wrap .u32 (x_3+x_9))).toList x0 fun x_28=>
  math_bits_RotateLeft32 (IntKind.wrap .u32 (((BitVec.ofInt (IntKind.bits .u32) x_22 ^^^ (BitVec.ofInt (IntKind.bits .u32) x_28)).toNat:Int))) by3 fun r_33=>
  ixP (v4.setIfInBounds (Int.toNat x0) (IntKind.wrap .u32 (x_3+x_9))).toList z2 fun x_35=>
  Q ((v4.setIfInBounds (Int.toNat x0) (IntKind.wrap .u32 (x_3+x_9))).setIfInBounds (Int.toNat z2) r_33)
theorem cipher_Quarter_1_r {x0:Int} {y1:Int} {z2:Int} {by3:Int} {v4:Vector Int 4} {p_v4:Addr} {Q':(Vector Int 4)→Prop} {Q:Hp→Prop} (I:Inv h (blk p_v4 (ρ.T 25) [.vec .u32 4 v4]::A)) (H:cipher_Quarter_1 x0 y1 z2 by3 v4 Q')
    (k: ∀ (v4_r:Vector Int 4) (h':Hp),Inv h' (blk p_v4 (ρ.T 25) [.vec .u32 4 v4_r]::A)→Q' v4_r→Q h'):Tx.cipher_Quarter_1 ρ x0 y1 z2 by3 p_v4 h Q:=by
  unfold Tx.cipher_Quarter_1
  unfold cipher_Quarter_1 at H
  refine ix_vec I (j:=0) (off:=0) rfl (ixP_keep H) fun q_2 x_3 hq_4 hb_5 hc_6 H=> ?_
  obtain ⟨hg_7,H⟩:=H
  refine ldI_r hc_6 ?_
  refine ix_vec I (j:=0) (off:=0) rfl (ixP_keep H) fun q_8 x_9 hq_10 hb_11 hc_12 H=> ?_
  obtain ⟨hg_13,H⟩:=H
  refine ldI_r hc_12 ?_
  refine ix_vec I (j:=0) (off:=0) rfl (ixP_keep H) fun q_14 x_15 hq_16 hb_17 hc_18 H=> ?_
  obtain ⟨hg_19,H⟩:=H
  refine st_vec (I) (j:=0) (off:=0) rfl hq_16 hb_17 fun h I=> ?_
  refine ix_vec I (j:=0) (off:=0) rfl (ixP_keep H) fun q_21 x_22 hq_23 hb_24 hc_25 H=> ?_
  obtain ⟨hg_26,H⟩:=H
  refine ldI_r hc_25 ?_
  refine ix_vec I (j:=0) (off:=0) rfl (ixP_keep H) fun q_27 x_28 hq_29 hb_30 hc_31 H=> ?_
  obtain ⟨hg_32,H⟩:=H
  refine ldI_r hc_31 ?_
  refine math_bits_RotateLeft32_r (x0:=(IntKind.wrap .u32 (((BitVec.ofInt (IntKind.bits .u32) x_22 ^^^ (BitVec.ofInt (IntKind.bits .u32) x_28)).toNat:Int)))) (k1:=by3) I H fun r_33 h I H=> ?_
  refine ix_vec I (j:=0) (off:=0) rfl (ixP_keep H) fun q_34 x_35 hq_36 hb_37 hc_38 H=> ?_
  obtain ⟨hg_39,H⟩:=H
  refine st_vec (I) (j:=0) (off:=0) rfl hq_36 hb_37 fun h I=> ?_
  exact k ((v4.setIfInBounds (Int.toNat x0) (IntKind.wrap .u32 (x_3+x_9))).setIfInBounds (Int.toNat z2) r_33) _ I H
def cipher_Quarter (w0:Vector Int 4) (Q:(Vector Int 4)→Prop):Prop:=
  cipher_Quarter_1 (0:Int) (1:Int) (3:Int) (16:Int) w0 fun r_5=>
  cipher_Quarter_1 (2:Int) (3:Int) (1:Int) (12:Int) r_5 fun r_6=>
  cipher_Quarter_1 (0:Int) (1:Int) (3:Int) (8:Int) r_6 fun r_7=>
  cipher_Quarter_1 (2:Int) (3:Int) (1:Int) (7:Int) r_7 fun r_8=>
  Q r_8
theorem cipher_Quarter_r {w0:Vector Int 4} {Q':(Vector Int 4)→Prop} {Q:List Int→Hp→Prop} (I:Inv h (A)) (H:cipher_Quarter w0 Q')
    (k: ∀ (r0:Vector Int 4) (h':Hp),Inv h' (A)→Q' r0→Q r0.toList h'):Tx.cipher_Quarter ρ w0.toList h Q:=by
  unfold Tx.cipher_Quarter
  unfold cipher_Quarter at H
  try simp only [nrm_v]
  refine al_r [.vec .u32 4 w0] rfl I fun p_1 h I=> ?_
  refine al_r [.vec .u32 4 (Vector.replicate 4 (0:Int))] rfl I fun p_3 h I=> ?_
  replace I:=I.pull1
  refine cipher_Quarter_1_r (x0:=(0:Int)) (y1:=(1:Int)) (z2:=(3:Int)) (by3:=(16:Int)) (v4:=w0) I H fun r_5 h I H=> ?_
  refine ⟨_,rfl, ?_⟩
  refine cipher_Quarter_1_r (x0:=(2:Int)) (y1:=(3:Int)) (z2:=(1:Int)) (by3:=(12:Int)) (v4:=r_5) I H fun r_6 h I H=> ?_
  refine ⟨_,rfl, ?_⟩
  refine cipher_Quarter_1_r (x0:=(0:Int)) (y1:=(1:Int)) (z2:=(3:Int)) (by3:=(8:Int)) (v4:=r_6) I H fun r_7 h I H=> ?_
  refine ⟨_,rfl, ?_⟩
  refine cipher_Quarter_1_r (x0:=(2:Int)) (y1:=(3:Int)) (z2:=(1:Int)) (by3:=(7:Int)) (v4:=r_7) I H fun r_8 h I H=> ?_
  refine ⟨_,rfl, ?_⟩
  refine ldL_r (I.lump 0 0 rfl) ?_
  try simp only [nrm_v]
  refine stA_r I.pull1 0 1 0 [.vec .u32 4 r_8] rfl rfl rfl (by first | exact all_segs rfl | exact all_one (by simp [segs,Seg.cells,allOne,allOne_append,allOne_lump,Value.oneCell'])) fun h (I:Inv h (blk p_3 (ρ.T 25) [.vec .u32 4 r_8]::_))=> ?_
  refine ldL_r (I.lump 0 0 rfl) ?_
  try simp only [nrm_v]
  replace I:=I.drop1
  replace I:=I.drop1
  exact k r_8 _ I H
namespace cipher_Block_1
structure V where
  v4:Vector Int 16
  a0:Int
  b1:Int
  c2:Int
  d3:Int
  q9:Vector Int 4
  v23:Vector Int 4
structure W where
  p_q9:Addr
def v0:V:=⟨Vector.replicate 16 0,0,0,0,0,Vector.replicate 4 0,Vector.replicate 4 0⟩
def w0:W:=⟨⟨0,0,none⟩⟩
abbrev QT:=(Vector Int 16)→Prop
abbrev RT:=Hp→Prop
def kt (ρ:Ids) (p_v4:Addr) (A:List At) (Q':QT) (Q:RT):Prop:=
  ∀ (v4_r:Vector Int 16) (h':Hp),Inv h' (blk p_v4 (ρ.T 24) [.vec .u32 16 v4_r]::A)→Q' v4_r→Q h'
def I1 (ρ:Ids) (p_v4:Addr) (c:V) (w:W) (A:List At) (h:Hp):Prop:=
  Inv h (blk p_v4 (ρ.T 24) [.vec .u32 16 c.v4]::blk w.p_q9 (ρ.T 25) [.vec .u32 4 c.q9]::A)
def I2 (ρ:Ids) (p_v4:Addr) (c:V) (w:W) (A:List At) (h:Hp):Prop:=
  Inv h (blk p_v4 (ρ.T 24) [.vec .u32 16 c.v4]::A)
def I3 (ρ:Ids) (p_v4:Addr) (c:V) (w:W) (A:List At) (h:Hp):Prop:=
  Inv h (blk p_v4 (ρ.T 24) [.vec .u32 16 c.v4]::blk w.p_q9 (ρ.T 25) [.vec .u32 4 c.q9]::A)
variable {p_v4:Addr} {c:V} {w:W} {Q':QT} {Q:RT}
def K1 (Q:QT) (c:V):Prop:=
  ixP c.q9.toList (0:Int) fun x_33=>
  ixP c.q9.toList (1:Int) fun x_39=>
  ixP c.q9.toList (2:Int) fun x_45=>
  ixP c.q9.toList (3:Int) fun x_51=>
  ixP c.v4.toList c.a0 fun x_57=>
  ixP (c.v4.setIfInBounds (Int.toNat c.a0) x_33).toList c.b1 fun x_64=>
  ixP ((c.v4.setIfInBounds (Int.toNat c.a0) x_33).setIfInBounds (Int.toNat c.b1) x_39).toList c.c2 fun x_71=>
  ixP (((c.v4.setIfInBounds (Int.toNat c.a0) x_33).setIfInBounds (Int.toNat c.b1) x_39).setIfInBounds (Int.toNat c.c2) x_45).toList c.d3 fun x_78=>
  Q ((((c.v4.setIfInBounds (Int.toNat c.a0) x_33).setIfInBounds (Int.toNat c.b1) x_39).setIfInBounds (Int.toNat c.c2) x_45).setIfInBounds (Int.toNat c.d3) x_51)
theorem K1_r (I:I1 ρ p_v4 c w A h) (H:K1 Q' c) (k:kt ρ p_v4 A Q' Q):Tx.cipher_Block_1_K1 ρ Q c.a0 c.b1 c.c2 c.d3 p_v4 w.p_q9 h:=by
  unfold I1 at I
  unfold Tx.cipher_Block_1_K1
  unfold K1 at H
  refine ix_vec I.pull1 (j:=0) (off:=0) rfl (ixP_keep H) fun q_32 x_33 hq_34 hb_35 hc_36 H=> ?_
  obtain ⟨hg_37,H⟩:=H
  refine ldI_r hc_36 ?_
  refine ix_vec I.pull1 (j:=0) (off:=0) rfl (ixP_keep H) fun q_38 x_39 hq_40 hb_41 hc_42 H=> ?_
  obtain ⟨hg_43,H⟩:=H
  refine ldI_r hc_42 ?_
  refine ix_vec I.pull1 (j:=0) (off:=0) rfl (ixP_keep H) fun q_44 x_45 hq_46 hb_47 hc_48 H=> ?_
  obtain ⟨hg_49,H⟩:=H
  refine ldI_r hc_48 ?_
  refine ix_vec I.pull1 (j:=0) (off:=0) rfl (ixP_keep H) fun q_50 x_51 hq_52 hb_53 hc_54 H=> ?_
  obtain ⟨hg_55,H⟩:=H
  refine ldI_r hc_54 ?_
  refine ix_vec I (j:=0) (off:=0) rfl (ixP_keep H) fun q_56 x_57 hq_58 hb_59 hc_60 H=> ?_
  obtain ⟨hg_61,H⟩:=H
  refine st_vec (I) (j:=0) (off:=0) rfl hq_58 hb_59 fun h I=> ?_
  refine ⟨(vel_keep I.pull1 (j:=0) (off:=0) rfl hq_52 hb_53 hg_55), ?_⟩
  refine ⟨(vel_keep I.pull1 (j:=0) (off:=0) rfl hq_46 hb_47 hg_49), ?_⟩
  refine ⟨(vel_keep I.pull1 (j:=0) (off:=0) rfl hq_40 hb_41 hg_43), ?_⟩
  refine ix_vec I (j:=0) (off:=0) rfl (ixP_keep H) fun q_63 x_64 hq_65 hb_66 hc_67 H=> ?_
  obtain ⟨hg_68,H⟩:=H
  refine st_vec (I) (j:=0) (off:=0) rfl hq_65 hb_66 fun h I=> ?_
  refine ⟨(vel_keep I.pull1 (j:=0) (off:=0) rfl hq_52 hb_53 hg_55), ?_⟩
  refine ⟨(vel_keep I.pull1 (j:=0) (off:=0) rfl hq_46 hb_47 hg_49), ?_⟩
  refine ix_vec I (j:=0) (off:=0) rfl (ixP_keep H) fun q_70 x_71 hq_72 hb_73 hc_74 H=> ?_
  obtain ⟨hg_75,H⟩:=H
  refine st_vec (I) (j:=0) (off:=0) rfl hq_72 hb_73 fun h I=> ?_
  refine ⟨(vel_keep I.pull1 (j:=0) (off:=0) rfl hq_52 hb_53 hg_55), ?_⟩
  refine ix_vec I (j:=0) (off:=0) rfl (ixP_keep H) fun q_77 x_78 hq_79 hb_80 hc_81 H=> ?_
  obtain ⟨hg_82,H⟩:=H
  refine st_vec (I) (j:=0) (off:=0) rfl hq_79 hb_80 fun h I=> ?_
  replace I:=I.pull1.drop1
  exact k ((((c.v4.setIfInBounds (Int.toNat c.a0) x_33).setIfInBounds (Int.toNat c.b1) x_39).setIfInBounds (Int.toNat c.c2) x_45).setIfInBounds (Int.toNat c.d3) x_51) _ I H
def K3 (Q:QT) (c:V):Prop:=
  K1 Q {c with q9:=c.v23}
theorem K3_r (I:I3 ρ p_v4 c w A h) (H:K3 Q' c) (k:kt ρ p_v4 A Q' Q):Tx.cipher_Block_1_K3 ρ Q c.a0 c.b1 c.c2 c.d3 p_v4 w.p_q9 c.v23.toList h:=by
  unfold I3 at I
  unfold Tx.cipher_Block_1_K3
  unfold K3 at H
  try simp only [nrm_v]
  refine stA_r I.pull1 0 1 0 [.vec .u32 4 c.v23] rfl rfl rfl (by first | exact all_segs rfl | exact all_one (by simp [segs,Seg.cells,allOne,allOne_append,allOne_lump,Value.oneCell'])) fun h (I:Inv h (blk w.p_q9 (ρ.T 25) [.vec .u32 4 c.v23]::_))=> ?_
  replace I:=I.pull1
  exact K1_r (c:= {c with q9:=c.v23}) (w:=w) I H k
def K2 (Q:QT) (c:V):Prop:=
  K3 Q {c with q9:=(Vector.replicate 4 (0:Int))}
theorem K2_r (I:I2 ρ p_v4 c w A h) (H:K2 Q' c) (k:kt ρ p_v4 A Q' Q):Tx.cipher_Block_1_K2 ρ Q c.a0 c.b1 c.c2 c.d3 p_v4 c.v23.toList h:=by
  unfold I2 at I
  unfold Tx.cipher_Block_1_K2
  unfold K2 at H
  try simp only [nrm_v]
  refine al_r [.vec .u32 4 (Vector.replicate 4 (0:Int))] rfl I fun p_85 h I=> ?_
  replace I:=I.pull1
  try simp only [nrm_v]
  exact K3_r (c:= {c with q9:=(Vector.replicate 4 (0:Int))}) (w:= {w with p_q9:=p_85}) I H k
end cipher_Block_1
def cipher_Block_1 (a0:Int) (b1:Int) (c2:Int) (d3:Int) (v4:Vector Int 16) (Q:cipher_Block_1.QT):Prop:=
  ixP v4.toList a0 fun x_3=>
  ixP v4.toList b1 fun x_9=>
  ixP v4.toList c2 fun x_15=>
  ixP v4.toList d3 fun x_21=>
  (cipher_Quarter (#v[x_3,x_9,x_15,x_21]) fun r_26=>
  cipher_Block_1.K2 Q {cipher_Block_1.v0 with v4:=v4,a0:=a0,b1:=b1,c2:=c2,d3:=d3,v23:=r_26})∧
  (cipher_Quarter (#v[x_3,x_9,x_15,x_21]) fun r_29=>
  cipher_Block_1.K3 Q {cipher_Block_1.v0 with v4:=v4,a0:=a0,b1:=b1,c2:=c2,d3:=d3,q9:=(Vector.replicate 4 (0:Int)),v23:=r_29})
theorem cipher_Block_1_r {a0:Int} {b1:Int} {c2:Int} {d3:Int} {v4:Vector Int 16} {p_v4:Addr} {Q':cipher_Block_1.QT} {Q:cipher_Block_1.RT} (I:Inv h (blk p_v4 (ρ.T 24) [.vec .u32 16 v4]::A)) (H:cipher_Block_1 a0 b1 c2 d3 v4 Q')
    (k:cipher_Block_1.kt ρ p_v4 A Q' Q):Tx.cipher_Block_1 ρ a0 b1 c2 d3 p_v4 h Q:=by
  unfold Tx.cipher_Block_1
  unfold cipher_Block_1 at H
  refine ix_vec I (j:=0) (off:=0) rfl (ixP_keep H) fun q_2 x_3 hq_4 hb_5 hc_6 H=> ?_
  obtain ⟨hg_7,H⟩:=H
  refine ldI_r hc_6 ?_
  refine ix_vec I (j:=0) (off:=0) rfl (ixP_keep H) fun q_8 x_9 hq_10 hb_11 hc_12 H=> ?_
  obtain ⟨hg_13,H⟩:=H
  refine ldI_r hc_12 ?_
  refine ix_vec I (j:=0) (off:=0) rfl (ixP_keep H) fun q_14 x_15 hq_16 hb_17 hc_18 H=> ?_
  obtain ⟨hg_19,H⟩:=H
  refine ldI_r hc_18 ?_
  refine ix_vec I (j:=0) (off:=0) rfl (ixP_keep H) fun q_20 x_21 hq_22 hb_23 hc_24 H=> ?_
  obtain ⟨hg_25,H⟩:=H
  refine ldI_r hc_24 ?_
  refine and2_r H (fun H=> ?_) (fun H=> ?_)
  · try simp only [nrm_v]
    refine cipher_Quarter_r (w0:= #v[x_3,x_9,x_15,x_21]) I H fun r_26 h I H=> ?_
    try simp only [nrm_v]
    exact cipher_Block_1.K2_r (c:= {cipher_Block_1.v0 with v4:=v4,a0:=a0,b1:=b1,c2:=c2,d3:=d3,v23:=r_26}) (w:=cipher_Block_1.w0) I H k
  · refine al_r [.vec .u32 4 (Vector.replicate 4 (0 : Int))] rfl I fun p_27 h I => ?_
    refine ⟨(vel_keep I.pull1 (j:=0) (off:=0) rfl hq_22 hb_23 hg_25), ?_⟩
    refine ⟨(vel_keep I.pull1 (j:=0) (off:=0) rfl hq_16 hb_17 hg_19), ?_⟩
    refine ⟨(vel_keep I.pull1 (j:=0) (off:=0) rfl hq_10 hb_11 hg_13), ?_⟩
    refine ⟨(vel_keep I.pull1 (j:=0) (off:=0) rfl hq_4 hb_5 hg_7), ?_⟩
    try simp only [nrm_v]
    refine cipher_Quarter_r (w0:= #v[x_3,x_9,x_15,x_21]) I H fun r_29 h I H=> ?_
    replace I:=I.pull1
    try simp only [nrm_v]
    exact cipher_Block_1.K3_r (c:= {cipher_Block_1.v0 with v4:=v4,a0:=a0,b1:=b1,c2:=c2,d3:=d3,q9:=(Vector.replicate 4 (0:Int)),v23:=r_29}) (w:= {cipher_Block_1.w0 with p_q9:=p_27}) I H k
namespace cipher_Block
structure V where
  v6:Vector Int 64
  first7:Vector Int 16
  w8:Vector Int 16
  v20:Int
  v22:Int
  v35:Int
  b12:Vector Int 64
  v55:Int
structure W where
  p_v6:Addr
  p_first7:Addr
  p_w8:Addr
  p_b12:Addr
def v0:V:=⟨Vector.replicate 64 0,Vector.replicate 16 0,Vector.replicate 16 0,0,0,0,Vector.replicate 64 0,0⟩
def w0:W:=⟨⟨0,0,none⟩,⟨0,0,none⟩,⟨0,0,none⟩,⟨0,0,none⟩⟩
abbrev QT:=(Vector Int 64)→Prop
abbrev RT:=List Int→Hp→Prop
def kt (ρ:Ids) (A:List At) (Q':QT) (Q:RT):Prop:=
  ∀ (r0:Vector Int 64) (h':Hp),Inv h' (A)→Q' r0→Q r0.toList h'
def I1 (ρ:Ids) (c:V) (w:W) (A:List At) (h:Hp):Prop:=
  Inv h (blk w.p_v6 (ρ.T 23) [.vec .u8 64 c.v6]::blk w.p_first7 (ρ.T 24) [.vec .u32 16 c.first7]::blk w.p_w8 (ρ.T 24) [.vec .u32 16 c.w8]::A)
abbrev Y1:=Addr→Addr→Addr→Addr→Int→Hp→Prop
abbrev T1 (S:Y1) (c:V) (w:W) (h:Hp):Prop:=S w.p_v6 w.p_first7 w.p_w8 w.p_w8 c.v20 h
def k1t (ρ:Ids) (A:List At) (S':V→Prop) (S:Y1):Prop:= ∀ (c:V) (w:W) (h:Hp),I1 ρ c w A h→S' c→T1 S c w h
def I2 (ρ:Ids) (c:V) (w:W) (A:List At) (h:Hp):Prop:=
  Inv h (blk w.p_v6 (ρ.T 23) [.vec .u8 64 c.v6]::blk w.p_first7 (ρ.T 24) [.vec .u32 16 c.first7]::blk w.p_w8 (ρ.T 24) [.vec .u32 16 c.w8]::A)
abbrev Y2:=Addr→Addr→Addr→Addr→Int→Int→Hp→Prop
abbrev T2 (S:Y2) (c:V) (w:W) (h:Hp):Prop:=S w.p_v6 w.p_first7 w.p_w8 w.p_w8 c.v20 c.v22 h
def k2t (ρ:Ids) (A:List At) (S':V→Prop) (S:Y2):Prop:= ∀ (c:V) (w:W) (h:Hp),I2 ρ c w A h→S' c→T2 S c w h
def I3 (ρ:Ids) (c:V) (w:W) (A:List At) (h:Hp):Prop:=
  Inv h (blk w.p_v6 (ρ.T 23) [.vec .u8 64 c.v6]::blk w.p_first7 (ρ.T 24) [.vec .u32 16 c.first7]::blk w.p_w8 (ρ.T 24) [.vec .u32 16 c.w8]::A)
abbrev Y3:=Addr→Addr→Addr→Addr→Int→Int→Hp→Prop
abbrev T3 (S:Y3) (c:V) (w:W) (h:Hp):Prop:=S w.p_v6 w.p_first7 w.p_w8 w.p_w8 c.v20 c.v35 h
def k3t (ρ:Ids) (A:List At) (S':V→Prop) (S:Y3):Prop:= ∀ (c:V) (w:W) (h:Hp),I3 ρ c w A h→S' c→T3 S c w h
def I4 (ρ:Ids) (c:V) (w:W) (A:List At) (h:Hp):Prop:=
  Inv h (blk w.p_v6 (ρ.T 23) [.vec .u8 64 c.v6]::blk w.p_first7 (ρ.T 24) [.vec .u32 16 c.first7]::blk w.p_w8 (ρ.T 24) [.vec .u32 16 c.w8]::blk w.p_b12 (ρ.T 23) [.vec .u8 64 c.b12]::A)
abbrev Y4:=Addr→Addr→Addr→Addr→Int→Hp→Prop
abbrev T4 (S:Y4) (c:V) (w:W) (h:Hp):Prop:=S w.p_v6 w.p_first7 w.p_w8 w.p_b12 c.v55 h
def k4t (ρ:Ids) (A:List At) (S':V→Prop) (S:Y4):Prop:= ∀ (c:V) (w:W) (h:Hp),I4 ρ c w A h→S' c→T4 S c w h
variable {c:V} {w:W} {Q':QT} {Q:RT} {S1' S2' S3' S4':V→Prop} {S1:Y1} {S2:Y2} {S3:Y3} {S4:Y4}
def B3 (S1:V→Prop) (S3:V→Prop) (Q:QT) (c:V):Prop:=
  br (decide (c.v35<(4:Int)))
  (cipher_Block_1 c.v35 (IntKind.wrap .i64 ((4:Int)+(Int.tmod (IntKind.wrap .i64 (c.v35+(1:Int))) (4:Int)))) (IntKind.wrap .i64 ((8:Int)+(Int.tmod (IntKind.wrap .i64 (c.v35+(2:Int))) (4:Int)))) (IntKind.wrap .i64 ((12:Int)+(Int.tmod (IntKind.wrap .i64 (c.v35+(3:Int))) (4:Int)))) c.w8 fun r_24=>
  S3 {c with w8:=r_24,v35:=(IntKind.wrap .i64 (c.v35+(1:Int)))})
  (S1 {c with v20:=(IntKind.wrap .i64 (c.v20+(1:Int)))})
def L3 (S1:V→Prop) (Q:QT) (c:V):Prop:=Lf (fun S=>B3 S1 S Q) c
theorem L3_in (S1:V→Prop) {Q:QT} {c:V} (H:B3 S1 (L3 S1 Q) Q c):L3 S1 Q c:=Lf.fold H
theorem B3_r (I:I3 ρ c w A h) (H:B3 S1' S3' Q' c) (kS1:k1t ρ A S1' S1) (kS3:k3t ρ A S3' S3) (k:kt ρ A Q' Q):T3 (Tx.cipher_Block_B3 ρ S1 S3 Q) c w h:=by
  unfold I3 at I
  unfold T3 Tx.cipher_Block_B3
  unfold B3 at H
  refine br_r H (fun hb H=> ?_) (fun hb H=> ?_)
  · refine ⟨by decide, ?_⟩
    refine ⟨by decide, ?_⟩
    refine ⟨by decide, ?_⟩
    replace I:=I.pull2
    refine cipher_Block_1_r (a0:=c.v35) (b1:=(IntKind.wrap .i64 ((4:Int)+(Int.tmod (IntKind.wrap .i64 (c.v35+(1:Int))) (4:Int))))) (c2:=(IntKind.wrap .i64 ((8:Int)+(Int.tmod (IntKind.wrap .i64 (c.v35+(2:Int))) (4:Int))))) (d3:=(IntKind.wrap .i64 ((12:Int)+(Int.tmod (IntKind.wrap .i64 (c.v35+(3:Int))) (4:Int))))) (v4:=c.w8) I H fun r_24 h I H=> ?_
    refine ⟨_,rfl, ?_⟩
    replace I:=I.pull2.pull2
    exact kS3 {c with w8:=r_24,v35:=(IntKind.wrap .i64 (c.v35+(1:Int)))} w _ I H
  · replace I := I.pull2.pull2.pull2
    exact kS1 {c with v20:=(IntKind.wrap .i64 (c.v20+(1:Int)))} w _ I H
theorem L3_r (I:I3 ρ c w A h) (H:L3 S1' Q' c) (kS1:k1t ρ A S1' S1) (k:kt ρ A Q' Q):T3 (Tx.cipher_Block_L3 ρ S1 Q) c w h:=by
  refine Lf.ind H (fun v=> ∀ (w:W) (h:Hp),I3 ρ v w A h→T3 (Tx.cipher_Block_L3 ρ S1 Q) v w h) ?_ w h I
  rintro c S hS HB w h I
  refine Tx.cipher_Block_L3_in _ _ _ _ _ _ _ _ _ _ ?_
  try simp only [nrm_v]
  exact B3_r (c:=c) (w:=w) I HB kS1 (fun c w h I H=>hS _ H w h I) k
def B2 (S1:V→Prop) (S2:V→Prop) (Q:QT) (c:V):Prop:=
  br (decide (c.v22<(4:Int)))
  (cipher_Block_1 c.v22 (IntKind.wrap .i64 ((4:Int)+c.v22)) (IntKind.wrap .i64 ((8:Int)+c.v22)) (IntKind.wrap .i64 ((12:Int)+c.v22)) c.w8 fun r_20=>
  S2 {c with w8:=r_20,v22:=(IntKind.wrap .i64 (c.v22+(1:Int)))})
  (L3 S1 Q {c with v35:=(0:Int)})
def L2 (S1:V→Prop) (Q:QT) (c:V):Prop:=Lf (fun S=>B2 S1 S Q) c
theorem L2_in (S1:V→Prop) {Q:QT} {c:V} (H:B2 S1 (L2 S1 Q) Q c):L2 S1 Q c:=Lf.fold H
theorem B2_r (I:I2 ρ c w A h) (H:B2 S1' S2' Q' c) (kS1:k1t ρ A S1' S1) (kS2:k2t ρ A S2' S2) (k:kt ρ A Q' Q):T2 (Tx.cipher_Block_B2 ρ S1 S2 Q) c w h:=by
  unfold I2 at I
  unfold T2 Tx.cipher_Block_B2
  unfold B2 at H
  refine br_r H (fun hb H=> ?_) (fun hb H=> ?_)
  · replace I := I.pull2
    refine cipher_Block_1_r (a0:=c.v22) (b1:=(IntKind.wrap .i64 ((4:Int)+c.v22))) (c2:=(IntKind.wrap .i64 ((8:Int)+c.v22))) (d3:=(IntKind.wrap .i64 ((12:Int)+c.v22))) (v4:=c.w8) I H fun r_20 h I H=> ?_
    refine ⟨_,rfl, ?_⟩
    replace I:=I.pull2.pull2
    exact kS2 {c with w8:=r_20,v22:=(IntKind.wrap .i64 (c.v22+(1:Int)))} w _ I H
  · replace I := I.pull2.pull2.pull2
    exact L3_r (c:= {c with v35:=(0:Int)}) (w:=w) I H kS1 k
theorem L2_r (I:I2 ρ c w A h) (H:L2 S1' Q' c) (kS1:k1t ρ A S1' S1) (k:kt ρ A Q' Q):T2 (Tx.cipher_Block_L2 ρ S1 Q) c w h:=by
  refine Lf.ind H (fun v=> ∀ (w:W) (h:Hp),I2 ρ v w A h→T2 (Tx.cipher_Block_L2 ρ S1 Q) v w h) ?_ w h I
  rintro c S hS HB w h I
  refine Tx.cipher_Block_L2_in _ _ _ _ _ _ _ _ _ _ ?_
  try simp only [nrm_v]
  exact B2_r (c:=c) (w:=w) I HB kS1 (fun c w h I H=>hS _ H w h I) k
def B4 (S4:V→Prop) (Q:QT) (c:V):Prop:=
  br (decide (c.v55<(64:Int)))
  (ixP c.w8.toList (IntKind.wrap .i64 (Int.tdiv c.v55 (4:Int))) fun x_30=>
  ixP c.first7.toList (IntKind.wrap .i64 (Int.tdiv c.v55 (4:Int))) fun x_36=>
  (0≤(IntKind.wrap .i64 ((8:Int)*(Int.tmod c.v55 (4:Int)))))∧
  ixP c.b12.toList c.v55 fun x_42=>
  S4 {c with b12:=(c.b12.setIfInBounds (Int.toNat c.v55) (IntKind.wrap .u8 (Int.fdiv (IntKind.wrap .u32 (x_30+x_36)) (2 ^ (min (Int.toNat (IntKind.wrap .i64 ((8:Int)*(Int.tmod c.v55 (4:Int))))) (IntKind.bits .u32)))))),v55:=(IntKind.wrap .i64 (c.v55+(1:Int)))})
  (Q c.b12)
def L4 (Q:QT) (c:V):Prop:=Lf (fun S=>B4 S Q) c
theorem L4_in {Q:QT} {c:V} (H:B4 (L4 Q) Q c):L4 Q c:=Lf.fold H
theorem B4_r (I:I4 ρ c w A h) (H:B4 S4' Q' c) (kS4:k4t ρ A S4' S4) (k:kt ρ A Q' Q):T4 (Tx.cipher_Block_B4 ρ S4 Q) c w h:=by
  unfold I4 at I
  unfold T4 Tx.cipher_Block_B4
  unfold B4 at H
  refine br_r H (fun hb H=> ?_) (fun hb H=> ?_)
  · refine ⟨by decide, ?_⟩
    refine ix_vec I.pull2 (j:=0) (off:=0) rfl (ixP_keep H) fun q_29 x_30 hq_31 hb_32 hc_33 H=> ?_
    obtain ⟨hg_34,H⟩:=H
    refine ldI_r hc_33 ?_
    refine ⟨by decide, ?_⟩
    refine ix_vec I.pull1 (j:=0) (off:=0) rfl (ixP_keep H) fun q_35 x_36 hq_37 hb_38 hc_39 H=> ?_
    obtain ⟨hg_40,H⟩:=H
    refine ldI_r hc_39 ?_
    refine ⟨by decide, ?_⟩
    refine and_r H fun H=> ?_
    refine ix_vec I.pull3 (j:=0) (off:=0) rfl (ixP_keep H) fun q_41 x_42 hq_43 hb_44 hc_45 H=> ?_
    obtain ⟨hg_46,H⟩:=H
    refine st_vec (I.pull3) (j:=0) (off:=0) rfl hq_43 hb_44 fun h I=> ?_
    replace I:=I.pull3.pull3.pull3
    exact kS4 {c with b12:=(c.b12.setIfInBounds (Int.toNat c.v55) (IntKind.wrap .u8 (Int.fdiv (IntKind.wrap .u32 (x_30+x_36)) (2 ^ (min (Int.toNat (IntKind.wrap .i64 ((8:Int)*(Int.tmod c.v55 (4:Int))))) (IntKind.bits .u32)))))),v55:=(IntKind.wrap .i64 (c.v55+(1:Int)))} w _ I H
  · refine ldL_r (I.pull3.lump 0 0 rfl) ?_
    try simp only [nrm_v]
    refine stA_r I 0 1 0 [.vec .u8 64 c.b12] rfl rfl rfl (by first | exact all_segs rfl | exact all_one (by simp [segs,Seg.cells,allOne,allOne_append,allOne_lump,Value.oneCell'])) fun h (I:Inv h (blk w.p_v6 (ρ.T 23) [.vec .u8 64 c.b12]::_))=> ?_
    refine ldL_r (I.lump 0 0 rfl) ?_
    try simp only [nrm_v]
    replace I:=I.drop1
    replace I:=I.drop1
    replace I:=I.drop1
    replace I:=I.drop1
    exact k c.b12 _ I H
theorem L4_r (I:I4 ρ c w A h) (H:L4 Q' c) (k:kt ρ A Q' Q):T4 (Tx.cipher_Block_L4 ρ Q) c w h:=by
  refine Lf.ind H (fun v=> ∀ (w:W) (h:Hp),I4 ρ v w A h→T4 (Tx.cipher_Block_L4 ρ Q) v w h) ?_ w h I
  rintro c S hS HB w h I
  refine Tx.cipher_Block_L4_in _ _ _ _ _ _ _ _ ?_
  try simp only [nrm_v]
  exact B4_r (c:=c) (w:=w) I HB (fun c w h I H=>hS _ H w h I) k
def B1 (S1:V→Prop) (Q:QT) (c:V):Prop:=
  br (decide (c.v20<(10:Int)))
  (L2 S1 Q {c with v22:=(0:Int)})
  (L4 Q {c with b12:=(Vector.replicate 64 (0:Int)),v55:=(0:Int)})
def L1 (Q:QT) (c:V):Prop:=Lf (fun S=>B1 S Q) c
theorem L1_in {Q:QT} {c:V} (H:B1 (L1 Q) Q c):L1 Q c:=Lf.fold H
theorem B1_r (I:I1 ρ c w A h) (H:B1 S1' Q' c) (kS1:k1t ρ A S1' S1) (k:kt ρ A Q' Q):T1 (Tx.cipher_Block_B1 ρ S1 Q) c w h:=by
  unfold I1 at I
  unfold T1 Tx.cipher_Block_B1
  unfold B1 at H
  refine br_r H (fun hb H=> ?_) (fun hb H=> ?_)
  · replace I := I.pull2.pull2.pull2
    exact L2_r (c:= {c with v22:=(0:Int)}) (w:=w) I H kS1 k
  · refine al_r [.vec .u8 64 (Vector.replicate 64 (0 : Int))] rfl I fun p_15 h I => ?_
    replace I:=I.pull3.pull3.pull3
    exact L4_r (c:= {c with b12:=(Vector.replicate 64 (0:Int)),v55:=(0:Int)}) (w:= {w with p_b12:=p_15}) I H k
theorem L1_r (I:I1 ρ c w A h) (H:L1 Q' c) (k:kt ρ A Q' Q):T1 (Tx.cipher_Block_L1 ρ Q) c w h:=by
  refine Lf.ind H (fun v=> ∀ (w:W) (h:Hp),I1 ρ v w A h→T1 (Tx.cipher_Block_L1 ρ Q) v w h) ?_ w h I
  rintro c S hS HB w h I
  refine Tx.cipher_Block_L1_in _ _ _ _ _ _ _ _ ?_
  try simp only [nrm_v]
  exact B1_r (c:=c) (w:=w) I HB (fun c w h I H=>hS _ H w h I) k
end cipher_Block
def cipher_Block (key0:Vector Int 32) (nonce1:Vector Int 12) (counter2:Int) (Q:cipher_Block.QT):Prop:=
  cipher_start key0 nonce1 counter2 fun r_7=>
  cipher_Block.L1 Q {cipher_Block.v0 with v6:=(Vector.replicate 64 (0:Int)),first7:=r_7,w8:=r_7,v20:=(0:Int)}
theorem cipher_Block_r {key0:Vector Int 32} {nonce1:Vector Int 12} {counter2:Int} {Q':cipher_Block.QT} {Q:cipher_Block.RT} (I:Inv h (A)) (H:cipher_Block key0 nonce1 counter2 Q')
    (k:cipher_Block.kt ρ A Q' Q):Tx.cipher_Block ρ key0.toList nonce1.toList counter2 h Q:=by
  unfold Tx.cipher_Block
  unfold cipher_Block at H
  try simp only [nrm_v]
  refine al_r [.vec .u8 32 key0] rfl I fun p_1 h I=> ?_
  refine al_r [.vec .u8 12 nonce1] rfl I fun p_3 h I=> ?_
  refine al_r [.vec .u8 64 (Vector.replicate 64 (0:Int))] rfl I fun p_5 h I=> ?_
  refine ldL_r (I.pull2.lump 0 0 rfl) ?_
  try simp only [nrm_v]
  refine ldL_r (I.pull1.lump 0 0 rfl) ?_
  try simp only [nrm_v]
  try simp only [nrm_v]
  refine cipher_start_r (key0:=key0) (nonce1:=nonce1) (counter2:=counter2) I H fun r_7 h I H=> ?_
  refine al_r [.vec .u32 16 (Vector.replicate 16 (0:Int))] rfl I fun p_8 h I=> ?_
  refine stA_r I 0 1 0 [.vec .u32 16 r_7] rfl rfl rfl (by first | exact all_segs rfl | exact all_one (by simp [segs,Seg.cells,allOne,allOne_append,allOne_lump,Value.oneCell'])) fun h (I:Inv h (blk p_8 (ρ.T 24) [.vec .u32 16 r_7]::_))=> ?_
  refine ldL_r (I.lump 0 0 rfl) ?_
  try simp only [nrm_v]
  refine al_r [.vec .u32 16 (Vector.replicate 16 (0:Int))] rfl I fun p_10 h I=> ?_
  refine stA_r I 0 1 0 [.vec .u32 16 r_7] rfl rfl rfl (by first | exact all_segs rfl | exact all_one (by simp [segs,Seg.cells,allOne,allOne_append,allOne_lump,Value.oneCell'])) fun h (I:Inv h (blk p_10 (ρ.T 24) [.vec .u32 16 r_7]::_))=> ?_
  replace I:=I.pull3.drop1
  replace I:=I.pull3.drop1
  replace I:=I.pull1.pull2
  exact cipher_Block.L1_r (c:= {cipher_Block.v0 with v6:=(Vector.replicate 64 (0:Int)),first7:=r_7,w8:=r_7,v20:=(0:Int)}) (w:= {cipher_Block.w0 with p_v6:=p_5,p_first7:=p_8,p_w8:=p_10}) I H k
namespace cipher_Turn
structure V where
  counter2:Int
  key4:Vector Int 32
  nonce5:Vector Int 12
  out9:List Int
  at10:Int
  s11:Vector Int 64
  v34:Int
  v35:Int
structure W where
  p_key4:Addr
  p_nonce5:Addr
  a_out9:Option Addr
  c_out9:Nat
  p_s11:Addr
def v0:V:=⟨0,Vector.replicate 32 0,Vector.replicate 12 0,[],0,Vector.replicate 64 0,0,0⟩
def w0:W:=⟨⟨0,0,none⟩,⟨0,0,none⟩,none,0,⟨0,0,none⟩⟩
abbrev QT:=(List Int)→Prop
abbrev RT:=Sl→Hp→Prop
def kt (ρ:Ids) (X_b3:At) (A:List At) (Q':QT) (Q:RT):Prop:=
  ∀ (r0:List Int) (ra0:Option Addr) (rc0:Nat) (h':Hp),Inv h' (ownS (rI .u8) ra0 r0.length rc0 r0::X_b3::A)→Q' r0→Q ⟨ra0,r0.length,rc0⟩ h'
def I1 (ρ:Ids) (X_b3:At) (c:V) (w:W) (A:List At) (h:Hp):Prop:=
  Inv h (X_b3::blk w.p_key4 (ρ.T 19) [.vec .u8 32 c.key4]::blk w.p_nonce5 (ρ.T 22) [.vec .u8 12 c.nonce5]::ownS (rI .u8) w.a_out9 c.out9.length w.c_out9 c.out9::A)
abbrev Y1:=Int→Addr→Addr→Sl→Int→Hp→Prop
abbrev T1 (X_b3:At) (S:Y1) (c:V) (w:W) (h:Hp):Prop:=S c.counter2 w.p_key4 w.p_nonce5 ⟨w.a_out9,c.out9.length,w.c_out9⟩ c.at10 h
def k1t (ρ:Ids) (X_b3:At) (A:List At) (S':V→Prop) (S:Y1):Prop:= ∀ (c:V) (w:W) (h:Hp),I1 ρ X_b3 c w A h→S' c→T1 X_b3 S c w h
def I2 (ρ:Ids) (X_b3:At) (c:V) (w:W) (A:List At) (h:Hp):Prop:=
  Inv h (X_b3::blk w.p_key4 (ρ.T 19) [.vec .u8 32 c.key4]::blk w.p_nonce5 (ρ.T 22) [.vec .u8 12 c.nonce5]::ownS (rI .u8) w.a_out9 c.out9.length w.c_out9 c.out9::blk w.p_s11 (ρ.T 23) [.vec .u8 64 c.s11]::A)
abbrev Y2:=Int→Addr→Addr→Sl→Int→Addr→Int→Int→Hp→Prop
abbrev T2 (X_b3:At) (S:Y2) (c:V) (w:W) (h:Hp):Prop:=S c.counter2 w.p_key4 w.p_nonce5 ⟨w.a_out9,c.out9.length,w.c_out9⟩ c.at10 w.p_s11 c.v34 c.v35 h
def k2t (ρ:Ids) (X_b3:At) (A:List At) (S':V→Prop) (S:Y2):Prop:= ∀ (c:V) (w:W) (h:Hp),I2 ρ X_b3 c w A h→S' c→T2 X_b3 S c w h
variable {X_b3:At} {c:V} {w:W} {Q':QT} {Q:RT} {S1' S2':V→Prop} {S1:Y1} {S2:Y2}
def B2 (S1:V→Prop) (S2:V→Prop) (Q:QT) (c:V):Prop:=
  br (decide (c.v35<c.v34))
  (ixP c.out9 (IntKind.wrap .i64 (c.at10+c.v35)) fun x_26=>
  ixP c.s11.toList c.v35 fun x_33=>
  ixP c.out9 (IntKind.wrap .i64 (c.at10+c.v35)) fun x_38=>
  S2 {c with out9:=(c.out9.set (Int.toNat (IntKind.wrap .i64 (c.at10+c.v35))) (IntKind.wrap .u8 (((BitVec.ofInt (IntKind.bits .u8) x_26 ^^^ (BitVec.ofInt (IntKind.bits .u8) x_33)).toNat:Int)))),v35:=(IntKind.wrap .i64 (c.v35+(1:Int)))})
  (S1 {c with counter2:=(IntKind.wrap .u32 (c.counter2+(1:Int))),at10:=(IntKind.wrap .i64 (c.at10+(64:Int)))})
def L2 (S1:V→Prop) (Q:QT) (c:V):Prop:=Lf (fun S=>B2 S1 S Q) c
theorem L2_in (S1:V→Prop) {Q:QT} {c:V} (H:B2 S1 (L2 S1 Q) Q c):L2 S1 Q c:=Lf.fold H
theorem B2_r (I:I2 ρ X_b3 c w A h) (H:B2 S1' S2' Q' c) (kS1:k1t ρ X_b3 A S1' S1) (kS2:k2t ρ X_b3 A S2' S2) (k:kt ρ X_b3 A Q' Q):T2 X_b3 (Tx.cipher_Turn_B2 ρ S1 S2 Q) c w h:=by
  unfold I2 at I
  unfold T2 Tx.cipher_Turn_B2
  unfold B2 at H
  refine br_r H (fun hb H=> ?_) (fun hb H=> ?_)
  · refine ixI_a rd_own I.pull3 (ixP_keep H) fun p_27 x_26 he_28 hb_29 hc_30 H => ?_
    obtain ⟨hg_31,H⟩:=H
    refine ldI_r hc_30 ?_
    refine ix_vec I.pull4 (j:=0) (off:=0) rfl (ixP_keep H) fun q_32 x_33 hq_34 hb_35 hc_36 H=> ?_
    obtain ⟨hg_37,H⟩:=H
    refine ldI_r hc_36 ?_
    refine ixI_a rd_own I.pull3 (ixP_keep H) fun p_39 x_38 he_40 hb_41 hc_42 H=> ?_
    obtain ⟨hg_43,H⟩:=H
    replace I:=I.repI (k:= .u8) (IntKind.wrap .u8 (((BitVec.ofInt (IntKind.bits .u8) x_26 ^^^ (BitVec.ofInt (IntKind.bits .u8) x_33)).toNat:Int)))
    replace I:=I.pull4.pull1
    refine st1_r (x:=(IntKind.wrap .u8 (((BitVec.ofInt (IntKind.bits .u8) x_26 ^^^ (BitVec.ofInt (IntKind.bits .u8) x_33)).toNat:Int)))) I he_40 hb_41 fun h I=> ?_
    have en:=own_len I
    replace I:=I.relenO
    try rw [show (⟨w.a_out9,c.out9.length,w.c_out9⟩:Sl)=⟨w.a_out9,(c.out9.set (Int.toNat (IntKind.wrap .i64 (c.at10+c.v35))) (IntKind.wrap .u8 (((BitVec.ofInt (IntKind.bits .u8) x_26 ^^^ (BitVec.ofInt (IntKind.bits .u8) x_33)).toNat:Int)))).length,w.c_out9⟩ from congrArg (fun k=>(⟨w.a_out9,k,w.c_out9⟩:Sl)) en]
    try rw [show Value.slice w.a_out9 c.out9.length w.c_out9=Value.slice w.a_out9 (c.out9.set (Int.toNat (IntKind.wrap .i64 (c.at10+c.v35))) (IntKind.wrap .u8 (((BitVec.ofInt (IntKind.bits .u8) x_26 ^^^ (BitVec.ofInt (IntKind.bits .u8) x_33)).toNat:Int)))).length w.c_out9 from congrArg (fun k=>Value.slice w.a_out9 k w.c_out9) en] at I
    clear en
    replace I:=I.pull4.pull1.pull4.pull4.pull4
    exact kS2 {c with out9:=(c.out9.set (Int.toNat (IntKind.wrap .i64 (c.at10+c.v35))) (IntKind.wrap .u8 (((BitVec.ofInt (IntKind.bits .u8) x_26 ^^^ (BitVec.ofInt (IntKind.bits .u8) x_33)).toNat:Int)))),v35:=(IntKind.wrap .i64 (c.v35+(1:Int)))} w _ I H
  · replace I := I.pull4.drop1
    replace I:=I.pull3.pull3.pull3.pull3
    exact kS1 {c with counter2:=(IntKind.wrap .u32 (c.counter2+(1:Int))),at10:=(IntKind.wrap .i64 (c.at10+(64:Int)))} w _ I H
theorem L2_r (I:I2 ρ X_b3 c w A h) (H:L2 S1' Q' c) (kS1:k1t ρ X_b3 A S1' S1) (k:kt ρ X_b3 A Q' Q):T2 X_b3 (Tx.cipher_Turn_L2 ρ S1 Q) c w h:=by
  refine Lf.ind H (fun v=> ∀ (w:W) (h:Hp),I2 ρ X_b3 v w A h→T2 X_b3 (Tx.cipher_Turn_L2 ρ S1 Q) v w h) ?_ w h I
  rintro c S hS HB w h I
  refine Tx.cipher_Turn_L2_in _ _ _ _ _ _ _ _ _ _ _ _ ?_
  try simp only [nrm_v]
  exact B2_r (c:=c) (w:=w) I HB kS1 (fun c w h I H=>hS _ H w h I) k
def B1 (S1:V→Prop) (Q:QT) (c:V):Prop:=
  br (decide (c.at10<(if (1048576:Int)<(c.out9.length:Int) then (1048576:Int) else (c.out9.length:Int))))
  (cipher_Block c.key4 c.nonce5 c.counter2 fun r_14=>
  (SlOk c.out9 c.at10 (if (c.out9.length:Int)<(IntKind.wrap .i64 (c.at10+(64:Int))) then (c.out9.length:Int) else (IntKind.wrap .i64 (c.at10+(64:Int)))))∧
  L2 S1 Q {c with s11:=r_14,v34:=((sub c.out9 c.at10 (if (c.out9.length:Int)<(IntKind.wrap .i64 (c.at10+(64:Int))) then (c.out9.length:Int) else (IntKind.wrap .i64 (c.at10+(64:Int))))).length:Int),v35:=(0:Int)})
  (Q c.out9)
def L1 (Q:QT) (c:V):Prop:=Lf (fun S=>B1 S Q) c
theorem L1_in {Q:QT} {c:V} (H:B1 (L1 Q) Q c):L1 Q c:=Lf.fold H
theorem B1_r (I:I1 ρ X_b3 c w A h) (H:B1 S1' Q' c) (kS1:k1t ρ X_b3 A S1' S1) (k:kt ρ X_b3 A Q' Q):T1 X_b3 (Tx.cipher_Turn_B1 ρ S1 Q) c w h:=by
  unfold I1 at I
  unfold T1 Tx.cipher_Turn_B1
  unfold B1 at H
  refine br_r H (fun hb H=> ?_) (fun hb H=> ?_)
  · refine ldL_r (I.pull1.lump 0 0 rfl) ?_
    try simp only [nrm_v]
    refine ldL_r (I.pull2.lump 0 0 rfl) ?_
    try simp only [nrm_v]
    try simp only [nrm_v]
    refine cipher_Block_r (key0:=c.key4) (nonce1:=c.nonce5) (counter2:=c.counter2) I H fun r_14 h I H=> ?_
    refine al_r [.vec .u8 64 (Vector.replicate 64 (0:Int))] rfl I fun p_15 h I=> ?_
    refine stA_r I 0 1 0 [.vec .u8 64 r_14] rfl rfl rfl (by first | exact all_segs rfl | exact all_one (by simp [segs,Seg.cells,allOne,allOne_append,allOne_lump,Value.oneCell'])) fun h (I:Inv h (blk p_15 (ρ.T 23) [.vec .u8 64 r_14]::_))=> ?_
    have hS_20:=H.1
    replace H:=H.2
    refine sl_part I.pull4 hS_20 ?_
    have hr_19:Rd (rI .u8) (ownS (rI .u8) w.a_out9 c.out9.length w.c_out9 c.out9) (resl w.a_out9 w.c_out9 1 ((Int.toNat c.at10:Nat):Int)) (sub c.out9 c.at10 (if (c.out9.length:Int)<(IntKind.wrap .i64 (c.at10+(64:Int))) then (c.out9.length:Int) else (IntKind.wrap .i64 (c.at10+(64:Int))))).length (w.c_out9 - Int.toNat c.at10) (sub c.out9 c.at10 (if (c.out9.length:Int)<(IntKind.wrap .i64 (c.at10+(64:Int))) then (c.out9.length:Int) else (IntKind.wrap .i64 (c.at10+(64:Int))))):=rd_part rd_own hS_20
    replace I:=I.pull4.pull4.pull4.pull4
    exact L2_r (c:= {c with s11:=r_14,v34:=((sub c.out9 c.at10 (if (c.out9.length:Int)<(IntKind.wrap .i64 (c.at10+(64:Int))) then (c.out9.length:Int) else (IntKind.wrap .i64 (c.at10+(64:Int))))).length:Int),v35:=(0:Int)}) (w:= {w with p_s11:=p_15}) I H kS1 k
  · replace I := I.pull1.drop1
    replace I:=I.pull1.drop1
    replace I:=I.pull1
    exact k c.out9 w.a_out9 w.c_out9 _ I H
theorem L1_r (I:I1 ρ X_b3 c w A h) (H:L1 Q' c) (k:kt ρ X_b3 A Q' Q):T1 X_b3 (Tx.cipher_Turn_L1 ρ Q) c w h:=by
  refine Lf.ind H (fun v=> ∀ (w:W) (h:Hp),I1 ρ X_b3 v w A h→T1 X_b3 (Tx.cipher_Turn_L1 ρ Q) v w h) ?_ w h I
  rintro c S hS HB w h I
  refine Tx.cipher_Turn_L1_in _ _ _ _ _ _ _ _ ?_
  try simp only [nrm_v]
  exact B1_r (c:=c) (w:=w) I HB (fun c w h I H=>hS _ H w h I) k
end cipher_Turn
def cipher_Turn (key0:Vector Int 32) (nonce1:Vector Int 12) (counter2:Int) (b3:List Int) (Q:cipher_Turn.QT):Prop:=
  (Bnd (([]:List Int).length+b3.length))∧
  cipher_Turn.L1 Q {cipher_Turn.v0 with counter2:=counter2,key4:=key0,nonce5:=nonce1,out9:=(([]:List Int)++b3),at10:=(0:Int)}
theorem cipher_Turn_r {key0:Vector Int 32} {nonce1:Vector Int 12} {counter2:Int} {b3:List Int} {a_b3:Option Addr} {c_b3:Nat} {n_b3:Nat} {X_b3:At} {Q':cipher_Turn.QT} {Q:cipher_Turn.RT} (hX_b3:Rd (rI .u8) X_b3 a_b3 n_b3 c_b3 b3) (I:Inv h (X_b3::A)) (H:cipher_Turn key0 nonce1 counter2 b3 Q')
    (k:cipher_Turn.kt ρ X_b3 A Q' Q):Tx.cipher_Turn ρ key0.toList nonce1.toList counter2 ⟨a_b3,n_b3,c_b3⟩ h Q:=by
  obtain rfl:=rd_len hX_b3 I
  unfold Tx.cipher_Turn
  unfold cipher_Turn at H
  try simp only [nrm_v]
  refine al_r [.vec .u8 32 key0] rfl I fun p_2 h I=> ?_
  refine al_r [.vec .u8 12 nonce1] rfl I fun p_4 h I=> ?_
  replace I:=I.nilO (rI .u8)
  refine ap_r hX_b3 I.pull3.pull1 rfl (by decide) (by decide) H.1 fun a_7 c_8 h I=> ?_
  replace H:=H.2
  replace I:=I.pull2.pull3.pull3
  exact cipher_Turn.L1_r (c:= {cipher_Turn.v0 with counter2:=counter2,key4:=key0,nonce5:=nonce1,out9:=(([]:List Int)++b3),at10:=(0:Int)}) (w:= {cipher_Turn.w0 with p_key4:=p_2,p_nonce5:=p_4,a_out9:=a_7,c_out9:=c_8}) I H k
end Go.Pt
namespace Go.Pu
open Go Go.Wc
theorem loop_n {V:Type} {B:(V→Prop)→V→Prop} (n:Nat) (st:Nat→V) (P:Nat→Prop)
    (hstep: ∀ i S,i<n→P i→(P (i+1)→S (st (i+1)))→B S (st i)) (hend: ∀ S,P n→B S (st n)): ∀ i,i≤n→P i→Lf B (st i):=by
  have key: ∀ j i,i+j=n→P i→Lf B (st i):=by
    intro j
    induction j with
    | zero => intro i e hP; obtain rfl : i = n := by omega
              exact Lf.fold (hend _ hP)
    | succ j ih=>intro i e hP; exact Lf.fold (hstep i _ (by omega) hP fun h=>ih (i+1) (by omega) h)
  intro i hi hP
  exact key (n - i) i (by omega) hP
theorem loop_0 {V:Type} {B:(V→Prop)→V→Prop} (n:Nat) (st:Nat→V)
    (hstep: ∀ i S,i<n→S (st (i+1))→B S (st i)) (hend: ∀ S,B S (st n)):Lf B (st 0):=
  loop_n n st (fun _=>True) (fun i S hi _ h=>hstep i S hi (h trivial)) (fun S _=>hend S) 0 (Nat.zero_le _) trivial
theorem wadd1 {i:Nat} (h:i<9000000000000000000):IntKind.wrap .i64 ((i:Int)+(1:Int))=((i+1:Nat):Int):=by
  rw [wrap64 (by omega) (by omega)]; omega
theorem dlt {i n:Nat} (h:i<n):decide ((i:Int)<(n:Int))=true:=by simp; omega
theorem dge {i n:Nat} (h:n≤i):decide ((i:Int)<(n:Int))=false:=by simp; omega
theorem ix_get {X:Type} {l:List X} {i:Nat} {K:X→Prop} (h:i<l.length) (H:K l[i]):ixP l (i:Int) K:=ixP_nat (List.getElem?_eq_getElem h) H
theorem ixP_eq {X:Type} {l:List X} {i:Int} {K:X→Prop} (j:Nat) (hj:i=(j:Int)) (h:j<l.length) (H:K l[j]):ixP l i K:=by subst hj; exact ix_get h H
theorem take_snoc {X:Type} {l:List X} {i:Nat} (h:i<l.length):l.take (i+1)=l.take i++[l[i]]:=by rw [List.take_add_one,List.getElem?_eq_getElem h]; rfl
theorem map_take_snoc {X Y:Type} {l:List X} {f:X→Y} {i:Nat} (h:i<l.length):(l.take i).map f++[f l[i]]=(l.take (i+1)).map f:=by rw [take_snoc h,List.map_append]; rfl
theorem bnd_le {n:Nat} (h:n≤4000000000):Bnd n:=by unfold Bnd; omega
end Go.Pu
namespace Go.Pu
open Go Go.Wc
def rotR (n:Nat) (x:Int):Int:=x / 2 ^ n+x % 2 ^ n*2 ^ (32 - n)
def W32 (x:Int):Prop:=0≤x∧x<4294967296
def right1 (x:Int):Int:=IntKind.wrap .u32 (IntKind.wrap .u32 (Int.tdiv x 2)+IntKind.wrap .u32 (Int.tmod x 2*2147483648))
def left1 (x:Int):Int:=IntKind.wrap .u32 (IntKind.wrap .u32 (x*2)+IntKind.wrap .u32 (Int.tdiv x 2147483648))
theorem wrap_u32 (n:Int):IntKind.wrap .u32 n=n % 4294967296:=by
  rw [show IntKind.wrap .u32 n=n % 4294967296 from rfl]
theorem w32_wrap (n:Int):W32 (IntKind.wrap .u32 n):=by rw [wrap_u32]; unfold W32; omega
theorem wrap_w32 {n:Int} (h:W32 n):IntKind.wrap .u32 n=n:=by rw [wrap_u32]; unfold W32 at h; omega
theorem pow2_pos (n:Nat):(0:Int)<2 ^ n:=Int.pow_pos (by decide)
theorem pow2_split {n:Nat} (h:n≤32):(2:Int) ^ n*2 ^ (32 - n)=4294967296:=by
  rw [← Int.pow_add,Nat.add_sub_of_le h]; rfl
theorem rotR_parts {n:Nat} (h:n<32) {x:Int} (hx:W32 x): ∃ P S q r b:Int,(2:Int) ^ n=P∧2 ^ (n+1)=2*P∧2 ^ (32 - n)=2*S∧2 ^ (32 - (n+1))=S∧0<P∧0<S∧P*S=2147483648∧
    0≤q∧q<S∧0≤r∧r<P∧(b=0∨b=1)∧x / 2 ^ (n+1)=q∧x / 2 ^ n=2*q+b∧x % 2 ^ n=r∧x % 2 ^ (n+1)=b*P+r∧0≤r*S∧r*S+q<2147483648:=by
  have e1:(2:Int) ^ (n+1)=2*2 ^ n:=by rw [Int.pow_succ,Int.mul_comm]
  have e2:(2:Int) ^ (32 - n)=2*2 ^ (32 - (n+1)):=by rw [show 32 - n=(32 - (n+1))+1 by omega,Int.pow_succ,Int.mul_comm]
  have e3:(2:Int) ^ n*2 ^ (32 - (n+1))=2147483648:=by
    have:=pow2_split (n:=n) (by omega)
    rw [e2,Int.mul_left_comm] at this; omega
  have hP:=pow2_pos n
  have hS:=pow2_pos (32 - (n+1))
  refine ⟨2 ^ n,2 ^ (32 - (n+1)),x / (2*2 ^ n),x % 2 ^ n,x / 2 ^ n % 2,rfl,e1,e2,rfl,hP,hS,e3, ?_⟩
  have d1:=Int.mul_ediv_add_emod x (2 ^ n)
  have d2:=Int.emod_nonneg x (b:=2 ^ n) (by omega)
  have d3:=Int.emod_lt_of_pos x hP
  have d4:x / (2*2 ^ n)=x / 2 ^ n / 2:=by rw [Int.mul_comm,Int.ediv_ediv_of_nonneg (by omega)]
  have d5:0≤x / 2 ^ n:=Int.ediv_nonneg hx.1 (by omega)
  have d6:x / 2 ^ n<2*2 ^ (32 - (n+1)):=by
    refine Int.ediv_lt_of_lt_mul hP ?_
    have h2:=hx.2
    have:(2*2 ^ (32 - (n+1)):Int)*2 ^ n=2*(2 ^ n*2 ^ (32 - (n+1))):=by rw [Int.mul_comm (2 ^ n),Int.mul_assoc]
    rw [this,e3]; omega
  have d7:=Int.mul_ediv_add_emod x (2*2 ^ n)
  have d8:(2:Int)*2 ^ n*(x / (2*2 ^ n))=2 ^ n*(2*(x / 2 ^ n / 2)):=by rw [d4]; simp only [Int.mul_assoc,Int.mul_left_comm]
  have d9:(2:Int) ^ n*(x / 2 ^ n)=2 ^ n*(2*(x / 2 ^ n / 2))+2 ^ n*(x / 2 ^ n % 2):=by
    rw [← Int.mul_add]; congr 1; omega
  have d10:x % 2 ^ n*2 ^ (32 - (n+1))≤(2 ^ n - 1)*2 ^ (32 - (n+1)):=Int.mul_le_mul_of_nonneg_right (by omega) (by omega)
  rw [Int.sub_mul,e3] at d10
  refine ⟨?_, ?_,d2,d3, ?_, ?_, ?_,rfl, ?_, ?_, ?_⟩
  · omega
  · omega
  · omega
  · rw [e1]
  · omega
  · rw [e1,Int.mul_comm (x / 2 ^ n % 2)]; omega
  · exact Int.mul_nonneg d2 (by omega)
  · omega
theorem rotR_w32 {n:Nat} (h:n<32) {x:Int} (hx:W32 x):W32 (rotR n x):=by
  obtain ⟨P,S,q,r,b,h1,h2,h3,h4,h5,h6,h7,h8,h9,h10,h11,h12,h13,h14,h15,h16,h17,h18⟩:=rotR_parts h hx
  unfold rotR W32
  rw [h14,h15,h3,Int.mul_left_comm]
  omega
theorem right1_rot {n:Nat} (h:n<32) {x:Int} (hx:W32 x):right1 (rotR n x)=rotR (n+1) x:=by
  obtain ⟨P,S,q,r,b,h1,h2,h3,h4,h5,h6,h7,h8,h9,h10,h11,h12,h13,h14,h15,h16,h17,h18⟩:=rotR_parts h hx
  have hw:=rotR_w32 h hx
  unfold right1
  rw [Int.tdiv_eq_ediv_of_nonneg hw.1,Int.tmod_eq_emod_of_nonneg hw.1,wrap_u32,wrap_u32,wrap_u32]
  unfold rotR at hw ⊢
  rw [h14,h15,h3,Int.mul_left_comm] at hw
  rw [h14,h15,h3,h13,h16,h4,Int.mul_left_comm,Int.add_mul,Int.mul_assoc,h7]
  rcases h12 with rfl | rfl <;> omega
theorem left1_rot {n:Nat} (h:n<32) {x:Int} (hx:W32 x):left1 (rotR (n+1) x)=rotR n x:=by
  obtain ⟨P,S,q,r,b,h1,h2,h3,h4,h5,h6,h7,h8,h9,h10,h11,h12,h13,h14,h15,h16,h17,h18⟩:=rotR_parts h hx
  unfold left1
  have e:rotR (n+1) x=q+(b*2147483648+r*S):=by
    unfold rotR
    rw [h13,h16,h4,Int.add_mul,Int.mul_assoc,h7]
  have e2:rotR n x=2*q+b+2*(r*S):=by
    unfold rotR
    rw [h14,h15,h3,Int.mul_left_comm]
  rw [e,e2,Int.tdiv_eq_ediv_of_nonneg (by rcases h12 with rfl | rfl <;> omega),wrap_u32,wrap_u32,wrap_u32]
  have j1:(q+(b*2147483648+r*S)) / 2147483648=b:=by rcases h12 with rfl | rfl <;> omega
  have j2:(q+(b*2147483648+r*S))*2 % 4294967296=2*q+2*(r*S):=by rcases h12 with rfl | rfl <;> omega
  rw [j1,j2]
  rcases h12 with rfl | rfl <;> omega
theorem rotR_0 {x:Int}:rotR 0 x=x:=by unfold rotR; simp
theorem rotR_32 {x:Int} (hx:W32 x):rotR 32 x=x:=by
  unfold rotR
  have h1:=hx.1; have h2:=hx.2
  rw [show (2:Int) ^ 32=4294967296 from rfl,show (2:Int) ^ (32 - 32)=1 from rfl]; omega
theorem or_add {P S a r:Int} {n:Nat} (hP:P=2 ^ n) (hr:0≤r∧r<P) (ha:0≤a) (h:a*P+r<4294967296):
    ((BitVec.ofInt 32 (a*P) ||| BitVec.ofInt 32 r).toNat:Int)=a*P+r:=by
  obtain ⟨a',rfl⟩:=Int.eq_ofNat_of_zero_le ha
  obtain ⟨r',rfl⟩:=Int.eq_ofNat_of_zero_le hr.1
  subst hP
  have e:((a':Int)*2 ^ n)=((2 ^ n*a':Nat):Int):=by rw [Int.natCast_mul,Int.natCast_pow]; exact Int.mul_comm _ _
  rw [e] at h ⊢
  have hlt:r'<2 ^ n:=by have:=hr.2; exact_mod_cast this
  have hsum:2 ^ n*a'+r'<4294967296:=by clear e; generalize 2 ^ n*a'=m at*; omega
  rw [BitVec.toNat_or,BitVec.ofInt_natCast,BitVec.ofInt_natCast,BitVec.toNat_ofNat,BitVec.toNat_ofNat,Nat.mod_eq_of_lt (by omega),Nat.mod_eq_of_lt (by omega),← Nat.two_pow_add_eq_or_of_lt hlt]
  rw [Int.natCast_add]
end Go.Pu
namespace Go.Pt
open Go Go.Wc Go.Pu
theorem dv4 {x:Int} (h:0≤x):Int.tdiv x 4=x / 4:=Int.tdiv_eq_ediv_of_nonneg h
theorem md4 {x:Int} (h:0≤x):Int.tmod x 4=x % 4:=Int.tmod_eq_emod_of_nonneg h
theorem sub_len {l:List Int} {i j:Int} (h:0≤i∧i≤j∧j≤(l.length:Int)):((sub l i j).length:Int)=j - i:=by
  unfold sub; rw [List.length_drop,List.length_take]; omega
theorem w64 {n:Int} (h: -1000≤n∧n≤1000000000):IntKind.wrap .i64 n=n:=wrap64 (by omega) (by omega)
def kL:List Int:=[1116352408,1899447441,3049323471,3921009573,961987163,1508970993,2453635748,2870763221,3624381080,310598401,607225278,1426881987,1925078388,2162078206,2614888103,3248222580,3835390401,4022224774,264347078,604807628,770255983,1249150122,1555081692,1996064986,2554220882,2821834349,2952996808,3210313671,3336571891,3584528711,113926993,338241895,666307205,773529912,1294757372,1396182291,1695183700,1986661051,2177026350,2456956037,2730485921,2820302411,3259730800,3345764771,3516065817,3600352804,4094571909,275423344,430227734,506948616,659060556,883997877,958139571,1322822218,1537002063,1747873779,1955562222,2024104815,2227730452,2361852424,2428436474,2756734187,3204031479,3329325298]
def firstL:List Int:=[1779033703,3144134277,1013904242,2773480762,1359893119,2600822924,528734635,1541459225]
def X32 (a b:Int):Int:=IntKind.wrap .u32 (((BitVec.ofInt (IntKind.bits .u32) a ^^^ (BitVec.ofInt (IntKind.bits .u32) b)).toNat:Int))
def A32 (a b:Int):Int:=IntKind.wrap .u32 (((BitVec.ofInt (IntKind.bits .u32) a &&& (BitVec.ofInt (IntKind.bits .u32) b)).toNat:Int))
def N32 (a:Int):Int:=IntKind.wrap .u32 ((4294967295:Int) - a)
def add (a b:Int):Int:=IntKind.wrap .u32 (a+b)
theorem rotl_spec {x k:Int} {n:Nat} {Q:Int→Prop} (hx:W32 x) (hn:0<n∧n<32)
    (hk:IntKind.wrap .u64 (((BitVec.ofInt (IntKind.bits .u64) (IntKind.wrap .u64 k) &&& (BitVec.ofInt (IntKind.bits .u64) (31:Int))).toNat:Int))=((32 - n:Nat):Int)) (H:Q (rotR n x)):math_bits_RotateLeft32 x k Q:=by
  unfold math_bits_RotateLeft32
  rw [hk,show IntKind.wrap .u64 ((32:Int) - ((32 - n:Nat):Int))=(n:Int) by rw [wrap_u64 (by omega) (by omega)]; omega]
  refine ⟨by omega,by omega, ?_⟩
  have e1:min (Int.toNat ((32 - n:Nat):Int)) (IntKind.bits .u32)=32 - n:=by
    rw [Int.toNat_natCast]; exact Nat.min_eq_left (show 32 - n≤32 by omega)
  have e2:min (Int.toNat (n:Int)) (IntKind.bits .u32)=n:=by
    rw [Int.toNat_natCast]; exact Nat.min_eq_left (show n≤32 by omega)
  rw [e1,e2]
  have hP:=pow2_pos n
  have hS:=pow2_pos (32 - n)
  have hPS:=pow2_split (n:=n) (by omega)
  have e3:IntKind.wrap .u32 (x*2 ^ (32 - n))=x % 2 ^ n*2 ^ (32 - n):=by
    rw [wrap_u32,← hPS,Int.mul_comm x,Int.mul_comm (2 ^ n),Int.mul_emod_mul_of_pos _ _ hS,Int.mul_comm]
  have e4:Int.fdiv x (2 ^ n)=x / 2 ^ n:=Int.fdiv_eq_ediv_of_nonneg _ (by omega)
  have hw:=rotR_w32 (n:=n) (by omega) hx
  rw [e3,e4]
  have e5:=or_add (P:=2 ^ (32 - n)) (S:=0) (a:=x % 2 ^ n) (r:=x / 2 ^ n) (n:=32 - n) rfl ⟨Int.ediv_nonneg hx.1 (by omega), ?_⟩ (Int.emod_nonneg _ (by omega)) ?_
  · have e6 : x % 2 ^ n * 2 ^ (32 - n) + x / 2 ^ n = rotR n x := by unfold rotR; exact Int.add_comm _ _
    rw [e6] at e5
    rw [show ((BitVec.ofInt (IntKind.bits .u32) (x % 2 ^ n*2 ^ (32 - n)) ||| BitVec.ofInt (IntKind.bits .u32) (x / 2 ^ n)).toNat:Int)=rotR n x from e5,wrap_w32 hw]
    exact H
  · refine Int.ediv_lt_of_lt_mul hP ?_
    rw [Int.mul_comm,hPS]; exact hx.2
  · have := hw.2
    unfold rotR at this; omega
theorem turn_spec {x k:Int} {n:Nat} {Q:Int→Prop} (hx:W32 x) (hk:k=(n:Int)) (hn:0<n∧n<32) (H:Q (rotR n x)):sha_Turn x k Q:=by
  subst hk
  unfold sha_Turn
  rw [Int.tmod_eq_emod_of_nonneg (by omega),w64 (n:=0 - (n:Int) % 32) (by omega)]
  refine rotl_spec hx hn ?_ H
  have: ∀ m:Fin 32,0<m.val→IntKind.wrap .u64 (((BitVec.ofInt (IntKind.bits .u64) (IntKind.wrap .u64 (0 - (m.val:Int) % 32)) &&& (BitVec.ofInt (IntKind.bits .u64) (31:Int))).toNat:Int))=((32 - m.val:Nat):Int):=by decide+kernel
  exact this ⟨n,hn.2⟩ hn.1
theorem x32_w (a b:Int):W32 (X32 a b):=w32_wrap _
theorem a32_w (a b:Int):W32 (A32 a b):=w32_wrap _
theorem add_w (a b:Int):W32 (add a b):=w32_wrap _
theorem not_eq {x:Int} (hx:W32 x):IntKind.wrap .u32 ((BitVec.ofInt (IntKind.bits .u32) (if IntKind.signed .u32 then -1 else IntKind.max .u32) ^^^ BitVec.ofInt (IntKind.bits .u32) x).toNat:Int)=N32 x:=by
  obtain ⟨h0,h1⟩:=hx
  obtain ⟨n,rfl⟩:=Int.eq_ofNat_of_zero_le h0
  unfold N32
  show IntKind.wrap .u32 ((BitVec.ofInt 32 4294967295 ^^^ BitVec.ofInt 32 (n:Int)).toNat:Int)=_
  rw [show BitVec.ofInt 32 4294967295=BitVec.allOnes 32 from by decide,BitVec.ofInt_natCast,BitVec.allOnes_xor,BitVec.toNat_not,BitVec.toNat_ofNat,Nat.mod_eq_of_lt (by omega)]
  congr 1
  omega
def W32L (l:List Int):Prop:= ∀ x ∈ l,W32 x
theorem getD_w32 {l:List Int} (h:W32L l) (i:Nat):W32 (l.getD i 0):=by
  rw [List.getD_eq_getElem?_getD]
  cases e:l[i]? with
  | none=>exact ⟨by decide,by decide⟩
  | some x=>exact h x (List.mem_of_getElem? e)
def bigW (a b c d:Int):Int:=a*16777216+b*65536+c*256+d
def schedS (x y a c:Int):Int:=add (add (add (X32 (X32 (rotR 17 y) (rotR 19 y)) (y / 1024)) a) (X32 (X32 (rotR 7 x) (rotR 18 x)) (x / 8))) c
def wNext (b l:List Int) (t:Nat):Int:=
  if t<16 then bigW (b.getD (4*t) 0) (b.getD (4*t+1) 0) (b.getD (4*t+2) 0) (b.getD (4*t+3) 0)
  else schedS (l.getD (t - 15) 0) (l.getD (t - 2) 0) (l.getD (t - 7) 0) (l.getD (t - 16) 0)
def wl (b:List Int):Nat→List Int
  | 0=>[]
  | t+1=>wl b t++[wNext b (wl b t) t]
theorem wl_len (b:List Int): ∀ t,(wl b t).length=t
  | 0=>rfl
  | t+1=>by simp [wl,wl_len b t]
theorem getD_byte {b:List Int} (h:bytesL b) (i:Nat):0≤b.getD i 0∧b.getD i 0<256:=by
  rw [List.getD_eq_getElem?_getD]
  cases e:b[i]? with
  | none=>exact ⟨by decide,by decide⟩
  | some x=>exact h x (List.mem_of_getElem? e)
theorem bigW_w {a b c d:Int} (ha:0≤a∧a<256) (hb:0≤b∧b<256) (hc:0≤c∧c<256) (hd:0≤d∧d<256):W32 (bigW a b c d):=by unfold bigW W32; omega
theorem wNext_w {b l:List Int} (hb:bytesL b) (t:Nat):W32 (wNext b l t):=by
  unfold wNext
  split
  · exact bigW_w (getD_byte hb _) (getD_byte hb _) (getD_byte hb _) (getD_byte hb _)
  · exact add_w _ _
theorem wl_w {b:List Int} (hb:bytesL b): ∀ t,W32L (wl b t)
  | 0=>fun _ h=>by cases h
  | t + 1 => fun x h => by
    rcases List.mem_append.1 h with h | h
    · exact wl_w hb t x h
    · rw [List.mem_singleton.1 h]; exact wNext_w hb t
def s1S (e:Int):Int:=X32 (X32 (rotR 6 e) (rotR 11 e)) (rotR 25 e)
def s0S (a:Int):Int:=X32 (X32 (rotR 2 a) (rotR 13 a)) (rotR 22 a)
def chS (e f g:Int):Int:=X32 (A32 e f) (A32 (N32 e) g)
def mjS (a b c:Int):Int:=X32 (X32 (A32 a b) (A32 a c)) (A32 b c)
def stepS : List Int → Int → Int → List Int
  | [a, b, c, d, e, f, g, h], k, w =>
    let p:=add (add (add (add h (s1S e)) (chS e f g)) k) w
    [add p (add (s0S a) (mjS a b c)),a,b,c,add d p,e,f,g]
  | l,_,_=>l
def roundsS (w h:List Int):Nat→List Int
  | 0=>h
  | t+1=>stepS (roundsS w h t) (kL.getD t 0) (w.getD t 0)
def addS (h x:List Int):List Int:=List.zipWith add h x
def compS (h b:List Int):List Int:=addS h (roundsS (wl b 64) h 64)
theorem list8 {l:List Int} (h:l.length=8): ∃ a b c d e f g k,l=[a,b,c,d,e,f,g,k]:=by
  match l,h with
  | [a,b,c,d,e,f,g,k],_=>exact ⟨a,b,c,d,e,f,g,k,rfl⟩
theorem vec8 (v:Vector Int 8): ∃ a b c d e f g k,v= #v[a,b,c,d,e,f,g,k]:=by
  obtain ⟨a,b,c,d,e,f,g,k,h⟩:=list8 (l:=v.toList) (by rw [Vector.length_toList])
  exact ⟨a,b,c,d,e,f,g,k,by rw [← Vector.toList_inj,h]; rfl⟩
theorem stepS_len (l:List Int) (k w:Int) (h:l.length=8):(stepS l k w).length=8:=by
  obtain ⟨a,b,c,d,e,f,g,x,rfl⟩:=list8 h
  rfl
theorem rounds_len {w h:List Int} (hh:h.length=8): ∀ t,(roundsS w h t).length=8
  | 0=>hh
  | t+1=>stepS_len _ _ _ (rounds_len hh t)
theorem stepS_w {l:List Int} {k w:Int} (hl:l.length=8) (h:W32L l):W32L (stepS l k w):=by
  obtain ⟨a,b,c,d,e,f,g,x,rfl⟩:=list8 hl
  intro y hy
  simp only [stepS,List.mem_cons,List.not_mem_nil,or_false] at hy
  rcases hy with rfl | rfl | rfl | rfl | rfl | rfl | rfl | rfl
  · exact add_w _ _
  · exact h _ (by simp)
  · exact h _ (by simp)
  · exact h _ (by simp)
  · exact add_w _ _
  · exact h _ (by simp)
  · exact h _ (by simp)
  · exact h _ (by simp)
theorem rounds_w {w h:List Int} (hh:h.length=8) (hw:W32L h): ∀ t,W32L (roundsS w h t)
  | 0=>hw
  | t+1=>stepS_w (rounds_len hh t) (rounds_w hh hw t)
theorem comp_len {h b:List Int} (hh:h.length=8):(compS h b).length=8:=by
  unfold compS addS
  rw [List.length_zipWith,rounds_len hh,hh]; rfl
theorem comp_w {h b:List Int}:W32L (compS h b):=by
  intro x hx
  unfold compS addS at hx
  obtain ⟨i,hi,rfl⟩:=List.getElem_of_mem hx
  rw [List.getElem_zipWith]
  exact add_w _ _
end Go.Pt
namespace Go.Pt
open Go Go.Wc Go.Pu
theorem ixr {X:Type} {l:List X} {i:Int} {x:X} {K:X→Prop} (h0:0≤i) (h:l[i.toNat]? =some x) (H:K x):ixP l i K:=by
  obtain ⟨n,rfl⟩:=Int.eq_ofNat_of_zero_le h0
  exact ixP_nat h H
theorem ixd {l:List Int} {i:Int} {n:Nat} {K:Int→Prop} (hi:i=(n:Int)) (h:n<l.length) (H:K (l.getD n 0)):ixP l i K:=by
  refine ixP_eq n hi h ?_
  rw [List.getD_eq_getElem?_getD,List.getElem?_eq_getElem h] at H
  exact H
theorem ixdv {m:Nat} {v:Vector Int m} {l:List Int} {i:Int} {n:Nat} {K:Int→Prop} (e:v.toList=l) (hi:i=(n:Int)) (h:n<m) (H:K (l.getD n 0)):ixP v.toList i K:=by
  subst e
  exact ixd hi (by rw [Vector.length_toList]; exact h) H
theorem jstep {w x:Int} (hw:0≤w) (hx:0≤x∧x<256) (h:w*256+x<4294967296):
    IntKind.wrap .u32 (((BitVec.ofInt (IntKind.bits .u32) (IntKind.wrap .u32 (w*2 ^ (min (Int.toNat (8:Int)) (IntKind.bits .u32)))) ||| (BitVec.ofInt (IntKind.bits .u32) (IntKind.wrap .u32 x))).toNat:Int))=w*256+x:=by
  have e1:w*2 ^ (min (Int.toNat (8:Int)) (IntKind.bits .u32))=w*256:=rfl
  rw [e1,wrap_w32 (n:=w*256) ⟨by omega,by omega⟩,wrap_w32 (n:=x) ⟨by omega,by omega⟩]
  have:=or_add (P:=256) (S:=0) (a:=w) (r:=x) (n:=8) rfl hx hw h
  rw [show ((BitVec.ofInt (IntKind.bits .u32) (w*256) ||| BitVec.ofInt (IntKind.bits .u32) x).toNat:Int)=w*256+x from this]
  exact wrap_w32 ⟨by omega,h⟩
theorem sjoin_spec {a b c d:Int} {Q:sha_join.QT} (ha:0≤a∧a<256) (hb:0≤b∧b<256) (hc:0≤c∧c<256) (hd:0≤d∧d<256) (H:Q (bigW a b c d)):sha_join [a,b,c,d] Q:=by
  unfold sha_join
  refine sha_join.L1_in ?_
  unfold sha_join.B1; dsimp only
  rw [show decide ((0:Int)<(([a,b,c,d].length:Nat):Int))=true from rfl,br_true]
  refine ixr (by decide) rfl ?_
  rw [jstep (by decide) ha (by omega)]
  refine sha_join.L1_in ?_
  unfold sha_join.B1; dsimp only
  rw [show decide (IntKind.wrap .i64 ((0:Int)+1)<(([a,b,c,d].length:Nat):Int))=true from rfl,br_true]
  refine ixr (by decide) rfl ?_
  rw [jstep (by omega) hb (by omega)]
  refine sha_join.L1_in ?_
  unfold sha_join.B1; dsimp only
  rw [show decide (IntKind.wrap .i64 (IntKind.wrap .i64 ((0:Int)+1)+1)<(([a,b,c,d].length:Nat):Int))=true from rfl,br_true]
  refine ixr (by decide) rfl ?_
  rw [jstep (by omega) hc (by omega)]
  refine sha_join.L1_in ?_
  unfold sha_join.B1; dsimp only
  rw [show decide (IntKind.wrap .i64 (IntKind.wrap .i64 (IntKind.wrap .i64 ((0:Int)+1)+1)+1)<(([a,b,c,d].length:Nat):Int))=true from rfl,br_true]
  refine ixr (by decide) rfl ?_
  rw [jstep (by omega) hd (by omega)]
  refine sha_join.L1_in ?_
  unfold sha_join.B1; dsimp only
  rw [show decide (IntKind.wrap .i64 (IntKind.wrap .i64 (IntKind.wrap .i64 (IntKind.wrap .i64 ((0:Int)+1)+1)+1)+1)<(([a,b,c,d].length:Nat):Int))=false from rfl,br_false]
  rw [show (((0*256+a)*256+b)*256+c)*256+d=bigW a b c d by unfold bigW; omega]
  exact H
theorem sub4 {l:List Int} {n:Nat} {i j:Int} (hi:i=(n:Int)) (hj:j=(n:Int)+4) (h:n+4≤l.length):sub l i j=[l.getD n 0,l.getD (n+1) 0,l.getD (n+2) 0,l.getD (n+3) 0]:=by
  subst hi hj
  unfold sub
  rw [show ((n:Int)+4).toNat=n+4 by omega,Int.toNat_natCast]
  apply List.ext_getElem
  · rw [List.length_drop,List.length_take]; simp; omega
  · intro k h1 h2
    rw [List.getElem_drop,List.getElem_take]
    have hk:k<4:=h2
    match k,hk with
    | 0,_=>simp [List.getD_eq_getElem?_getD,List.getElem?_eq_getElem (show n<l.length by omega)]
    | 1,_=>simp [List.getD_eq_getElem?_getD,List.getElem?_eq_getElem (show n+1<l.length by omega)]
    | 2,_=>simp [List.getD_eq_getElem?_getD,List.getElem?_eq_getElem (show n+2<l.length by omega)]
    | 3,_=>simp [List.getD_eq_getElem?_getD,List.getElem?_eq_getElem (show n+3<l.length by omega)]
theorem set_app {n:Nat} {v:Vector Int n} {l r:List Int} {x y:Int} {i:Int} (e:v.toList=l++y::r) (hi:i=(l.length:Int)):(v.setIfInBounds (Int.toNat i) x).toList=(l++[x])++r:=by
  subst hi
  rw [Vector.toList_setIfInBounds,e,Int.toNat_natCast,List.set_append_right _ _ (Nat.le_refl _),Nat.sub_self]
  simp
theorem fd {x:Int} (n:Nat) (hx:0≤x):Int.fdiv x (2 ^ n)=x / 2 ^ n:=Int.fdiv_eq_ediv_of_nonneg _ (by have:=pow2_pos n; omega)
theorem getD_app {l r:List Int} {i:Nat} (h:i<l.length):(l++r).getD i 0=l.getD i 0:=by
  rw [List.getD_eq_getElem?_getD,List.getD_eq_getElem?_getD,List.getElem?_append_left h]
theorem spread_spec {b : List Int} {Q : sha_spread.QT} (hl : b.length = 64) (hb : bytesL b) (H : ∀ v : Vector Int 64, v.toList = wl b 64 → Q v) : sha_spread b Q := by
  have key: ∀ (j t:Nat) (m:sha_spread.V),t+j=64→m.b0=b→m.v9=(t:Int)→m.w3.toList=wl b t++List.replicate j 0→sha_spread.L1 Q m:=by
    intro j
    induction j with
    | zero =>
      intro t m ht e1 e2 e3
      refine sha_spread.L1_in ?_
      unfold sha_spread.B1
      rw [decide_eq_false (by omega),br_false]
      refine H _ ?_
      rw [e3,show t=64 by omega]; simp
    | succ j ih =>
      intro t m ht e1 e2 e3
      have hlen:=wl_len b t
      have hww:=wl_w hb t
      refine sha_spread.L1_in ?_
      unfold sha_spread.B1
      rw [decide_eq_true (by omega),br_true]
      have k2: ∀ m':sha_spread.V,m'.b0=b→m'.v9=(t:Int)→m'.w3.toList=wl b (t+1)++List.replicate j 0→sha_spread.K2 (sha_spread.L1 Q) Q m':=by
        intro m' h1 h2 h3
        unfold sha_spread.K2
        exact ih (t+1) _ (by omega) h1 (by dsimp only; rw [h2,wadd1 (by omega)]) h3
      have hset: ∀ x,x=wNext b (wl b t) t→(m.w3.setIfInBounds (Int.toNat m.v9) x).toList=wl b (t+1)++List.replicate j 0:=by
        intro x hx
        rw [set_app (i:=m.v9) (l:=wl b t) (y:=0) (r:=List.replicate j 0) (by rw [e3]; rfl) (by rw [e2,hlen]),hx]; rfl
      by_cases h16:t<16
      · rw [decide_eq_true (by omega), br_true, e1, w64 (n := 4 * m.v9) (by omega), w64 (n := 4 * m.v9 + 4) (by omega)]
        refine ⟨⟨by omega,by omega,by omega⟩, ?_⟩
        rw [sub4 (n:=4*t) (by omega) (by omega) (by omega)]
        refine sjoin_spec (getD_byte hb _) (getD_byte hb _) (getD_byte hb _) (getD_byte hb _) ?_
        refine ixdv e3 e2 (by omega) ?_
        refine k2 _ ?_ e2 (hset _ (by unfold wNext; rw [if_pos h16]))
        first | exact e1 | rfl
      · rw [decide_eq_false (by omega), br_false, w64 (n := m.v9 - 15) (by omega), w64 (n := m.v9 - 2) (by omega), w64 (n := m.v9 - 7) (by omega), w64 (n := m.v9 - 16) (by omega)]
        refine ixdv (n:=t - 15) e3 (by omega) (by omega) ?_
        refine ixdv (n:=t - 2) e3 (by omega) (by omega) ?_
        rw [getD_app (by omega),getD_app (by omega)]
        refine turn_spec (n:=7) (getD_w32 hww _) rfl (by decide) ?_
        refine turn_spec (n:=18) (getD_w32 hww _) rfl (by decide) ?_
        refine turn_spec (n:=17) (getD_w32 hww _) rfl (by decide) ?_
        refine turn_spec (n:=19) (getD_w32 hww _) rfl (by decide) ?_
        refine ixdv (n:=t - 7) e3 (by omega) (by omega) ?_
        refine ixdv (n:=t - 16) e3 (by omega) (by omega) ?_
        rw [getD_app (by omega),getD_app (by omega)]
        refine ixdv e3 e2 (by omega) ?_
        refine k2 _ e1 e2 (hset _ ?_)
        unfold wNext
        rw [if_neg h16]
        rw [show min (Int.toNat (10:Int)) (IntKind.bits .u32)=10 from rfl,show min (Int.toNat (3:Int)) (IntKind.bits .u32)=3 from rfl,fd 10 (getD_w32 hww _).1,fd 3 (getD_w32 hww _).1]
        rfl
  refine key 64 0 _ (by omega) rfl rfl ?_
  dsimp only; exact Vector.toList_replicate ..
end Go.Pt
namespace Go.Pt
open Go Go.Wc Go.Pu
theorem shift8 (a b c d e f g k:Int):cpV #v[a,b,c,d,e,f,g,k] (Int.toNat (1:Int)) (sub (#v[a,b,c,d,e,f,g,k]).toList (0:Int) (7:Int))= #v[a,a,b,c,d,e,f,g]:=rfl
theorem tail8 {a b c d e f g k p q:Int} {S:Vector Int 8→Prop} (H:S #v[IntKind.wrap .u32 (p+q),a,b,c,IntKind.wrap .u32 (d+p),e,f,g]):
    (SlOk (#v[a,b,c,d,e,f,g,k]).toList (1:Int) ((8:Nat):Int))∧(SlOk (#v[a,b,c,d,e,f,g,k]).toList (0:Int) (7:Int))∧
    ixP (#v[a,a,b,c,d,e,f,g]).toList (0:Int) fun x_101=>
    ixP ((#v[a,a,b,c,d,e,f,g]).setIfInBounds (Int.toNat (0:Int)) (IntKind.wrap .u32 (p+q))).toList (4:Int) fun x_108=>
    ixP ((#v[a,a,b,c,d,e,f,g]).setIfInBounds (Int.toNat (0:Int)) (IntKind.wrap .u32 (p+q))).toList (4:Int) fun x_114=>
    S (((#v[a,a,b,c,d,e,f,g]).setIfInBounds (Int.toNat (0:Int)) (IntKind.wrap .u32 (p+q))).setIfInBounds (Int.toNat (4:Int)) (IntKind.wrap .u32 (x_108+p))):=by
  refine ⟨⟨by decide,by decide,by rw [Vector.length_toList]; decide⟩,⟨by decide,by decide,by rw [Vector.length_toList]; decide⟩, ?_⟩
  refine ixr (by decide) rfl (ixr (by decide) rfl (ixr (by decide) rfl ?_))
  exact H
theorem kL_len:kL.length=64:=rfl
theorem kL_w:W32L kL:=by
  intro x hx
  have:(kL.all fun x=>decide (0≤x) && decide (x<4294967296))=true:=by decide+kernel
  have:=List.all_eq_true.1 this x hx
  simpa [W32] using this
theorem sblock_spec {h : Vector Int 8} {b : List Int} {Q : sha_block.QT} (hb : b.length = 64) (hbb : bytesL b) (hw : W32L h.toList) (H : ∀ r : Vector Int 8, r.toList = compS h.toList b → Q r) : sha_block h b Q := by
  have l2: ∀ (j t:Nat) (m:sha_block.V),t+j=8→m.v92=(t:Int)→m.x7.toList=roundsS (wl b 64) h.toList 64→m.h2.toList=(compS h.toList b).take t++h.toList.drop t→sha_block.L2 Q m:=by
    have hx8:=rounds_len (w:=wl b 64) (h:=h.toList) (Vector.length_toList ..) 64
    have hc8:=comp_len (h:=h.toList) (b:=b) (Vector.length_toList ..)
    have hh8:h.toList.length=8:=Vector.length_toList ..
    intro j
    induction j with
    | zero =>
      intro t m ht e1 e2 e3
      refine sha_block.L2_in ?_
      unfold sha_block.B2
      rw [decide_eq_false (by omega),br_false]
      refine H _ ?_
      rw [e3,List.take_of_length_le (by omega),List.drop_of_length_le (by omega),List.append_nil]
    | succ j ih =>
      intro t m ht e1 e2 e3
      have hd:h.toList.drop t=h.toList.getD t 0::h.toList.drop (t+1):=by
        rw [List.drop_eq_getElem_cons (by omega),List.getD_eq_getElem?_getD,List.getElem?_eq_getElem (by omega)]; rfl
      have htk:((compS h.toList b).take t).length=t:=by rw [List.length_take]; omega
      have hg:((compS h.toList b).take t++h.toList.drop t).getD t 0=h.toList.getD t 0:=by
        rw [List.getD_eq_getElem?_getD,List.getElem?_append_right (by omega),htk,Nat.sub_self,hd]; rfl
      refine sha_block.L2_in ?_
      unfold sha_block.B2
      rw [decide_eq_true (by omega),br_true]
      refine ixdv e3 e1 (by omega) ?_
      refine ixdv e2 e1 (by omega) ?_
      refine ixdv e3 e1 (by omega) ?_
      rw [hg]
      refine ih (t+1) _ (by omega) (by dsimp only; rw [e1,wadd1 (by omega)]) e2 ?_
      dsimp only
      rw [set_app (i:=m.v92) (l:=(compS h.toList b).take t) (y:=h.toList.getD t 0) (r:=h.toList.drop (t+1)) (by rw [e3,hd]) (by rw [e1,htk])]
      congr 1
      rw [take_snoc (by omega)]
      congr 1
      unfold compS addS
      rw [List.getElem_zipWith,List.getD_eq_getElem?_getD,List.getElem?_eq_getElem (by omega),List.getD_eq_getElem?_getD,List.getElem?_eq_getElem (by omega)]
      rfl
  have l1: ∀ (j t:Nat) (m:sha_block.V),t+j=64→m.v18=(t:Int)→m.h2=h→m.w5.toList=wl b 64→m.k6.toList=kL→m.x7.toList=roundsS (wl b 64) h.toList t→sha_block.L1 Q m:=by
    intro j
    induction j with
    | zero =>
      intro t m ht e1 e2 e3 e4 e5
      obtain rfl:t=64:=by omega
      refine sha_block.L1_in ?_
      unfold sha_block.B1
      rw [decide_eq_false (by omega),br_false]
      refine l2 8 0 {m with v92:=(0:Int)} (by omega) rfl e5 ?_
      rw [List.take_zero,List.drop_zero,List.nil_append]
      exact congrArg _ e2
    | succ j ih =>
      rintro t ⟨h2,v4,w5,k6,x7,v18,v92⟩ ht e1 e2 e3 e4 e5
      dsimp only at e1 e2 e3 e4 e5
      obtain ⟨a,b',c,d,e,f,g,k,rfl⟩:=vec8 x7
      have hW:W32L [a,b',c,d,e,f,g,k]:=by
        have:=rounds_w (w:=wl b 64) (h:=h.toList) (Vector.length_toList ..) hw t
        rw [← e5] at this
        exact this
      have we:W32 e:=hW _ (by simp)
      have wa:W32 a:=hW _ (by simp)
      refine sha_block.L1_in ?_
      unfold sha_block.B1; dsimp only
      rw [e1,decide_eq_true (show (t:Int)<64 by omega),br_true]
      refine ixr (by decide) rfl (ixr (by decide) rfl (ixr (by decide) rfl (ixr (by decide) rfl (ixr (by decide) rfl ?_))))
      refine ixdv e4 rfl (by omega) (ixdv e3 rfl (by omega) ?_)
      refine turn_spec (n:=6) we rfl (by decide) (turn_spec (n:=11) we rfl (by decide) (turn_spec (n:=25) we rfl (by decide) ?_))
      refine ixr (by decide) rfl (ixr (by decide) rfl (ixr (by decide) rfl (ixr (by decide) rfl ?_)))
      refine turn_spec (n:=2) wa rfl (by decide) (turn_spec (n:=13) wa rfl (by decide) (turn_spec (n:=22) wa rfl (by decide) ?_))
      rw [not_eq we,shift8]
      rw [wadd1 (by omega)]
      refine tail8 (S:=fun v=>sha_block.L1 Q ⟨h2,v4,w5,k6,v,((t+1:Nat):Int),v92⟩) ?_
      refine ih (t+1) _ (by omega) rfl e2 e3 e4 ?_
      show _=stepS (roundsS (wl b 64) h.toList t) (kL.getD t 0) ((wl b 64).getD t 0)
      rw [← e5]
      rfl
  unfold sha_block
  refine spread_spec hb hbb fun w hw5=> ?_
  exact l1 64 0 _ (by omega) rfl rfl hw5 rfl rfl
end Go.Pt
namespace Go.Pt
open Go Go.Wc Go.Pu
def goB:Nat→List Int→List Int→List Int × List Int
  | 0,h,l=>(h,l)
  | f+1,h,l=>if 64≤l.length then goB f (compS h (l.take 64)) (l.drop 64) else (h,l)
theorem goB_lt {f:Nat} {h l:List Int} (hl:l.length<64):goB f h l=(h,l):=by
  cases f with
  | zero=>rfl
  | succ f=>simp only [goB]; rw [if_neg (by omega)]
theorem goB_st: ∀ (f:Nat) (h l:List Int),l.length<64*(f+1)→goB (f+1) h l=goB f h l
  | 0,h,l,hl=>by rw [goB_lt (by omega)]; rfl
  | f + 1, h, l, hl => by
    by_cases h1:64≤l.length
    · have e1 : goB (f + 1 + 1) h l = goB (f + 1) (compS h (l.take 64)) (l.drop 64) := by simp only [goB]; rw [if_pos h1]
      have e2:goB (f+1) h l=goB f (compS h (l.take 64)) (l.drop 64):=by simp only [goB]; rw [if_pos h1]
      rw [e1,e2]
      exact goB_st f _ _ (by rw [List.length_drop]; omega)
    · rw [goB_lt (by omega),goB_lt (by omega)]
theorem goB_rest: ∀ (f:Nat) (h l:List Int),(goB f h l).2.length≤l.length
  | 0,h,l=>Nat.le_refl _
  | f + 1, h, l => by
    simp only [goB]
    split
    · have := goB_rest f (compS h (l.take 64)) (l.drop 64)
      rw [List.length_drop] at this; omega
    · exact Nat.le_refl _
theorem goB_app : ∀ (f : Nat) (h l m : List Int), (l ++ m).length < 64 * (f + 1) → goB f h (l ++ m) = goB f (goB f h l).1 ((goB f h l).2 ++ m)
  | 0,h,l,m,_=>rfl
  | f + 1, h, l, m, hl => by
    by_cases h1:64≤l.length
    · have e1 : goB (f + 1) h (l ++ m) = goB f (compS h (l.take 64)) (l.drop 64 ++ m) := by
        simp only [goB]
        rw [if_pos (by rw [List.length_append]; omega),List.take_append_of_le_length h1,List.drop_append_of_le_length h1]
      have e2:goB (f+1) h l=goB f (compS h (l.take 64)) (l.drop 64):=by simp only [goB]; rw [if_pos h1]
      rw [e1,e2]
      rw [List.length_append] at hl
      rw [goB_app f _ _ _ (by rw [List.length_append,List.length_drop]; omega)]
      have:=goB_rest f (compS h (l.take 64)) (l.drop 64)
      rw [List.length_drop] at this
      rw [goB_st f _ _ (by rw [List.length_append]; omega)]
    · rw [goB_lt (l:=l) (by omega)]
theorem goB_mod: ∀ (f:Nat) (h l:List Int),l.length<64*(f+1)→(goB f h l).2.length=l.length % 64
  | 0,h,l,hl=>by show l.length=_; omega
  | f + 1, h, l, hl => by
    simp only [goB]
    split
    · rw [goB_mod f _ _ (by rw [List.length_drop]; omega),List.length_drop]; omega
    · show l.length=_; omega
theorem goB_sub: ∀ (f:Nat) (h l:List Int),∀ x ∈ (goB f h l).2,x ∈ l
  | 0,h,l=>fun x hx=>hx
  | f + 1, h, l => by
    intro x hx
    simp only [goB] at hx
    split at hx
    · exact List.mem_of_mem_drop (goB_sub f _ _ x hx)
    · exact hx
theorem goB_len: ∀ (f:Nat) (h l:List Int),h.length=8→(goB f h l).1.length=8
  | 0,h,l,hh=>hh
  | f + 1, h, l, hh => by
    simp only [goB]
    split
    · exact goB_len f _ _ (comp_len hh)
    · exact hh
theorem goB_w: ∀ (f:Nat) (h l:List Int),W32L h→W32L (goB f h l).1
  | 0,h,l,hh=>hh
  | f + 1, h, l, hh => by
    simp only [goB]
    split
    · exact goB_w f _ _ comp_w
    · exact hh
theorem bytes_app {a b:List Int} (ha:bytesL a) (hb:bytesL b):bytesL (a++b):=fun x hx=>by
  rcases List.mem_append.1 hx with h | h
  · exact ha x h
  · exact hb x h
def startH (s:sha_State):List Int:=if s.n<64∧(s.rest.length:Int)=s.n then firstL else s.h.toList
theorem firstL_w:W32L firstL:=by
  intro x hx
  have:(firstL.all fun x=>decide (0≤x) && decide (x<4294967296))=true:=by decide+kernel
  have:=List.all_eq_true.1 this x hx
  simpa [W32] using this
theorem swrite_spec {s : sha_State} {b : List Int} {Q : sha_State_Write.QT} (F : Nat) (hn : 0 ≤ s.n) (hr : bytesL s.rest) (hb : bytesL b) (hl : s.rest.length + b.length < 64 * (F + 1)) (hF : F ≤ 10000000) (hw : W32L s.h.toList)
    (H: ∀ r:sha_State,r.h.toList=(goB F (startH s) (s.rest++b)).1→r.rest=(goB F (startH s) (s.rest++b)).2→r.n=IntKind.wrap .u64 (s.n+IntKind.wrap .u64 (b.length:Int))→Q r):sha_State_Write s b Q:=by
  have l2 : ∀ (f : Nat) (m : sha_State_Write.V), m.all5.length < 64 * (f + 1) → bytesL m.all5 → W32L m.s2.h.toList → goB F (startH s) (s.rest ++ b) = goB f m.s2.h.toList m.all5 → m.s2.n = IntKind.wrap .u64 (s.n + IntKind.wrap .u64 (b.length : Int)) → sha_State_Write.L2 Q m := by
    intro f
    induction f with
    | zero =>
      intro m h1 h2 h3 h4 h5
      refine sha_State_Write.L2_in ?_
      unfold sha_State_Write.B2
      rw [decide_eq_false (by omega),br_false]
      exact H _ (by rw [h4]; rfl) (by rw [h4]; rfl) h5
    | succ f ih =>
      intro m h1 h2 h3 h4 h5
      refine sha_State_Write.L2_in ?_
      unfold sha_State_Write.B2
      by_cases h:(m.all5.length:Int)≥64
      · rw [decide_eq_true h, br_true]
        refine ⟨⟨by omega,by omega,by omega⟩, ?_⟩
        have e1:sub m.all5 0 64=m.all5.take 64:=sub_take
        have e2:sub m.all5 64 (m.all5.length:Int)=m.all5.drop 64:=sub_drop
        rw [e1,e2]
        refine sblock_spec (by rw [List.length_take]; omega) (fun x hx=>h2 x (List.mem_of_mem_take hx)) h3 fun r hr2=> ?_
        refine ⟨⟨by omega,by omega,by omega⟩,ih _ ?_ ?_ ?_ ?_ h5⟩
        · dsimp only; rw [List.length_drop]; omega
        · exact fun x hx=>h2 x (List.mem_of_mem_drop hx)
        · dsimp only; rw [hr2]; exact comp_w
        · rw [h4]
          simp only [goB]
          rw [if_pos (by omega),hr2]
      · rw [decide_eq_false h, br_false]
        rw [goB_lt (l:=m.all5) (by omega)] at h4
        exact H _ (by rw [h4]) (by rw [h4]) h5
  have k3: ∀ m:sha_State_Write.V,m.s2.h.toList=startH s→m.s2.rest=s.rest→m.s2.n=s.n→m.b1=b→W32L m.s2.h.toList→sha_State_Write.K3 Q m:=by
    intro m e0 e1 e3 e2 e4
    unfold sha_State_Write.K3
    rw [e1,e2,e3]
    refine ⟨bnd_le (by simp only [List.length_nil]; omega),bnd_le (by simp only [List.length_append,List.length_nil]; omega),l2 F _ ?_ ?_ ?_ ?_ rfl⟩
    · dsimp only; simp only [List.length_append,List.length_nil]; omega
    · exact bytes_app (bytes_app (fun _ h=>by cases h) hr) hb
    · exact e4
    · dsimp only; rw [e0,List.nil_append]
  unfold sha_State_Write
  by_cases h1:s.n<64
  · rw [decide_eq_true h1, br_true]
    unfold sha_State_Write.K1; dsimp only
    rw [w64 (n:=s.n) (by omega)]
    by_cases h2:(s.rest.length:Int)=s.n
    · rw [show ((s.rest.length : Int) == s.n) = true by rw [beq_iff_eq]; exact h2, br_true]
      refine k3 _ ?_ rfl rfl rfl ?_
      · unfold startH; rw [if_pos ⟨h1,h2⟩]; rfl
      · exact firstL_w
    · rw [show ((s.rest.length : Int) == s.n) = false by rw [beq_eq_false_iff_ne]; exact h2, br_false]
      refine k3 _ ?_ rfl rfl rfl hw
      unfold startH; rw [if_neg (fun hh=>h2 hh.2)]
  · rw [decide_eq_false h1, br_false]
    unfold sha_State_Write.K1; dsimp only
    rw [br_false]
    refine k3 _ ?_ rfl rfl rfl hw
    unfold startH; rw [if_neg (fun hh=>h1 hh.1)]
def beS (m:Int) (k:Nat):List Int:=(List.range k).map fun j=>IntKind.wrap .u8 (m / 2 ^ (56 - 8*j))
def zS (n:Nat):Nat:=(64 - (n+9) % 64) % 64
def padS (n:Nat):List Int:=(128::List.replicate (zS n) 0)++beS (8*(n:Int)) 8
def digL (h:List Int) (k:Nat):List Int:=(List.range k).map fun i=>IntKind.wrap .u8 (h.getD (i / 4) 0 / 2 ^ (24 - 8*(i % 4)))
def sumL (b:List Int):List Int:=digL (goB (b.length+80) firstL (b++padS b.length)).1 32
theorem w8_byte (x:Int):0≤IntKind.wrap .u8 x∧IntKind.wrap .u8 x<256:=by rw [wrap_u8]; omega
theorem be_bytes (m:Int) (k:Nat):bytesL (beS m k):=by
  intro x hx
  obtain ⟨i,_,rfl⟩:=List.mem_map.1 hx
  exact w8_byte _
theorem pad_bytes (n:Nat):bytesL (padS n):=by
  refine bytes_app ?_ (be_bytes _ _)
  intro x hx
  rcases List.mem_cons.1 hx with rfl | hx
  · omega
  · rw [List.eq_of_mem_replicate hx]; omega
theorem pad_len (n:Nat):(padS n).length=zS n+9:=by unfold padS beS; simp only [List.length_append,List.length_cons,List.length_replicate,List.length_map,List.length_range]
theorem pad_mod (n:Nat):(n+(padS n).length) % 64=0:=by rw [pad_len]; unfold zS; omega
theorem be_snoc (m:Int) (k:Nat):beS m k++[IntKind.wrap .u8 (m / 2 ^ (56 - 8*k))]=beS m (k+1):=by unfold beS; rw [List.range_succ,List.map_append]; rfl
theorem dig_snoc (h:List Int) (k:Nat):digL h k++[IntKind.wrap .u8 (h.getD (k / 4) 0 / 2 ^ (24 - 8*(k % 4)))]=digL h (k+1):=by unfold digL; rw [List.range_succ,List.map_append]; rfl
theorem dig_len (h:List Int) (k:Nat):(digL h k).length=k:=by unfold digL; simp
theorem ssum1_spec {s : sha_State} {Q : sha_State_Sum.QT} {n : Nat} (hn : s.n = (n : Int)) (hn2 : n ≤ 100000000) (hr : s.rest.length = n % 64) (hrb : bytesL s.rest) (hw : W32L s.h.toList) (H : ∀ r : Vector Int 32, r.toList = digL (goB 2 (startH s) (s.rest ++ padS n)).1 32 → Q r) : sha_State_Sum s Q := by
  have l3: ∀ (j t:Nat) (m:sha_State_Sum.V),t+j=32→m.v39=(t:Int)→m.last5.h.toList=(goB 2 (startH s) (s.rest++padS n)).1→W32L m.last5.h.toList→m.d6.toList=digL m.last5.h.toList t++List.replicate j 0→sha_State_Sum.L3 Q m:=by
    intro j
    induction j with
    | zero =>
      intro t m ht e1 e2 e4 e3
      obtain rfl:t=32:=by omega
      refine sha_State_Sum.L3_in ?_
      unfold sha_State_Sum.B3
      rw [decide_eq_false (by omega),br_false]
      refine H _ ?_
      rw [e3,e2,List.replicate_zero,List.append_nil]
    | succ j ih =>
      intro t m ht e1 e2 e4 e3
      refine sha_State_Sum.L3_in ?_
      unfold sha_State_Sum.B3
      rw [e1,decide_eq_true (by omega),br_true]
      rw [dv4 (by omega),md4 (by omega),w64 (n:=(t:Int) / 4) (by omega),w64 (n:=8*((t:Int) % 4)) (by omega),w64 (n:=24 - 8*((t:Int) % 4)) (by omega),wadd1 (by omega)]
      refine ixdv (n:=t / 4) rfl (by omega) (by omega) ?_
      refine ⟨by omega,ixdv (n:=t) rfl rfl (by omega) ?_⟩
      refine ih (t+1) _ (by omega) rfl e2 e4 ?_
      dsimp only
      rw [set_app (i:=(t:Int)) (l:=digL m.last5.h.toList t) (y:=0) (r:=List.replicate j 0) (by rw [e3]; rfl) (by rw [dig_len])]
      congr 1
      rw [← dig_snoc]
      congr 1
      rw [show min (Int.toNat (24 - 8*((t:Int) % 4))) (IntKind.bits .u32)=24 - 8*(t % 4) by
        rw [show (24 - 8*((t:Int) % 4)).toNat=24 - 8*(t % 4) by omega]; exact Nat.min_eq_left (show _≤32 by omega),fd _ (getD_w32 e4 _).1]
  have l2: ∀ (j t:Nat) (m:sha_State_Sum.V),t+j=8→m.s1=s→m.v21=(t:Int)→m.pad3=(128::List.replicate (zS n) 0)++beS (8*(n:Int)) t→sha_State_Sum.L2 Q m:=by
    have hz:zS n<64:=by unfold zS; omega
    intro j
    induction j with
    | zero =>
      intro t m ht e1 e2 e3
      obtain rfl:t=8:=by omega
      refine sha_State_Sum.L2_in ?_
      unfold sha_State_Sum.B2
      rw [decide_eq_false (by omega),br_false,e1,e3]
      refine swrite_spec 2 (by omega) hrb (pad_bytes n) (by show _+(padS n).length<_; rw [pad_len]; omega) (by decide) hw fun r h1 h2 h3=> ?_
      refine l3 32 0 _ (by omega) rfl h1 ?_ ?_
      · dsimp only; rw [h1]
        refine goB_w _ _ _ ?_
        unfold startH
        split
        · exact firstL_w
        · exact hw
      · dsimp only; exact Vector.toList_replicate ..
    | succ j ih =>
      intro t m ht e1 e2 e3
      refine sha_State_Sum.L2_in ?_
      unfold sha_State_Sum.B2
      rw [e2,decide_eq_true (by omega),br_true]
      rw [w64 (n:=7 - (t:Int)) (by omega),w64 (n:=8*(7 - (t:Int))) (by omega),wadd1 (by omega),e1,hn,wrap_u64 (n:=8*(n:Int)) (by omega) (by omega)]
      have hbl:(beS (8*(n:Int)) t).length=t:=by unfold beS; simp
      refine ⟨by omega,bnd_le (by rw [e3]; simp only [List.length_append,List.length_cons,List.length_replicate,List.length_nil,hbl]; omega),ih (t+1) _ (by omega) (by first | exact e1 | rfl) rfl ?_⟩
      dsimp only
      rw [e3,List.append_assoc,← be_snoc]
      congr 3
      rw [show min (Int.toNat (8*(7 - (t:Int)))) (IntKind.bits .u64)=56 - 8*t by
        rw [show (8*(7 - (t:Int))).toNat=56 - 8*t by omega]; exact Nat.min_eq_left (show _≤64 by omega),fd _ (by omega)]
  have l1: ∀ (j i:Nat) (m:sha_State_Sum.V),i+j=zS n→m.s1=s→m.pad3=128::List.replicate i 0→sha_State_Sum.L1 Q m:=by
    have hz:zS n<64:=by unfold zS; omega
    intro j
    induction j with
    | zero =>
      intro i m hi e e3
      obtain rfl:i=zS n:=by omega
      refine sha_State_Sum.L1_in ?_
      unfold sha_State_Sum.B1
      rw [e3,e,List.length_cons,List.length_replicate,hr,w64 (n:=((n % 64:Nat):Int)+((zS n+1:Nat):Int)) (by omega),w64 (n:=((n % 64:Nat):Int)+((zS n+1:Nat):Int)+8) (by omega),Int.tmod_eq_emod_of_nonneg (by omega)]
      rw [show ((((n % 64:Nat):Int)+((zS n+1:Nat):Int)+8) % 64 !=0)=false by unfold zS; simp; omega,br_false]
      exact l2 8 0 _ (by omega) (by first | exact e | rfl) rfl (by dsimp only; rw [show beS (8*(n:Int)) 0=[] from rfl,List.append_nil])
    | succ j ih =>
      intro i m hi e e3
      refine sha_State_Sum.L1_in ?_
      unfold sha_State_Sum.B1
      rw [e3,e,List.length_cons,List.length_replicate,hr,w64 (n:=((n % 64:Nat):Int)+((i+1:Nat):Int)) (by omega),w64 (n:=((n % 64:Nat):Int)+((i+1:Nat):Int)+8) (by omega),Int.tmod_eq_emod_of_nonneg (by omega)]
      rw [show ((((n % 64:Nat):Int)+((i+1:Nat):Int)+8) % 64 !=0)=true by unfold zS at hi; simp; omega,br_true]
      refine ⟨bnd_le (by simp only [List.length_cons,List.length_nil]; omega),ih (i+1) _ (by omega) (by first | exact e | rfl) ?_⟩
      dsimp only
      rw [List.replicate_succ',List.cons_append]
  unfold sha_State_Sum
  exact l1 (zS n) 0 _ (by omega) rfl rfl
theorem ssum_spec {b:List Int} {Q:sha_Sum.QT} (hl:b.length≤1000000) (hb:bytesL b) (H: ∀ r:Vector Int 32,r.toList=sumL b→Q r):sha_Sum [b] Q:=by
  unfold sha_Sum sha_New
  refine sha_Sum.L1_in ?_
  unfold sha_Sum.B1; dsimp only
  rw [show decide ((0:Int)<(([b].length:Nat):Int))=true from rfl,br_true]
  refine ixr (x:=b) (by decide) rfl ?_
  have hz:W32L (Vector.replicate 8 (0:Int)).toList:=by
    intro x hx
    rw [Vector.toList_replicate] at hx
    rw [List.eq_of_mem_replicate hx]; exact ⟨by decide,by decide⟩
  have s0:startH ⟨Vector.replicate 8 0,[],0⟩=firstL:=by unfold startH; rw [if_pos ⟨by decide,rfl⟩]
  refine swrite_spec (b.length+80) (by decide) (fun _ h=>by cases h) hb (by simp only [List.length_nil]; omega) (by omega) hz fun r h1 h2 h3=> ?_
  rw [s0,List.nil_append] at h1 h2
  rw [wrap_u64 (n:=(b.length:Int)) (by omega) (by omega),wrap_u64 (by dsimp only; omega) (by dsimp only; omega)] at h3
  have h3:r.n=(b.length:Int):=by rw [h3]; exact Int.zero_add _
  have hlt:b.length<64*(b.length+80+1):=by omega
  have hm:=goB_mod (b.length+80) firstL b hlt
  refine sha_Sum.L1_in ?_
  unfold sha_Sum.B1; dsimp only
  rw [show decide (IntKind.wrap .i64 ((0:Int)+1)<(([b].length:Nat):Int))=false from rfl,br_false]
  have hst:startH r=(goB (b.length+80) firstL b).1:=by
    unfold startH
    split
    · rename_i hh
      rw [goB_lt (l:=b) (by omega)]
    · exact h1
  refine ssum1_spec (n:=b.length) h3 (by omega) (by rw [h2]; exact hm) (by rw [h2]; exact fun x hx=>hb x (goB_sub _ _ _ x hx)) (by rw [h1]; exact goB_w _ _ _ firstL_w) fun d hd=>H d ?_
  rw [hd,hst,h2]
  unfold sumL
  have hp:=pad_len b.length
  have hz:zS b.length<64:=by unfold zS; omega
  rw [goB_app (b.length+80) firstL b (padS b.length) (by rw [List.length_append]; omega)]
  congr 2
  have hx:((goB (b.length+80) firstL b).2++padS b.length).length<64*3:=by rw [List.length_append,hm]; omega
  have: ∀ k,goB (2+k) (goB (b.length+80) firstL b).1 ((goB (b.length+80) firstL b).2++padS b.length)=goB 2 (goB (b.length+80) firstL b).1 ((goB (b.length+80) firstL b).2++padS b.length):=by
    intro k
    induction k with
    | zero=>rfl
    | succ k ih=>rw [show 2+(k+1)=(2+k)+1 by omega,goB_st _ _ _ (by omega),ih]
  rw [show b.length+80=2+(b.length+78) by omega] at this ⊢
  exact (this _).symm
end Go.Pt
namespace Go.Pt
open Go Go.Wc Go.Pu
def qS (a b c d:Int):Vector Int 4:=
  let a1:=add a b
  let d1:=rotR 16 (X32 d a1)
  let c1:=add c d1
  let b1:=rotR 20 (X32 b c1)
  let a2:=add a1 b1
  let d2:=rotR 24 (X32 d1 a2)
  let c2:=add c1 d2
  let b2:=rotR 25 (X32 b1 c2)
  #v[a2,b2,c2,d2]
theorem q1_spec {x y z bb:Int} {v:Vector Int 4} {Q:Vector Int 4→Prop} {n:Nat} {vx vy vz:Int} (hn:0<n∧n<32)
    (hk:IntKind.wrap .u64 (((BitVec.ofInt (IntKind.bits .u64) (IntKind.wrap .u64 bb) &&& (BitVec.ofInt (IntKind.bits .u64) (31:Int))).toNat:Int))=((32 - n:Nat):Int))
    (hx:0≤x) (hy:0≤y) (hz:0≤z) (ex:v.toList[x.toNat]? =some vx) (ey:v.toList[y.toNat]? =some vy) (ez:(v.setIfInBounds x.toNat (add vx vy)).toList[z.toNat]? =some vz) (ea:(v.setIfInBounds x.toNat (add vx vy)).toList[x.toNat]? =some (add vx vy))
    (H:Q ((v.setIfInBounds x.toNat (add vx vy)).setIfInBounds z.toNat (rotR n (X32 vz (add vx vy))))):cipher_Quarter_1 x y z bb v Q:=by
  unfold cipher_Quarter_1
  refine ixr hx ex (ixr hy ey (ixr hx ex (ixr hz ez (ixr hx ea ?_))))
  refine rotl_spec (n:=n) (x32_w _ _) hn hk ?_
  exact ixr hz ez H
theorem q013 {a b c d bb:Int} {Q:Vector Int 4→Prop} {n:Nat} (hn:0<n∧n<32)
    (hk:IntKind.wrap .u64 (((BitVec.ofInt (IntKind.bits .u64) (IntKind.wrap .u64 bb) &&& (BitVec.ofInt (IntKind.bits .u64) (31:Int))).toNat:Int))=((32 - n:Nat):Int))
    (H:Q #v[add a b,b,c,rotR n (X32 d (add a b))]):cipher_Quarter_1 0 1 3 bb #v[a,b,c,d] Q:=
  q1_spec hn hk (by decide) (by decide) (by decide) rfl rfl rfl rfl H
theorem q231 {a b c d bb:Int} {Q:Vector Int 4→Prop} {n:Nat} (hn:0<n∧n<32)
    (hk:IntKind.wrap .u64 (((BitVec.ofInt (IntKind.bits .u64) (IntKind.wrap .u64 bb) &&& (BitVec.ofInt (IntKind.bits .u64) (31:Int))).toNat:Int))=((32 - n:Nat):Int))
    (H:Q #v[a,rotR n (X32 b (add c d)),add c d,d]):cipher_Quarter_1 2 3 1 bb #v[a,b,c,d] Q:=
  q1_spec hn hk (by decide) (by decide) (by decide) rfl rfl rfl rfl H
theorem quarter_spec {a b c d:Int} {Q:Vector Int 4→Prop} (H:Q (qS a b c d)):cipher_Quarter #v[a,b,c,d] Q:=by
  unfold cipher_Quarter
  refine q013 (n:=16) (by decide) (by decide+kernel) (q231 (n:=20) (by decide) (by decide+kernel) (q013 (n:=24) (by decide) (by decide+kernel) (q231 (n:=25) (by decide) (by decide+kernel) H)))
def qAt (w:List Int) (p:Nat × Nat × Nat × Nat):List Int:=
  let q:=qS (w.getD p.1 0) (w.getD p.2.1 0) (w.getD p.2.2.1 0) (w.getD p.2.2.2 0)
  (((w.set p.1 (q.toList.getD 0 0)).set p.2.1 (q.toList.getD 1 0)).set p.2.2.1 (q.toList.getD 2 0)).set p.2.2.2 (q.toList.getD 3 0)
theorem qAt_len {w:List Int} {p:Nat × Nat × Nat × Nat}:(qAt w p).length=w.length:=by unfold qAt; simp only [List.length_set]
theorem vset {n:Nat} {v:Vector Int n} {i:Int} {k:Nat} {x:Int} {l:List Int} (e:v.toList=l) (hi:i=(k:Int)):(v.setIfInBounds (Int.toNat i) x).toList=l.set k x:=by
  subst hi e; rw [Vector.toList_setIfInBounds,Int.toNat_natCast]
theorem cblock1_spec {v:Vector Int 16} {w:List Int} {i j k l:Int} {a b c d:Nat} {Q:cipher_Block_1.QT} (e:v.toList=w) (hi:i=(a:Int)) (hj:j=(b:Int)) (hk:k=(c:Int)) (hl:l=(d:Int))
    (ha:a<16) (hb:b<16) (hc:c<16) (hd:d<16) (H: ∀ r:Vector Int 16,r.toList=qAt w (a,b,c,d)→Q r):cipher_Block_1 i j k l v Q:=by
  have k3: ∀ m:cipher_Block_1.V,m.v4=v→m.a0=i→m.b1=j→m.c2=k→m.d3=l→m.v23=qS (w.getD a 0) (w.getD b 0) (w.getD c 0) (w.getD d 0)→cipher_Block_1.K3 Q m:=by
    rintro ⟨v4,a0,b1,c2,d3,q9,v23⟩ e1 e2 e3 e4 e5 e6
    dsimp only at e1 e2 e3 e4 e5 e6
    subst e1 e2 e3 e4 e5 e6
    unfold cipher_Block_1.K3 cipher_Block_1.K1; dsimp only
    refine ixdv (n:=0) rfl rfl (by decide) (ixdv (n:=1) rfl rfl (by decide) (ixdv (n:=2) rfl rfl (by decide) (ixdv (n:=3) rfl rfl (by decide) ?_)))
    refine ixdv (n:=a) rfl hi ha (ixdv (n:=b) rfl hj hb (ixdv (n:=c) rfl hk hc (ixdv (n:=d) rfl hl hd ?_)))
    refine H _ ?_
    exact vset (vset (vset (vset e hi) hj) hk) hl
  unfold cipher_Block_1
  refine ixdv e hi ha (ixdv e hj hb (ixdv e hk hc (ixdv e hl hd ⟨?_, ?_⟩)))
  · refine quarter_spec ?_
    exact k3 _ rfl rfl rfl rfl rfl rfl
  · refine quarter_spec ?_
    exact k3 _ rfl rfl rfl rfl rfl rfl
def colP (i:Nat):Nat × Nat × Nat × Nat:=(i,4+i,8+i,12+i)
def diaP (i:Nat):Nat × Nat × Nat × Nat:=(i,4+(i+1) % 4,8+(i+2) % 4,12+(i+3) % 4)
def colS (w:List Int) (k:Nat):List Int:=(List.range k).foldl (fun w i=>qAt w (colP i)) w
def diaS (w:List Int) (k:Nat):List Int:=(List.range k).foldl (fun w i=>qAt w (diaP i)) w
def dblS (w:List Int):List Int:=diaS (colS w 4) 4
def rndS (w:List Int):Nat→List Int
  | 0=>w
  | r+1=>dblS (rndS w r)
theorem colS_succ (w:List Int) (k:Nat):colS w (k+1)=qAt (colS w k) (colP k):=by unfold colS; rw [List.range_succ,List.foldl_append]; rfl
theorem diaS_succ (w:List Int) (k:Nat):diaS w (k+1)=qAt (diaS w k) (diaP k):=by unfold diaS; rw [List.range_succ,List.foldl_append]; rfl
theorem colS_len (w:List Int): ∀ k,(colS w k).length=w.length
  | 0=>rfl
  | k+1=>by rw [colS_succ,qAt_len,colS_len w k]
theorem diaS_len (w:List Int): ∀ k,(diaS w k).length=w.length
  | 0=>rfl
  | k+1=>by rw [diaS_succ,qAt_len,diaS_len w k]
theorem rndS_len (w:List Int): ∀ k,(rndS w k).length=w.length
  | 0=>rfl
  | k+1=>by show (dblS _).length=_; unfold dblS; rw [diaS_len,colS_len,rndS_len w k]
def outL (first w:List Int) (k:Nat):List Int:=(List.range k).map fun i=>IntKind.wrap .u8 (add (w.getD (i / 4) 0) (first.getD (i / 4) 0) / 2 ^ (8*(i % 4)))
theorem outL_len (f w:List Int) (k:Nat):(outL f w k).length=k:=by unfold outL; simp
theorem outL_snoc (f w:List Int) (k:Nat):outL f w k++[IntKind.wrap .u8 (add (w.getD (k / 4) 0) (f.getD (k / 4) 0) / 2 ^ (8*(k % 4)))]=outL f w (k+1):=by unfold outL; rw [List.range_succ,List.map_append]; rfl
def litW (a b c d:Int):Int:=a+b*256+c*65536+d*16777216
def wdS (l:List Int) (i:Nat):Int:=litW (l.getD (4*i) 0) (l.getD (4*i+1) 0) (l.getD (4*i+2) 0) (l.getD (4*i+3) 0)
def wds (l:List Int) (k:Nat):List Int:=(List.range k).map (wdS l)
theorem wds_len (l:List Int) (k:Nat):(wds l k).length=k:=by unfold wds; simp
theorem wds_snoc (l:List Int) (k:Nat):wds l k++[wdS l k]=wds l (k+1):=by unfold wds; rw [List.range_succ,List.map_append]; rfl
def sigL:List Int:=[1634760805,857760878,2036477234,1797285236]
def firS (key nonce:List Int) (c:Int):List Int:=sigL++(wds key 8++(c::wds nonce 3))
def blkS (key nonce:List Int) (c:Int):List Int:=outL (firS key nonce c) (rndS (firS key nonce c) 10) 64
theorem or4 {a b c d:Int} (ha:0≤a∧a<256) (hb:0≤b∧b<256) (hc:0≤c∧c<256) (hd:0≤d∧d<256):
    IntKind.wrap .u32 (((BitVec.ofInt (IntKind.bits .u32) (IntKind.wrap .u32 (((BitVec.ofInt (IntKind.bits .u32) (IntKind.wrap .u32 (((BitVec.ofInt (IntKind.bits .u32) (IntKind.wrap .u32 a) ||| (BitVec.ofInt (IntKind.bits .u32) (IntKind.wrap .u32 ((IntKind.wrap .u32 b)*2 ^ (min (Int.toNat (8:Int)) (IntKind.bits .u32)))))).toNat:Int))) ||| (BitVec.ofInt (IntKind.bits .u32) (IntKind.wrap .u32 ((IntKind.wrap .u32 c)*2 ^ (min (Int.toNat (16:Int)) (IntKind.bits .u32)))))).toNat:Int))) ||| (BitVec.ofInt (IntKind.bits .u32) (IntKind.wrap .u32 ((IntKind.wrap .u32 d)*2 ^ (min (Int.toNat (24:Int)) (IntKind.bits .u32)))))).toNat:Int))=litW a b c d:=by
  have comm: ∀ (x y z:Int) (n:Nat),(((BitVec.ofInt 32 y ||| BitVec.ofInt 32 x).toNat:Int))=z→((BitVec.ofInt (IntKind.bits .u32) x ||| BitVec.ofInt (IntKind.bits .u32) y).toNat:Int)=z:=by
    intro x y z n h
    rw [← h]
    show ((BitVec.ofInt 32 x ||| BitVec.ofInt 32 y).toNat:Int)=_
    rw [BitVec.or_comm]
  rw [show min (Int.toNat (8:Int)) (IntKind.bits .u32)=8 from rfl,show min (Int.toNat (16:Int)) (IntKind.bits .u32)=16 from rfl,show min (Int.toNat (24:Int)) (IntKind.bits .u32)=24 from rfl]
  rw [wrap_w32 (n:=a) ⟨by omega,by omega⟩,wrap_w32 (n:=b) ⟨by omega,by omega⟩,wrap_w32 (n:=c) ⟨by omega,by omega⟩,wrap_w32 (n:=d) ⟨by omega,by omega⟩]
  rw [show (2:Int) ^ 8=256 from rfl,show (2:Int) ^ 16=65536 from rfl,show (2:Int) ^ 24=16777216 from rfl]
  rw [wrap_w32 (n:=b*256) ⟨by omega,by omega⟩,wrap_w32 (n:=c*65536) ⟨by omega,by omega⟩,wrap_w32 (n:=d*16777216) ⟨by omega,by omega⟩]
  have e1:=comm a (b*256) _ 0 (or_add (P:=256) (S:=0) (a:=b) (r:=a) (n:=8) rfl ha (by omega) (by omega))
  rw [e1,wrap_w32 (n:=b*256+a) ⟨by omega,by omega⟩]
  have e2:=comm (b*256+a) (c*65536) _ 0 (or_add (P:=65536) (S:=0) (a:=c) (r:=b*256+a) (n:=16) rfl (by omega) (by omega) (by omega))
  rw [e2,wrap_w32 (n:=c*65536+(b*256+a)) ⟨by omega,by omega⟩]
  have e3:=comm (c*65536+(b*256+a)) (d*16777216) _ 0 (or_add (P:=16777216) (S:=0) (a:=d) (r:=c*65536+(b*256+a)) (n:=24) rfl (by omega) (by omega) (by omega))
  rw [e3,wrap_w32 (n:=d*16777216+(c*65536+(b*256+a))) ⟨by omega,by omega⟩]
  unfold litW; omega
theorem cjoin_spec {l:List Int} {Q:Int→Prop} (hl:4≤l.length) (hb:bytesL l) (H:Q (litW (l.getD 0 0) (l.getD 1 0) (l.getD 2 0) (l.getD 3 0))):cipher_join l Q:=by
  unfold cipher_join
  refine ixd (n:=0) rfl (by omega) (ixd (n:=1) rfl (by omega) (ixd (n:=2) rfl (by omega) (ixd (n:=3) rfl (by omega) ?_)))
  rw [or4 (getD_byte hb _) (getD_byte hb _) (getD_byte hb _) (getD_byte hb _)]
  exact H
end Go.Pt
namespace Go.Pt
open Go Go.Wc Go.Pu
theorem sub_getD {l:List Int} {n m k:Nat} {i j:Int} (hi:i=(n:Int)) (hj:j=(m:Int)) (h:n+k<m):(sub l i j).getD k 0=l.getD (n+k) 0:=by
  subst hi hj
  unfold sub
  rw [Int.toNat_natCast,Int.toNat_natCast,List.getD_eq_getElem?_getD,List.getD_eq_getElem?_getD,List.getElem?_drop,List.getElem?_take]
  rw [if_pos h]
theorem sub_bytes {l:List Int} {i j:Int} (h:bytesL l):bytesL (sub l i j):=fun x hx=>by
  unfold sub at hx
  exact h x (List.mem_of_mem_take (List.mem_of_mem_drop hx))
theorem start_spec {k : Vector Int 32} {n : Vector Int 12} {c : Int} {Q : cipher_start.QT} (hk : bytesL k.toList) (hn : bytesL n.toList) (H : ∀ r : Vector Int 16, r.toList = firS k.toList n.toList c → Q r) : cipher_start k n c Q := by
  have hkl:k.toList.length=32:=Vector.length_toList ..
  have hnl:n.toList.length=12:=Vector.length_toList ..
  have l2: ∀ (j t:Nat) (m:cipher_start.V),t+j=3→m.nonce4=n→m.v24=(t:Int)→m.w7.toList=(sigL++(wds k.toList 8++(c::wds n.toList t)))++List.replicate j 0→cipher_start.L2 Q m:=by
    intro j
    induction j with
    | zero =>
      intro t m ht e1 e2 e3
      obtain rfl:t=3:=by omega
      refine cipher_start.L2_in ?_
      unfold cipher_start.B2
      rw [e2,decide_eq_false (by omega),br_false]
      refine H _ ?_
      rw [e3,List.replicate_zero,List.append_nil]; rfl
    | succ j ih =>
      intro t m ht e1 e2 e3
      have hlen:(sigL++(wds k.toList 8++(c::wds n.toList t))).length=13+t:=by
        simp only [List.length_append,List.length_cons,wds_len]; show 4+_=_; omega
      refine cipher_start.L2_in ?_
      unfold cipher_start.B2
      rw [e2,decide_eq_true (by omega),br_true,e1,w64 (n:=4*(t:Int)) (by omega),w64 (n:=13+(t:Int)) (by omega),wadd1 (by omega)]
      refine ⟨⟨by omega,by omega,by rw [hnl]; omega⟩, ?_⟩
      have hsl:=sub_len (l:=n.toList) (i:=4*(t:Int)) (j:=((12:Nat):Int)) (by rw [hnl]; omega)
      refine cjoin_spec (by omega) (sub_bytes hn) ?_
      rw [sub_getD (n:=4*t) (by omega) rfl (by omega),sub_getD (n:=4*t) (by omega) rfl (by omega),sub_getD (n:=4*t) (by omega) rfl (by omega),sub_getD (n:=4*t) (by omega) rfl (by omega)]
      refine ixdv (n:=13+t) rfl (by omega) (by omega) ?_
      refine ih (t+1) _ (by omega) (by first | exact e1 | rfl) rfl ?_
      dsimp only
      rw [set_app (i:=13+(t:Int)) (l:=sigL++(wds k.toList 8++(c::wds n.toList t))) (y:=0) (r:=List.replicate j 0) (by rw [e3]; rfl) (by rw [hlen]; omega)]
      congr 1
      rw [List.append_assoc,List.append_assoc,List.cons_append,← wds_snoc n.toList t]
      rfl
  have l1: ∀ (j t:Nat) (m:cipher_start.V),t+j=8→m.key3=k→m.nonce4=n→m.counter2=c→m.v11=(t:Int)→m.w7.toList=(sigL++wds k.toList t)++List.replicate (j+4) 0→cipher_start.L1 Q m:=by
    intro j
    induction j with
    | zero =>
      intro t m ht e1 e4 e5 e2 e3
      obtain rfl:t=8:=by omega
      have hlen:(sigL++wds k.toList 8).length=12:=by
        simp only [List.length_append,wds_len]; rfl
      refine cipher_start.L1_in ?_
      unfold cipher_start.B1
      rw [e2,decide_eq_false (by omega),br_false]
      refine ixdv (n:=12) rfl rfl (by decide) ?_
      refine l2 3 0 _ (by omega) e4 rfl ?_
      dsimp only
      rw [set_app (i:=(12:Int)) (l:=sigL++wds k.toList 8) (y:=0) (r:=List.replicate 3 0) (by rw [e3]; rfl) (by rw [hlen]; rfl)]
      rw [e5,List.append_assoc sigL]
      rfl
    | succ j ih =>
      intro t m ht e1 e4 e5 e2 e3
      have hlen:(sigL++wds k.toList t).length=4+t:=by
        simp only [List.length_append,wds_len]; rfl
      refine cipher_start.L1_in ?_
      unfold cipher_start.B1
      rw [e2,decide_eq_true (by omega),br_true,e1,w64 (n:=4*(t:Int)) (by omega),w64 (n:=4+(t:Int)) (by omega),wadd1 (by omega)]
      refine ⟨⟨by omega,by omega,by rw [hkl]; omega⟩, ?_⟩
      have hsl:=sub_len (l:=k.toList) (i:=4*(t:Int)) (j:=((32:Nat):Int)) (by rw [hkl]; omega)
      refine cjoin_spec (by omega) (sub_bytes hk) ?_
      rw [sub_getD (n:=4*t) (by omega) rfl (by omega),sub_getD (n:=4*t) (by omega) rfl (by omega),sub_getD (n:=4*t) (by omega) rfl (by omega),sub_getD (n:=4*t) (by omega) rfl (by omega)]
      refine ixdv (n:=4+t) rfl (by omega) (by omega) ?_
      refine ih (t+1) _ (by omega) (by first | exact e1 | rfl) e4 e5 rfl ?_
      dsimp only
      rw [set_app (i:=4+(t:Int)) (l:=sigL++wds k.toList t) (y:=0) (r:=List.replicate (j+4) 0) (by rw [e3,show j+1+4=(j+4)+1 by omega]; rfl) (by rw [hlen]; omega)]
      congr 1
      rw [List.append_assoc,← wds_snoc k.toList t]
      rfl
  unfold cipher_start
  exact l1 8 0 _ (by omega) rfl rfl rfl rfl rfl
theorem firS_len (k n:List Int) (c:Int):(firS k n c).length=16:=by
  unfold firS; simp only [List.length_append,List.length_cons,wds_len]; rfl
theorem out_step {first w:List Int} {t:Nat}:IntKind.wrap .u8 (Int.fdiv (IntKind.wrap .u32 (w.getD (t / 4) 0+first.getD (t / 4) 0)) (2 ^ (min (Int.toNat (8*((t:Int) % 4))) (IntKind.bits .u32))))=IntKind.wrap .u8 (add (w.getD (t / 4) 0) (first.getD (t / 4) 0) / 2 ^ (8*(t % 4))):=by
  rw [show min (Int.toNat (8*((t:Int) % 4))) (IntKind.bits .u32)=8*(t % 4) by
    rw [show (8*((t:Int) % 4)).toNat=8*(t % 4) by omega]; exact Nat.min_eq_left (show _≤32 by omega)]
  rw [fd _ (w32_wrap _).1]; rfl
theorem cblock_spec {k : Vector Int 32} {n : Vector Int 12} {c : Int} {Q : cipher_Block.QT} (hk : bytesL k.toList) (hn : bytesL n.toList) (H : ∀ r : Vector Int 64, r.toList = blkS k.toList n.toList c → Q r) : cipher_Block k n c Q := by
  obtain ⟨F,hF⟩: ∃ F,F=firS k.toList n.toList c:=⟨_,rfl⟩
  have hF16:F.length=16:=by rw [hF,firS_len]
  have l4: ∀ (j t:Nat) (m:cipher_Block.V),t+j=64→m.v55=(t:Int)→m.first7.toList=F→m.w8.toList=rndS F 10→m.b12.toList=outL F (rndS F 10) t++List.replicate j 0→cipher_Block.L4 Q m:=by
    intro j
    induction j with
    | zero =>
      intro t m ht e1 e2 e3 e4
      obtain rfl:t=64:=by omega
      refine cipher_Block.L4_in ?_
      unfold cipher_Block.B4
      rw [e1,decide_eq_false (by omega),br_false]
      refine H _ ?_
      rw [e4,List.replicate_zero,List.append_nil,hF]; rfl
    | succ j ih =>
      intro t m ht e1 e2 e3 e4
      refine cipher_Block.L4_in ?_
      unfold cipher_Block.B4
      rw [e1,decide_eq_true (by omega),br_true]
      rw [dv4 (by omega),md4 (by omega),w64 (n:=(t:Int) / 4) (by omega),w64 (n:=8*((t:Int) % 4)) (by omega),wadd1 (by omega)]
      refine ixdv (n:=t / 4) e3 (by omega) (by omega) (ixdv (n:=t / 4) e2 (by omega) (by omega) ?_)
      refine ⟨by omega,ixdv (n:=t) rfl rfl (by omega) ?_⟩
      refine ih (t+1) _ (by omega) rfl e2 e3 ?_
      dsimp only
      rw [set_app (i:=(t:Int)) (l:=outL F (rndS F 10) t) (y:=0) (r:=List.replicate j 0) (by rw [e4]; rfl) (by rw [outL_len]),out_step,outL_snoc]
  have l1 : ∀ (j r : Nat) (m : cipher_Block.V), r + j = 10 → m.v20 = (r : Int) → m.first7.toList = F → m.w8.toList = rndS F r → cipher_Block.L1 Q m := by
    intro j
    induction j with
    | zero =>
      intro r m hr e1 e2 e3
      obtain rfl:r=10:=by omega
      refine cipher_Block.L1_in ?_
      unfold cipher_Block.B1
      rw [e1,decide_eq_false (by omega),br_false]
      exact l4 64 0 _ (by omega) rfl e2 e3 (by dsimp only; exact Vector.toList_replicate ..)
    | succ j ih =>
      intro r m hr e1 e2 e3
      have l3: ∀ (j' t:Nat) (m':cipher_Block.V),t+j'=4→m'.v20=(r:Int)→m'.v35=(t:Int)→m'.first7.toList=F→m'.w8.toList=diaS (colS (rndS F r) 4) t→cipher_Block.L3 (cipher_Block.L1 Q) Q m':=by
        intro j'
        induction j' with
        | zero =>
          intro t m' ht a1 a2 a3 a4
          obtain rfl:t=4:=by omega
          refine cipher_Block.L3_in _ ?_
          unfold cipher_Block.B3
          rw [a2,decide_eq_false (by omega),br_false]
          exact ih (r+1) _ (by omega) (by dsimp only; rw [a1,wadd1 (by omega)]) a3 a4
        | succ j' ih2 =>
          intro t m' ht a1 a2 a3 a4
          refine cipher_Block.L3_in _ ?_
          unfold cipher_Block.B3
          rw [a2,decide_eq_true (by omega),br_true]
          rw [w64 (n:=(t:Int)+1) (by omega),w64 (n:=(t:Int)+2) (by omega),w64 (n:=(t:Int)+3) (by omega),md4 (by omega),md4 (by omega),md4 (by omega),
            w64 (n:=4+((t:Int)+1) % 4) (by omega),w64 (n:=8+((t:Int)+2) % 4) (by omega),w64 (n:=12+((t:Int)+3) % 4) (by omega)]
          refine cblock1_spec (a:=t) (b:=4+(t+1) % 4) (c:=8+(t+2) % 4) (d:=12+(t+3) % 4) a4 rfl (by omega) (by omega) (by omega) (by omega) (by omega) (by omega) (by omega) fun v hv=> ?_
          exact ih2 (t+1) _ (by omega) a1 (by dsimp only; omega) a3 (by dsimp only; rw [hv,diaS_succ]; rfl)
      have l2: ∀ (j' t:Nat) (m':cipher_Block.V),t+j'=4→m'.v20=(r:Int)→m'.v22=(t:Int)→m'.first7.toList=F→m'.w8.toList=colS (rndS F r) t→cipher_Block.L2 (cipher_Block.L1 Q) Q m':=by
        intro j'
        induction j' with
        | zero =>
          intro t m' ht a1 a2 a3 a4
          obtain rfl:t=4:=by omega
          refine cipher_Block.L2_in _ ?_
          unfold cipher_Block.B2
          rw [a2,decide_eq_false (by omega),br_false]
          exact l3 4 0 _ (by omega) a1 rfl a3 a4
        | succ j' ih2 =>
          intro t m' ht a1 a2 a3 a4
          refine cipher_Block.L2_in _ ?_
          unfold cipher_Block.B2
          rw [a2,decide_eq_true (by omega),br_true]
          rw [w64 (n:=(t:Int)+1) (by omega),w64 (n:=4+(t:Int)) (by omega),w64 (n:=8+(t:Int)) (by omega),w64 (n:=12+(t:Int)) (by omega)]
          refine cblock1_spec (a:=t) (b:=4+t) (c:=8+t) (d:=12+t) a4 rfl (by omega) (by omega) (by omega) (by omega) (by omega) (by omega) (by omega) fun v hv=> ?_
          exact ih2 (t+1) _ (by omega) a1 (by dsimp only; omega) a3 (by dsimp only; rw [hv,colS_succ]; rfl)
      refine cipher_Block.L1_in ?_
      unfold cipher_Block.B1
      rw [e1,decide_eq_true (by omega),br_true]
      exact l2 4 0 _ (by omega) (by first | exact e1 | rfl) rfl e2 e3
  unfold cipher_Block
  refine start_spec hk hn fun r hr=> ?_
  exact l1 10 0 _ (by omega) rfl (by dsimp only; rw [hr,hF]) (by dsimp only; rw [hr,hF]; rfl)
end Go.Pt
