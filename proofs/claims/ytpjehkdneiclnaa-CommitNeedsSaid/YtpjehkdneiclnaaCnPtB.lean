import Derived.Test.YtpjehkdneiclnaaCnPtA
set_option linter.unusedVariables false
set_option linter.unusedSimpArgs false
set_option maxRecDepth 20000
namespace Go.Pt
open Go Go.Wc Go.Pu
variable {ρ:Ids} {h:Hp} {A:List At}
namespace sha_block
structure V where
  h2:Vector Int 8
  v4:Vector Int 8
  w5:Vector Int 64
  k6:Vector Int 64
  x7:Vector Int 8
  v18:Int
  v92:Int
structure W where
  p_h2:Addr
  p_v4:Addr
  p_w5:Addr
  p_k6:Addr
  p_x7:Addr
def v0:V:=⟨Vector.replicate 8 0,Vector.replicate 8 0,Vector.replicate 64 0,Vector.replicate 64 0,Vector.replicate 8 0,0,0⟩
def w0:W:=⟨⟨0,0,none⟩,⟨0,0,none⟩,⟨0,0,none⟩,⟨0,0,none⟩,⟨0,0,none⟩⟩
abbrev QT:=(Vector Int 8)→Prop
abbrev RT:=List Int→Hp→Prop
def kt (ρ:Ids) (X_b1:At) (A:List At) (Q':QT) (Q:RT):Prop:=
  ∀ (r0:Vector Int 8) (h':Hp),Inv h' (X_b1::A)→Q' r0→Q r0.toList h'
def I1 (ρ:Ids) (X_b1:At) (c:V) (w:W) (A:List At) (h:Hp):Prop:=
  Inv h (X_b1::blk w.p_h2 (ρ.T 28) [.vec .u32 8 c.h2]::blk w.p_v4 (ρ.T 28) [.vec .u32 8 c.v4]::blk w.p_w5 (ρ.T 29) [.vec .u32 64 c.w5]::blk w.p_k6 (ρ.T 29) [.vec .u32 64 c.k6]::blk w.p_x7 (ρ.T 28) [.vec .u32 8 c.x7]::A)
abbrev Y1:=Addr→Addr→Addr→Addr→Addr→Int→Hp→Prop
abbrev T1 (X_b1:At) (S:Y1) (c:V) (w:W) (h:Hp):Prop:=S w.p_h2 w.p_v4 w.p_w5 w.p_k6 w.p_x7 c.v18 h
def k1t (ρ:Ids) (X_b1:At) (A:List At) (S':V→Prop) (S:Y1):Prop:= ∀ (c:V) (w:W) (h:Hp),I1 ρ X_b1 c w A h→S' c→T1 X_b1 S c w h
def I2 (ρ:Ids) (X_b1:At) (c:V) (w:W) (A:List At) (h:Hp):Prop:=
  Inv h (X_b1::blk w.p_h2 (ρ.T 28) [.vec .u32 8 c.h2]::blk w.p_v4 (ρ.T 28) [.vec .u32 8 c.v4]::blk w.p_x7 (ρ.T 28) [.vec .u32 8 c.x7]::A)
abbrev Y2:=Addr→Addr→Addr→Int→Hp→Prop
abbrev T2 (X_b1:At) (S:Y2) (c:V) (w:W) (h:Hp):Prop:=S w.p_h2 w.p_v4 w.p_x7 c.v92 h
def k2t (ρ:Ids) (X_b1:At) (A:List At) (S':V→Prop) (S:Y2):Prop:= ∀ (c:V) (w:W) (h:Hp),I2 ρ X_b1 c w A h→S' c→T2 X_b1 S c w h
variable {X_b1:At} {c:V} {w:W} {Q':QT} {Q:RT} {S1' S2':V→Prop} {S1:Y1} {S2:Y2}
def B2 (S2:V→Prop) (Q:QT) (c:V):Prop:=
  br (decide (c.v92<(8:Int)))
  (ixP c.h2.toList c.v92 fun x_125=>
  ixP c.x7.toList c.v92 fun x_131=>
  ixP c.h2.toList c.v92 fun x_137=>
  S2 {c with h2:=(c.h2.setIfInBounds (Int.toNat c.v92) (IntKind.wrap .u32 (x_125+x_131))),v92:=(IntKind.wrap .i64 (c.v92+(1:Int)))})
  (Q c.h2)
def L2 (Q:QT) (c:V):Prop:=Lf (fun S=>B2 S Q) c
theorem L2_in {Q:QT} {c:V} (H:B2 (L2 Q) Q c):L2 Q c:=Lf.fold H
theorem B2_r (I:I2 ρ X_b1 c w A h) (H:B2 S2' Q' c) (kS2:k2t ρ X_b1 A S2' S2) (k:kt ρ X_b1 A Q' Q):T2 X_b1 (Tx.sha_block_B2 ρ S2 Q) c w h:=by
  unfold I2 at I
  unfold T2 Tx.sha_block_B2
  unfold B2 at H
  refine br_r H (fun hb H=> ?_) (fun hb H=> ?_)
  · refine ix_vec I.pull1 (j := 0) (off := 0) rfl (ixP_keep H) fun q_124 x_125 hq_126 hb_127 hc_128 H => ?_
    obtain ⟨hg_129,H⟩:=H
    refine ldI_r hc_128 ?_
    refine ix_vec I.pull3 (j:=0) (off:=0) rfl (ixP_keep H) fun q_130 x_131 hq_132 hb_133 hc_134 H=> ?_
    obtain ⟨hg_135,H⟩:=H
    refine ldI_r hc_134 ?_
    refine ix_vec I.pull1 (j:=0) (off:=0) rfl (ixP_keep H) fun q_136 x_137 hq_138 hb_139 hc_140 H=> ?_
    obtain ⟨hg_141,H⟩:=H
    refine st_vec (I.pull1) (j:=0) (off:=0) rfl hq_138 hb_139 fun h I=> ?_
    replace I:=I.pull3.pull3.pull2.pull3
    exact kS2 {c with h2:=(c.h2.setIfInBounds (Int.toNat c.v92) (IntKind.wrap .u32 (x_125+x_131))),v92:=(IntKind.wrap .i64 (c.v92+(1:Int)))} w _ I H
  · refine ldL_r (I.pull1.lump 0 0 rfl) ?_
    try simp only [nrm_v]
    refine stA_r I.pull2 0 1 0 [.vec .u32 8 c.h2] rfl rfl rfl (by first | exact all_segs rfl | exact all_one (by simp [segs,Seg.cells,allOne,allOne_append,allOne_lump,Value.oneCell'])) fun h (I:Inv h (blk w.p_v4 (ρ.T 28) [.vec .u32 8 c.h2]::_))=> ?_
    refine ldL_r (I.lump 0 0 rfl) ?_
    try simp only [nrm_v]
    replace I:=I.drop1
    replace I:=I.pull1.drop1
    replace I:=I.pull1.drop1
    exact k c.h2 _ I H
theorem L2_r (I:I2 ρ X_b1 c w A h) (H:L2 Q' c) (k:kt ρ X_b1 A Q' Q):T2 X_b1 (Tx.sha_block_L2 ρ Q) c w h:=by
  refine Lf.ind H (fun v=> ∀ (w:W) (h:Hp),I2 ρ X_b1 v w A h→T2 X_b1 (Tx.sha_block_L2 ρ Q) v w h) ?_ w h I
  rintro c S hS HB w h I
  refine Tx.sha_block_L2_in _ _ _ _ _ _ _ ?_
  try simp only [nrm_v]
  exact B2_r (c:=c) (w:=w) I HB (fun c w h I H=>hS _ H w h I) k
def B1 (S1:V→Prop) (Q:QT) (c:V):Prop:=
  br (decide (c.v18<(64:Int)))
  (ixP c.x7.toList (0:Int) fun x_21=>
  ixP c.x7.toList (4:Int) fun x_27=>
  ixP c.x7.toList (7:Int) fun x_33=>
  ixP c.x7.toList (5:Int) fun x_39=>
  ixP c.x7.toList (6:Int) fun x_45=>
  ixP c.k6.toList c.v18 fun x_51=>
  ixP c.w5.toList c.v18 fun x_57=>
  sha_Turn x_27 (6:Int) fun r_62=>
  sha_Turn x_27 (11:Int) fun r_63=>
  sha_Turn x_27 (25:Int) fun r_64=>
  ixP c.x7.toList (1:Int) fun x_66=>
  ixP c.x7.toList (2:Int) fun x_72=>
  ixP c.x7.toList (1:Int) fun x_78=>
  ixP c.x7.toList (2:Int) fun x_84=>
  sha_Turn x_21 (2:Int) fun r_89=>
  sha_Turn x_21 (13:Int) fun r_90=>
  sha_Turn x_21 (22:Int) fun r_91=>
  (SlOk c.x7.toList (1:Int) ((8:Nat):Int))∧
  (SlOk c.x7.toList (0:Int) (7:Int))∧
  ixP (cpV c.x7 (Int.toNat (1:Int)) (sub c.x7.toList (0:Int) (7:Int))).toList (0:Int) fun x_101=>
  ixP ((cpV c.x7 (Int.toNat (1:Int)) (sub c.x7.toList (0:Int) (7:Int))).setIfInBounds (Int.toNat (0:Int)) (IntKind.wrap .u32 ((IntKind.wrap .u32 ((IntKind.wrap .u32 ((IntKind.wrap .u32 ((IntKind.wrap .u32 (x_33+(IntKind.wrap .u32 (((BitVec.ofInt (IntKind.bits .u32) (IntKind.wrap .u32 (((BitVec.ofInt (IntKind.bits .u32) r_62 ^^^ (BitVec.ofInt (IntKind.bits .u32) r_63)).toNat:Int))) ^^^ (BitVec.ofInt (IntKind.bits .u32) r_64)).toNat:Int)))))+(IntKind.wrap .u32 (((BitVec.ofInt (IntKind.bits .u32) (IntKind.wrap .u32 (((BitVec.ofInt (IntKind.bits .u32) x_27 &&& (BitVec.ofInt (IntKind.bits .u32) x_39)).toNat:Int))) ^^^ (BitVec.ofInt (IntKind.bits .u32) (IntKind.wrap .u32 (((BitVec.ofInt (IntKind.bits .u32) (IntKind.wrap .u32 ((BitVec.ofInt (IntKind.bits .u32) (if IntKind.signed .u32 then -1 else IntKind.max .u32) ^^^ BitVec.ofInt (IntKind.bits .u32) x_27).toNat:Int)) &&& (BitVec.ofInt (IntKind.bits .u32) x_45)).toNat:Int))))).toNat:Int)))))+x_51))+x_57))+(IntKind.wrap .u32 ((IntKind.wrap .u32 (((BitVec.ofInt (IntKind.bits .u32) (IntKind.wrap .u32 (((BitVec.ofInt (IntKind.bits .u32) r_89 ^^^ (BitVec.ofInt (IntKind.bits .u32) r_90)).toNat:Int))) ^^^ (BitVec.ofInt (IntKind.bits .u32) r_91)).toNat:Int)))+(IntKind.wrap .u32 (((BitVec.ofInt (IntKind.bits .u32) (IntKind.wrap .u32 (((BitVec.ofInt (IntKind.bits .u32) (IntKind.wrap .u32 (((BitVec.ofInt (IntKind.bits .u32) x_21 &&& (BitVec.ofInt (IntKind.bits .u32) x_66)).toNat:Int))) ^^^ (BitVec.ofInt (IntKind.bits .u32) (IntKind.wrap .u32 (((BitVec.ofInt (IntKind.bits .u32) x_21 &&& (BitVec.ofInt (IntKind.bits .u32) x_72)).toNat:Int))))).toNat:Int))) ^^^ (BitVec.ofInt (IntKind.bits .u32) (IntKind.wrap .u32 (((BitVec.ofInt (IntKind.bits .u32) x_78 &&& (BitVec.ofInt (IntKind.bits .u32) x_84)).toNat:Int))))).toNat:Int)))))))).toList (4:Int) fun x_108=>
  ixP ((cpV c.x7 (Int.toNat (1:Int)) (sub c.x7.toList (0:Int) (7:Int))).setIfInBounds (Int.toNat (0:Int)) (IntKind.wrap .u32 ((IntKind.wrap .u32 ((IntKind.wrap .u32 ((IntKind.wrap .u32 ((IntKind.wrap .u32 (x_33+(IntKind.wrap .u32 (((BitVec.ofInt (IntKind.bits .u32) (IntKind.wrap .u32 (((BitVec.ofInt (IntKind.bits .u32) r_62 ^^^ (BitVec.ofInt (IntKind.bits .u32) r_63)).toNat:Int))) ^^^ (BitVec.ofInt (IntKind.bits .u32) r_64)).toNat:Int)))))+(IntKind.wrap .u32 (((BitVec.ofInt (IntKind.bits .u32) (IntKind.wrap .u32 (((BitVec.ofInt (IntKind.bits .u32) x_27 &&& (BitVec.ofInt (IntKind.bits .u32) x_39)).toNat:Int))) ^^^ (BitVec.ofInt (IntKind.bits .u32) (IntKind.wrap .u32 (((BitVec.ofInt (IntKind.bits .u32) (IntKind.wrap .u32 ((BitVec.ofInt (IntKind.bits .u32) (if IntKind.signed .u32 then -1 else IntKind.max .u32) ^^^ BitVec.ofInt (IntKind.bits .u32) x_27).toNat:Int)) &&& (BitVec.ofInt (IntKind.bits .u32) x_45)).toNat:Int))))).toNat:Int)))))+x_51))+x_57))+(IntKind.wrap .u32 ((IntKind.wrap .u32 (((BitVec.ofInt (IntKind.bits .u32) (IntKind.wrap .u32 (((BitVec.ofInt (IntKind.bits .u32) r_89 ^^^ (BitVec.ofInt (IntKind.bits .u32) r_90)).toNat:Int))) ^^^ (BitVec.ofInt (IntKind.bits .u32) r_91)).toNat:Int)))+(IntKind.wrap .u32 (((BitVec.ofInt (IntKind.bits .u32) (IntKind.wrap .u32 (((BitVec.ofInt (IntKind.bits .u32) (IntKind.wrap .u32 (((BitVec.ofInt (IntKind.bits .u32) x_21 &&& (BitVec.ofInt (IntKind.bits .u32) x_66)).toNat:Int))) ^^^ (BitVec.ofInt (IntKind.bits .u32) (IntKind.wrap .u32 (((BitVec.ofInt (IntKind.bits .u32) x_21 &&& (BitVec.ofInt (IntKind.bits .u32) x_72)).toNat:Int))))).toNat:Int))) ^^^ (BitVec.ofInt (IntKind.bits .u32) (IntKind.wrap .u32 (((BitVec.ofInt (IntKind.bits .u32) x_78 &&& (BitVec.ofInt (IntKind.bits .u32) x_84)).toNat:Int))))).toNat:Int)))))))).toList (4:Int) fun x_114=>
  S1 {c with x7:=(((cpV c.x7 (Int.toNat (1:Int)) (sub c.x7.toList (0:Int) (7:Int))).setIfInBounds (Int.toNat (0:Int)) (IntKind.wrap .u32 ((IntKind.wrap .u32 ((IntKind.wrap .u32 ((IntKind.wrap .u32 ((IntKind.wrap .u32 (x_33+(IntKind.wrap .u32 (((BitVec.ofInt (IntKind.bits .u32) (IntKind.wrap .u32 (((BitVec.ofInt (IntKind.bits .u32) r_62 ^^^ (BitVec.ofInt (IntKind.bits .u32) r_63)).toNat:Int))) ^^^ (BitVec.ofInt (IntKind.bits .u32) r_64)).toNat:Int)))))+(IntKind.wrap .u32 (((BitVec.ofInt (IntKind.bits .u32) (IntKind.wrap .u32 (((BitVec.ofInt (IntKind.bits .u32) x_27 &&& (BitVec.ofInt (IntKind.bits .u32) x_39)).toNat:Int))) ^^^ (BitVec.ofInt (IntKind.bits .u32) (IntKind.wrap .u32 (((BitVec.ofInt (IntKind.bits .u32) (IntKind.wrap .u32 ((BitVec.ofInt (IntKind.bits .u32) (if IntKind.signed .u32 then -1 else IntKind.max .u32) ^^^ BitVec.ofInt (IntKind.bits .u32) x_27).toNat:Int)) &&& (BitVec.ofInt (IntKind.bits .u32) x_45)).toNat:Int))))).toNat:Int)))))+x_51))+x_57))+(IntKind.wrap .u32 ((IntKind.wrap .u32 (((BitVec.ofInt (IntKind.bits .u32) (IntKind.wrap .u32 (((BitVec.ofInt (IntKind.bits .u32) r_89 ^^^ (BitVec.ofInt (IntKind.bits .u32) r_90)).toNat:Int))) ^^^ (BitVec.ofInt (IntKind.bits .u32) r_91)).toNat:Int)))+(IntKind.wrap .u32 (((BitVec.ofInt (IntKind.bits .u32) (IntKind.wrap .u32 (((BitVec.ofInt (IntKind.bits .u32) (IntKind.wrap .u32 (((BitVec.ofInt (IntKind.bits .u32) x_21 &&& (BitVec.ofInt (IntKind.bits .u32) x_66)).toNat:Int))) ^^^ (BitVec.ofInt (IntKind.bits .u32) (IntKind.wrap .u32 (((BitVec.ofInt (IntKind.bits .u32) x_21 &&& (BitVec.ofInt (IntKind.bits .u32) x_72)).toNat:Int))))).toNat:Int))) ^^^ (BitVec.ofInt (IntKind.bits .u32) (IntKind.wrap .u32 (((BitVec.ofInt (IntKind.bits .u32) x_78 &&& (BitVec.ofInt (IntKind.bits .u32) x_84)).toNat:Int))))).toNat:Int)))))))).setIfInBounds (Int.toNat (4:Int)) (IntKind.wrap .u32 (x_108+(IntKind.wrap .u32 ((IntKind.wrap .u32 ((IntKind.wrap .u32 ((IntKind.wrap .u32 (x_33+(IntKind.wrap .u32 (((BitVec.ofInt (IntKind.bits .u32) (IntKind.wrap .u32 (((BitVec.ofInt (IntKind.bits .u32) r_62 ^^^ (BitVec.ofInt (IntKind.bits .u32) r_63)).toNat:Int))) ^^^ (BitVec.ofInt (IntKind.bits .u32) r_64)).toNat:Int)))))+(IntKind.wrap .u32 (((BitVec.ofInt (IntKind.bits .u32) (IntKind.wrap .u32 (((BitVec.ofInt (IntKind.bits .u32) x_27 &&& (BitVec.ofInt (IntKind.bits .u32) x_39)).toNat:Int))) ^^^ (BitVec.ofInt (IntKind.bits .u32) (IntKind.wrap .u32 (((BitVec.ofInt (IntKind.bits .u32) (IntKind.wrap .u32 ((BitVec.ofInt (IntKind.bits .u32) (if IntKind.signed .u32 then -1 else IntKind.max .u32) ^^^ BitVec.ofInt (IntKind.bits .u32) x_27).toNat:Int)) &&& (BitVec.ofInt (IntKind.bits .u32) x_45)).toNat:Int))))).toNat:Int)))))+x_51))+x_57))))),v18:=(IntKind.wrap .i64 (c.v18+(1:Int)))})
  (L2 Q {c with v92:=(0:Int)})
def L1 (Q:QT) (c:V):Prop:=Lf (fun S=>B1 S Q) c
theorem L1_in {Q:QT} {c:V} (H:B1 (L1 Q) Q c):L1 Q c:=Lf.fold H
theorem B1_r (I:I1 ρ X_b1 c w A h) (H:B1 S1' Q' c) (kS1:k1t ρ X_b1 A S1' S1) (k:kt ρ X_b1 A Q' Q):T1 X_b1 (Tx.sha_block_B1 ρ S1 Q) c w h:=by
  unfold I1 at I
  unfold T1 Tx.sha_block_B1
  unfold B1 at H
  refine br_r H (fun hb H=> ?_) (fun hb H=> ?_)
  · refine ix_vec I.pull5 (j := 0) (off := 0) rfl (ixP_keep H) fun q_20 x_21 hq_22 hb_23 hc_24 H => ?_
    obtain ⟨hg_25,H⟩:=H
    refine ldI_r hc_24 ?_
    refine ix_vec I.pull5 (j:=0) (off:=0) rfl (ixP_keep H) fun q_26 x_27 hq_28 hb_29 hc_30 H=> ?_
    obtain ⟨hg_31,H⟩:=H
    refine ldI_r hc_30 ?_
    refine ix_vec I.pull5 (j:=0) (off:=0) rfl (ixP_keep H) fun q_32 x_33 hq_34 hb_35 hc_36 H=> ?_
    obtain ⟨hg_37,H⟩:=H
    refine ldI_r hc_36 ?_
    refine ix_vec I.pull5 (j:=0) (off:=0) rfl (ixP_keep H) fun q_38 x_39 hq_40 hb_41 hc_42 H=> ?_
    obtain ⟨hg_43,H⟩:=H
    refine ldI_r hc_42 ?_
    refine ix_vec I.pull5 (j:=0) (off:=0) rfl (ixP_keep H) fun q_44 x_45 hq_46 hb_47 hc_48 H=> ?_
    obtain ⟨hg_49,H⟩:=H
    refine ldI_r hc_48 ?_
    refine ix_vec I.pull4 (j:=0) (off:=0) rfl (ixP_keep H) fun q_50 x_51 hq_52 hb_53 hc_54 H=> ?_
    obtain ⟨hg_55,H⟩:=H
    refine ldI_r hc_54 ?_
    refine ix_vec I.pull3 (j:=0) (off:=0) rfl (ixP_keep H) fun q_56 x_57 hq_58 hb_59 hc_60 H=> ?_
    obtain ⟨hg_61,H⟩:=H
    refine ldI_r hc_60 ?_
    refine sha_Turn_r (x0:=x_27) (n1:=(6:Int)) I H fun r_62 h I H=> ?_
    refine ⟨(vel_keep I.pull3 (j:=0) (off:=0) rfl hq_58 hb_59 hg_61), ?_⟩
    refine ⟨(vel_keep I.pull4 (j:=0) (off:=0) rfl hq_52 hb_53 hg_55), ?_⟩
    refine ⟨(vel_keep I.pull5 (j:=0) (off:=0) rfl hq_46 hb_47 hg_49), ?_⟩
    refine ⟨(vel_keep I.pull5 (j:=0) (off:=0) rfl hq_40 hb_41 hg_43), ?_⟩
    refine ⟨(vel_keep I.pull5 (j:=0) (off:=0) rfl hq_34 hb_35 hg_37), ?_⟩
    refine sha_Turn_r (x0:=x_27) (n1:=(11:Int)) I H fun r_63 h I H=> ?_
    refine ⟨(vel_keep I.pull3 (j:=0) (off:=0) rfl hq_58 hb_59 hg_61), ?_⟩
    refine ⟨(vel_keep I.pull4 (j:=0) (off:=0) rfl hq_52 hb_53 hg_55), ?_⟩
    refine ⟨(vel_keep I.pull5 (j:=0) (off:=0) rfl hq_46 hb_47 hg_49), ?_⟩
    refine ⟨(vel_keep I.pull5 (j:=0) (off:=0) rfl hq_40 hb_41 hg_43), ?_⟩
    refine ⟨(vel_keep I.pull5 (j:=0) (off:=0) rfl hq_34 hb_35 hg_37), ?_⟩
    refine sha_Turn_r (x0:=x_27) (n1:=(25:Int)) I H fun r_64 h I H=> ?_
    refine ⟨(vel_keep I.pull3 (j:=0) (off:=0) rfl hq_58 hb_59 hg_61), ?_⟩
    refine ⟨(vel_keep I.pull4 (j:=0) (off:=0) rfl hq_52 hb_53 hg_55), ?_⟩
    refine ⟨(vel_keep I.pull5 (j:=0) (off:=0) rfl hq_46 hb_47 hg_49), ?_⟩
    refine ⟨(vel_keep I.pull5 (j:=0) (off:=0) rfl hq_40 hb_41 hg_43), ?_⟩
    refine ⟨(vel_keep I.pull5 (j:=0) (off:=0) rfl hq_34 hb_35 hg_37), ?_⟩
    refine ix_vec I.pull5 (j:=0) (off:=0) rfl (ixP_keep H) fun q_65 x_66 hq_67 hb_68 hc_69 H=> ?_
    obtain ⟨hg_70,H⟩:=H
    refine ldI_r hc_69 ?_
    refine ix_vec I.pull5 (j:=0) (off:=0) rfl (ixP_keep H) fun q_71 x_72 hq_73 hb_74 hc_75 H=> ?_
    obtain ⟨hg_76,H⟩:=H
    refine ldI_r hc_75 ?_
    refine ix_vec I.pull5 (j:=0) (off:=0) rfl (ixP_keep H) fun q_77 x_78 hq_79 hb_80 hc_81 H=> ?_
    obtain ⟨hg_82,H⟩:=H
    refine ldI_r hc_81 ?_
    refine ix_vec I.pull5 (j:=0) (off:=0) rfl (ixP_keep H) fun q_83 x_84 hq_85 hb_86 hc_87 H=> ?_
    obtain ⟨hg_88,H⟩:=H
    refine ldI_r hc_87 ?_
    refine sha_Turn_r (x0:=x_21) (n1:=(2:Int)) I H fun r_89 h I H=> ?_
    refine ⟨(vel_keep I.pull5 (j:=0) (off:=0) rfl hq_85 hb_86 hg_88), ?_⟩
    refine ⟨(vel_keep I.pull5 (j:=0) (off:=0) rfl hq_79 hb_80 hg_82), ?_⟩
    refine ⟨(vel_keep I.pull5 (j:=0) (off:=0) rfl hq_73 hb_74 hg_76), ?_⟩
    refine ⟨(vel_keep I.pull5 (j:=0) (off:=0) rfl hq_67 hb_68 hg_70), ?_⟩
    refine sha_Turn_r (x0:=x_21) (n1:=(13:Int)) I H fun r_90 h I H=> ?_
    refine ⟨(vel_keep I.pull5 (j:=0) (off:=0) rfl hq_85 hb_86 hg_88), ?_⟩
    refine ⟨(vel_keep I.pull5 (j:=0) (off:=0) rfl hq_79 hb_80 hg_82), ?_⟩
    refine ⟨(vel_keep I.pull5 (j:=0) (off:=0) rfl hq_73 hb_74 hg_76), ?_⟩
    refine ⟨(vel_keep I.pull5 (j:=0) (off:=0) rfl hq_67 hb_68 hg_70), ?_⟩
    refine sha_Turn_r (x0:=x_21) (n1:=(22:Int)) I H fun r_91 h I H=> ?_
    refine ⟨(vel_keep I.pull5 (j:=0) (off:=0) rfl hq_85 hb_86 hg_88), ?_⟩
    refine ⟨(vel_keep I.pull5 (j:=0) (off:=0) rfl hq_79 hb_80 hg_82), ?_⟩
    refine ⟨(vel_keep I.pull5 (j:=0) (off:=0) rfl hq_73 hb_74 hg_76), ?_⟩
    refine ⟨(vel_keep I.pull5 (j:=0) (off:=0) rfl hq_67 hb_68 hg_70), ?_⟩
    refine sl_vec (ss:=[.vec .u32 8 c.x7]) (T:=(ρ.T 28)) (j:=0) (off:=0) (v:=c.x7) rfl H.1 fun a_92 c_93 hs_94 hr_95=> ?_
    replace H:=H.2
    refine sl_vec (ss:=[.vec .u32 8 c.x7]) (T:=(ρ.T 28)) (j:=0) (off:=0) (v:=c.x7) rfl H.1 fun a_96 c_97 hs_98 hr_99=> ?_
    replace H:=H.2
    refine cp_self (v:=c.x7) (j:=0) (off:=0) (lo:=(1:Int)) rfl hs_94 ⟨by decide,by decide⟩ (by simp [sub]) hr_99 I.pull5 fun h I=> ?_
    refine ix_vec I (j:=0) (off:=0) rfl (ixP_keep H) fun q_100 x_101 hq_102 hb_103 hc_104 H=> ?_
    obtain ⟨hg_105,H⟩:=H
    refine st_vec (I) (j:=0) (off:=0) rfl hq_102 hb_103 fun h I=> ?_
    refine ix_vec I (j:=0) (off:=0) rfl (ixP_keep H) fun q_107 x_108 hq_109 hb_110 hc_111 H=> ?_
    obtain ⟨hg_112,H⟩:=H
    refine ldI_r hc_111 ?_
    refine ix_vec I (j:=0) (off:=0) rfl (ixP_keep H) fun q_113 x_114 hq_115 hb_116 hc_117 H=> ?_
    obtain ⟨hg_118,H⟩:=H
    refine st_vec (I) (j:=0) (off:=0) rfl hq_115 hb_116 fun h I=> ?_
    replace I:=I.pull5.pull5.pull5.pull5.pull5
    exact kS1 {c with x7:=(((cpV c.x7 (Int.toNat (1:Int)) (sub c.x7.toList (0:Int) (7:Int))).setIfInBounds (Int.toNat (0:Int)) (IntKind.wrap .u32 ((IntKind.wrap .u32 ((IntKind.wrap .u32 ((IntKind.wrap .u32 ((IntKind.wrap .u32 (x_33+(IntKind.wrap .u32 (((BitVec.ofInt (IntKind.bits .u32) (IntKind.wrap .u32 (((BitVec.ofInt (IntKind.bits .u32) r_62 ^^^ (BitVec.ofInt (IntKind.bits .u32) r_63)).toNat:Int))) ^^^ (BitVec.ofInt (IntKind.bits .u32) r_64)).toNat:Int)))))+(IntKind.wrap .u32 (((BitVec.ofInt (IntKind.bits .u32) (IntKind.wrap .u32 (((BitVec.ofInt (IntKind.bits .u32) x_27 &&& (BitVec.ofInt (IntKind.bits .u32) x_39)).toNat:Int))) ^^^ (BitVec.ofInt (IntKind.bits .u32) (IntKind.wrap .u32 (((BitVec.ofInt (IntKind.bits .u32) (IntKind.wrap .u32 ((BitVec.ofInt (IntKind.bits .u32) (if IntKind.signed .u32 then -1 else IntKind.max .u32) ^^^ BitVec.ofInt (IntKind.bits .u32) x_27).toNat:Int)) &&& (BitVec.ofInt (IntKind.bits .u32) x_45)).toNat:Int))))).toNat:Int)))))+x_51))+x_57))+(IntKind.wrap .u32 ((IntKind.wrap .u32 (((BitVec.ofInt (IntKind.bits .u32) (IntKind.wrap .u32 (((BitVec.ofInt (IntKind.bits .u32) r_89 ^^^ (BitVec.ofInt (IntKind.bits .u32) r_90)).toNat:Int))) ^^^ (BitVec.ofInt (IntKind.bits .u32) r_91)).toNat:Int)))+(IntKind.wrap .u32 (((BitVec.ofInt (IntKind.bits .u32) (IntKind.wrap .u32 (((BitVec.ofInt (IntKind.bits .u32) (IntKind.wrap .u32 (((BitVec.ofInt (IntKind.bits .u32) x_21 &&& (BitVec.ofInt (IntKind.bits .u32) x_66)).toNat:Int))) ^^^ (BitVec.ofInt (IntKind.bits .u32) (IntKind.wrap .u32 (((BitVec.ofInt (IntKind.bits .u32) x_21 &&& (BitVec.ofInt (IntKind.bits .u32) x_72)).toNat:Int))))).toNat:Int))) ^^^ (BitVec.ofInt (IntKind.bits .u32) (IntKind.wrap .u32 (((BitVec.ofInt (IntKind.bits .u32) x_78 &&& (BitVec.ofInt (IntKind.bits .u32) x_84)).toNat:Int))))).toNat:Int)))))))).setIfInBounds (Int.toNat (4:Int)) (IntKind.wrap .u32 (x_108+(IntKind.wrap .u32 ((IntKind.wrap .u32 ((IntKind.wrap .u32 ((IntKind.wrap .u32 (x_33+(IntKind.wrap .u32 (((BitVec.ofInt (IntKind.bits .u32) (IntKind.wrap .u32 (((BitVec.ofInt (IntKind.bits .u32) r_62 ^^^ (BitVec.ofInt (IntKind.bits .u32) r_63)).toNat:Int))) ^^^ (BitVec.ofInt (IntKind.bits .u32) r_64)).toNat:Int)))))+(IntKind.wrap .u32 (((BitVec.ofInt (IntKind.bits .u32) (IntKind.wrap .u32 (((BitVec.ofInt (IntKind.bits .u32) x_27 &&& (BitVec.ofInt (IntKind.bits .u32) x_39)).toNat:Int))) ^^^ (BitVec.ofInt (IntKind.bits .u32) (IntKind.wrap .u32 (((BitVec.ofInt (IntKind.bits .u32) (IntKind.wrap .u32 ((BitVec.ofInt (IntKind.bits .u32) (if IntKind.signed .u32 then -1 else IntKind.max .u32) ^^^ BitVec.ofInt (IntKind.bits .u32) x_27).toNat:Int)) &&& (BitVec.ofInt (IntKind.bits .u32) x_45)).toNat:Int))))).toNat:Int)))))+x_51))+x_57))))),v18:=(IntKind.wrap .i64 (c.v18+(1:Int)))} w _ I H
  · replace I := I.pull3.drop1
    replace I:=I.pull3.drop1
    replace I:=I.pull3.pull3.pull3.pull3
    exact L2_r (c:= {c with v92:=(0:Int)}) (w:=w) I H k
theorem L1_r (I:I1 ρ X_b1 c w A h) (H:L1 Q' c) (k:kt ρ X_b1 A Q' Q):T1 X_b1 (Tx.sha_block_L1 ρ Q) c w h:=by
  refine Lf.ind H (fun v=> ∀ (w:W) (h:Hp),I1 ρ X_b1 v w A h→T1 X_b1 (Tx.sha_block_L1 ρ Q) v w h) ?_ w h I
  rintro c S hS HB w h I
  refine Tx.sha_block_L1_in _ _ _ _ _ _ _ _ _ ?_
  try simp only [nrm_v]
  exact B1_r (c:=c) (w:=w) I HB (fun c w h I H=>hS _ H w h I) k
end sha_block
def sha_block (h0:Vector Int 8) (b1:List Int) (Q:sha_block.QT):Prop:=
  sha_spread b1 fun r_6=>
  sha_constants fun r_7=>
  sha_block.L1 Q {sha_block.v0 with h2:=h0,v4:=(Vector.replicate 8 (0:Int)),w5:=r_6,k6:=r_7,x7:=h0,v18:=(0:Int)}
theorem sha_block_r {h0:Vector Int 8} {b1:List Int} {a_b1:Option Addr} {c_b1:Nat} {n_b1:Nat} {X_b1:At} {Q':sha_block.QT} {Q:sha_block.RT} (hX_b1:Rd (rI .u8) X_b1 a_b1 n_b1 c_b1 b1) (I:Inv h (X_b1::A)) (H:sha_block h0 b1 Q')
    (k:sha_block.kt ρ X_b1 A Q' Q):Tx.sha_block ρ h0.toList ⟨a_b1,n_b1,c_b1⟩ h Q:=by
  obtain rfl:=rd_len hX_b1 I
  unfold Tx.sha_block
  unfold sha_block at H
  try simp only [nrm_v]
  refine al_r [.vec .u32 8 h0] rfl I fun p_2 h I=> ?_
  refine al_r [.vec .u32 8 (Vector.replicate 8 (0:Int))] rfl I fun p_4 h I=> ?_
  replace I:=I.pull2
  refine sha_spread_r (b0:=b1) hX_b1 I H fun r_6 h I H=> ?_
  refine sha_constants_r I H fun r_7 h I H=> ?_
  refine al_r [.vec .u32 64 (Vector.replicate 64 (0:Int))] rfl I fun p_8 h I=> ?_
  refine al_r [.vec .u32 64 (Vector.replicate 64 (0:Int))] rfl I fun p_10 h I=> ?_
  refine stA_r I.pull1 0 1 0 [.vec .u32 64 r_6] rfl rfl rfl (by first | exact all_segs rfl | exact all_one (by simp [segs,Seg.cells,allOne,allOne_append,allOne_lump,Value.oneCell'])) fun h (I:Inv h (blk p_8 (ρ.T 29) [.vec .u32 64 r_6]::_))=> ?_
  refine stA_r I.pull1 0 1 0 [.vec .u32 64 r_7] rfl rfl rfl (by first | exact all_segs rfl | exact all_one (by simp [segs,Seg.cells,allOne,allOne_append,allOne_lump,Value.oneCell'])) fun h (I:Inv h (blk p_10 (ρ.T 29) [.vec .u32 64 r_7]::_))=> ?_
  refine ldL_r (I.pull4.lump 0 0 rfl) ?_
  try simp only [nrm_v]
  refine al_r [.vec .u32 8 (Vector.replicate 8 (0:Int))] rfl I fun p_12 h I=> ?_
  refine stA_r I 0 1 0 [.vec .u32 8 h0] rfl rfl rfl (by first | exact all_segs rfl | exact all_one (by simp [segs,Seg.cells,allOne,allOne_append,allOne_lump,Value.oneCell'])) fun h (I:Inv h (blk p_12 (ρ.T 28) [.vec .u32 8 h0]::_))=> ?_
  replace I:=I.pull1.pull2.pull4.pull5.pull5
  exact sha_block.L1_r (c:= {sha_block.v0 with h2:=h0,v4:=(Vector.replicate 8 (0:Int)),w5:=r_6,k6:=r_7,x7:=h0,v18:=(0:Int)}) (w:= {sha_block.w0 with p_h2:=p_2,p_v4:=p_4,p_w5:=p_8,p_k6:=p_10,p_x7:=p_12}) I H k
namespace sha_State_Write
structure V where
  b1:List Int
  s2:sha_State
  v4:sha_State
  v17:Bool
  all5:List Int
structure W where
  a_b1:Option Addr
  c_b1:Nat
  p_s2:Addr
  a_s2_1:Option Addr
  c_s2_1:Nat
  p_v4:Addr
  a_v4_1:Option Addr
  c_v4_1:Nat
  a_all5:Option Addr
  c_all5:Nat
def v0:V:=⟨[],(⟨(Vector.replicate 8 (0:Int)),[],(0:Int)⟩:sha_State),(⟨(Vector.replicate 8 (0:Int)),[],(0:Int)⟩:sha_State),false,[]⟩
def w0:W:=⟨none,0,⟨0,0,none⟩,none,0,⟨0,0,none⟩,none,0,none,0⟩
abbrev QT:=sha_State→Prop
abbrev RT:=List Int→Sl→Int→Hp→Prop
def kt (ρ:Ids) (X_b1:At) (A:List At) (Q':QT) (Q:RT):Prop:=
  ∀ (r0:sha_State) (ra0_1:Option Addr) (rc0_1:Nat) (h':Hp),Inv h' (roS (rI .u8) ra0_1 r0.rest.length rc0_1 r0.rest::X_b1::A)→Q' r0→Q r0.h.toList ⟨ra0_1,r0.rest.length,rc0_1⟩ r0.n h'
def I1 (ρ:Ids) (X_b1:At) (c:V) (w:W) (A:List At) (h:Hp):Prop:=
  Rd (rI .u8) X_b1 w.a_b1 c.b1.length w.c_b1 c.b1∧Inv h (X_b1::blk w.p_s2 (ρ.T 27) [.vec .u32 8 c.s2.h, .one (.slice w.a_s2_1 c.s2.rest.length w.c_s2_1), .one (.int .u64 c.s2.n)]::roS (rI .u8) w.a_s2_1 c.s2.rest.length w.c_s2_1 c.s2.rest::blk w.p_v4 (ρ.T 27) [.vec .u32 8 c.v4.h, .one (.slice w.a_v4_1 c.v4.rest.length w.c_v4_1), .one (.int .u64 c.v4.n)]::ownS (rI .u8) w.a_v4_1 c.v4.rest.length w.c_v4_1 c.v4.rest::A)
def I2 (ρ:Ids) (X_b1:At) (c:V) (w:W) (A:List At) (h:Hp):Prop:=
  Inv h (X_b1::blk w.p_s2 (ρ.T 27) [.vec .u32 8 c.s2.h, .one (.slice w.a_s2_1 c.s2.rest.length w.c_s2_1), .one (.int .u64 c.s2.n)]::roS (rI .u8) w.a_s2_1 c.s2.rest.length w.c_s2_1 c.s2.rest::blk w.p_v4 (ρ.T 27) [.vec .u32 8 c.v4.h, .one (.slice w.a_v4_1 c.v4.rest.length w.c_v4_1), .one (.int .u64 c.v4.n)]::ownS (rI .u8) w.a_v4_1 c.v4.rest.length w.c_v4_1 c.v4.rest::ownS (rI .u8) w.a_all5 c.all5.length w.c_all5 c.all5::A)
abbrev Y2:=Addr→Addr→Sl→Hp→Prop
abbrev T2 (X_b1:At) (S:Y2) (c:V) (w:W) (h:Hp):Prop:=S w.p_s2 w.p_v4 ⟨w.a_all5,c.all5.length,w.c_all5⟩ h
def k2t (ρ:Ids) (X_b1:At) (A:List At) (S':V→Prop) (S:Y2):Prop:= ∀ (c:V) (w:W) (h:Hp),I2 ρ X_b1 c w A h→S' c→T2 X_b1 S c w h
def I3 (ρ:Ids) (X_b1:At) (c:V) (w:W) (A:List At) (h:Hp):Prop:=
  Rd (rI .u8) X_b1 w.a_b1 c.b1.length w.c_b1 c.b1∧Inv h (X_b1::blk w.p_s2 (ρ.T 27) [.vec .u32 8 c.s2.h, .one (.slice w.a_s2_1 c.s2.rest.length w.c_s2_1), .one (.int .u64 c.s2.n)]::roS (rI .u8) w.a_s2_1 c.s2.rest.length w.c_s2_1 c.s2.rest::blk w.p_v4 (ρ.T 27) [.vec .u32 8 c.v4.h, .one (.slice w.a_v4_1 c.v4.rest.length w.c_v4_1), .one (.int .u64 c.v4.n)]::ownS (rI .u8) w.a_v4_1 c.v4.rest.length w.c_v4_1 c.v4.rest::A)
variable {X_b1:At} {c:V} {w:W} {Q':QT} {Q:RT} {S2':V→Prop} {S2:Y2}
def B2 (S2:V→Prop) (Q:QT) (c:V):Prop:=
  br (decide ((c.all5.length:Int)≥(64:Int)))
  ((SlOk c.all5 (0:Int) (64:Int))∧
  sha_block c.s2.h (sub c.all5 (0:Int) (64:Int)) fun r_29=>
  (SlOk c.all5 (64:Int) (c.all5.length:Int))∧
  S2 {c with s2:=(⟨r_29,c.s2.rest,c.s2.n⟩:sha_State),all5:=(sub c.all5 (64:Int) (c.all5.length:Int))})
  (Q (⟨c.s2.h,c.all5,c.s2.n⟩:sha_State))
def L2 (Q:QT) (c:V):Prop:=Lf (fun S=>B2 S Q) c
theorem L2_in {Q:QT} {c:V} (H:B2 (L2 Q) Q c):L2 Q c:=Lf.fold H
theorem B2_r (I:I2 ρ X_b1 c w A h) (H:B2 S2' Q' c) (kS2:k2t ρ X_b1 A S2' S2) (k:kt ρ X_b1 A Q' Q):T2 X_b1 (Tx.sha_State_Write_B2 ρ S2 Q) c w h:=by
  unfold I2 at I
  unfold T2 Tx.sha_State_Write_B2
  unfold B2 at H
  refine br_r H (fun hb H=> ?_) (fun hb H=> ?_)
  · refine ldL_r (I.pull1.lump 0 0 rfl) ?_
    try simp only [nrm_v]
    have hS_28:=H.1
    replace H:=H.2
    refine sl_part I.pull5 hS_28 ?_
    have hr_27:Rd (rI .u8) (ownS (rI .u8) w.a_all5 c.all5.length w.c_all5 c.all5) (resl w.a_all5 w.c_all5 1 ((Int.toNat (0:Int):Nat):Int)) (sub c.all5 (0:Int) (64:Int)).length (w.c_all5 - Int.toNat (0:Int)) (sub c.all5 (0:Int) (64:Int)):=rd_part rd_own hS_28
    replace I:=I.pull5
    try simp only [nrm_v]
    refine sha_block_r (h0:=c.s2.h) (b1:=(sub c.all5 (0:Int) (64:Int))) hr_27 I H fun r_29 h I H=> ?_
    refine stA_r I.pull2 0 1 0 [.vec .u32 8 r_29] rfl rfl rfl (by first | exact all_segs rfl | exact all_one (by simp [segs,Seg.cells,allOne,allOne_append,allOne_lump,Value.oneCell'])) fun h (I:Inv h (blk w.p_s2 (ρ.T 27) [.vec .u32 8 r_29, .one (.slice w.a_s2_1 c.s2.rest.length w.c_s2_1), .one (.int .u64 c.s2.n)]::_))=> ?_
    refine sl_own I.pull1 H.1 fun a_30 c_31 I=> ?_
    replace H:=H.2
    replace I:=I.pull3.dupR
    replace I:=I.pull1.drop1
    replace I:=I.pull1.pull5.pull5.pull3.pull4.pull5
    exact kS2 {c with s2:=(⟨r_29,c.s2.rest,c.s2.n⟩:sha_State),all5:=(sub c.all5 (64:Int) (c.all5.length:Int))} {w with a_all5:=a_30,c_all5:=c_31} _ I H
  · refine st_r I.pull1 1 8 rfl fun h (I : Inv h (blk w.p_s2 (ρ.T 27) [.vec .u32 8 c.s2.h, .one (.slice w.a_all5 c.all5.length w.c_all5), .one (.int .u64 c.s2.n)] :: _)) => ?_
    refine ldL_r (I.lump 0 0 rfl) ?_
    refine ldS_r (I.cell 1 8 rfl) ?_
    refine ldI_r (I.cell 2 9 rfl) ?_
    try simp only [nrm_v]
    refine stA_r I.pull3 0 3 0 [.vec .u32 8 c.s2.h, .one (.slice w.a_all5 c.all5.length w.c_all5), .one (.int .u64 c.s2.n)] rfl rfl rfl (by first | exact all_segs rfl | exact all_one (by simp [segs,Seg.cells,allOne,allOne_append,allOne_lump,Value.oneCell'])) fun h (I:Inv h (blk w.p_v4 (ρ.T 27) [.vec .u32 8 c.s2.h, .one (.slice w.a_all5 c.all5.length w.c_all5), .one (.int .u64 c.s2.n)]::_))=> ?_
    refine ldL_r (I.lump 0 0 rfl) ?_
    refine ldS_r (I.cell 1 8 rfl) ?_
    refine ldI_r (I.cell 2 9 rfl) ?_
    try simp only [nrm_v]
    replace I:=I.pull5.freeze
    replace I:=I.dupR
    replace I:=I.pull1.drop1
    replace I:=I.pull1.drop1
    replace I:=I.pull1.drop1
    replace I:=I.pull2.drop1
    replace I:=I.pull2.drop1
    replace I:=I.pull1.pull1
    exact k (⟨c.s2.h,c.all5,c.s2.n⟩:sha_State) w.a_all5 w.c_all5 _ I H
theorem L2_r (I:I2 ρ X_b1 c w A h) (H:L2 Q' c) (k:kt ρ X_b1 A Q' Q):T2 X_b1 (Tx.sha_State_Write_L2 ρ Q) c w h:=by
  refine Lf.ind H (fun v=> ∀ (w:W) (h:Hp),I2 ρ X_b1 v w A h→T2 X_b1 (Tx.sha_State_Write_L2 ρ Q) v w h) ?_ w h I
  rintro c S hS HB w h I
  refine Tx.sha_State_Write_L2_in _ _ _ _ _ _ ?_
  try simp only [nrm_v]
  exact B2_r (c:=c) (w:=w) I HB (fun c w h I H=>hS _ H w h I) k
def K3 (Q:QT) (c:V):Prop:=
  (Bnd (([]:List Int).length+c.s2.rest.length))∧
  (Bnd ((([]:List Int)++c.s2.rest).length+c.b1.length))∧
  L2 Q {c with s2:=(⟨c.s2.h,c.s2.rest,(IntKind.wrap .u64 (c.s2.n+(IntKind.wrap .u64 (c.b1.length:Int))))⟩:sha_State),all5:=((([]:List Int)++c.s2.rest)++c.b1)}
theorem K3_r (I:I3 ρ X_b1 c w A h) (H:K3 Q' c) (k:kt ρ X_b1 A Q' Q):Tx.sha_State_Write_K3 ρ Q ⟨w.a_b1,c.b1.length,w.c_b1⟩ w.p_s2 w.p_v4 h:=by
  obtain ⟨hX_b1,I⟩:=I
  unfold Tx.sha_State_Write_K3
  unfold K3 at H
  refine ldI_r (I.pull1.cell 2 9 rfl) ?_
  refine st_r I.pull1 2 9 rfl fun h (I:Inv h (blk w.p_s2 (ρ.T 27) [.vec .u32 8 c.s2.h, .one (.slice w.a_s2_1 c.s2.rest.length w.c_s2_1), .one (.int .u64 (IntKind.wrap .u64 (c.s2.n+(IntKind.wrap .u64 (c.b1.length:Int)))))]::_))=> ?_
  refine ldS_r (I.cell 1 8 rfl) ?_
  replace I:=I.nilO (rI .u8)
  refine ap_r rd_ro I.pull3.pull1 rfl (by decide) (by decide) H.1 fun a_41 c_42 h I=> ?_
  replace H:=H.2
  refine ap_r hX_b1 I.pull3.pull1 rfl (by decide) (by decide) H.1 fun a_44 c_45 h I=> ?_
  replace H:=H.2
  replace I:=I.pull2.dupR
  replace I:=I.pull1.drop1
  replace I:=I.pull1.pull5.pull5.pull3.pull5.pull5
  exact L2_r (c:= {c with s2:=(⟨c.s2.h,c.s2.rest,(IntKind.wrap .u64 (c.s2.n+(IntKind.wrap .u64 (c.b1.length:Int))))⟩:sha_State),all5:=((([]:List Int)++c.s2.rest)++c.b1)}) (w:= {w with a_all5:=a_44,c_all5:=c_45}) I H k
def K1 (Q:QT) (c:V):Prop:=
  br c.v17
  (sha_first fun r_16=>
  K3 Q {c with s2:=(⟨r_16,c.s2.rest,c.s2.n⟩:sha_State)})
  (K3 Q c)
theorem K1_r (I:I1 ρ X_b1 c w A h) (H:K1 Q' c) (k:kt ρ X_b1 A Q' Q):Tx.sha_State_Write_K1 ρ Q ⟨w.a_b1,c.b1.length,w.c_b1⟩ w.p_s2 w.p_v4 c.v17 h:=by
  obtain ⟨hX_b1,I⟩:=I
  unfold Tx.sha_State_Write_K1
  unfold K1 at H
  refine br_r H (fun hb H=> ?_) (fun hb H=> ?_)
  · refine sha_first_r  I H fun r_16 h I H => ?_
    refine stA_r I.pull1 0 1 0 [.vec .u32 8 r_16] rfl rfl rfl (by first | exact all_segs rfl | exact all_one (by simp [segs,Seg.cells,allOne,allOne_append,allOne_lump,Value.oneCell'])) fun h (I:Inv h (blk w.p_s2 (ρ.T 27) [.vec .u32 8 r_16, .one (.slice w.a_s2_1 c.s2.rest.length w.c_s2_1), .one (.int .u64 c.s2.n)]::_))=> ?_
    replace I:=I.pull2.dupR
    replace I:=I.pull1.drop1
    replace I:=I.pull4.pull4.pull2.pull3.pull4
    exact K3_r (c:= {c with s2:=(⟨r_16,c.s2.rest,c.s2.n⟩:sha_State)}) (w:=w) ⟨hX_b1,I⟩ H k
  · replace I := I.pull2.dupR
    replace I:=I.pull1.drop1
    replace I:=I.pull4.pull4.pull2.pull4.pull4
    exact K3_r (c:=c) (w:=w) ⟨hX_b1,I⟩ H k
end sha_State_Write
def sha_State_Write (s0:sha_State) (b1:List Int) (Q:sha_State_Write.QT):Prop:=
  br (decide (s0.n<(64:Int)))
  (sha_State_Write.K1 Q {sha_State_Write.v0 with b1:=b1,s2:=s0,v4:=(⟨(Vector.replicate 8 (0:Int)),([]:List Int),(0:Int)⟩:sha_State),v17:=((s0.rest.length:Int)==(IntKind.wrap .i64 s0.n))})
  (sha_State_Write.K1 Q {sha_State_Write.v0 with b1:=b1,s2:=s0,v4:=(⟨(Vector.replicate 8 (0:Int)),([]:List Int),(0:Int)⟩:sha_State),v17:=false})
theorem sha_State_Write_r {s0:sha_State} {b1:List Int} {a_s0_1:Option Addr} {c_s0_1:Nat} {n_s0_1:Nat} {a_b1:Option Addr} {c_b1:Nat} {n_b1:Nat} {X_b1:At} {Q':sha_State_Write.QT} {Q:sha_State_Write.RT} (hX_b1:Rd (rI .u8) X_b1 a_b1 n_b1 c_b1 b1) (I:Inv h (roS (rI .u8) a_s0_1 n_s0_1 c_s0_1 s0.rest::X_b1::A)) (H:sha_State_Write s0 b1 Q')
    (k:sha_State_Write.kt ρ X_b1 A Q' Q):Tx.sha_State_Write ρ s0.h.toList ⟨a_s0_1,n_s0_1,c_s0_1⟩ s0.n ⟨a_b1,n_b1,c_b1⟩ h Q:=by
  obtain rfl:=ro_len I
  obtain rfl:=rd_len hX_b1 I.pull1
  unfold Tx.sha_State_Write
  unfold sha_State_Write at H
  try simp only [nrm_v]
  refine al_r [.vec .u32 8 s0.h, .one (.slice a_s0_1 s0.rest.length c_s0_1), .one (.int .u64 s0.n)] rfl I fun p_3 h I=> ?_
  refine al_r [.vec .u32 8 (Vector.replicate 8 (0:Int)), .one (.slice none 0 0), .one (.int .u64 (0:Int))] rfl I fun p_5 h I=> ?_
  refine ldI_r (I.pull1.cell 2 9 rfl) ?_
  refine br_r H (fun hb H=> ?_) (fun hb H=> ?_)
  · refine ldS_r (I.pull1.cell 1 8 rfl) ?_
    refine ldI_r (I.pull1.cell 2 9 rfl) ?_
    replace I:=I.pull2.dupR
    replace I:=I.nilO (rI .u8)
    replace I:=I.pull2.drop1
    replace I:=I.pull2.pull2.pull3.pull4
    exact sha_State_Write.K1_r (c:= {sha_State_Write.v0 with b1:=b1,s2:=s0,v4:=(⟨(Vector.replicate 8 (0:Int)),([]:List Int),(0:Int)⟩:sha_State),v17:=((s0.rest.length:Int)==(IntKind.wrap .i64 s0.n))}) (w:= {sha_State_Write.w0 with a_b1:=a_b1,c_b1:=c_b1,p_s2:=p_3,a_s2_1:=a_s0_1,c_s2_1:=c_s0_1,p_v4:=p_5,a_v4_1:=none,c_v4_1:=0}) ⟨hX_b1,I⟩ H k
  · replace I := I.pull2.dupR
    replace I:=I.nilO (rI .u8)
    replace I:=I.pull2.drop1
    replace I:=I.pull2.pull2.pull3.pull4
    exact sha_State_Write.K1_r (c:= {sha_State_Write.v0 with b1:=b1,s2:=s0,v4:=(⟨(Vector.replicate 8 (0:Int)),([]:List Int),(0:Int)⟩:sha_State),v17:=false}) (w:= {sha_State_Write.w0 with a_b1:=a_b1,c_b1:=c_b1,p_s2:=p_3,a_s2_1:=a_s0_1,c_s2_1:=c_s0_1,p_v4:=p_5,a_v4_1:=none,c_v4_1:=0}) ⟨hX_b1,I⟩ H k
namespace sha_State_Sum
structure V where
  s1:sha_State
  v2:Vector Int 32
  pad3:List Int
  v21:Int
  last5:sha_State
  d6:Vector Int 32
  v39:Int
structure W where
  p_s1:Addr
  a_s1_1:Option Addr
  c_s1_1:Nat
  p_v2:Addr
  a_pad3:Option Addr
  c_pad3:Nat
  p_last5:Addr
  a_last5_1:Option Addr
  c_last5_1:Nat
  p_d6:Addr
def v0:V:=⟨(⟨(Vector.replicate 8 (0:Int)),[],(0:Int)⟩:sha_State),Vector.replicate 32 0,[],0,(⟨(Vector.replicate 8 (0:Int)),[],(0:Int)⟩:sha_State),Vector.replicate 32 0,0⟩
def w0:W:=⟨⟨0,0,none⟩,none,0,⟨0,0,none⟩,none,0,⟨0,0,none⟩,none,0,⟨0,0,none⟩⟩
abbrev QT:=(Vector Int 32)→Prop
abbrev RT:=List Int→Hp→Prop
def kt (ρ:Ids) (A:List At) (Q':QT) (Q:RT):Prop:=
  ∀ (r0:Vector Int 32) (h':Hp),Inv h' (A)→Q' r0→Q r0.toList h'
def I1 (ρ:Ids) (c:V) (w:W) (A:List At) (h:Hp):Prop:=
  Inv h (blk w.p_s1 (ρ.T 27) [.vec .u32 8 c.s1.h, .one (.slice w.a_s1_1 c.s1.rest.length w.c_s1_1), .one (.int .u64 c.s1.n)]::roS (rI .u8) w.a_s1_1 c.s1.rest.length w.c_s1_1 c.s1.rest::blk w.p_v2 (ρ.T 19) [.vec .u8 32 c.v2]::ownS (rI .u8) w.a_pad3 c.pad3.length w.c_pad3 c.pad3::A)
abbrev Y1:=Addr→Addr→Sl→Hp→Prop
abbrev T1 (S:Y1) (c:V) (w:W) (h:Hp):Prop:=S w.p_s1 w.p_v2 ⟨w.a_pad3,c.pad3.length,w.c_pad3⟩ h
def k1t (ρ:Ids) (A:List At) (S':V→Prop) (S:Y1):Prop:= ∀ (c:V) (w:W) (h:Hp),I1 ρ c w A h→S' c→T1 S c w h
def I2 (ρ:Ids) (c:V) (w:W) (A:List At) (h:Hp):Prop:=
  Inv h (blk w.p_s1 (ρ.T 27) [.vec .u32 8 c.s1.h, .one (.slice w.a_s1_1 c.s1.rest.length w.c_s1_1), .one (.int .u64 c.s1.n)]::roS (rI .u8) w.a_s1_1 c.s1.rest.length w.c_s1_1 c.s1.rest::blk w.p_v2 (ρ.T 19) [.vec .u8 32 c.v2]::ownS (rI .u8) w.a_pad3 c.pad3.length w.c_pad3 c.pad3::A)
abbrev Y2:=Addr→Addr→Sl→Int→Hp→Prop
abbrev T2 (S:Y2) (c:V) (w:W) (h:Hp):Prop:=S w.p_s1 w.p_v2 ⟨w.a_pad3,c.pad3.length,w.c_pad3⟩ c.v21 h
def k2t (ρ:Ids) (A:List At) (S':V→Prop) (S:Y2):Prop:= ∀ (c:V) (w:W) (h:Hp),I2 ρ c w A h→S' c→T2 S c w h
def I3 (ρ:Ids) (c:V) (w:W) (A:List At) (h:Hp):Prop:=
  Inv h (blk w.p_v2 (ρ.T 19) [.vec .u8 32 c.v2]::blk w.p_last5 (ρ.T 27) [.vec .u32 8 c.last5.h, .one (.slice w.a_last5_1 c.last5.rest.length w.c_last5_1), .one (.int .u64 c.last5.n)]::roS (rI .u8) w.a_last5_1 c.last5.rest.length w.c_last5_1 c.last5.rest::blk w.p_d6 (ρ.T 19) [.vec .u8 32 c.d6]::A)
abbrev Y3:=Addr→Addr→Addr→Int→Hp→Prop
abbrev T3 (S:Y3) (c:V) (w:W) (h:Hp):Prop:=S w.p_v2 w.p_last5 w.p_d6 c.v39 h
def k3t (ρ:Ids) (A:List At) (S':V→Prop) (S:Y3):Prop:= ∀ (c:V) (w:W) (h:Hp),I3 ρ c w A h→S' c→T3 S c w h
variable {c:V} {w:W} {Q':QT} {Q:RT} {S1' S2' S3':V→Prop} {S1:Y1} {S2:Y2} {S3:Y3}
def B3 (S3:V→Prop) (Q:QT) (c:V):Prop:=
  br (decide (c.v39<(32:Int)))
  (ixP c.last5.h.toList (IntKind.wrap .i64 (Int.tdiv c.v39 (4:Int))) fun x_54=>
  (0≤(IntKind.wrap .i64 ((24:Int) - (IntKind.wrap .i64 ((8:Int)*(Int.tmod c.v39 (4:Int)))))))∧
  ixP c.d6.toList c.v39 fun x_60=>
  S3 {c with d6:=(c.d6.setIfInBounds (Int.toNat c.v39) (IntKind.wrap .u8 (Int.fdiv x_54 (2 ^ (min (Int.toNat (IntKind.wrap .i64 ((24:Int) - (IntKind.wrap .i64 ((8:Int)*(Int.tmod c.v39 (4:Int))))))) (IntKind.bits .u32)))))),v39:=(IntKind.wrap .i64 (c.v39+(1:Int)))})
  (Q c.d6)
def L3 (Q:QT) (c:V):Prop:=Lf (fun S=>B3 S Q) c
theorem L3_in {Q:QT} {c:V} (H:B3 (L3 Q) Q c):L3 Q c:=Lf.fold H
theorem B3_r (I:I3 ρ c w A h) (H:B3 S3' Q' c) (kS3:k3t ρ A S3' S3) (k:kt ρ A Q' Q):T3 (Tx.sha_State_Sum_B3 ρ S3 Q) c w h:=by
  unfold I3 at I
  unfold T3 Tx.sha_State_Sum_B3
  unfold B3 at H
  refine br_r H (fun hb H=> ?_) (fun hb H=> ?_)
  · refine ⟨by decide, ?_⟩
    refine ix_vec I.pull1 (j:=0) (off:=0) rfl (ixP_keep H) fun q_53 x_54 hq_55 hb_56 hc_57 H=> ?_
    obtain ⟨hg_58,H⟩:=H
    refine ldI_r hc_57 ?_
    refine ⟨by decide, ?_⟩
    refine and_r H fun H=> ?_
    refine ix_vec I.pull3 (j:=0) (off:=0) rfl (ixP_keep H) fun q_59 x_60 hq_61 hb_62 hc_63 H=> ?_
    obtain ⟨hg_64,H⟩:=H
    refine st_vec (I.pull3) (j:=0) (off:=0) rfl hq_61 hb_62 fun h I=> ?_
    replace I:=I.pull3.dupR
    replace I:=I.pull1.drop1
    replace I:=I.pull1.pull1.pull3.pull3
    exact kS3 {c with d6:=(c.d6.setIfInBounds (Int.toNat c.v39) (IntKind.wrap .u8 (Int.fdiv x_54 (2 ^ (min (Int.toNat (IntKind.wrap .i64 ((24:Int) - (IntKind.wrap .i64 ((8:Int)*(Int.tmod c.v39 (4:Int))))))) (IntKind.bits .u32)))))),v39:=(IntKind.wrap .i64 (c.v39+(1:Int)))} w _ I H
  · refine ldL_r (I.pull3.lump 0 0 rfl) ?_
    try simp only [nrm_v]
    refine stA_r I 0 1 0 [.vec .u8 32 c.d6] rfl rfl rfl (by first | exact all_segs rfl | exact all_one (by simp [segs,Seg.cells,allOne,allOne_append,allOne_lump,Value.oneCell'])) fun h (I:Inv h (blk w.p_v2 (ρ.T 19) [.vec .u8 32 c.d6]::_))=> ?_
    refine ldL_r (I.lump 0 0 rfl) ?_
    try simp only [nrm_v]
    replace I:=I.drop1
    replace I:=I.drop1
    replace I:=I.drop1
    replace I:=I.drop1
    exact k c.d6 _ I H
theorem L3_r (I:I3 ρ c w A h) (H:L3 Q' c) (k:kt ρ A Q' Q):T3 (Tx.sha_State_Sum_L3 ρ Q) c w h:=by
  refine Lf.ind H (fun v=> ∀ (w:W) (h:Hp),I3 ρ v w A h→T3 (Tx.sha_State_Sum_L3 ρ Q) v w h) ?_ w h I
  rintro c S hS HB w h I
  refine Tx.sha_State_Sum_L3_in _ _ _ _ _ _ _ ?_
  try simp only [nrm_v]
  exact B3_r (c:=c) (w:=w) I HB (fun c w h I H=>hS _ H w h I) k
def B2 (S2:V→Prop) (Q:QT) (c:V):Prop:=
  br (decide (c.v21<(8:Int)))
  ((0≤(IntKind.wrap .i64 ((8:Int)*(IntKind.wrap .i64 ((7:Int) - c.v21)))))∧
  (Bnd (c.pad3.length+([(IntKind.wrap .u8 (Int.fdiv (IntKind.wrap .u64 ((8:Int)*c.s1.n)) (2 ^ (min (Int.toNat (IntKind.wrap .i64 ((8:Int)*(IntKind.wrap .i64 ((7:Int) - c.v21))))) (IntKind.bits .u64)))))]).length))∧
  S2 {c with pad3:=(c.pad3++[(IntKind.wrap .u8 (Int.fdiv (IntKind.wrap .u64 ((8:Int)*c.s1.n)) (2 ^ (min (Int.toNat (IntKind.wrap .i64 ((8:Int)*(IntKind.wrap .i64 ((7:Int) - c.v21))))) (IntKind.bits .u64)))))]),v21:=(IntKind.wrap .i64 (c.v21+(1:Int)))})
  (sha_State_Write c.s1 c.pad3 fun r_40=>
  L3 Q {c with last5:=r_40,d6:=(Vector.replicate 32 (0:Int)),v39:=(0:Int)})
def L2 (Q:QT) (c:V):Prop:=Lf (fun S=>B2 S Q) c
theorem L2_in {Q:QT} {c:V} (H:B2 (L2 Q) Q c):L2 Q c:=Lf.fold H
theorem B2_r (I:I2 ρ c w A h) (H:B2 S2' Q' c) (kS2:k2t ρ A S2' S2) (k:kt ρ A Q' Q):T2 (Tx.sha_State_Sum_B2 ρ S2 Q) c w h:=by
  unfold I2 at I
  unfold T2 Tx.sha_State_Sum_B2
  unfold B2 at H
  refine br_r H (fun hb H=> ?_) (fun hb H=> ?_)
  · refine ldI_r (I.cell 2 9 rfl) ?_
    refine and_r H fun H=> ?_
    refine al_r [.one (.int .u8 (IntKind.wrap .u8 (Int.fdiv (IntKind.wrap .u64 ((8:Int)*c.s1.n)) (2 ^ (min (Int.toNat (IntKind.wrap .i64 ((8:Int)*(IntKind.wrap .i64 ((7:Int) - c.v21))))) (IntKind.bits .u64))))))] rfl I fun p_30 h I=> ?_
    replace I:=I.litN (rI .u8)
    replace I:=I.repI (k:= .u8) (IntKind.wrap .u8 (Int.fdiv (IntKind.wrap .u64 ((8:Int)*c.s1.n)) (2 ^ (min (Int.toNat (IntKind.wrap .i64 ((8:Int)*(IntKind.wrap .i64 ((7:Int) - c.v21))))) (IntKind.bits .u64)))))
    replace I:=I.pull1.pull1
    replace I:=I.litC
    replace I:=I.pull1.pull1
    replace I:=Inv.litL (l:=[(IntKind.wrap .u8 (Int.fdiv (IntKind.wrap .u64 ((8:Int)*c.s1.n)) (2 ^ (min (Int.toNat (IntKind.wrap .i64 ((8:Int)*(IntKind.wrap .i64 ((7:Int) - c.v21))))) (IntKind.bits .u64)))))]) I rfl rfl
    refine ap_r rd_own I.pull4 rfl (by decide) (by decide) H.1 fun a_35 c_36 h I=> ?_
    replace H:=H.2
    replace I:=I.pull1.drop1
    replace I:=I.pull2.dupR
    replace I:=I.pull1.drop1
    replace I:=I.pull1.pull3.pull2.pull3
    exact kS2 {c with pad3:=(c.pad3++[(IntKind.wrap .u8 (Int.fdiv (IntKind.wrap .u64 ((8:Int)*c.s1.n)) (2 ^ (min (Int.toNat (IntKind.wrap .i64 ((8:Int)*(IntKind.wrap .i64 ((7:Int) - c.v21))))) (IntKind.bits .u64)))))]),v21:=(IntKind.wrap .i64 (c.v21+(1:Int)))} {w with a_pad3:=a_35,c_pad3:=c_36} _ I H
  · refine ldL_r (I.lump 0 0 rfl) ?_
    refine ldS_r (I.cell 1 8 rfl) ?_
    refine ldI_r (I.cell 2 9 rfl) ?_
    try simp only [nrm_v]
    replace I:=I.pull1.dupR
    replace I:=I.pull4.pull1
    try simp only [nrm_v]
    refine sha_State_Write_r (s0:=c.s1) (b1:=c.pad3) rd_own I H fun r_40 a_41 c_42 h I H=> ?_
    refine al_r [.vec .u32 8 (Vector.replicate 8 (0:Int)), .one (.slice none 0 0), .one (.int .u64 (0:Int))] rfl I fun p_44 h I=> ?_
    refine stA_r I 0 3 0 [.vec .u32 8 r_40.h, .one (.slice a_41 r_40.rest.length c_42), .one (.int .u64 r_40.n)] rfl rfl rfl (by first | exact all_segs rfl | exact all_one (by simp [segs,Seg.cells,allOne,allOne_append,allOne_lump,Value.oneCell'])) fun h (I:Inv h (blk p_44 (ρ.T 27) [.vec .u32 8 r_40.h, .one (.slice a_41 r_40.rest.length c_42), .one (.int .u64 r_40.n)]::_))=> ?_
    refine al_r [.vec .u8 32 (Vector.replicate 32 (0:Int))] rfl I fun p_46 h I=> ?_
    replace I:=I.pull2.dupR
    replace I:=I.pull1.drop1
    replace I:=I.pull3.drop1
    replace I:=I.pull3.drop1
    replace I:=I.pull3.drop1
    replace I:=I.pull1.pull1.pull2.pull3
    exact L3_r (c:= {c with last5:=r_40,d6:=(Vector.replicate 32 (0:Int)),v39:=(0:Int)}) (w:= {w with p_last5:=p_44,a_last5_1:=a_41,c_last5_1:=c_42,p_d6:=p_46}) I H k
theorem L2_r (I:I2 ρ c w A h) (H:L2 Q' c) (k:kt ρ A Q' Q):T2 (Tx.sha_State_Sum_L2 ρ Q) c w h:=by
  refine Lf.ind H (fun v=> ∀ (w:W) (h:Hp),I2 ρ v w A h→T2 (Tx.sha_State_Sum_L2 ρ Q) v w h) ?_ w h I
  rintro c S hS HB w h I
  refine Tx.sha_State_Sum_L2_in _ _ _ _ _ _ _ ?_
  try simp only [nrm_v]
  exact B2_r (c:=c) (w:=w) I HB (fun c w h I H=>hS _ H w h I) k
def B1 (S1:V→Prop) (Q:QT) (c:V):Prop:=
  br ((Int.tmod (IntKind.wrap .i64 ((IntKind.wrap .i64 ((c.s1.rest.length:Int)+(c.pad3.length:Int)))+(8:Int))) (64:Int)) !=(0:Int))
  ((Bnd (c.pad3.length+([(0:Int)]).length))∧
  S1 {c with pad3:=(c.pad3++[(0:Int)])})
  (L2 Q {c with v21:=(0:Int)})
def L1 (Q:QT) (c:V):Prop:=Lf (fun S=>B1 S Q) c
theorem L1_in {Q:QT} {c:V} (H:B1 (L1 Q) Q c):L1 Q c:=Lf.fold H
theorem B1_r (I:I1 ρ c w A h) (H:B1 S1' Q' c) (kS1:k1t ρ A S1' S1) (k:kt ρ A Q' Q):T1 (Tx.sha_State_Sum_B1 ρ S1 Q) c w h:=by
  unfold I1 at I
  unfold T1 Tx.sha_State_Sum_B1
  unfold B1 at H
  refine ldS_r (I.cell 1 8 rfl) ?_
  refine ⟨by decide, ?_⟩
  refine br_r H (fun hb H=> ?_) (fun hb H=> ?_)
  · refine al_r [.one (.int .u8 (0 : Int))] rfl I fun p_16 h I => ?_
    replace I:=I.litN (rI .u8)
    replace I:=I.repI (k:= .u8) (0:Int)
    replace I:=I.pull1.pull1
    replace I:=I.litC
    replace I:=I.pull1.pull1
    replace I:=Inv.litL (l:=[(0:Int)]) I rfl rfl
    refine ap_r rd_own I.pull4 rfl (by decide) (by decide) H.1 fun a_21 c_22 h I=> ?_
    replace H:=H.2
    replace I:=I.pull1.drop1
    replace I:=I.pull2.dupR
    replace I:=I.pull1.drop1
    replace I:=I.pull1.pull3.pull2.pull3
    exact kS1 {c with pad3:=(c.pad3++[(0:Int)])} {w with a_pad3:=a_21,c_pad3:=c_22} _ I H
  · replace I := I.pull1.dupR
    replace I:=I.pull1.drop1
    replace I:=I.pull3.pull3.pull2.pull3
    exact L2_r (c:= {c with v21:=(0:Int)}) (w:=w) I H k
theorem L1_r (I:I1 ρ c w A h) (H:L1 Q' c) (k:kt ρ A Q' Q):T1 (Tx.sha_State_Sum_L1 ρ Q) c w h:=by
  refine Lf.ind H (fun v=> ∀ (w:W) (h:Hp),I1 ρ v w A h→T1 (Tx.sha_State_Sum_L1 ρ Q) v w h) ?_ w h I
  rintro c S hS HB w h I
  refine Tx.sha_State_Sum_L1_in _ _ _ _ _ _ ?_
  try simp only [nrm_v]
  exact B1_r (c:=c) (w:=w) I HB (fun c w h I H=>hS _ H w h I) k
end sha_State_Sum
def sha_State_Sum (s0:sha_State) (Q:sha_State_Sum.QT):Prop:=
  sha_State_Sum.L1 Q {sha_State_Sum.v0 with s1:=s0,v2:=(Vector.replicate 32 (0:Int)),pad3:=[(128:Int)]}
theorem sha_State_Sum_r {s0:sha_State} {a_s0_1:Option Addr} {c_s0_1:Nat} {n_s0_1:Nat} {Q':sha_State_Sum.QT} {Q:sha_State_Sum.RT} (I:Inv h (roS (rI .u8) a_s0_1 n_s0_1 c_s0_1 s0.rest::A)) (H:sha_State_Sum s0 Q')
    (k:sha_State_Sum.kt ρ A Q' Q):Tx.sha_State_Sum ρ s0.h.toList ⟨a_s0_1,n_s0_1,c_s0_1⟩ s0.n h Q:=by
  obtain rfl:=ro_len I
  unfold Tx.sha_State_Sum
  unfold sha_State_Sum at H
  try simp only [nrm_v]
  refine al_r [.vec .u32 8 s0.h, .one (.slice a_s0_1 s0.rest.length c_s0_1), .one (.int .u64 s0.n)] rfl I fun p_2 h I=> ?_
  refine al_r [.vec .u8 32 (Vector.replicate 32 (0:Int))] rfl I fun p_4 h I=> ?_
  refine al_r [.one (.int .u8 (128:Int))] rfl I fun p_6 h I=> ?_
  replace I:=I.litN (rI .u8)
  replace I:=I.repI (k:= .u8) (128:Int)
  replace I:=I.pull1.pull1
  replace I:=I.litC
  replace I:=I.pull1.pull1
  replace I:=Inv.litL (l:=[(128:Int)]) I rfl rfl
  replace I:=I.pull3.dupR
  replace I:=I.pull1.drop1
  replace I:=I.pull1.pull2.pull2.pull3
  exact sha_State_Sum.L1_r (c:= {sha_State_Sum.v0 with s1:=s0,v2:=(Vector.replicate 32 (0:Int)),pad3:=[(128:Int)]}) (w:= {sha_State_Sum.w0 with p_s1:=p_2,a_s1_1:=a_s0_1,c_s1_1:=c_s0_1,p_v2:=p_4,a_pad3:=(some p_6),c_pad3:=1}) I H k
namespace sha_Sum
structure V where
  v2:Vector Int 32
  s3:sha_State
  v7:List (List Int)
  v8:Int
  v9:Int
structure W where
  p_v2:Addr
  p_s3:Addr
  a_s3_1:Option Addr
  c_s3_1:Nat
  a_v7:Option Addr
  c_v7:Nat
def v0:V:=⟨Vector.replicate 32 0,(⟨(Vector.replicate 8 (0:Int)),[],(0:Int)⟩:sha_State),[],0,0⟩
def w0:W:=⟨⟨0,0,none⟩,⟨0,0,none⟩,none,0,none,0⟩
abbrev QT:=(Vector Int 32)→Prop
abbrev RT:=List Int→Hp→Prop
def kt (ρ:Ids) (X_parts0:At) (A:List At) (Q':QT) (Q:RT):Prop:=
  ∀ (r0:Vector Int 32) (h':Hp),Inv h' (X_parts0::A)→Q' r0→Q r0.toList h'
def I1 (ρ:Ids) (X_parts0:At) (c:V) (w:W) (A:List At) (h:Hp):Prop:=
  Rd (rS (rI .u8)) X_parts0 w.a_v7 c.v7.length w.c_v7 c.v7∧Inv h (X_parts0::blk w.p_v2 (ρ.T 19) [.vec .u8 32 c.v2]::blk w.p_s3 (ρ.T 27) [.vec .u32 8 c.s3.h, .one (.slice w.a_s3_1 c.s3.rest.length w.c_s3_1), .one (.int .u64 c.s3.n)]::roS (rI .u8) w.a_s3_1 c.s3.rest.length w.c_s3_1 c.s3.rest::A)
abbrev Y1:=Addr→Addr→Sl→Int→Int→Hp→Prop
abbrev T1 (X_parts0:At) (S:Y1) (c:V) (w:W) (h:Hp):Prop:=S w.p_v2 w.p_s3 ⟨w.a_v7,c.v7.length,w.c_v7⟩ c.v8 c.v9 h
def k1t (ρ:Ids) (X_parts0:At) (A:List At) (S':V→Prop) (S:Y1):Prop:= ∀ (c:V) (w:W) (h:Hp),I1 ρ X_parts0 c w A h→S' c→T1 X_parts0 S c w h
variable {X_parts0:At} {c:V} {w:W} {Q':QT} {Q:RT} {S1':V→Prop} {S1:Y1}
def B1 (S1:V→Prop) (Q:QT) (c:V):Prop:=
  br (decide (c.v9<c.v8))
  (ixP c.v7 c.v9 fun x_15=>
  sha_State_Write c.s3 x_15 fun r_24=>
  S1 {c with s3:=r_24,v9:=(IntKind.wrap .i64 (c.v9+(1:Int)))})
  (sha_State_Sum c.s3 fun r_30=>
  Q r_30)
def L1 (Q:QT) (c:V):Prop:=Lf (fun S=>B1 S Q) c
theorem L1_in {Q:QT} {c:V} (H:B1 (L1 Q) Q c):L1 Q c:=Lf.fold H
theorem B1_r (I:I1 ρ X_parts0 c w A h) (H:B1 S1' Q' c) (kS1:k1t ρ X_parts0 A S1' S1) (k:kt ρ X_parts0 A Q' Q):T1 X_parts0 (Tx.sha_Sum_B1 ρ S1 Q) c w h:=by
  obtain ⟨hX_v7,I⟩:=I
  unfold T1 Tx.sha_Sum_B1
  unfold B1 at H
  refine br_r H (fun hb H=> ?_) (fun hb H=> ?_)
  · refine ixS_a hX_v7 I H fun p_16 a_20 c_21 x_15 he_17 hb_18 hc_19 I H => ?_
    refine ldS_r hc_19 ?_
    refine ldL_r (I.pull3.lump 0 0 rfl) ?_
    refine ldS_r (I.pull3.cell 1 8 rfl) ?_
    refine ldI_r (I.pull3.cell 2 9 rfl) ?_
    try simp only [nrm_v]
    replace I:=I.pull4.dupR
    replace I:=I.pull2.pull1
    try simp only [nrm_v]
    refine sha_State_Write_r (s0:=c.s3) (b1:=x_15) rd_ro I H fun r_24 a_25 c_26 h I H=> ?_
    refine stA_r I.pull5 0 3 0 [.vec .u32 8 r_24.h, .one (.slice a_25 r_24.rest.length c_26), .one (.int .u64 r_24.n)] rfl rfl rfl (by first | exact all_segs rfl | exact all_one (by simp [segs,Seg.cells,allOne,allOne_append,allOne_lump,Value.oneCell'])) fun h (I:Inv h (blk w.p_s3 (ρ.T 27) [.vec .u32 8 r_24.h, .one (.slice a_25 r_24.rest.length c_26), .one (.int .u64 r_24.n)]::_))=> ?_
    replace I:=I.pull1.dupR
    replace I:=I.pull1.drop1
    replace I:=I.pull2.drop1
    replace I:=I.pull2.drop1
    replace I:=I.pull1.pull3.pull3
    exact kS1 {c with s3:=r_24,v9:=(IntKind.wrap .i64 (c.v9+(1:Int)))} {w with a_s3_1:=a_25,c_s3_1:=c_26} _ ⟨hX_v7,I⟩ H
  · refine ldL_r (I.pull2.lump 0 0 rfl) ?_
    refine ldS_r (I.pull2.cell 1 8 rfl) ?_
    refine ldI_r (I.pull2.cell 2 9 rfl) ?_
    try simp only [nrm_v]
    replace I:=I.pull3.dupR
    try simp only [nrm_v]
    refine sha_State_Sum_r (s0:=c.s3) I H fun r_30 h I H=> ?_
    refine stA_r I.pull2 0 1 0 [.vec .u8 32 r_30] rfl rfl rfl (by first | exact all_segs rfl | exact all_one (by simp [segs,Seg.cells,allOne,allOne_append,allOne_lump,Value.oneCell'])) fun h (I:Inv h (blk w.p_v2 (ρ.T 19) [.vec .u8 32 r_30]::_))=> ?_
    refine ldL_r (I.lump 0 0 rfl) ?_
    try simp only [nrm_v]
    replace I:=I.drop1
    replace I:=I.drop1
    replace I:=I.pull1.drop1
    exact k r_30 _ I H
theorem L1_r (I:I1 ρ X_parts0 c w A h) (H:L1 Q' c) (k:kt ρ X_parts0 A Q' Q):T1 X_parts0 (Tx.sha_Sum_L1 ρ Q) c w h:=by
  refine Lf.ind H (fun v=> ∀ (w:W) (h:Hp),I1 ρ X_parts0 v w A h→T1 X_parts0 (Tx.sha_Sum_L1 ρ Q) v w h) ?_ w h I
  rintro c S hS HB w h I
  refine Tx.sha_Sum_L1_in _ _ _ _ _ _ _ _ ?_
  try simp only [nrm_v]
  exact B1_r (c:=c) (w:=w) I HB (fun c w h I H=>hS _ H w h I) k
end sha_Sum
def sha_Sum (parts0:List (List Int)) (Q:sha_Sum.QT):Prop:=
  sha_New fun r_4=>
  sha_Sum.L1 Q {sha_Sum.v0 with v2:=(Vector.replicate 32 (0:Int)),s3:=r_4,v7:=parts0,v8:=(parts0.length:Int),v9:=(0:Int)}
theorem sha_Sum_r {parts0:List (List Int)} {a_parts0:Option Addr} {c_parts0:Nat} {n_parts0:Nat} {X_parts0:At} {Q':sha_Sum.QT} {Q:sha_Sum.RT} (hX_parts0:Rd (rS (rI .u8)) X_parts0 a_parts0 n_parts0 c_parts0 parts0) (I:Inv h (X_parts0::A)) (H:sha_Sum parts0 Q')
    (k:sha_Sum.kt ρ X_parts0 A Q' Q):Tx.sha_Sum ρ ⟨a_parts0,n_parts0,c_parts0⟩ h Q:=by
  obtain rfl:=rd_len hX_parts0 I
  unfold Tx.sha_Sum
  unfold sha_Sum at H
  refine al_r [.vec .u8 32 (Vector.replicate 32 (0:Int))] rfl I fun p_2 h I=> ?_
  refine sha_New_r I H fun r_4 a_5 c_6 h I H=> ?_
  refine al_r [.vec .u32 8 (Vector.replicate 8 (0:Int)), .one (.slice none 0 0), .one (.int .u64 (0:Int))] rfl I fun p_8 h I=> ?_
  refine stA_r I 0 3 0 [.vec .u32 8 r_4.h, .one (.slice a_5 r_4.rest.length c_6), .one (.int .u64 r_4.n)] rfl rfl rfl (by first | exact all_segs rfl | exact all_one (by simp [segs,Seg.cells,allOne,allOne_append,allOne_lump,Value.oneCell'])) fun h (I:Inv h (blk p_8 (ρ.T 27) [.vec .u32 8 r_4.h, .one (.slice a_5 r_4.rest.length c_6), .one (.int .u64 r_4.n)]::_))=> ?_
  replace I:=I.pull1.dupR
  replace I:=I.pull1.drop1
  replace I:=I.pull1.pull2.pull3
  exact sha_Sum.L1_r (c:= {sha_Sum.v0 with v2:=(Vector.replicate 32 (0:Int)),s3:=r_4,v7:=parts0,v8:=(parts0.length:Int),v9:=(0:Int)}) (w:= {sha_Sum.w0 with p_v2:=p_2,p_s3:=p_8,a_s3_1:=a_5,c_s3_1:=c_6,a_v7:=a_parts0,c_v7:=c_parts0}) ⟨hX_parts0,I⟩ H k
namespace seal_Book_Digest
structure V where
  b0:Option Addr
  text1:List Int
  v4:Vector Int 32
  v14:Bool
structure W where
  a_text1:Option Addr
  c_text1:Nat
  p_v4:Addr
def v0:V:=⟨none,[],Vector.replicate 32 0,false⟩
def w0:W:=⟨none,0,⟨0,0,none⟩⟩
abbrev QT:=(Vector Int 32)→St Obj→Prop
abbrev RT:=List Int→Hp→Prop
def kt (ρ:Ids) (A:List At) (Q':QT) (Q:RT):Prop:=
  ∀ (r0:Vector Int 32) (h':Hp) (σ':St Obj),Inv h' (hpA (obA ρ) σ'::A)→Q' r0 σ'→Q r0.toList h'
def I1 (ρ:Ids) (c:V) (w:W) (σ:St Obj) (A:List At) (h:Hp):Prop:=
  Inv h (roS (rI .u8) w.a_text1 c.text1.length w.c_text1 c.text1::blk w.p_v4 (ρ.T 19) [.vec .u8 32 c.v4]::hpA (obA ρ) σ::A)
def I2 (ρ:Ids) (c:V) (w:W) (σ:St Obj) (A:List At) (h:Hp):Prop:=
  Inv h (roS (rI .u8) w.a_text1 c.text1.length w.c_text1 c.text1::blk w.p_v4 (ρ.T 19) [.vec .u8 32 c.v4]::hpA (obA ρ) σ::A)
variable {c:V} {w:W} {σ:St Obj} {Q':QT} {Q:RT}
def K2 (Q:QT) (c:V) (σ:St Obj):Prop:=
  sha_Sum ([c.text1]) fun r_52=>
  Q r_52 σ
theorem K2_r (I:I2 ρ c w σ A h) (H:K2 Q' c σ) (k:kt ρ A Q' Q):Tx.seal_Book_Digest_K2 ρ Q ⟨w.a_text1,c.text1.length,w.c_text1⟩ w.p_v4 h:=by
  unfold I2 at I
  unfold Tx.seal_Book_Digest_K2
  unfold K2 at H
  refine al_r [.one (.slice w.a_text1 c.text1.length w.c_text1)] rfl I fun p_46 h I=> ?_
  replace I:=I.litN (rS (rI .u8))
  replace I:=I.pull2.dupR
  replace I:=I.repSl
  replace I:=I.pull2.pull1
  replace I:=I.litC
  replace I:=I.pull2.pull1
  replace I:=Inv.litL (l:=[c.text1]) I rfl rfl
  refine sha_Sum_r (parts0:=[c.text1]) rd_own I H fun r_52 h I H=> ?_
  refine stA_r I.pull2 0 1 0 [.vec .u8 32 r_52] rfl rfl rfl (by first | exact all_segs rfl | exact all_one (by simp [segs,Seg.cells,allOne,allOne_append,allOne_lump,Value.oneCell'])) fun h (I:Inv h (blk w.p_v4 (ρ.T 19) [.vec .u8 32 r_52]::_))=> ?_
  refine ldL_r (I.lump 0 0 rfl) ?_
  try simp only [nrm_v]
  replace I:=I.drop1
  replace I:=I.drop1
  replace I:=I.drop1
  exact k r_52 _ σ I H
def K1 (Q:QT) (c:V) (σ:St Obj):Prop:=
  br c.v14
  (nilW c.b0 fun p_20=>
  at_seal_Book σ p_20 fun x_22=>
  bytes_Clone c.text1 fun r_28=>
  (Bnd (x_22.texts.length+([r_28]).length))∧
  K2 Q c (sset σ p_20 (.seal_Book (⟨(x_22.texts++[r_28])⟩:seal_Book))))
  (K2 Q c σ)
theorem K1_r (I:I1 ρ c w σ A h) (H:K1 Q' c σ) (k:kt ρ A Q' Q):Tx.seal_Book_Digest_K1 ρ Q c.b0 ⟨w.a_text1,c.text1.length,w.c_text1⟩ w.p_v4 c.v14 h:=by
  unfold I1 at I
  unfold Tx.seal_Book_Digest_K1
  unfold K1 at H
  refine br_r H (fun hb H=> ?_) (fun hb H=> ?_)
  · refine nil_r H fun p_20 hp_21 H => ?_
    obtain ⟨x_22,hx_23,H⟩:=H
    obtain ⟨a1_24,c1_25,I⟩:=op_seal_Book (I.pull2.take hx_23)
    refine ldS_r (I.cell 0 0 rfl) ?_
    replace I:=I.pull3
    refine bytes_Clone_r (s0:=c.text1) rd_ro I H fun r_28 a_29 c_30 h I H=> ?_
    refine ⟨I.pull2.cell 0 0 rfl, ?_⟩
    refine al_r [.one (.slice a_29 r_28.length c_30)] rfl I fun p_32 h I=> ?_
    replace I:=I.litN (rS (rI .u8))
    replace I:=I.pull2.freeze
    replace I:=I.dupR
    replace I:=I.repSl
    replace I:=I.pull2.pull1
    replace I:=I.litC
    replace I:=I.pull2.pull1
    replace I:=Inv.litL (l:=[r_28]) I rfl rfl
    refine ⟨I.pull3.cell 0 0 rfl, ?_⟩
    refine ap_r rd_own I.pull4 rfl (by decide) (by decide) H.1 fun a_38 c_39 h I=> ?_
    replace H:=H.2
    replace I:=I.pull1.drop1
    refine nil_e hp_21 ?_
    refine st_r I.pull3 0 0 rfl fun h (I:Inv h (blk p_20 (ρ.T 39) [.one (.slice a_38 (x_22.texts++[r_28]).length c_39)]::_))=> ?_
    replace I:=I.pull4.pull2.pull2
    replace I:=(cl_seal_Book (⟨(x_22.texts++[r_28])⟩:seal_Book) I).putB
    replace I:=I.pull2.dupR
    replace I:=I.pull1.drop1
    replace I:=I.pull2.drop1
    replace I:=I.pull1.pull2.pull2
    exact K2_r (c:=c) (w:=w) I H k
  · replace I := I.dupR
    replace I:=I.pull1.drop1
    replace I:=I.pull2.pull2.pull2
    exact K2_r (c:=c) (w:=w) I H k
end seal_Book_Digest
def seal_Book_Digest (b0:Option Addr) (text1:List Int) (σ:St Obj) (Q:seal_Book_Digest.QT):Prop:=
  br (!(Option.isNone b0))
  (nilW b0 fun p_5=>
  at_seal_Book σ p_5 fun x_7=>
  ∀ v_13:Bool,v_13=(decide ((x_7.texts.length:Int)<(100000:Int)))→
  seal_Book_Digest.K1 Q {seal_Book_Digest.v0 with b0:=b0,text1:=text1,v4:=(Vector.replicate 32 (0:Int)),v14:=v_13} σ)
  (seal_Book_Digest.K1 Q {seal_Book_Digest.v0 with b0:=b0,text1:=text1,v4:=(Vector.replicate 32 (0:Int)),v14:=false} σ)
theorem seal_Book_Digest_r {b0:Option Addr} {text1:List Int} {a_text1:Option Addr} {c_text1:Nat} {n_text1:Nat} {σ:St Obj} {Q':seal_Book_Digest.QT} {Q:seal_Book_Digest.RT} (I:Inv h (roS (rI .u8) a_text1 n_text1 c_text1 text1::hpA (obA ρ) σ::A)) (H:seal_Book_Digest b0 text1 σ Q')
    (k:seal_Book_Digest.kt ρ A Q' Q):Tx.seal_Book_Digest ρ b0 ⟨a_text1,n_text1,c_text1⟩ h Q:=by
  obtain rfl:=ro_len I
  unfold Tx.seal_Book_Digest
  unfold seal_Book_Digest at H
  refine al_r [.vec .u8 32 (Vector.replicate 32 (0:Int))] rfl I fun p_3 h I=> ?_
  refine br_r H (fun hb H=> ?_) (fun hb H=> ?_)
  · refine nil_r H fun p_5 hp_6 H => ?_
    obtain ⟨x_7,hx_8,H⟩:=H
    obtain ⟨a1_9,c1_10,I⟩:=op_seal_Book (I.pull2.take hx_8)
    refine ldS_r (I.cell 0 0 rfl) ?_
    apply withB (decide ((x_7.texts.length:Int)<(100000:Int)))
    intro v_13 hv_14
    try dsimp only
    rw [← hv_14]
    replace H:=H v_13 hv_14
    replace I:=I.pull2.pull2.pull2
    replace I:=(cl_seal_Book x_7 I).putS hx_8
    replace I:=I.pull2.dupR
    replace I:=I.pull1.drop1
    replace I:=I.pull1.pull2.pull2
    exact seal_Book_Digest.K1_r (c:= {seal_Book_Digest.v0 with b0:=b0,text1:=text1,v4:=(Vector.replicate 32 (0:Int)),v14:=v_13}) (w:= {seal_Book_Digest.w0 with a_text1:=a_text1,c_text1:=c_text1,p_v4:=p_3}) I H k
  · replace I := I.pull1.dupR
    replace I:=I.pull1.drop1
    replace I:=I.pull2.pull2.pull2
    exact seal_Book_Digest.K1_r (c:= {seal_Book_Digest.v0 with b0:=b0,text1:=text1,v4:=(Vector.replicate 32 (0:Int)),v14:=false}) (w:= {seal_Book_Digest.w0 with a_text1:=a_text1,c_text1:=c_text1,p_v4:=p_3}) I H k
namespace seal_Hide
structure V where
  b0:Option Addr
  epoch2:Int
  place3:Int
  v13:seal_Ref
  x15:List Int
  v31:Bool
structure W where
  p_v13:Addr
  a_x15:Option Addr
  c_x15:Nat
def v0:V:=⟨none,0,0,(⟨(0:Int),(0:Int),(Vector.replicate 32 (0:Int))⟩:seal_Ref),[],false⟩
def w0:W:=⟨⟨0,0,none⟩,none,0⟩
abbrev QT:=(List Int)→seal_Ref→Int→St Obj→Prop
abbrev RT:=Sl→Int→Int→List Int→Int→Hp→Prop
def kt (ρ:Ids) (X_page5:At) (A:List At) (Q':QT) (Q:RT):Prop:=
  ∀ (r0:List Int) (ra0:Option Addr) (rc0:Nat) (r1:seal_Ref) (r2:Int) (h':Hp) (σ':St Obj),Inv h' (roS (rI .u8) ra0 r0.length rc0 r0::X_page5::hpA (obA ρ) σ'::A)→Q' r0 r1 r2 σ'→Q ⟨ra0,r0.length,rc0⟩ r1.Place r1.Epoch r1.Digest.toList r2 h'
def I1 (ρ:Ids) (X_page5:At) (c:V) (w:W) (σ:St Obj) (A:List At) (h:Hp):Prop:=
  Inv h (X_page5::blk w.p_v13 (ρ.T 16) [.one (.int .i64 c.v13.Place), .one (.int .u32 c.v13.Epoch), .vec .u8 32 c.v13.Digest]::ownS (rI .u8) w.a_x15 c.x15.length w.c_x15 c.x15::hpA (obA ρ) σ::A)
variable {X_page5:At} {c:V} {w:W} {σ:St Obj} {Q':QT} {Q:RT}
def K1 (Q:QT) (c:V) (σ:St Obj):Prop:=
  br c.v31
  (Q ([]:List Int) (⟨(0:Int),(0:Int),(Vector.replicate 32 (0:Int))⟩:seal_Ref) (1:Int) σ)
  (seal_Book_Digest c.b0 c.x15 σ fun r_19 σ_20=>
  Q c.x15 (⟨c.place3,c.epoch2,r_19⟩:seal_Ref) (0:Int) σ_20)
theorem K1_r (I:I1 ρ X_page5 c w σ A h) (H:K1 Q' c σ) (k:kt ρ X_page5 A Q' Q):Tx.seal_Hide_K1 ρ Q c.b0 c.epoch2 c.place3 w.p_v13 ⟨w.a_x15,c.x15.length,w.c_x15⟩ c.v31 h:=by
  unfold I1 at I
  unfold Tx.seal_Hide_K1
  unfold K1 at H
  refine br_r H (fun hb H=> ?_) (fun hb H=> ?_)
  · refine stA_r I.pull1 0 3 0 [.one (.int .i64 (0 : Int)), .one (.int .u32 (0 : Int)), .vec .u8 32 (Vector.replicate 32 (0 : Int))] rfl rfl rfl (by first | exact all_segs rfl | exact all_one (by simp [segs, Seg.cells, allOne, allOne_append, allOne_lump, Value.oneCell'])) fun h (I : Inv h (blk w.p_v13 (ρ.T 16) [.one (.int .i64 (0 : Int)), .one (.int .u32 (0 : Int)), .vec .u8 32 (Vector.replicate 32 (0 : Int))] :: _)) => ?_
    refine ldI_r (I.cell 0 0 rfl) ?_
    refine ldI_r (I.cell 1 1 rfl) ?_
    refine ldL_r (I.lump 2 2 rfl) ?_
    try simp only [nrm_v]
    replace I:=I.nilR (rI .u8)
    replace I:=I.pull1.drop1
    replace I:=I.pull2.drop1
    replace I:=I.pull2.pull2.pull2
    exact k ([]:List Int) none 0 (⟨(0:Int),(0:Int),(Vector.replicate 32 (0:Int))⟩:seal_Ref) (1:Int) _ σ I H
  · replace I := I.pull2.freeze
    replace I:=I.dupR
    replace I:=I.pull4.pull1
    refine seal_Book_Digest_r (b0:=c.b0) (text1:=c.x15) (σ:=σ) I H fun r_19 h σ_20 I H=> ?_
    refine stA_r I.pull3 0 3 0 [.one (.int .i64 c.place3), .one (.int .u32 c.epoch2), .vec .u8 32 r_19] rfl rfl rfl (by first | exact all_segs rfl | exact all_one (by simp [segs,Seg.cells,allOne,allOne_append,allOne_lump,Value.oneCell'])) fun h (I:Inv h (blk w.p_v13 (ρ.T 16) [.one (.int .i64 c.place3), .one (.int .u32 c.epoch2), .vec .u8 32 r_19]::_))=> ?_
    refine ldI_r (I.cell 0 0 rfl) ?_
    refine ldI_r (I.cell 1 1 rfl) ?_
    refine ldL_r (I.lump 2 2 rfl) ?_
    try simp only [nrm_v]
    replace I:=I.pull2.dupR
    replace I:=I.pull1.drop1
    replace I:=I.pull1.drop1
    replace I:=I.pull1.pull2.pull2
    exact k c.x15 w.a_x15 w.c_x15 (⟨c.place3,c.epoch2,r_19⟩:seal_Ref) (0:Int) _ σ_20 I H
end seal_Hide
def seal_Hide (b0:Option Addr) (key1:Vector Int 32) (epoch2:Int) (place3:Int) (block4:Int) (page5:List Int) (σ:St Obj) (Q:seal_Hide.QT):Prop:=
  seal_Seal key1 epoch2 block4 page5 fun r_7 r_10=>
  br (r_10 !=(0:Int))
  (seal_Hide.K1 Q {seal_Hide.v0 with b0:=b0,epoch2:=epoch2,place3:=place3,v13:=(⟨(0:Int),(0:Int),(Vector.replicate 32 (0:Int))⟩:seal_Ref),x15:=r_7,v31:=true} σ)
  (seal_isPlace place3 fun r_12=>
  seal_Hide.K1 Q {seal_Hide.v0 with b0:=b0,epoch2:=epoch2,place3:=place3,v13:=(⟨(0:Int),(0:Int),(Vector.replicate 32 (0:Int))⟩:seal_Ref),x15:=r_7,v31:=(!r_12)} σ)
theorem seal_Hide_r {b0:Option Addr} {key1:Vector Int 32} {epoch2:Int} {place3:Int} {block4:Int} {page5:List Int} {a_page5:Option Addr} {c_page5:Nat} {n_page5:Nat} {X_page5:At} {σ:St Obj} {Q':seal_Hide.QT} {Q:seal_Hide.RT} (hX_page5:Rd (rI .u8) X_page5 a_page5 n_page5 c_page5 page5) (I:Inv h (X_page5::hpA (obA ρ) σ::A)) (H:seal_Hide b0 key1 epoch2 place3 block4 page5 σ Q')
    (k:seal_Hide.kt ρ X_page5 A Q' Q):Tx.seal_Hide ρ b0 key1.toList epoch2 place3 block4 ⟨a_page5,n_page5,c_page5⟩ h Q:=by
  obtain rfl:=rd_len hX_page5 I
  unfold Tx.seal_Hide
  unfold seal_Hide at H
  try simp only [nrm_v]
  refine al_r [.vec .u8 32 key1] rfl I fun p_3 h I=> ?_
  refine al_r [.one (.int .i64 (0:Int)), .one (.int .u32 (0:Int)), .vec .u8 32 (Vector.replicate 32 (0:Int))] rfl I fun p_5 h I=> ?_
  refine ldL_r (I.pull1.lump 0 0 rfl) ?_
  try simp only [nrm_v]
  replace I:=I.pull2
  try simp only [nrm_v]
  refine seal_Seal_r (key0:=key1) (epoch1:=epoch2) (block2:=block4) (page3:=page5) hX_page5 I H fun r_7 a_8 c_9 r_10 h I H=> ?_
  refine br_r H (fun hb H=> ?_) (fun hb H=> ?_)
  · replace I := I.pull3.drop1
    replace I:=I.pull3.pull1.pull3.pull3
    exact seal_Hide.K1_r (c:= {seal_Hide.v0 with b0:=b0,epoch2:=epoch2,place3:=place3,v13:=(⟨(0:Int),(0:Int),(Vector.replicate 32 (0:Int))⟩:seal_Ref),x15:=r_7,v31:=true}) (w:= {seal_Hide.w0 with p_v13:=p_5,a_x15:=a_8,c_x15:=c_9}) I H k
  · refine seal_isPlace_r (n0 := place3) I H fun r_12 h I H => ?_
    replace I:=I.pull3.drop1
    replace I:=I.pull3.pull1.pull3.pull3
    exact seal_Hide.K1_r (c:= {seal_Hide.v0 with b0:=b0,epoch2:=epoch2,place3:=place3,v13:=(⟨(0:Int),(0:Int),(Vector.replicate 32 (0:Int))⟩:seal_Ref),x15:=r_7,v31:=(!r_12)}) (w:= {seal_Hide.w0 with p_v13:=p_5,a_x15:=a_8,c_x15:=c_9}) I H k
def commit_planner_hide (p0:Option Addr) (item1:Int) (page2:List Int) (σ:St Obj) (Q:St Obj→Prop):Prop:=
  nilW p0 fun p_3=>
  at_commit_planner σ p_3 fun x_5=>
  shape_Shape_Parent x_5.shape item1 fun r_19 r_20 r_21=>
  br r_21
  (lkOP x_5.nodes r_19 fun y_22=>
  ixP y_22 r_20 fun x_29=>
  shape_Shape_Block x_5.shape item1 (IntKind.wrap .i64 ((1:Int) - x_29.Place)) fun r_39=>
  (seal_Hide x_5.book x_5.key x_5.epoch (IntKind.wrap .i64 ((1:Int) - x_29.Place)) r_39 page2 (sdel σ p_3) fun r_40 r_43 r_44 σ_46=>
  (Bnd (x_5.puts.length+([(⟨r_39,r_40⟩:tree_Put)]).length))∧
  ∀ _:σ_46 p_3=none,
  Q (sset σ_46 p_3 (.commit_planner (⟨x_5.book,x_5.key,x_5.epoch,x_5.shape,x_5.root,(x_5.nodes.map (Pu.upd · r_19 (y_22.set (Int.toNat r_20) r_43))),(x_5.puts++[(⟨r_39,r_40⟩:tree_Put)])⟩:commit_planner))))∧
  (seal_Hide x_5.book x_5.key x_5.epoch (IntKind.wrap .i64 ((1:Int) - x_29.Place)) r_39 page2 (sdel σ p_3) fun r_63 r_66 r_67 σ_69=>
  (Bnd (x_5.puts.length+([(⟨r_39,r_63⟩:tree_Put)]).length))∧
  ∀ _:σ_69 p_3=none,
  Q (sset σ_69 p_3 (.commit_planner (⟨x_5.book,x_5.key,x_5.epoch,x_5.shape,x_5.root,(x_5.nodes.map (Pu.upd · r_19 (y_22.set (Int.toNat r_20) r_66))),(x_5.puts++[(⟨r_39,r_63⟩:tree_Put)])⟩:commit_planner)))))
  (shape_Shape_Block x_5.shape item1 (IntKind.wrap .i64 ((1:Int) - x_5.root.Place)) fun r_84=>
  (seal_Hide x_5.book x_5.key x_5.epoch (IntKind.wrap .i64 ((1:Int) - x_5.root.Place)) r_84 page2 σ fun r_86 r_89 r_90 σ_92=>
  at_commit_planner σ_92 p_3 fun x_95=>
  (Bnd (x_95.puts.length+([(⟨r_84,r_86⟩:tree_Put)]).length))∧
  Q (sset σ_92 p_3 (.commit_planner (⟨x_95.book,x_95.key,x_95.epoch,x_95.shape,r_89,x_95.nodes,(x_95.puts++[(⟨r_84,r_86⟩:tree_Put)])⟩:commit_planner))))∧
  (seal_Hide x_5.book x_5.key x_5.epoch (IntKind.wrap .i64 ((1:Int) - x_5.root.Place)) r_84 page2 σ fun r_120 r_123 r_124 σ_126=>
  at_commit_planner σ_126 p_3 fun x_127=>
  (Bnd (x_127.puts.length+([(⟨r_84,r_120⟩:tree_Put)]).length))∧
  Q (sset σ_126 p_3 (.commit_planner (⟨x_127.book,x_127.key,x_127.epoch,x_127.shape,r_123,x_127.nodes,(x_127.puts++[(⟨r_84,r_120⟩:tree_Put)])⟩:commit_planner)))))
theorem commit_planner_hide_r {p0:Option Addr} {item1:Int} {page2:List Int} {a_page2:Option Addr} {c_page2:Nat} {n_page2:Nat} {X_page2:At} {σ:St Obj} {Q':St Obj→Prop} {Q:Hp→Prop} (hX_page2:Rd (rI .u8) X_page2 a_page2 n_page2 c_page2 page2) (I:Inv h (X_page2::hpA (obA ρ) σ::A)) (H:commit_planner_hide p0 item1 page2 σ Q')
    (k: ∀ (h':Hp) (σ':St Obj),Inv h' (X_page2::hpA (obA ρ) σ'::A)→Q' σ'→Q h'):Tx.commit_planner_hide ρ p0 item1 ⟨a_page2,n_page2,c_page2⟩ h Q:=by
  obtain rfl:=rd_len hX_page2 I
  unfold Tx.commit_planner_hide
  unfold commit_planner_hide at H
  refine nil_r H fun p_3 hp_4 H=> ?_
  refine nil_e hp_4 ?_
  obtain ⟨x_5,hx_6,H⟩:=H
  obtain ⟨a4_7,c4_8,m8_9,o8_10,a9_11,c9_12,I⟩:=op_commit_planner (I.pull1.take hx_6)
  refine ldS_r (I.cell 3 34 rfl) ?_
  replace I:=I.pull1.dupR
  replace I:=I.dupR
  try simp only [nrm_v]
  refine shape_Shape_Parent_r (s0:=x_5.shape) (item1:=item1) I H fun r_19 r_20 r_21 h I H=> ?_
  refine br_r H (fun hb H=> ?_) (fun hb H=> ?_)
  · refine nil_e hp_4 ?_
    refine ldM_r (I.pull2.cell 7 69 rfl) ?_
    refine lkO_r (Kx:=(kI .i64)) (key:=r_19) I.pull3 H fun f_25 a_26 c_27 y_22 hf_24 I H=> ?_
    refine ixseal_Ref rd_own I (ixP_keep H) fun p_30 x_29 he_31 hb_32 hc_33 hc_34 hc_35 I H=> ?_
    obtain ⟨hg_36,H⟩:=H
    unfold Tx.commit_planner_hide_K2
    refine nil_e hp_4 ?_
    refine ldS_r (I.pull4.cell 3 34 rfl) ?_
    replace I:=I.pull3.dupR
    refine ldI_r hc_33 ?_
    replace I:=I.dupR
    try simp only [nrm_v]
    refine shape_Shape_Block_r (s0:=x_5.shape) (item1:=item1) (place2:=(IntKind.wrap .i64 ((1:Int) - x_29.Place))) I H fun r_39 h I H=> ?_
    refine nil_e hp_4 ?_
    refine ldP_r (I.pull5.cell 0 0 rfl) ?_
    refine nil_e hp_4 ?_
    refine ldL_r (I.pull5.lump 1 1 rfl) ?_
    try simp only [nrm_v]
    refine nil_e hp_4 ?_
    refine ldI_r (I.pull5.cell 2 33 rfl) ?_
    refine ldI_r (elseal_Ref rd_own I.pull2 he_31 hb_32 hg_36).1 ?_
    refine and2_r H (fun H=> ?_) (fun H=> ?_)
    · replace I := I.pull7.pull8
      try simp only [nrm_v]
      refine seal_Hide_r (b0:=x_5.book) (key1:=x_5.key) (epoch2:=x_5.epoch) (place3:=(IntKind.wrap .i64 ((1:Int) - x_29.Place))) (block4:=r_39) (page5:=page2) (σ:=(sdel σ p_3)) hX_page2 I H fun r_40 a_41 c_42 r_43 r_44 h σ_46 I H=> ?_
      refine al_r [.one (.int .i64 (0:Int)), .one (.int .u32 (0:Int)), .vec .u8 32 (Vector.replicate 32 (0:Int))] rfl I fun p_47 h I=> ?_
      unfold Tx.commit_planner_hide_K3
      refine stA_r I 0 3 0 [.one (.int .i64 r_43.Place), .one (.int .u32 r_43.Epoch), .vec .u8 32 r_43.Digest] rfl rfl rfl (by first | exact all_segs rfl | exact all_one (by simp [segs,Seg.cells,allOne,allOne_append,allOne_lump,Value.oneCell'])) fun h (I:Inv h (blk p_47 (ρ.T 16) [.one (.int .i64 r_43.Place), .one (.int .u32 r_43.Epoch), .vec .u8 32 r_43.Digest]::_))=> ?_
      unfold Tx.commit_planner_hide_K4
      unfold Tx.commit_planner_hide_K1
      refine nil_e hp_4 ?_
      refine ldS_r (I.pull9.cell 8 70 rfl) ?_
      refine al_r [.one (.int .i64 r_39), .one (.slice a_41 r_40.length c_42)] rfl I fun p_49 h I=> ?_
      replace I:=I.litN R_tree_Put
      replace I:=I.pull3.dupR
      replace I:=mtree_Put (⟨r_39,r_40⟩:tree_Put) I
      replace I:=I.pull2.pull1
      replace I:=I.litC
      replace I:=I.pull2.pull1
      replace I:=Inv.litL (l:=[(⟨r_39,r_40⟩:tree_Put)]) I rfl rfl
      refine ap_r rd_own I.pull11 rfl (by decide) (by decide) H.1 fun a_55 c_56 h I=> ?_
      replace H:=H.2
      replace I:=I.pull1.drop1
      refine nil_e hp_4 ?_
      refine st_r I.pull10 8 70 rfl fun h (I:Inv h (blk p_3 (ρ.T 20) [.one (.pointer x_5.book), .vec .u8 32 x_5.key, .one (.int .u32 x_5.epoch), .one (.slice a4_7 x_5.shape.begins.length c4_8), .one (.int .i64 x_5.root.Place), .one (.int .u32 x_5.root.Epoch), .vec .u8 32 x_5.root.Digest, .one (.map m8_9), .one (.slice a_55 (x_5.puts++[(⟨r_39,r_40⟩:tree_Put)]).length c_56)]::_))=> ?_
      refine ldI_r (I.pull3.cell 0 0 rfl) ?_
      refine ldI_r (I.pull3.cell 1 1 rfl) ?_
      refine ldL_r (I.pull3.lump 2 2 rfl) ?_
      try simp only [nrm_v]
      replace I:=mseal_Ref r_43 I
      replace I:=I.pull9.pull1
      refine stE_r (x:=r_43) I he_31 hb_32 fun h I=> ?_
      replace I:=I.pull8.dupR
      replace I:=I.pull10.pull3
      replace I:=I.fillH
      replace I:=I.pull8.pull5.pull2.pull3.pull5
      obtain ⟨e_60,I⟩:=(cl_commit_planner (⟨x_5.book,x_5.key,x_5.epoch,x_5.shape,x_5.root,(x_5.nodes.map (Pu.upd · r_19 (y_22.set (Int.toNat r_20) r_43))),(x_5.puts++[(⟨r_39,r_40⟩:tree_Put)])⟩:commit_planner) I).new
      replace H:=H e_60
      replace I:=I.pull1.drop1
      replace I:=I.pull1.drop1
      replace I:=I.pull1.drop1
      replace I:=I.pull2.drop1
      replace I:=I.pull2.drop1
      replace I:=I.pull1
      exact k _ (sset σ_46 p_3 (.commit_planner (⟨x_5.book,x_5.key,x_5.epoch,x_5.shape,x_5.root,(x_5.nodes.map (Pu.upd · r_19 (y_22.set (Int.toNat r_20) r_43))),(x_5.puts++[(⟨r_39,r_40⟩:tree_Put)])⟩:commit_planner))) I H
    · refine al_r [.one (.int .i64 (0 : Int)), .one (.int .u32 (0 : Int)), .vec .u8 32 (Vector.replicate 32 (0 : Int))] rfl I fun p_61 h I => ?_
      refine ⟨(elseal_Ref rd_own I.pull3 he_31 hb_32 hg_36).1, ?_⟩
      refine ⟨I.pull6.cell 2 33 rfl, ?_⟩
      refine ⟨⟨I.pull6.lump 1 1 rfl,trivial⟩, ?_⟩
      refine ⟨I.pull6.cell 0 0 rfl, ?_⟩
      replace I:=I.pull8.pull9
      try simp only [nrm_v]
      refine seal_Hide_r (b0:=x_5.book) (key1:=x_5.key) (epoch2:=x_5.epoch) (place3:=(IntKind.wrap .i64 ((1:Int) - x_29.Place))) (block4:=r_39) (page5:=page2) (σ:=(sdel σ p_3)) hX_page2 I H fun r_63 a_64 c_65 r_66 r_67 h σ_69 I H=> ?_
      refine stA_r I.pull3 0 3 0 [.one (.int .i64 r_66.Place), .one (.int .u32 r_66.Epoch), .vec .u8 32 r_66.Digest] rfl rfl rfl (by first | exact all_segs rfl | exact all_one (by simp [segs,Seg.cells,allOne,allOne_append,allOne_lump,Value.oneCell'])) fun h (I:Inv h (blk p_61 (ρ.T 16) [.one (.int .i64 r_66.Place), .one (.int .u32 r_66.Epoch), .vec .u8 32 r_66.Digest]::_))=> ?_
      unfold Tx.commit_planner_hide_K4
      unfold Tx.commit_planner_hide_K1
      refine nil_e hp_4 ?_
      refine ldS_r (I.pull9.cell 8 70 rfl) ?_
      refine al_r [.one (.int .i64 r_39), .one (.slice a_64 r_63.length c_65)] rfl I fun p_70 h I=> ?_
      replace I:=I.litN R_tree_Put
      replace I:=I.pull3.dupR
      replace I:=mtree_Put (⟨r_39,r_63⟩:tree_Put) I
      replace I:=I.pull2.pull1
      replace I:=I.litC
      replace I:=I.pull2.pull1
      replace I:=Inv.litL (l:=[(⟨r_39,r_63⟩:tree_Put)]) I rfl rfl
      refine ap_r rd_own I.pull11 rfl (by decide) (by decide) H.1 fun a_76 c_77 h I=> ?_
      replace H:=H.2
      replace I:=I.pull1.drop1
      refine nil_e hp_4 ?_
      refine st_r I.pull10 8 70 rfl fun h (I:Inv h (blk p_3 (ρ.T 20) [.one (.pointer x_5.book), .vec .u8 32 x_5.key, .one (.int .u32 x_5.epoch), .one (.slice a4_7 x_5.shape.begins.length c4_8), .one (.int .i64 x_5.root.Place), .one (.int .u32 x_5.root.Epoch), .vec .u8 32 x_5.root.Digest, .one (.map m8_9), .one (.slice a_76 (x_5.puts++[(⟨r_39,r_63⟩:tree_Put)]).length c_77)]::_))=> ?_
      refine ldI_r (I.pull3.cell 0 0 rfl) ?_
      refine ldI_r (I.pull3.cell 1 1 rfl) ?_
      refine ldL_r (I.pull3.lump 2 2 rfl) ?_
      try simp only [nrm_v]
      replace I:=mseal_Ref r_66 I
      replace I:=I.pull9.pull1
      refine stE_r (x:=r_66) I he_31 hb_32 fun h I=> ?_
      replace I:=I.pull8.dupR
      replace I:=I.pull10.pull3
      replace I:=I.fillH
      replace I:=I.pull8.pull5.pull2.pull3.pull5
      obtain ⟨e_81,I⟩:=(cl_commit_planner (⟨x_5.book,x_5.key,x_5.epoch,x_5.shape,x_5.root,(x_5.nodes.map (Pu.upd · r_19 (y_22.set (Int.toNat r_20) r_66))),(x_5.puts++[(⟨r_39,r_63⟩:tree_Put)])⟩:commit_planner) I).new
      replace H:=H e_81
      replace I:=I.pull1.drop1
      replace I:=I.pull1.drop1
      replace I:=I.pull1.drop1
      replace I:=I.pull2.drop1
      replace I:=I.pull2.drop1
      replace I:=I.pull1
      exact k _ (sset σ_69 p_3 (.commit_planner (⟨x_5.book,x_5.key,x_5.epoch,x_5.shape,x_5.root,(x_5.nodes.map (Pu.upd · r_19 (y_22.set (Int.toNat r_20) r_66))),(x_5.puts++[(⟨r_39,r_63⟩:tree_Put)])⟩:commit_planner))) I H
  · unfold Tx.commit_planner_hide_K2
    refine nil_e hp_4 ?_
    refine ldS_r (I.pull2.cell 3 34 rfl) ?_
    replace I:=I.pull1.dupR
    refine ldI_r (I.pull3.cell 4 35 rfl) ?_
    replace I:=I.dupR
    try simp only [nrm_v]
    refine shape_Shape_Block_r (s0:=x_5.shape) (item1:=item1) (place2:=(IntKind.wrap .i64 ((1:Int) - x_5.root.Place))) I H fun r_84 h I H=> ?_
    refine nil_e hp_4 ?_
    refine ldP_r (I.pull3.cell 0 0 rfl) ?_
    refine nil_e hp_4 ?_
    refine ldL_r (I.pull3.lump 1 1 rfl) ?_
    try simp only [nrm_v]
    refine nil_e hp_4 ?_
    refine ldI_r (I.pull3.cell 2 33 rfl) ?_
    refine ldI_r (I.pull3.cell 4 35 rfl) ?_
    refine and2_r H (fun H=> ?_) (fun H=> ?_)
    · replace I := I.pull1.dupR
      replace I:=I.pull7.pull7.pull7.pull3.pull7
      replace I:=(cl_commit_planner x_5 I).putS hx_6
      replace I:=I.pull4
      try simp only [nrm_v]
      refine seal_Hide_r (b0:=x_5.book) (key1:=x_5.key) (epoch2:=x_5.epoch) (place3:=(IntKind.wrap .i64 ((1:Int) - x_5.root.Place))) (block4:=r_84) (page5:=page2) (σ:=σ) hX_page2 I H fun r_86 a_87 c_88 r_89 r_90 h σ_92 I H=> ?_
      refine al_r [.one (.int .i64 (0:Int)), .one (.int .u32 (0:Int)), .vec .u8 32 (Vector.replicate 32 (0:Int))] rfl I fun p_93 h I=> ?_
      unfold Tx.commit_planner_hide_K3
      refine stA_r I 0 3 0 [.one (.int .i64 r_89.Place), .one (.int .u32 r_89.Epoch), .vec .u8 32 r_89.Digest] rfl rfl rfl (by first | exact all_segs rfl | exact all_one (by simp [segs,Seg.cells,allOne,allOne_append,allOne_lump,Value.oneCell'])) fun h (I:Inv h (blk p_93 (ρ.T 16) [.one (.int .i64 r_89.Place), .one (.int .u32 r_89.Epoch), .vec .u8 32 r_89.Digest]::_))=> ?_
      unfold Tx.commit_planner_hide_K4
      unfold Tx.commit_planner_hide_K1
      refine nil_e hp_4 ?_
      obtain ⟨x_95,hx_96,H⟩:=H
      obtain ⟨a4_97,c4_98,m8_99,o8_100,a9_101,c9_102,I⟩:=op_commit_planner (I.pull3.take hx_96)
      refine ldS_r (I.cell 8 70 rfl) ?_
      refine al_r [.one (.int .i64 r_84), .one (.slice a_87 r_86.length c_88)] rfl I fun p_107 h I=> ?_
      replace I:=I.litN R_tree_Put
      replace I:=I.pull8.dupR
      replace I:=mtree_Put (⟨r_84,r_86⟩:tree_Put) I
      replace I:=I.pull2.pull1
      replace I:=I.litC
      replace I:=I.pull2.pull1
      replace I:=Inv.litL (l:=[(⟨r_84,r_86⟩:tree_Put)]) I rfl rfl
      refine ap_r rd_own I.pull5 rfl (by decide) (by decide) H.1 fun a_113 c_114 h I=> ?_
      replace H:=H.2
      replace I:=I.pull1.drop1
      refine nil_e hp_4 ?_
      refine st_r I.pull2 8 70 rfl fun h (I:Inv h (blk p_3 (ρ.T 20) [.one (.pointer x_95.book), .vec .u8 32 x_95.key, .one (.int .u32 x_95.epoch), .one (.slice a4_97 x_95.shape.begins.length c4_98), .one (.int .i64 x_95.root.Place), .one (.int .u32 x_95.root.Epoch), .vec .u8 32 x_95.root.Digest, .one (.map m8_99), .one (.slice a_113 (x_95.puts++[(⟨r_84,r_86⟩:tree_Put)]).length c_114)]::_))=> ?_
      refine ldI_r (I.pull6.cell 0 0 rfl) ?_
      refine ldI_r (I.pull6.cell 1 1 rfl) ?_
      refine ldL_r (I.pull6.lump 2 2 rfl) ?_
      try simp only [nrm_v]
      refine stA_r I 4 3 35 [.one (.int .i64 r_89.Place), .one (.int .u32 r_89.Epoch), .vec .u8 32 r_89.Digest] rfl rfl rfl (by first | exact all_segs rfl | exact all_one (by simp [segs,Seg.cells,allOne,allOne_append,allOne_lump,Value.oneCell'])) fun h (I:Inv h (blk p_3 (ρ.T 20) [.one (.pointer x_95.book), .vec .u8 32 x_95.key, .one (.int .u32 x_95.epoch), .one (.slice a4_97 x_95.shape.begins.length c4_98), .one (.int .i64 r_89.Place), .one (.int .u32 r_89.Epoch), .vec .u8 32 r_89.Digest, .one (.map m8_99), .one (.slice a_113 (x_95.puts++[(⟨r_84,r_86⟩:tree_Put)]).length c_114)]::_))=> ?_
      replace I:=I.pull3.dupR
      replace I:=I.pull6.pull4.pull6.pull3.pull5
      replace I:=(cl_commit_planner (⟨x_95.book,x_95.key,x_95.epoch,x_95.shape,r_89,x_95.nodes,(x_95.puts++[(⟨r_84,r_86⟩:tree_Put)])⟩:commit_planner) I).putB
      replace I:=I.pull1.drop1
      replace I:=I.pull1.drop1
      replace I:=I.pull1.drop1
      replace I:=I.pull2.drop1
      replace I:=I.pull2.drop1
      replace I:=I.pull2.drop1
      replace I:=I.pull1
      exact k _ (sset σ_92 p_3 (.commit_planner (⟨x_95.book,x_95.key,x_95.epoch,x_95.shape,r_89,x_95.nodes,(x_95.puts++[(⟨r_84,r_86⟩:tree_Put)])⟩:commit_planner))) I H
    · refine al_r [.one (.int .i64 (0 : Int)), .one (.int .u32 (0 : Int)), .vec .u8 32 (Vector.replicate 32 (0 : Int))] rfl I fun p_117 h I => ?_
      refine ⟨I.pull4.cell 4 35 rfl, ?_⟩
      refine ⟨I.pull4.cell 2 33 rfl, ?_⟩
      refine ⟨⟨I.pull4.lump 1 1 rfl,trivial⟩, ?_⟩
      refine ⟨I.pull4.cell 0 0 rfl, ?_⟩
      replace I:=I.pull2.dupR
      replace I:=I.pull8.pull8.pull8.pull3.pull8
      replace I:=(cl_commit_planner x_5 I).putS hx_6
      replace I:=I.pull5
      try simp only [nrm_v]
      refine seal_Hide_r (b0:=x_5.book) (key1:=x_5.key) (epoch2:=x_5.epoch) (place3:=(IntKind.wrap .i64 ((1:Int) - x_5.root.Place))) (block4:=r_84) (page5:=page2) (σ:=σ) hX_page2 I H fun r_120 a_121 c_122 r_123 r_124 h σ_126 I H=> ?_
      refine stA_r I.pull4 0 3 0 [.one (.int .i64 r_123.Place), .one (.int .u32 r_123.Epoch), .vec .u8 32 r_123.Digest] rfl rfl rfl (by first | exact all_segs rfl | exact all_one (by simp [segs,Seg.cells,allOne,allOne_append,allOne_lump,Value.oneCell'])) fun h (I:Inv h (blk p_117 (ρ.T 16) [.one (.int .i64 r_123.Place), .one (.int .u32 r_123.Epoch), .vec .u8 32 r_123.Digest]::_))=> ?_
      unfold Tx.commit_planner_hide_K4
      unfold Tx.commit_planner_hide_K1
      refine nil_e hp_4 ?_
      obtain ⟨x_127,hx_128,H⟩:=H
      obtain ⟨a4_129,c4_130,m8_131,o8_132,a9_133,c9_134,I⟩:=op_commit_planner (I.pull3.take hx_128)
      refine ldS_r (I.cell 8 70 rfl) ?_
      refine al_r [.one (.int .i64 r_84), .one (.slice a_121 r_120.length c_122)] rfl I fun p_139 h I=> ?_
      replace I:=I.litN R_tree_Put
      replace I:=I.pull8.dupR
      replace I:=mtree_Put (⟨r_84,r_120⟩:tree_Put) I
      replace I:=I.pull2.pull1
      replace I:=I.litC
      replace I:=I.pull2.pull1
      replace I:=Inv.litL (l:=[(⟨r_84,r_120⟩:tree_Put)]) I rfl rfl
      refine ap_r rd_own I.pull5 rfl (by decide) (by decide) H.1 fun a_145 c_146 h I=> ?_
      replace H:=H.2
      replace I:=I.pull1.drop1
      refine nil_e hp_4 ?_
      refine st_r I.pull2 8 70 rfl fun h (I:Inv h (blk p_3 (ρ.T 20) [.one (.pointer x_127.book), .vec .u8 32 x_127.key, .one (.int .u32 x_127.epoch), .one (.slice a4_129 x_127.shape.begins.length c4_130), .one (.int .i64 x_127.root.Place), .one (.int .u32 x_127.root.Epoch), .vec .u8 32 x_127.root.Digest, .one (.map m8_131), .one (.slice a_145 (x_127.puts++[(⟨r_84,r_120⟩:tree_Put)]).length c_146)]::_))=> ?_
      refine ldI_r (I.pull6.cell 0 0 rfl) ?_
      refine ldI_r (I.pull6.cell 1 1 rfl) ?_
      refine ldL_r (I.pull6.lump 2 2 rfl) ?_
      try simp only [nrm_v]
      refine stA_r I 4 3 35 [.one (.int .i64 r_123.Place), .one (.int .u32 r_123.Epoch), .vec .u8 32 r_123.Digest] rfl rfl rfl (by first | exact all_segs rfl | exact all_one (by simp [segs,Seg.cells,allOne,allOne_append,allOne_lump,Value.oneCell'])) fun h (I:Inv h (blk p_3 (ρ.T 20) [.one (.pointer x_127.book), .vec .u8 32 x_127.key, .one (.int .u32 x_127.epoch), .one (.slice a4_129 x_127.shape.begins.length c4_130), .one (.int .i64 r_123.Place), .one (.int .u32 r_123.Epoch), .vec .u8 32 r_123.Digest, .one (.map m8_131), .one (.slice a_145 (x_127.puts++[(⟨r_84,r_120⟩:tree_Put)]).length c_146)]::_))=> ?_
      replace I:=I.pull3.dupR
      replace I:=I.pull6.pull4.pull6.pull3.pull5
      replace I:=(cl_commit_planner (⟨x_127.book,x_127.key,x_127.epoch,x_127.shape,r_123,x_127.nodes,(x_127.puts++[(⟨r_84,r_120⟩:tree_Put)])⟩:commit_planner) I).putB
      replace I:=I.pull1.drop1
      replace I:=I.pull1.drop1
      replace I:=I.pull1.drop1
      replace I:=I.pull2.drop1
      replace I:=I.pull2.drop1
      replace I:=I.pull2.drop1
      replace I:=I.pull1
      exact k _ (sset σ_126 p_3 (.commit_planner (⟨x_127.book,x_127.key,x_127.epoch,x_127.shape,r_123,x_127.nodes,(x_127.puts++[(⟨r_84,r_120⟩:tree_Put)])⟩:commit_planner))) I H
def pack_sized (size0:Int) (Q:Int→Prop):Prop:=
  Q (if (8:Int)<(if (1:Int)>size0 then (1:Int) else size0) then (8:Int) else (if (1:Int)>size0 then (1:Int) else size0))
theorem pack_sized_r {size0:Int} {Q':Int→Prop} {Q:Int→Hp→Prop} (I:Inv h (A)) (H:pack_sized size0 Q')
    (k: ∀ (r0:Int) (h':Hp),Inv h' (A)→Q' r0→Q r0 h'):Tx.pack_sized ρ size0 h Q:=by
  unfold Tx.pack_sized
  unfold pack_sized at H
  exact k (if (8:Int)<(if (1:Int)>size0 then (1:Int) else size0) then (8:Int) else (if (1:Int)>size0 then (1:Int) else size0)) _ I H
namespace pack_Num
structure V where
  n1:Int
  out7:List Int
structure W where
  a_out7:Option Addr
  c_out7:Nat
def v0:V:=⟨0,[]⟩
def w0:W:=⟨none,0⟩
abbrev QT:=(List Int)→Prop
abbrev RT:=Sl→Hp→Prop
def kt (ρ:Ids) (X_b0:At) (A:List At) (Q':QT) (Q:RT):Prop:=
  ∀ (r0:List Int) (ra0:Option Addr) (rc0:Nat) (h':Hp),Inv h' (ownS (rI .u8) ra0 r0.length rc0 r0::X_b0::A)→Q' r0→Q ⟨ra0,r0.length,rc0⟩ h'
def I1 (ρ:Ids) (X_b0:At) (c:V) (w:W) (A:List At) (h:Hp):Prop:=
  Inv h (X_b0::ownS (rI .u8) w.a_out7 c.out7.length w.c_out7 c.out7::A)
def I2 (ρ:Ids) (X_b0:At) (c:V) (w:W) (A:List At) (h:Hp):Prop:=
  Inv h (X_b0::ownS (rI .u8) w.a_out7 c.out7.length w.c_out7 c.out7::A)
def I3 (ρ:Ids) (X_b0:At) (c:V) (w:W) (A:List At) (h:Hp):Prop:=
  Inv h (X_b0::ownS (rI .u8) w.a_out7 c.out7.length w.c_out7 c.out7::A)
def I4 (ρ:Ids) (X_b0:At) (c:V) (w:W) (A:List At) (h:Hp):Prop:=
  Inv h (X_b0::ownS (rI .u8) w.a_out7 c.out7.length w.c_out7 c.out7::A)
def I5 (ρ:Ids) (X_b0:At) (c:V) (w:W) (A:List At) (h:Hp):Prop:=
  Inv h (X_b0::ownS (rI .u8) w.a_out7 c.out7.length w.c_out7 c.out7::A)
def I6 (ρ:Ids) (X_b0:At) (c:V) (w:W) (A:List At) (h:Hp):Prop:=
  Inv h (X_b0::ownS (rI .u8) w.a_out7 c.out7.length w.c_out7 c.out7::A)
def I7 (ρ:Ids) (X_b0:At) (c:V) (w:W) (A:List At) (h:Hp):Prop:=
  Inv h (X_b0::ownS (rI .u8) w.a_out7 c.out7.length w.c_out7 c.out7::A)
variable {X_b0:At} {c:V} {w:W} {Q':QT} {Q:RT}
def K7 (Q:QT) (c:V):Prop:=
  (Bnd (c.out7.length+([(IntKind.wrap .u8 c.n1)]).length))∧
  Q (c.out7++[(IntKind.wrap .u8 c.n1)])
theorem K7_r (I:I7 ρ X_b0 c w A h) (H:K7 Q' c) (k:kt ρ X_b0 A Q' Q):Tx.pack_Num_K7 ρ Q c.n1 ⟨w.a_out7,c.out7.length,w.c_out7⟩ h:=by
  unfold I7 at I
  unfold Tx.pack_Num_K7
  unfold K7 at H
  refine al_r [.one (.int .u8 (IntKind.wrap .u8 c.n1))] rfl I fun p_77 h I=> ?_
  replace I:=I.litN (rI .u8)
  replace I:=I.repI (k:= .u8) (IntKind.wrap .u8 c.n1)
  replace I:=I.pull1.pull1
  replace I:=I.litC
  replace I:=I.pull1.pull1
  replace I:=Inv.litL (l:=[(IntKind.wrap .u8 c.n1)]) I rfl rfl
  refine ap_r rd_own I.pull2 rfl (by decide) (by decide) H.1 fun a_82 c_83 h I=> ?_
  replace H:=H.2
  replace I:=I.pull1.drop1
  replace I:=I.pull1.pull1
  exact k (c.out7++[(IntKind.wrap .u8 c.n1)]) a_82 c_83 _ I H
def K6 (Q:QT) (c:V):Prop:=
  (Bnd (c.out7.length+([(IntKind.wrap .u8 c.n1)]).length))∧
  K7 Q {c with n1:=(Int.fdiv c.n1 (2 ^ (min (Int.toNat (8:Int)) (IntKind.bits .u64)))),out7:=(c.out7++[(IntKind.wrap .u8 c.n1)])}
theorem K6_r (I:I6 ρ X_b0 c w A h) (H:K6 Q' c) (k:kt ρ X_b0 A Q' Q):Tx.pack_Num_K6 ρ Q c.n1 ⟨w.a_out7,c.out7.length,w.c_out7⟩ h:=by
  unfold I6 at I
  unfold Tx.pack_Num_K6
  unfold K6 at H
  refine al_r [.one (.int .u8 (IntKind.wrap .u8 c.n1))] rfl I fun p_67 h I=> ?_
  replace I:=I.litN (rI .u8)
  replace I:=I.repI (k:= .u8) (IntKind.wrap .u8 c.n1)
  replace I:=I.pull1.pull1
  replace I:=I.litC
  replace I:=I.pull1.pull1
  replace I:=Inv.litL (l:=[(IntKind.wrap .u8 c.n1)]) I rfl rfl
  refine ap_r rd_own I.pull2 rfl (by decide) (by decide) H.1 fun a_72 c_73 h I=> ?_
  replace H:=H.2
  replace I:=I.pull1.drop1
  refine ⟨by decide, ?_⟩
  replace I:=I.pull1
  exact K7_r (c:= {c with n1:=(Int.fdiv c.n1 (2 ^ (min (Int.toNat (8:Int)) (IntKind.bits .u64)))),out7:=(c.out7++[(IntKind.wrap .u8 c.n1)])}) (w:= {w with a_out7:=a_72,c_out7:=c_73}) I H k
def K5 (Q:QT) (c:V):Prop:=
  (Bnd (c.out7.length+([(IntKind.wrap .u8 c.n1)]).length))∧
  K6 Q {c with n1:=(Int.fdiv c.n1 (2 ^ (min (Int.toNat (8:Int)) (IntKind.bits .u64)))),out7:=(c.out7++[(IntKind.wrap .u8 c.n1)])}
theorem K5_r (I:I5 ρ X_b0 c w A h) (H:K5 Q' c) (k:kt ρ X_b0 A Q' Q):Tx.pack_Num_K5 ρ Q c.n1 ⟨w.a_out7,c.out7.length,w.c_out7⟩ h:=by
  unfold I5 at I
  unfold Tx.pack_Num_K5
  unfold K5 at H
  refine al_r [.one (.int .u8 (IntKind.wrap .u8 c.n1))] rfl I fun p_57 h I=> ?_
  replace I:=I.litN (rI .u8)
  replace I:=I.repI (k:= .u8) (IntKind.wrap .u8 c.n1)
  replace I:=I.pull1.pull1
  replace I:=I.litC
  replace I:=I.pull1.pull1
  replace I:=Inv.litL (l:=[(IntKind.wrap .u8 c.n1)]) I rfl rfl
  refine ap_r rd_own I.pull2 rfl (by decide) (by decide) H.1 fun a_62 c_63 h I=> ?_
  replace H:=H.2
  replace I:=I.pull1.drop1
  refine ⟨by decide, ?_⟩
  replace I:=I.pull1
  exact K6_r (c:= {c with n1:=(Int.fdiv c.n1 (2 ^ (min (Int.toNat (8:Int)) (IntKind.bits .u64)))),out7:=(c.out7++[(IntKind.wrap .u8 c.n1)])}) (w:= {w with a_out7:=a_62,c_out7:=c_63}) I H k
def K4 (Q:QT) (c:V):Prop:=
  (Bnd (c.out7.length+([(IntKind.wrap .u8 c.n1)]).length))∧
  K5 Q {c with n1:=(Int.fdiv c.n1 (2 ^ (min (Int.toNat (8:Int)) (IntKind.bits .u64)))),out7:=(c.out7++[(IntKind.wrap .u8 c.n1)])}
theorem K4_r (I:I4 ρ X_b0 c w A h) (H:K4 Q' c) (k:kt ρ X_b0 A Q' Q):Tx.pack_Num_K4 ρ Q c.n1 ⟨w.a_out7,c.out7.length,w.c_out7⟩ h:=by
  unfold I4 at I
  unfold Tx.pack_Num_K4
  unfold K4 at H
  refine al_r [.one (.int .u8 (IntKind.wrap .u8 c.n1))] rfl I fun p_47 h I=> ?_
  replace I:=I.litN (rI .u8)
  replace I:=I.repI (k:= .u8) (IntKind.wrap .u8 c.n1)
  replace I:=I.pull1.pull1
  replace I:=I.litC
  replace I:=I.pull1.pull1
  replace I:=Inv.litL (l:=[(IntKind.wrap .u8 c.n1)]) I rfl rfl
  refine ap_r rd_own I.pull2 rfl (by decide) (by decide) H.1 fun a_52 c_53 h I=> ?_
  replace H:=H.2
  replace I:=I.pull1.drop1
  refine ⟨by decide, ?_⟩
  replace I:=I.pull1
  exact K5_r (c:= {c with n1:=(Int.fdiv c.n1 (2 ^ (min (Int.toNat (8:Int)) (IntKind.bits .u64)))),out7:=(c.out7++[(IntKind.wrap .u8 c.n1)])}) (w:= {w with a_out7:=a_52,c_out7:=c_53}) I H k
def K3 (Q:QT) (c:V):Prop:=
  (Bnd (c.out7.length+([(IntKind.wrap .u8 c.n1)]).length))∧
  K4 Q {c with n1:=(Int.fdiv c.n1 (2 ^ (min (Int.toNat (8:Int)) (IntKind.bits .u64)))),out7:=(c.out7++[(IntKind.wrap .u8 c.n1)])}
theorem K3_r (I:I3 ρ X_b0 c w A h) (H:K3 Q' c) (k:kt ρ X_b0 A Q' Q):Tx.pack_Num_K3 ρ Q c.n1 ⟨w.a_out7,c.out7.length,w.c_out7⟩ h:=by
  unfold I3 at I
  unfold Tx.pack_Num_K3
  unfold K3 at H
  refine al_r [.one (.int .u8 (IntKind.wrap .u8 c.n1))] rfl I fun p_37 h I=> ?_
  replace I:=I.litN (rI .u8)
  replace I:=I.repI (k:= .u8) (IntKind.wrap .u8 c.n1)
  replace I:=I.pull1.pull1
  replace I:=I.litC
  replace I:=I.pull1.pull1
  replace I:=Inv.litL (l:=[(IntKind.wrap .u8 c.n1)]) I rfl rfl
  refine ap_r rd_own I.pull2 rfl (by decide) (by decide) H.1 fun a_42 c_43 h I=> ?_
  replace H:=H.2
  replace I:=I.pull1.drop1
  refine ⟨by decide, ?_⟩
  replace I:=I.pull1
  exact K4_r (c:= {c with n1:=(Int.fdiv c.n1 (2 ^ (min (Int.toNat (8:Int)) (IntKind.bits .u64)))),out7:=(c.out7++[(IntKind.wrap .u8 c.n1)])}) (w:= {w with a_out7:=a_42,c_out7:=c_43}) I H k
def K2 (Q:QT) (c:V):Prop:=
  (Bnd (c.out7.length+([(IntKind.wrap .u8 c.n1)]).length))∧
  K3 Q {c with n1:=(Int.fdiv c.n1 (2 ^ (min (Int.toNat (8:Int)) (IntKind.bits .u64)))),out7:=(c.out7++[(IntKind.wrap .u8 c.n1)])}
theorem K2_r (I:I2 ρ X_b0 c w A h) (H:K2 Q' c) (k:kt ρ X_b0 A Q' Q):Tx.pack_Num_K2 ρ Q c.n1 ⟨w.a_out7,c.out7.length,w.c_out7⟩ h:=by
  unfold I2 at I
  unfold Tx.pack_Num_K2
  unfold K2 at H
  refine al_r [.one (.int .u8 (IntKind.wrap .u8 c.n1))] rfl I fun p_27 h I=> ?_
  replace I:=I.litN (rI .u8)
  replace I:=I.repI (k:= .u8) (IntKind.wrap .u8 c.n1)
  replace I:=I.pull1.pull1
  replace I:=I.litC
  replace I:=I.pull1.pull1
  replace I:=Inv.litL (l:=[(IntKind.wrap .u8 c.n1)]) I rfl rfl
  refine ap_r rd_own I.pull2 rfl (by decide) (by decide) H.1 fun a_32 c_33 h I=> ?_
  replace H:=H.2
  replace I:=I.pull1.drop1
  refine ⟨by decide, ?_⟩
  replace I:=I.pull1
  exact K3_r (c:= {c with n1:=(Int.fdiv c.n1 (2 ^ (min (Int.toNat (8:Int)) (IntKind.bits .u64)))),out7:=(c.out7++[(IntKind.wrap .u8 c.n1)])}) (w:= {w with a_out7:=a_32,c_out7:=c_33}) I H k
def K1 (Q:QT) (c:V):Prop:=
  (Bnd (c.out7.length+([(IntKind.wrap .u8 c.n1)]).length))∧
  K2 Q {c with n1:=(Int.fdiv c.n1 (2 ^ (min (Int.toNat (8:Int)) (IntKind.bits .u64)))),out7:=(c.out7++[(IntKind.wrap .u8 c.n1)])}
theorem K1_r (I:I1 ρ X_b0 c w A h) (H:K1 Q' c) (k:kt ρ X_b0 A Q' Q):Tx.pack_Num_K1 ρ Q c.n1 ⟨w.a_out7,c.out7.length,w.c_out7⟩ h:=by
  unfold I1 at I
  unfold Tx.pack_Num_K1
  unfold K1 at H
  refine al_r [.one (.int .u8 (IntKind.wrap .u8 c.n1))] rfl I fun p_17 h I=> ?_
  replace I:=I.litN (rI .u8)
  replace I:=I.repI (k:= .u8) (IntKind.wrap .u8 c.n1)
  replace I:=I.pull1.pull1
  replace I:=I.litC
  replace I:=I.pull1.pull1
  replace I:=Inv.litL (l:=[(IntKind.wrap .u8 c.n1)]) I rfl rfl
  refine ap_r rd_own I.pull2 rfl (by decide) (by decide) H.1 fun a_22 c_23 h I=> ?_
  replace H:=H.2
  replace I:=I.pull1.drop1
  refine ⟨by decide, ?_⟩
  replace I:=I.pull1
  exact K2_r (c:= {c with n1:=(Int.fdiv c.n1 (2 ^ (min (Int.toNat (8:Int)) (IntKind.bits .u64)))),out7:=(c.out7++[(IntKind.wrap .u8 c.n1)])}) (w:= {w with a_out7:=a_22,c_out7:=c_23}) I H k
end pack_Num
def pack_Num (b0:List Int) (n1:Int) (size2:Int) (Q:pack_Num.QT):Prop:=
  bytes_Clone b0 fun r_2=>
  pack_sized size2 fun r_6=>
  br (r_6==(8:Int))
  ((Bnd (r_2.length+([(IntKind.wrap .u8 n1)]).length))∧
  pack_Num.K1 Q {pack_Num.v0 with n1:=(Int.fdiv n1 (2 ^ (min (Int.toNat (8:Int)) (IntKind.bits .u64)))),out7:=(r_2++[(IntKind.wrap .u8 n1)])})
  (br (r_6==(7:Int))
  (pack_Num.K1 Q {pack_Num.v0 with n1:=n1,out7:=r_2})
  (br (r_6==(6:Int))
  (pack_Num.K2 Q {pack_Num.v0 with n1:=n1,out7:=r_2})
  (br (r_6==(5:Int))
  (pack_Num.K3 Q {pack_Num.v0 with n1:=n1,out7:=r_2})
  (br (r_6==(4:Int))
  (pack_Num.K4 Q {pack_Num.v0 with n1:=n1,out7:=r_2})
  (br (r_6==(3:Int))
  (pack_Num.K5 Q {pack_Num.v0 with n1:=n1,out7:=r_2})
  (br (r_6==(2:Int))
  (pack_Num.K6 Q {pack_Num.v0 with n1:=n1,out7:=r_2})
  (pack_Num.K7 Q {pack_Num.v0 with n1:=n1,out7:=r_2})))))))
theorem pack_Num_r {b0 : List Int} {n1 : Int} {size2 : Int} {a_b0 : Option Addr} {c_b0 : Nat} {n_b0 : Nat} {X_b0 : At} {Q' : pack_Num.QT} {Q : pack_Num.RT} (hX_b0 : Rd (rI .u8) X_b0 a_b0 n_b0 c_b0 b0) (I : Inv h (X_b0 :: A)) (H : pack_Num b0 n1 size2 Q')
    (k:pack_Num.kt ρ X_b0 A Q' Q):Tx.pack_Num ρ ⟨a_b0,n_b0,c_b0⟩ n1 size2 h Q:=by
  obtain rfl:=rd_len hX_b0 I
  unfold Tx.pack_Num
  unfold pack_Num at H
  refine bytes_Clone_r (s0:=b0) hX_b0 I H fun r_2 a_3 c_4 h I H=> ?_
  refine pack_sized_r (size0:=size2) I H fun r_6 h I H=> ?_
  refine br_r H (fun hb H=> ?_) (fun hb H=> ?_)
  · refine al_r [.one (.int .u8 (IntKind.wrap .u8 n1))] rfl I fun p_7 h I => ?_
    replace I:=I.litN (rI .u8)
    replace I:=I.repI (k:= .u8) (IntKind.wrap .u8 n1)
    replace I:=I.pull1.pull1
    replace I:=I.litC
    replace I:=I.pull1.pull1
    replace I:=Inv.litL (l:=[(IntKind.wrap .u8 n1)]) I rfl rfl
    refine ap_r rd_own I.pull1 rfl (by decide) (by decide) H.1 fun a_12 c_13 h I=> ?_
    replace H:=H.2
    replace I:=I.pull1.drop1
    refine ⟨by decide, ?_⟩
    replace I:=I.pull1
    exact pack_Num.K1_r (c:= {pack_Num.v0 with n1:=(Int.fdiv n1 (2 ^ (min (Int.toNat (8:Int)) (IntKind.bits .u64)))),out7:=(r_2++[(IntKind.wrap .u8 n1)])}) (w:= {pack_Num.w0 with a_out7:=a_12,c_out7:=c_13}) I H k
  · refine br_r H (fun hb H => ?_) (fun hb H => ?_)
    · replace I := I.pull1
      exact pack_Num.K1_r (c:= {pack_Num.v0 with n1:=n1,out7:=r_2}) (w:= {pack_Num.w0 with a_out7:=a_3,c_out7:=c_4}) I H k
    · refine br_r H (fun hb H => ?_) (fun hb H => ?_)
      · replace I := I.pull1
        exact pack_Num.K2_r (c:= {pack_Num.v0 with n1:=n1,out7:=r_2}) (w:= {pack_Num.w0 with a_out7:=a_3,c_out7:=c_4}) I H k
      · refine br_r H (fun hb H => ?_) (fun hb H => ?_)
        · replace I := I.pull1
          exact pack_Num.K3_r (c:= {pack_Num.v0 with n1:=n1,out7:=r_2}) (w:= {pack_Num.w0 with a_out7:=a_3,c_out7:=c_4}) I H k
        · refine br_r H (fun hb H => ?_) (fun hb H => ?_)
          · replace I := I.pull1
            exact pack_Num.K4_r (c:= {pack_Num.v0 with n1:=n1,out7:=r_2}) (w:= {pack_Num.w0 with a_out7:=a_3,c_out7:=c_4}) I H k
          · refine br_r H (fun hb H => ?_) (fun hb H => ?_)
            · replace I := I.pull1
              exact pack_Num.K5_r (c:= {pack_Num.v0 with n1:=n1,out7:=r_2}) (w:= {pack_Num.w0 with a_out7:=a_3,c_out7:=c_4}) I H k
            · refine br_r H (fun hb H => ?_) (fun hb H => ?_)
              · replace I := I.pull1
                exact pack_Num.K6_r (c:= {pack_Num.v0 with n1:=n1,out7:=r_2}) (w:= {pack_Num.w0 with a_out7:=a_3,c_out7:=c_4}) I H k
              · replace I := I.pull1
                exact pack_Num.K7_r (c:= {pack_Num.v0 with n1:=n1,out7:=r_2}) (w:= {pack_Num.w0 with a_out7:=a_3,c_out7:=c_4}) I H k
def seal_Lay (r0:seal_Ref) (Q:(List Int)→Prop):Prop:=
  pack_Num ([]:List Int) (IntKind.wrap .u64 r0.Place) (1:Int) fun r_4=>
  pack_Num r_4 (IntKind.wrap .u64 r0.Epoch) (4:Int) fun r_8=>
  (Bnd (r_8.length+r0.Digest.toList.length))∧
  Q (r_8++r0.Digest.toList)
theorem seal_Lay_r {r0:seal_Ref} {Q':(List Int)→Prop} {Q:Sl→Hp→Prop} (I:Inv h (A)) (H:seal_Lay r0 Q')
    (k: ∀ (r0:List Int) (ra0:Option Addr) (rc0:Nat) (h':Hp),Inv h' (ownS (rI .u8) ra0 r0.length rc0 r0::A)→Q' r0→Q ⟨ra0,r0.length,rc0⟩ h'):Tx.seal_Lay ρ r0.Place r0.Epoch r0.Digest.toList h Q:=by
  unfold Tx.seal_Lay
  unfold seal_Lay at H
  try simp only [nrm_v]
  refine al_r [.one (.int .i64 r0.Place), .one (.int .u32 r0.Epoch), .vec .u8 32 r0.Digest] rfl I fun p_1 h I=> ?_
  refine ldI_r (I.cell 0 0 rfl) ?_
  refine ldI_r (I.cell 1 1 rfl) ?_
  refine sl_full ?_
  replace I:=I.nilR (rI .u8)
  refine pack_Num_r (b0:=([]:List Int)) (n1:=(IntKind.wrap .u64 r0.Place)) (size2:=(1:Int)) rd_ro I H fun r_4 a_5 c_6 h I H=> ?_
  refine ⟨trivial, ?_⟩
  refine ⟨I.pull2.cell 1 1 rfl, ?_⟩
  refine pack_Num_r (b0:=r_4) (n1:=(IntKind.wrap .u64 r0.Epoch)) (size2:=(4:Int)) rd_own I H fun r_8 a_9 c_10 h I H=> ?_
  refine ap_r (rd_vec (j:=2) (off:=2) rfl) I.pull3.pull1 rfl (by decide) (by decide) H.1 fun a_12 c_13 h I=> ?_
  replace H:=H.2
  replace I:=I.pull1.drop1
  replace I:=I.pull1.drop1
  replace I:=I.pull1.drop1
  exact k (r_8++r0.Digest.toList) a_12 c_13 _ I H
def pack_Fill (b0:List Int) (size1:Int) (Q:(List Int)→Int→Prop):Prop:=
  br (decide ((b0.length:Int)>size1))
  (Q ([]:List Int) (1:Int))
  (bytes_Clone b0 fun r_3=>
  (0≤(IntKind.wrap .i64 (size1 - (b0.length:Int))))∧(Bnd (r_3.length+Int.toNat (IntKind.wrap .i64 (size1 - (b0.length:Int)))))∧
  Q (r_3++List.replicate (Int.toNat (IntKind.wrap .i64 (size1 - (b0.length:Int)))) (0:Int)) (0:Int))
theorem pack_Fill_r {b0:List Int} {size1:Int} {a_b0:Option Addr} {c_b0:Nat} {n_b0:Nat} {X_b0:At} {Q':(List Int)→Int→Prop} {Q:Sl→Int→Hp→Prop} (hX_b0:Rd (rI .u8) X_b0 a_b0 n_b0 c_b0 b0) (I:Inv h (X_b0::A)) (H:pack_Fill b0 size1 Q')
    (k: ∀ (r0:List Int) (ra0:Option Addr) (rc0:Nat) (r1:Int) (h':Hp),Inv h' (ownS (rI .u8) ra0 r0.length rc0 r0::X_b0::A)→Q' r0 r1→Q ⟨ra0,r0.length,rc0⟩ r1 h'):Tx.pack_Fill ρ ⟨a_b0,n_b0,c_b0⟩ size1 h Q:=by
  obtain rfl:=rd_len hX_b0 I
  unfold Tx.pack_Fill
  unfold pack_Fill at H
  refine br_r H (fun hb H=> ?_) (fun hb H=> ?_)
  · replace I := I.nilO (rI .u8)
    replace I:=I.pull1.pull1
    exact k ([]:List Int) none 0 (1:Int) _ I H
  · refine bytes_Clone_r (s0 := b0) hX_b0 I H fun r_3 a_4 c_5 h I H => ?_
    refine apZ_r (z0:=(0:Int)) I (fun _ _=>rfl) (by decide) (by decide) H.1 H.2.1 fun a_7 c_8 h I=> ?_
    replace H:=H.2.2
    replace I:=I.pull1.pull1
    exact k (r_3++List.replicate (Int.toNat (IntKind.wrap .i64 (size1 - (b0.length:Int)))) (0:Int)) a_7 c_8 (0:Int) _ I H
namespace node_Lay
structure V where
  refs0:List seal_Ref
  v14:Bool
  b4:List Int
  v19:List seal_Ref
  v20:Int
  v21:Int
  r6:seal_Ref
  v32:Bool
structure W where
  a_refs0:Option Addr
  c_refs0:Nat
  a_b4:Option Addr
  c_b4:Nat
  a_v19:Option Addr
  c_v19:Nat
  p_r6:Addr
def v0:V:=⟨[],false,[],[],0,0,(⟨(0:Int),(0:Int),(Vector.replicate 32 (0:Int))⟩:seal_Ref),false⟩
def w0:W:=⟨none,0,none,0,none,0,⟨0,0,none⟩⟩
abbrev QT:=(List Int)→Int→Prop
abbrev RT:=Sl→Int→Hp→Prop
def kt (ρ:Ids) (X_refs0:At) (A:List At) (Q':QT) (Q:RT):Prop:=
  ∀ (r0:List Int) (ra0:Option Addr) (rc0:Nat) (r1:Int) (h':Hp),Inv h' (ownS (rI .u8) ra0 r0.length rc0 r0::X_refs0::A)→Q' r0 r1→Q ⟨ra0,r0.length,rc0⟩ r1 h'
def I1 (ρ:Ids) (X_refs0:At) (c:V) (w:W) (A:List At) (h:Hp):Prop:=
  Rd R_seal_Ref X_refs0 w.a_refs0 c.refs0.length w.c_refs0 c.refs0∧Inv h (X_refs0::A)
def I2 (ρ:Ids) (X_refs0:At) (c:V) (w:W) (A:List At) (h:Hp):Prop:=
  Rd R_seal_Ref X_refs0 w.a_v19 c.v19.length w.c_v19 c.v19∧Inv h (X_refs0::ownS (rI .u8) w.a_b4 c.b4.length w.c_b4 c.b4::A)
abbrev Y2:=Sl→Sl→Int→Int→Hp→Prop
abbrev T2 (X_refs0:At) (S:Y2) (c:V) (w:W) (h:Hp):Prop:=S ⟨w.a_b4,c.b4.length,w.c_b4⟩ ⟨w.a_v19,c.v19.length,w.c_v19⟩ c.v20 c.v21 h
def k2t (ρ:Ids) (X_refs0:At) (A:List At) (S':V→Prop) (S:Y2):Prop:= ∀ (c:V) (w:W) (h:Hp),I2 ρ X_refs0 c w A h→S' c→T2 X_refs0 S c w h
def I3 (ρ:Ids) (X_refs0:At) (c:V) (w:W) (A:List At) (h:Hp):Prop:=
  Rd R_seal_Ref X_refs0 w.a_v19 c.v19.length w.c_v19 c.v19∧Inv h (X_refs0::ownS (rI .u8) w.a_b4 c.b4.length w.c_b4 c.b4::blk w.p_r6 (ρ.T 16) [.one (.int .i64 c.r6.Place), .one (.int .u32 c.r6.Epoch), .vec .u8 32 c.r6.Digest]::A)
variable {X_refs0:At} {c:V} {w:W} {Q':QT} {Q:RT} {S2':V→Prop} {S2:Y2}
def K3 (S2:V→Prop) (Q:QT) (c:V):Prop:=
  br c.v32
  (Q ([]:List Int) (1:Int))
  (seal_Lay c.r6 fun r_30=>
  (Bnd (c.b4.length+r_30.length))∧
  S2 {c with b4:=(c.b4++r_30),v21:=(IntKind.wrap .i64 (c.v21+(1:Int)))})
theorem K3_r (I:I3 ρ X_refs0 c w A h) (H:K3 S2' Q' c) (kS2:k2t ρ X_refs0 A S2' S2) (k:kt ρ X_refs0 A Q' Q):Tx.node_Lay_K3 ρ S2 Q ⟨w.a_b4,c.b4.length,w.c_b4⟩ w.p_r6 ⟨w.a_v19,c.v19.length,w.c_v19⟩ c.v20 c.v21 c.v32 h:=by
  obtain ⟨hX_v19,I⟩:=I
  unfold Tx.node_Lay_K3
  unfold K3 at H
  refine br_r H (fun hb H=> ?_) (fun hb H=> ?_)
  · replace I := I.nilO (rI .u8)
    replace I:=I.pull2.drop1
    replace I:=I.pull2.drop1
    replace I:=I.pull1.pull1
    exact k ([]:List Int) none 0 (1:Int) _ I H
  · refine ldI_r (I.pull2.cell 0 0 rfl) ?_
    refine ldI_r (I.pull2.cell 1 1 rfl) ?_
    refine ldL_r (I.pull2.lump 2 2 rfl) ?_
    try simp only [nrm_v]
    try simp only [nrm_v]
    refine seal_Lay_r (r0:=c.r6) I H fun r_30 a_31 c_32 h I H=> ?_
    refine ap_r rd_own I.pull2 rfl (by decide) (by decide) H.1 fun a_34 c_35 h I=> ?_
    replace H:=H.2
    replace I:=I.pull1.drop1
    replace I:=I.pull2.drop1
    replace I:=I.pull1
    exact kS2 {c with b4:=(c.b4++r_30),v21:=(IntKind.wrap .i64 (c.v21+(1:Int)))} {w with a_b4:=a_34,c_b4:=c_35} _ ⟨hX_v19,I⟩ H
def B2 (S2:V→Prop) (Q:QT) (c:V):Prop:=
  br (decide (c.v21<c.v20))
  (ixP c.v19 c.v21 fun x_11=>
  br (x_11.Place !=(0:Int))
  (K3 S2 Q {c with r6:=x_11,v32:=(x_11.Place !=(1:Int))})
  (K3 S2 Q {c with r6:=x_11,v32:=false}))
  (pack_Fill c.b4 (256:Int) fun r_21 r_24=>
  Q r_21 r_24)
def L2 (Q:QT) (c:V):Prop:=Lf (fun S=>B2 S Q) c
theorem L2_in {Q:QT} {c:V} (H:B2 (L2 Q) Q c):L2 Q c:=Lf.fold H
theorem B2_r (I:I2 ρ X_refs0 c w A h) (H:B2 S2' Q' c) (kS2:k2t ρ X_refs0 A S2' S2) (k:kt ρ X_refs0 A Q' Q):T2 X_refs0 (Tx.node_Lay_B2 ρ S2 Q) c w h:=by
  obtain ⟨hX_v19,I⟩:=I
  unfold T2 Tx.node_Lay_B2
  unfold B2 at H
  refine br_r H (fun hb H=> ?_) (fun hb H=> ?_)
  · refine ixseal_Ref hX_v19 I (ixP_keep H) fun p_12 x_11 he_13 hb_14 hc_15 hc_16 hc_17 I H => ?_
    obtain ⟨hg_18,H⟩:=H
    refine ldI_r hc_15 ?_
    refine ldI_r hc_16 ?_
    refine ldL_r hc_17 ?_
    try simp only [nrm_v]
    refine al_r [.one (.int .i64 (0:Int)), .one (.int .u32 (0:Int)), .vec .u8 32 (Vector.replicate 32 (0:Int))] rfl I fun p_19 h I=> ?_
    refine stA_r I 0 3 0 [.one (.int .i64 x_11.Place), .one (.int .u32 x_11.Epoch), .vec .u8 32 x_11.Digest] rfl rfl rfl (by first | exact all_segs rfl | exact all_one (by simp [segs,Seg.cells,allOne,allOne_append,allOne_lump,Value.oneCell'])) fun h (I:Inv h (blk p_19 (ρ.T 16) [.one (.int .i64 x_11.Place), .one (.int .u32 x_11.Epoch), .vec .u8 32 x_11.Digest]::_))=> ?_
    refine ldI_r (I.cell 0 0 rfl) ?_
    refine br_r H (fun hb H=> ?_) (fun hb H=> ?_)
    · refine ldI_r (I.cell 0 0 rfl) ?_
      replace I:=I.pull2.pull2
      exact K3_r (c:= {c with r6:=x_11,v32:=(x_11.Place !=(1:Int))}) (w:= {w with p_r6:=p_19}) ⟨hX_v19,I⟩ H kS2 k
    · replace I := I.pull2.pull2
      exact K3_r (c:= {c with r6:=x_11,v32:=false}) (w:= {w with p_r6:=p_19}) ⟨hX_v19,I⟩ H kS2 k
  · replace I := I.pull1
    refine pack_Fill_r (b0:=c.b4) (size1:=(256:Int)) rd_own I H fun r_21 a_22 c_23 r_24 h I H=> ?_
    replace I:=I.pull1.drop1
    replace I:=I.pull1.pull1
    exact k r_21 a_22 c_23 r_24 _ I H
theorem L2_r (I:I2 ρ X_refs0 c w A h) (H:L2 Q' c) (k:kt ρ X_refs0 A Q' Q):T2 X_refs0 (Tx.node_Lay_L2 ρ Q) c w h:=by
  refine Lf.ind H (fun v=> ∀ (w:W) (h:Hp),I2 ρ X_refs0 v w A h→T2 X_refs0 (Tx.node_Lay_L2 ρ Q) v w h) ?_ w h I
  rintro c S hS HB w h I
  refine Tx.node_Lay_L2_in _ _ _ _ _ _ _ ?_
  try simp only [nrm_v]
  exact B2_r (c:=c) (w:=w) I HB (fun c w h I H=>hS _ H w h I) k
def K1 (Q:QT) (c:V):Prop:=
  br c.v14
  (Q ([]:List Int) (1:Int))
  (L2 Q {c with b4:=[(IntKind.wrap .u8 (c.refs0.length:Int))],v19:=c.refs0,v20:=(c.refs0.length:Int),v21:=(0:Int)})
theorem K1_r (I:I1 ρ X_refs0 c w A h) (H:K1 Q' c) (k:kt ρ X_refs0 A Q' Q):Tx.node_Lay_K1 ρ Q ⟨w.a_refs0,c.refs0.length,w.c_refs0⟩ c.v14 h:=by
  obtain ⟨hX_refs0,I⟩:=I
  unfold Tx.node_Lay_K1
  unfold K1 at H
  refine br_r H (fun hb H=> ?_) (fun hb H=> ?_)
  · replace I := I.nilO (rI .u8)
    replace I:=I.pull1.pull1
    exact k ([]:List Int) none 0 (1:Int) _ I H
  · refine al_r [.one (.int .u8 (IntKind.wrap .u8 (c.refs0.length : Int)))] rfl I fun p_4 h I => ?_
    replace I:=I.litN (rI .u8)
    replace I:=I.repI (k:= .u8) (IntKind.wrap .u8 (c.refs0.length:Int))
    replace I:=I.pull1.pull1
    replace I:=I.litC
    replace I:=I.pull1.pull1
    replace I:=Inv.litL (l:=[(IntKind.wrap .u8 (c.refs0.length:Int))]) I rfl rfl
    replace I:=I.pull1
    exact L2_r (c:= {c with b4:=[(IntKind.wrap .u8 (c.refs0.length:Int))],v19:=c.refs0,v20:=(c.refs0.length:Int),v21:=(0:Int)}) (w:= {w with a_b4:=(some p_4),c_b4:=1,a_v19:=w.a_refs0,c_v19:=w.c_refs0}) ⟨hX_refs0,I⟩ H k
end node_Lay
def node_Lay (refs0:List seal_Ref) (Q:node_Lay.QT):Prop:=
  br (decide ((refs0.length:Int)<(1:Int)))
  (node_Lay.K1 Q {node_Lay.v0 with refs0:=refs0,v14:=true})
  (node_Lay.K1 Q {node_Lay.v0 with refs0:=refs0,v14:=(decide ((refs0.length:Int)>(6:Int)))})
theorem node_Lay_r {refs0:List seal_Ref} {a_refs0:Option Addr} {c_refs0:Nat} {n_refs0:Nat} {X_refs0:At} {Q':node_Lay.QT} {Q:node_Lay.RT} (hX_refs0:Rd R_seal_Ref X_refs0 a_refs0 n_refs0 c_refs0 refs0) (I:Inv h (X_refs0::A)) (H:node_Lay refs0 Q')
    (k:node_Lay.kt ρ X_refs0 A Q' Q):Tx.node_Lay ρ ⟨a_refs0,n_refs0,c_refs0⟩ h Q:=by
  obtain rfl:=rd_len hX_refs0 I
  unfold Tx.node_Lay
  unfold node_Lay at H
  refine br_r H (fun hb H=> ?_) (fun hb H=> ?_)
  · exact node_Lay.K1_r (c:= {node_Lay.v0 with refs0:=refs0,v14:=true}) (w:= {node_Lay.w0 with a_refs0:=a_refs0,c_refs0:=c_refs0}) ⟨hX_refs0,I⟩ H k
  · exact node_Lay.K1_r (c:= {node_Lay.v0 with refs0:=refs0,v14:=(decide ((refs0.length:Int)>(6:Int)))}) (w:= {node_Lay.w0 with a_refs0:=a_refs0,c_refs0:=c_refs0}) ⟨hX_refs0,I⟩ H k
namespace commit_Plan
structure V where
  b0:Option Addr
  epoch2:Int
  nodes5:List commit_Node
  changes6:List commit_Change
  key8:Vector Int 32
  s10:shape_Shape
  root11:seal_Ref
  v16:seal_Ref
  v38:Bool
  p18o:Addr
  need19:List Int
  v52:List Int
  v53:Int
  v54:Int
  v70:List commit_Change
  v71:Int
  v72:Int
  fresh24:List commit_Node
  v83:List Int
  v84:Int
  v85:Int
structure W where
  a_nodes5:Option Addr
  c_nodes5:Nat
  a_changes6:Option Addr
  c_changes6:Nat
  p_key8:Addr
  p_s10:Addr
  a_s10:Option Addr
  c_s10:Nat
  p_root11:Addr
  p_v16:Addr
  a_need19:Option Addr
  c_need19:Nat
  a_v52:Option Addr
  c_v52:Nat
  a_v70:Option Addr
  c_v70:Nat
  a_fresh24:Option Addr
  c_fresh24:Nat
  a_v83:Option Addr
  c_v83:Nat
def v0:V:=⟨none,0,[],[],Vector.replicate 32 0,(⟨[]⟩:shape_Shape),(⟨(0:Int),(0:Int),(Vector.replicate 32 (0:Int))⟩:seal_Ref),(⟨(0:Int),(0:Int),(Vector.replicate 32 (0:Int))⟩:seal_Ref),false,⟨0,0,none⟩,[],[],0,0,[],0,0,[],[],0,0⟩
def w0:W:=⟨none,0,none,0,⟨0,0,none⟩,⟨0,0,none⟩,none,0,⟨0,0,none⟩,⟨0,0,none⟩,none,0,none,0,none,0,none,0,none,0⟩
abbrev QT:=(List tree_Put)→(List commit_Node)→seal_Ref→Int→St Obj→Prop
abbrev RT:=Sl→Sl→Int→Int→List Int→Int→Hp→Prop
def kt (ρ:Ids) (X_nodes5:At) (X_changes6:At) (A:List At) (Q':QT) (Q:RT):Prop:=
  ∀ (r0:List tree_Put) (ra0:Option Addr) (rc0:Nat) (r1:List commit_Node) (ra1:Option Addr) (rc1:Nat) (r2:seal_Ref) (r3:Int) (h':Hp) (σ':St Obj),Inv h' (ownS R_tree_Put ra0 r0.length rc0 r0::ownS R_commit_Node ra1 r1.length rc1 r1::X_nodes5::X_changes6::hpA (obA ρ) σ'::A)→Q' r0 r1 r2 r3 σ'→Q ⟨ra0,r0.length,rc0⟩ ⟨ra1,r1.length,rc1⟩ r2.Place r2.Epoch r2.Digest.toList r3 h'
def I1 (ρ:Ids) (X_nodes5:At) (X_changes6:At) (c:V) (w:W) (σ:St Obj) (A:List At) (h:Hp):Prop:=
  Rd R_commit_Node X_nodes5 w.a_nodes5 c.nodes5.length w.c_nodes5 c.nodes5∧Rd R_commit_Change X_changes6 w.a_changes6 c.changes6.length w.c_changes6 c.changes6∧Inv h (X_nodes5::X_changes6::blk w.p_key8 (ρ.T 19) [.vec .u8 32 c.key8]::blk w.p_s10 (ρ.T 11) [.one (.slice w.a_s10 c.s10.begins.length w.c_s10)]::roS (rI .i64) w.a_s10 c.s10.begins.length w.c_s10 c.s10.begins::blk w.p_root11 (ρ.T 16) [.one (.int .i64 c.root11.Place), .one (.int .u32 c.root11.Epoch), .vec .u8 32 c.root11.Digest]::blk w.p_v16 (ρ.T 16) [.one (.int .i64 c.v16.Place), .one (.int .u32 c.v16.Epoch), .vec .u8 32 c.v16.Digest]::hpA (obA ρ) σ::A)
def I2 (ρ:Ids) (X_nodes5:At) (X_changes6:At) (c:V) (w:W) (σ:St Obj) (A:List At) (h:Hp):Prop:=
  Rd R_commit_Node X_nodes5 w.a_nodes5 c.nodes5.length w.c_nodes5 c.nodes5∧Rd R_commit_Change X_changes6 w.a_changes6 c.changes6.length w.c_changes6 c.changes6∧Inv h (X_nodes5::X_changes6::blk w.p_v16 (ρ.T 16) [.one (.int .i64 c.v16.Place), .one (.int .u32 c.v16.Epoch), .vec .u8 32 c.v16.Digest]::roS (rI .i64) w.a_need19 c.need19.length w.c_need19 c.need19::roS (rI .i64) w.a_v52 c.v52.length w.c_v52 c.v52::hpA (obA ρ) σ::A)
abbrev Y2:=Sl→Sl→Addr→Addr→Sl→Sl→Int→Int→Hp→Prop
abbrev T2 (X_nodes5:At) (X_changes6:At) (S:Y2) (c:V) (w:W) (h:Hp):Prop:=S ⟨w.a_nodes5,c.nodes5.length,w.c_nodes5⟩ ⟨w.a_changes6,c.changes6.length,w.c_changes6⟩ w.p_v16 c.p18o ⟨w.a_need19,c.need19.length,w.c_need19⟩ ⟨w.a_v52,c.v52.length,w.c_v52⟩ c.v53 c.v54 h
def k2t (ρ:Ids) (X_nodes5:At) (X_changes6:At) (A:List At) (S':V→St Obj→Prop) (S:Y2):Prop:= ∀ (c:V) (w:W) (h:Hp) (σ:St Obj),I2 ρ X_nodes5 X_changes6 c w σ A h→S' c σ→T2 X_nodes5 X_changes6 S c w h
def I3 (ρ:Ids) (X_nodes5:At) (X_changes6:At) (c:V) (w:W) (σ:St Obj) (A:List At) (h:Hp):Prop:=
  Rd R_commit_Change X_changes6 w.a_v70 c.v70.length w.c_v70 c.v70∧Inv h (X_nodes5::X_changes6::blk w.p_v16 (ρ.T 16) [.one (.int .i64 c.v16.Place), .one (.int .u32 c.v16.Epoch), .vec .u8 32 c.v16.Digest]::roS (rI .i64) w.a_need19 c.need19.length w.c_need19 c.need19::hpA (obA ρ) σ::A)
abbrev Y3:=Addr→Addr→Sl→Sl→Int→Int→Hp→Prop
abbrev T3 (X_nodes5:At) (X_changes6:At) (S:Y3) (c:V) (w:W) (h:Hp):Prop:=S w.p_v16 c.p18o ⟨w.a_need19,c.need19.length,w.c_need19⟩ ⟨w.a_v70,c.v70.length,w.c_v70⟩ c.v71 c.v72 h
def k3t (ρ:Ids) (X_nodes5:At) (X_changes6:At) (A:List At) (S':V→St Obj→Prop) (S:Y3):Prop:= ∀ (c:V) (w:W) (h:Hp) (σ:St Obj),I3 ρ X_nodes5 X_changes6 c w σ A h→S' c σ→T3 X_nodes5 X_changes6 S c w h
def I4 (ρ:Ids) (X_nodes5:At) (X_changes6:At) (c:V) (w:W) (σ:St Obj) (A:List At) (h:Hp):Prop:=
  Inv h (X_nodes5::X_changes6::blk w.p_v16 (ρ.T 16) [.one (.int .i64 c.v16.Place), .one (.int .u32 c.v16.Epoch), .vec .u8 32 c.v16.Digest]::ownS R_commit_Node w.a_fresh24 c.fresh24.length w.c_fresh24 c.fresh24::roS (rI .i64) w.a_v83 c.v83.length w.c_v83 c.v83::hpA (obA ρ) σ::A)
abbrev Y4:=Addr→Addr→Sl→Sl→Int→Int→Hp→Prop
abbrev T4 (X_nodes5:At) (X_changes6:At) (S:Y4) (c:V) (w:W) (h:Hp):Prop:=S w.p_v16 c.p18o ⟨w.a_fresh24,c.fresh24.length,w.c_fresh24⟩ ⟨w.a_v83,c.v83.length,w.c_v83⟩ c.v84 c.v85 h
def k4t (ρ:Ids) (X_nodes5:At) (X_changes6:At) (A:List At) (S':V→St Obj→Prop) (S:Y4):Prop:= ∀ (c:V) (w:W) (h:Hp) (σ:St Obj),I4 ρ X_nodes5 X_changes6 c w σ A h→S' c σ→T4 X_nodes5 X_changes6 S c w h
variable {X_nodes5 X_changes6:At} {c:V} {w:W} {σ:St Obj} {Q':QT} {Q:RT} {S2' S3' S4':V→St Obj→Prop} {S2:Y2} {S3:Y3} {S4:Y4}
def B4 (S4:V→St Obj→Prop) (Q:QT) (c:V) (σ:St Obj):Prop:=
  br (decide (c.v85<c.v84))
  (ixP c.v83 c.v85 fun x_108=>
  at_commit_planner σ c.p18o fun x_114=>
  lkOP x_114.nodes x_108 fun y_126=>
  slices_Clone_seal_Ref_seal_Ref y_126 fun r_133=>
  (Bnd (c.fresh24.length+([(⟨x_108,r_133⟩:commit_Node)]).length))∧
  lkOP (x_114.nodes.map (Pu.upd · x_108 y_126)) x_108 fun y_146=>
  node_Lay y_146 fun r_153 r_156=>
  commit_planner_hide (some c.p18o) x_108 r_153 (sset σ c.p18o (.commit_planner (⟨x_114.book,x_114.key,x_114.epoch,x_114.shape,x_114.root,((x_114.nodes.map (Pu.upd · x_108 y_126)).map (Pu.upd · x_108 y_146)),x_114.puts⟩:commit_planner))) fun σ_159=>
  S4 {c with fresh24:=(c.fresh24++[(⟨x_108,r_133⟩:commit_Node)]),v85:=(IntKind.wrap .i64 (c.v85+(1:Int)))} σ_159)
  (at_commit_planner σ c.p18o fun x_161=>
  Q x_161.puts c.fresh24 x_161.root (0:Int) (sdel σ c.p18o))
def L4 (Q:QT) (c:V) (σ:St Obj):Prop:=
  Lf (fun S (v:V × St Obj)=>B4 (fun c σ=>S (c,σ)) Q v.1 v.2) (c,σ)
theorem L4_in {Q:QT} {c:V} {σ:St Obj} (H:B4 (L4 Q) Q c σ):L4 Q c σ:=Lf.fold H
theorem B4_r (I:I4 ρ X_nodes5 X_changes6 c w σ A h) (H:B4 S4' Q' c σ) (kS4:k4t ρ X_nodes5 X_changes6 A S4' S4) (k:kt ρ X_nodes5 X_changes6 A Q' Q):T4 X_nodes5 X_changes6 (Tx.commit_Plan_B4 ρ S4 Q) c w h:=by
  unfold I4 at I
  unfold T4 Tx.commit_Plan_B4
  unfold B4 at H
  refine br_r H (fun hb H=> ?_) (fun hb H=> ?_)
  · refine ixI_a rd_ro I.pull4 (ixP_keep H) fun p_109 x_108 he_110 hb_111 hc_112 H => ?_
    obtain ⟨hg_113,H⟩:=H
    refine ldI_r hc_112 ?_
    obtain ⟨x_114,hx_115,H⟩:=H
    obtain ⟨a4_116,c4_117,m8_118,o8_119,a9_120,c9_121,I⟩:=op_commit_planner (I.pull5.take hx_115)
    refine ldM_r (I.cell 7 69 rfl) ?_
    refine lkO_r (Kx:=(kI .i64)) (key:=x_108) I.pull2 H fun f_129 a_130 c_131 y_126 hf_128 I H=> ?_
    refine slices_Clone_seal_Ref_seal_Ref_r (s0:=y_126) rd_own I H fun r_133 a_134 c_135 h I H=> ?_
    refine al_r [.one (.int .i64 x_108), .one (.slice a_134 r_133.length c_135)] rfl I fun p_137 h I=> ?_
    replace I:=I.litN R_commit_Node
    replace I:=I.pull2.freeze
    replace I:=I.dupR
    replace I:=mcommit_Node (⟨x_108,r_133⟩:commit_Node) I
    replace I:=I.pull2.pull1
    replace I:=I.litC
    replace I:=I.pull2.pull1
    replace I:=Inv.litL (l:=[(⟨x_108,r_133⟩:commit_Node)]) I rfl rfl
    refine ap_r rd_own I.pull11 rfl (by decide) (by decide) H.1 fun a_143 c_144 h I=> ?_
    replace H:=H.2
    replace I:=I.pull1.drop1
    refine ldM_r (I.pull4.cell 7 69 rfl) ?_
    replace I:=I.pull3.pull3
    replace I:=I.fillH
    refine lkO_r (Kx:=(kI .i64)) (key:=x_108) I H fun f_149 a_150 c_151 y_146 hf_148 I H=> ?_
    refine node_Lay_r (refs0:=y_146) rd_own I H fun r_153 a_154 c_155 r_156 h I H=> ?_
    replace I:=I.pull6.dupR
    replace I:=I.pull4.pull4
    replace I:=I.fillH
    replace I:=I.pull8.pull8.pull2.pull3.pull8
    replace I:=(cl_commit_planner (⟨x_114.book,x_114.key,x_114.epoch,x_114.shape,x_114.root,((x_114.nodes.map (Pu.upd · x_108 y_126)).map (Pu.upd · x_108 y_146)),x_114.puts⟩:commit_planner) I).putB
    replace I:=I.pull2
    refine commit_planner_hide_r (p0:=(some c.p18o)) (item1:=x_108) (page2:=r_153) (σ:=(sset σ c.p18o (.commit_planner (⟨x_114.book,x_114.key,x_114.epoch,x_114.shape,x_114.root,((x_114.nodes.map (Pu.upd · x_108 y_126)).map (Pu.upd · x_108 y_146)),x_114.puts⟩:commit_planner)))) rd_own I H fun h σ_159 I H=> ?_
    replace I:=I.pull8.dupR
    replace I:=I.pull1.drop1
    replace I:=I.pull1.drop1
    replace I:=I.pull2.drop1
    replace I:=I.pull3.drop1
    replace I:=I.pull1.pull1.pull2.pull5.pull5.pull5
    exact kS4 {c with fresh24:=(c.fresh24++[(⟨x_108,r_133⟩:commit_Node)]),v85:=(IntKind.wrap .i64 (c.v85+(1:Int)))} {w with a_fresh24:=a_143,c_fresh24:=c_144} _ σ_159 I H
  · obtain ⟨x_161, hx_162, H⟩ := H
    obtain ⟨a4_163,c4_164,m8_165,o8_166,a9_167,c9_168,I⟩:=op_commit_planner (I.pull5.take hx_162)
    refine ldS_r (I.cell 8 70 rfl) ?_
    refine ldI_r (I.cell 4 35 rfl) ?_
    refine ldI_r (I.cell 5 36 rfl) ?_
    refine ldL_r (I.lump 6 37 rfl) ?_
    try simp only [nrm_v]
    refine stA_r I.pull7 0 3 0 [.one (.int .i64 x_161.root.Place), .one (.int .u32 x_161.root.Epoch), .vec .u8 32 x_161.root.Digest] rfl rfl rfl (by first | exact all_segs rfl | exact all_one (by simp [segs,Seg.cells,allOne,allOne_append,allOne_lump,Value.oneCell'])) fun h (I:Inv h (blk w.p_v16 (ρ.T 16) [.one (.int .i64 x_161.root.Place), .one (.int .u32 x_161.root.Epoch), .vec .u8 32 x_161.root.Digest]::_))=> ?_
    refine ldI_r (I.cell 0 0 rfl) ?_
    refine ldI_r (I.cell 1 1 rfl) ?_
    refine ldL_r (I.lump 2 2 rfl) ?_
    try simp only [nrm_v]
    replace I:=I.drop1
    replace I:=I.drop1
    replace I:=I.drop1
    replace I:=I.drop1
    replace I:=I.pull5.drop1
    replace I:=I.pull1.pull3.pull3.pull4.pull4
    exact k x_161.puts a9_167 c9_168 c.fresh24 w.a_fresh24 w.c_fresh24 x_161.root (0:Int) _ (sdel σ c.p18o) I H
theorem L4_r (I:I4 ρ X_nodes5 X_changes6 c w σ A h) (H:L4 Q' c σ) (k:kt ρ X_nodes5 X_changes6 A Q' Q):T4 X_nodes5 X_changes6 (Tx.commit_Plan_L4 ρ Q) c w h:=by
  refine Lf.ind H (fun v=> ∀ (w:W) (h:Hp),I4 ρ X_nodes5 X_changes6 v.1 w v.2 A h→T4 X_nodes5 X_changes6 (Tx.commit_Plan_L4 ρ Q) v.1 w h) ?_ w h I
  rintro ⟨c,σ⟩ S hS HB w h I
  refine Tx.commit_Plan_L4_in _ _ _ _ _ _ _ _ _ ?_
  try simp only [nrm_v]
  exact B4_r (c:=c) (w:=w) I HB (fun c w h σ I H=>hS _ H w h I) k
def B3 (S3:V→St Obj→Prop) (Q:QT) (c:V) (σ:St Obj):Prop:=
  br (decide (c.v72<c.v71))
  (ixP c.v70 c.v72 fun x_87=>
  commit_planner_hide (some c.p18o) x_87.Page x_87.Bytes σ fun σ_98=>
  S3 {c with v72:=(IntKind.wrap .i64 (c.v72+(1:Int)))} σ_98)
  (L4 Q {c with fresh24:=([]:List commit_Node),v83:=c.need19,v84:=(c.need19.length:Int),v85:=(0:Int)} σ)
def L3 (Q:QT) (c:V) (σ:St Obj):Prop:=
  Lf (fun S (v:V × St Obj)=>B3 (fun c σ=>S (c,σ)) Q v.1 v.2) (c,σ)
theorem L3_in {Q:QT} {c:V} {σ:St Obj} (H:B3 (L3 Q) Q c σ):L3 Q c σ:=Lf.fold H
theorem B3_r (I:I3 ρ X_nodes5 X_changes6 c w σ A h) (H:B3 S3' Q' c σ) (kS3:k3t ρ X_nodes5 X_changes6 A S3' S3) (k:kt ρ X_nodes5 X_changes6 A Q' Q):T3 X_nodes5 X_changes6 (Tx.commit_Plan_B3 ρ S3 Q) c w h:=by
  obtain ⟨hX_v70,I⟩:=I
  unfold T3 Tx.commit_Plan_B3
  unfold B3 at H
  refine br_r H (fun hb H=> ?_) (fun hb H=> ?_)
  · refine ixcommit_Change hX_v70 I.pull1 H fun p_88 x_87 a_93 c_94 he_89 hb_90 hc_91 hc_92 I H => ?_
    refine ldI_r hc_91 ?_
    refine ldS_r hc_92 ?_
    refine al_r [.one (.int .i64 (0:Int)), .one (.slice none 0 0)] rfl I fun p_96 h I=> ?_
    refine stA_r I 0 2 0 [.one (.int .i64 x_87.Page), .one (.slice a_93 x_87.Bytes.length c_94)] rfl rfl rfl (by first | exact all_segs rfl | exact all_one (by simp [segs,Seg.cells,allOne,allOne_append,allOne_lump,Value.oneCell'])) fun h (I:Inv h (blk p_96 (ρ.T 17) [.one (.int .i64 x_87.Page), .one (.slice a_93 x_87.Bytes.length c_94)]::_))=> ?_
    refine ldI_r (I.cell 0 0 rfl) ?_
    refine ldS_r (I.cell 1 1 rfl) ?_
    replace I:=I.pull6.pull2
    refine commit_planner_hide_r (p0:=(some c.p18o)) (item1:=x_87.Page) (page2:=x_87.Bytes) (σ:=σ) rd_ro I H fun h σ_98 I H=> ?_
    replace I:=I.pull6.dupR
    replace I:=I.pull1.drop1
    replace I:=I.pull1.drop1
    replace I:=I.pull2.drop1
    replace I:=I.pull1.pull1.pull4.pull3.pull4
    exact kS3 {c with v72:=(IntKind.wrap .i64 (c.v72+(1:Int)))} w _ σ_98 ⟨hX_v70,I⟩ H
  · replace I := I.nilO R_commit_Node
    replace I:=I.pull4.dupR
    replace I:=I.pull1.drop1
    replace I:=I.pull5.pull1.pull2.pull5.pull5.pull5
    exact L4_r (c:= {c with fresh24:=([]:List commit_Node),v83:=c.need19,v84:=(c.need19.length:Int),v85:=(0:Int)}) (w:= {w with a_fresh24:=none,c_fresh24:=0,a_v83:=w.a_need19,c_v83:=w.c_need19}) I H k
theorem L3_r (I:I3 ρ X_nodes5 X_changes6 c w σ A h) (H:L3 Q' c σ) (k:kt ρ X_nodes5 X_changes6 A Q' Q):T3 X_nodes5 X_changes6 (Tx.commit_Plan_L3 ρ Q) c w h:=by
  refine Lf.ind H (fun v=> ∀ (w:W) (h:Hp),I3 ρ X_nodes5 X_changes6 v.1 w v.2 A h→T3 X_nodes5 X_changes6 (Tx.commit_Plan_L3 ρ Q) v.1 w h) ?_ w h I
  rintro ⟨c,σ⟩ S hS HB w h I
  refine Tx.commit_Plan_L3_in _ _ _ _ _ _ _ _ _ ?_
  try simp only [nrm_v]
  exact B3_r (c:=c) (w:=w) I HB (fun c w h σ I H=>hS _ H w h I) k
def B2 (S2:V→St Obj→Prop) (Q:QT) (c:V) (σ:St Obj):Prop:=
  br (decide (c.v54<c.v53))
  (ixP c.v52 c.v54 fun x_53=>
  at_commit_planner σ c.p18o fun x_59=>
  commit_Find c.nodes5 x_53 fun r_71 r_74=>
  muP x_59.nodes x_53 r_71 fun L_76=>
  S2 {c with v54:=(IntKind.wrap .i64 (c.v54+(1:Int)))} (sset σ c.p18o (.commit_planner (⟨x_59.book,x_59.key,x_59.epoch,x_59.shape,x_59.root,L_76,x_59.puts⟩:commit_planner))))
  (L3 Q {c with v70:=c.changes6,v71:=(c.changes6.length:Int),v72:=(0:Int)} σ)
def L2 (Q:QT) (c:V) (σ:St Obj):Prop:=
  Lf (fun S (v:V × St Obj)=>B2 (fun c σ=>S (c,σ)) Q v.1 v.2) (c,σ)
theorem L2_in {Q:QT} {c:V} {σ:St Obj} (H:B2 (L2 Q) Q c σ):L2 Q c σ:=Lf.fold H
theorem B2_r (I:I2 ρ X_nodes5 X_changes6 c w σ A h) (H:B2 S2' Q' c σ) (kS2:k2t ρ X_nodes5 X_changes6 A S2' S2) (k:kt ρ X_nodes5 X_changes6 A Q' Q):T2 X_nodes5 X_changes6 (Tx.commit_Plan_B2 ρ S2 Q) c w h:=by
  obtain ⟨hX_nodes5,hX_changes6,I⟩:=I
  unfold T2 Tx.commit_Plan_B2
  unfold B2 at H
  refine br_r H (fun hb H=> ?_) (fun hb H=> ?_)
  · refine ixI_a rd_ro I.pull4 (ixP_keep H) fun p_54 x_53 he_55 hb_56 hc_57 H => ?_
    obtain ⟨hg_58,H⟩:=H
    refine ldI_r hc_57 ?_
    obtain ⟨x_59,hx_60,H⟩:=H
    obtain ⟨a4_61,c4_62,m8_63,o8_64,a9_65,c9_66,I⟩:=op_commit_planner (I.pull5.take hx_60)
    refine ldM_r (I.cell 7 69 rfl) ?_
    replace I:=I.pull5
    refine commit_Find_r (nodes0:=c.nodes5) (item1:=x_53) hX_nodes5 I H fun r_71 a_72 c_73 r_74 h I H=> ?_
    refine ⟨I.pull2.cell 7 69 rfl, ?_⟩
    replace I:=I.pull4.pull1
    refine muO_r (Kx:=(kI .i64)) (key:=x_53) I H fun h o_77 L_76 I H=> ?_
    replace I:=I.pull3.dupR
    replace I:=I.pull6.pull6.pull4.pull3.pull6
    replace I:=(cl_commit_planner (⟨x_59.book,x_59.key,x_59.epoch,x_59.shape,x_59.root,L_76,x_59.puts⟩:commit_planner) I).putB
    replace I:=I.pull5.dupR
    replace I:=I.pull7.dupR
    replace I:=I.pull1.drop1
    replace I:=I.pull2.drop1
    replace I:=I.pull3.drop1
    replace I:=I.pull2.pull1.pull2.pull5.pull5.pull5
    exact kS2 {c with v54:=(IntKind.wrap .i64 (c.v54+(1:Int)))} w _ (sset σ c.p18o (.commit_planner (⟨x_59.book,x_59.key,x_59.epoch,x_59.shape,x_59.root,L_76,x_59.puts⟩:commit_planner))) ⟨hX_nodes5,hX_changes6,I⟩ H
  · replace I := I.pull3.dupR
    replace I:=I.pull1.drop1
    replace I:=I.pull4.drop1
    replace I:=I.pull4.pull1.pull4.pull4.pull4
    exact L3_r (c:= {c with v70:=c.changes6,v71:=(c.changes6.length:Int),v72:=(0:Int)}) (w:= {w with a_v70:=w.a_changes6,c_v70:=w.c_changes6}) ⟨hX_changes6,I⟩ H k
theorem L2_r (I:I2 ρ X_nodes5 X_changes6 c w σ A h) (H:L2 Q' c σ) (k:kt ρ X_nodes5 X_changes6 A Q' Q):T2 X_nodes5 X_changes6 (Tx.commit_Plan_L2 ρ Q) c w h:=by
  refine Lf.ind H (fun v=> ∀ (w:W) (h:Hp),I2 ρ X_nodes5 X_changes6 v.1 w v.2 A h→T2 X_nodes5 X_changes6 (Tx.commit_Plan_L2 ρ Q) v.1 w h) ?_ w h I
  rintro ⟨c,σ⟩ S hS HB w h I
  refine Tx.commit_Plan_L2_in _ _ _ _ _ _ _ _ _ _ _ ?_
  try simp only [nrm_v]
  exact B2_r (c:=c) (w:=w) I HB (fun c w h σ I H=>hS _ H w h I) k
def K1 (Q:QT) (c:V) (σ:St Obj):Prop:=
  br c.v38
  (Q ([]:List tree_Put) ([]:List commit_Node) (⟨(0:Int),(0:Int),(Vector.replicate 32 (0:Int))⟩:seal_Ref) (1:Int) σ)
  (∀ p_31:Addr,
  commit_pages c.changes6 fun r_33=>
  commit_Need c.s10 r_33 fun r_38=>
  ∀ _:σ p_31=none,
  L2 Q {c with p18o:=p_31,need19:=r_38,v52:=r_38,v53:=(r_38.length:Int),v54:=(0:Int)} (sset σ p_31 (.commit_planner (⟨c.b0,c.key8,c.epoch2,c.s10,c.root11,(some []:Option (List (Int × List seal_Ref))),([]:List tree_Put)⟩:commit_planner))))
theorem K1_r (I:I1 ρ X_nodes5 X_changes6 c w σ A h) (H:K1 Q' c σ) (k:kt ρ X_nodes5 X_changes6 A Q' Q):Tx.commit_Plan_K1 ρ Q c.b0 c.epoch2 ⟨w.a_nodes5,c.nodes5.length,w.c_nodes5⟩ ⟨w.a_changes6,c.changes6.length,w.c_changes6⟩ w.p_key8 w.p_s10 w.p_root11 w.p_v16 c.v38 h:=by
  obtain ⟨hX_nodes5,hX_changes6,I⟩:=I
  unfold Tx.commit_Plan_K1
  unfold K1 at H
  refine br_r H (fun hb H=> ?_) (fun hb H=> ?_)
  · refine stA_r I.pull6 0 3 0 [.one (.int .i64 (0 : Int)), .one (.int .u32 (0 : Int)), .vec .u8 32 (Vector.replicate 32 (0 : Int))] rfl rfl rfl (by first | exact all_segs rfl | exact all_one (by simp [segs, Seg.cells, allOne, allOne_append, allOne_lump, Value.oneCell'])) fun h (I : Inv h (blk w.p_v16 (ρ.T 16) [.one (.int .i64 (0 : Int)), .one (.int .u32 (0 : Int)), .vec .u8 32 (Vector.replicate 32 (0 : Int))] :: _)) => ?_
    refine ldI_r (I.cell 0 0 rfl) ?_
    refine ldI_r (I.cell 1 1 rfl) ?_
    refine ldL_r (I.lump 2 2 rfl) ?_
    try simp only [nrm_v]
    replace I:=I.nilO R_tree_Put
    replace I:=I.nilO R_commit_Node
    replace I:=I.pull2.drop1
    replace I:=I.pull4.drop1
    replace I:=I.pull4.drop1
    replace I:=I.pull4.drop1
    replace I:=I.pull4.drop1
    replace I:=I.pull4.pull4.pull4.pull3.pull4
    exact k ([]:List tree_Put) none 0 ([]:List commit_Node) none 0 (⟨(0:Int),(0:Int),(Vector.replicate 32 (0:Int))⟩:seal_Ref) (1:Int) _ σ I H
  · refine ldL_r (I.pull2.lump 0 0 rfl) ?_
    try simp only [nrm_v]
    refine ldS_r (I.pull3.cell 0 0 rfl) ?_
    refine ldI_r (I.pull5.cell 0 0 rfl) ?_
    refine ldI_r (I.pull5.cell 1 1 rfl) ?_
    refine ldL_r (I.pull5.lump 2 2 rfl) ?_
    try simp only [nrm_v]
    refine amW_r (kI .i64) (rS R_seal_Ref) false I fun m_28 h o_29 I=> ?_
    refine al_r [.one (.pointer c.b0), .vec .u8 32 c.key8, .one (.int .u32 c.epoch2), .one (.slice w.a_s10 c.s10.begins.length w.c_s10), .one (.int .i64 c.root11.Place), .one (.int .u32 c.root11.Epoch), .vec .u8 32 c.root11.Digest, .one (.map (some m_28)), .one (.slice none 0 0)] rfl I fun p_31 h I=> ?_
    replace H:=H p_31
    refine ldS_r (I.pull5.cell 0 0 rfl) ?_
    replace I:=I.pull3
    refine commit_pages_r (changes0:=c.changes6) hX_changes6 I H fun r_33 a_34 c_35 h I H=> ?_
    refine ⟨⟨I.pull6.cell 0 0 rfl,trivial⟩, ?_⟩
    replace I:=I.pull7.dupR
    replace I:=I.pull2.pull1
    try simp only [nrm_v]
    refine commit_Need_r (s0:=c.s10) (pages1:=r_33) rd_own I H fun r_38 a_39 c_40 h I H=> ?_
    replace I:=I.pull2.dupR
    replace I:=I.pull6.toO
    replace I:=I.nilO R_tree_Put
    replace I:=I.pull13.pull1.pull2.pull3.pull8
    obtain ⟨e_44,I⟩:=(cl_commit_planner (⟨c.b0,c.key8,c.epoch2,c.s10,c.root11,(some []:Option (List (Int × List seal_Ref))),([]:List tree_Put)⟩:commit_planner) I).new
    replace H:=H e_44
    replace I:=I.pull2.freeze
    replace I:=I.dupR
    replace I:=I.pull1.dupR
    replace I:=I.pull1.drop1
    replace I:=I.pull3.drop1
    replace I:=I.pull3.drop1
    replace I:=I.pull5.drop1
    replace I:=I.pull5.drop1
    replace I:=I.pull5.drop1
    replace I:=I.pull2.pull1.pull2.pull5.pull4.pull5
    exact L2_r (c:= {c with p18o:=p_31,need19:=r_38,v52:=r_38,v53:=(r_38.length:Int),v54:=(0:Int)}) (w:= {w with a_need19:=a_39,c_need19:=c_40,a_v52:=a_39,c_v52:=c_40}) ⟨hX_nodes5,hX_changes6,I⟩ H k
end commit_Plan
def commit_Plan (b0:Option Addr) (key1:Vector Int 32) (epoch2:Int) (s3:shape_Shape) (root4:seal_Ref) (nodes5:List commit_Node) (changes6:List commit_Change) (σ:St Obj) (Q:commit_Plan.QT):Prop:=
  commit_May s3 nodes5 changes6 fun r_14=>
  br (!r_14)
  (commit_Plan.K1 Q {commit_Plan.v0 with b0:=b0,epoch2:=epoch2,nodes5:=nodes5,changes6:=changes6,key8:=key1,s10:=s3,root11:=root4,v16:=(⟨(0:Int),(0:Int),(Vector.replicate 32 (0:Int))⟩:seal_Ref),v38:=true} σ)
  (commit_isPlace root4 fun r_16=>
  commit_Plan.K1 Q {commit_Plan.v0 with b0:=b0,epoch2:=epoch2,nodes5:=nodes5,changes6:=changes6,key8:=key1,s10:=s3,root11:=root4,v16:=(⟨(0:Int),(0:Int),(Vector.replicate 32 (0:Int))⟩:seal_Ref),v38:=(!r_16)} σ)
theorem commit_Plan_r {b0:Option Addr} {key1:Vector Int 32} {epoch2:Int} {s3:shape_Shape} {root4:seal_Ref} {nodes5:List commit_Node} {changes6:List commit_Change} {a_s3_0:Option Addr} {c_s3_0:Nat} {n_s3_0:Nat} {a_nodes5:Option Addr} {c_nodes5:Nat} {n_nodes5:Nat} {X_nodes5:At} {a_changes6:Option Addr} {c_changes6:Nat} {n_changes6:Nat} {X_changes6:At} {σ:St Obj} {Q':commit_Plan.QT} {Q:commit_Plan.RT} (hX_nodes5:Rd R_commit_Node X_nodes5 a_nodes5 n_nodes5 c_nodes5 nodes5) (hX_changes6:Rd R_commit_Change X_changes6 a_changes6 n_changes6 c_changes6 changes6) (I:Inv h (roS (rI .i64) a_s3_0 n_s3_0 c_s3_0 s3.begins::X_nodes5::X_changes6::hpA (obA ρ) σ::A)) (H:commit_Plan b0 key1 epoch2 s3 root4 nodes5 changes6 σ Q')
    (k:commit_Plan.kt ρ X_nodes5 X_changes6 A Q' Q):Tx.commit_Plan ρ b0 key1.toList epoch2 ⟨a_s3_0,n_s3_0,c_s3_0⟩ root4.Place root4.Epoch root4.Digest.toList ⟨a_nodes5,n_nodes5,c_nodes5⟩ ⟨a_changes6,n_changes6,c_changes6⟩ h Q:=by
  obtain rfl:=ro_len I
  obtain rfl:=rd_len hX_nodes5 I.pull1
  obtain rfl:=rd_len hX_changes6 I.pull2
  unfold Tx.commit_Plan
  unfold commit_Plan at H
  try simp only [nrm_v]
  refine al_r [.vec .u8 32 key1] rfl I fun p_5 h I=> ?_
  refine al_r [.one (.slice a_s3_0 s3.begins.length c_s3_0)] rfl I fun p_7 h I=> ?_
  refine al_r [.one (.int .i64 root4.Place), .one (.int .u32 root4.Epoch), .vec .u8 32 root4.Digest] rfl I fun p_9 h I=> ?_
  refine al_r [.one (.int .i64 (0:Int)), .one (.int .u32 (0:Int)), .vec .u8 32 (Vector.replicate 32 (0:Int))] rfl I fun p_11 h I=> ?_
  refine ldS_r (I.pull2.cell 0 0 rfl) ?_
  replace I:=I.pull4.dupR
  replace I:=I.pull7.pull7.pull2
  try simp only [nrm_v]
  refine commit_May_r (s0:=s3) (nodes1:=nodes5) (changes2:=changes6) hX_nodes5 hX_changes6 I H fun r_14 h I H=> ?_
  refine br_r H (fun hb H=> ?_) (fun hb H=> ?_)
  · replace I := I.pull2.dupR
    replace I:=I.pull1.drop1
    replace I:=I.pull7.pull4.pull5.pull3.pull6.pull7.pull7.pull7
    exact commit_Plan.K1_r (c:= {commit_Plan.v0 with b0:=b0,epoch2:=epoch2,nodes5:=nodes5,changes6:=changes6,key8:=key1,s10:=s3,root11:=root4,v16:=(⟨(0:Int),(0:Int),(Vector.replicate 32 (0:Int))⟩:seal_Ref),v38:=true}) (w:= {commit_Plan.w0 with a_nodes5:=a_nodes5,c_nodes5:=c_nodes5,a_changes6:=a_changes6,c_changes6:=c_changes6,p_key8:=p_5,p_s10:=p_7,a_s10:=a_s3_0,c_s10:=c_s3_0,p_root11:=p_9,p_v16:=p_11}) ⟨hX_nodes5,hX_changes6,I⟩ H k
  · refine ldI_r (I.pull4.cell 0 0 rfl) ?_
    refine ldI_r (I.pull4.cell 1 1 rfl) ?_
    refine ldL_r (I.pull4.lump 2 2 rfl) ?_
    try simp only [nrm_v]
    try simp only [nrm_v]
    refine commit_isPlace_r (r0:=root4) I H fun r_16 h I H=> ?_
    replace I:=I.pull2.dupR
    replace I:=I.pull1.drop1
    replace I:=I.pull7.pull4.pull5.pull3.pull6.pull7.pull7.pull7
    exact commit_Plan.K1_r (c:= {commit_Plan.v0 with b0:=b0,epoch2:=epoch2,nodes5:=nodes5,changes6:=changes6,key8:=key1,s10:=s3,root11:=root4,v16:=(⟨(0:Int),(0:Int),(Vector.replicate 32 (0:Int))⟩:seal_Ref),v38:=(!r_16)}) (w:= {commit_Plan.w0 with a_nodes5:=a_nodes5,c_nodes5:=c_nodes5,a_changes6:=a_changes6,c_changes6:=c_changes6,p_key8:=p_5,p_s10:=p_7,a_s10:=a_s3_0,c_s10:=c_s3_0,p_root11:=p_9,p_v16:=p_11}) ⟨hX_nodes5,hX_changes6,I⟩ H k
namespace carlinglaw16_alive
structure V where
  s1:shape_Shape
  l3:List tree_Put
  n4:List commit_Node
  r5:seal_Ref
  e6:Int
  v12:Vector Int 32
  v14:seal_Ref
  v16:List seal_Ref
  v18:List commit_Node
  v19:List Int
  v21:List commit_Change
  v23:List tree_Put
  v24:List commit_Node
  v25:seal_Ref
  v26:Int
  v20:commit_Change
  v17:commit_Node
  v15:seal_Ref
structure W where
  p_s1:Addr
  a_s1:Option Addr
  c_s1:Nat
  a_l3:Option Addr
  c_l3:Nat
  a_n4:Option Addr
  c_n4:Nat
  p_r5:Addr
  a_v16:Option Addr
  c_v16:Nat
  a_v18:Option Addr
  c_v18:Nat
  a_v19:Option Addr
  c_v19:Nat
  a_v21:Option Addr
  c_v21:Nat
  a_v23:Option Addr
  c_v23:Nat
  a_v24:Option Addr
  c_v24:Nat
  a_v20_1:Option Addr
  c_v20_1:Nat
  a_v17_1:Option Addr
  c_v17_1:Nat
def v0:V:=⟨(⟨[]⟩:shape_Shape),[],[],(⟨(0:Int),(0:Int),(Vector.replicate 32 (0:Int))⟩:seal_Ref),0,Vector.replicate 32 0,(⟨(0:Int),(0:Int),(Vector.replicate 32 (0:Int))⟩:seal_Ref),[],[],[],[],[],[],(⟨(0:Int),(0:Int),(Vector.replicate 32 (0:Int))⟩:seal_Ref),0,(⟨(0:Int),[]⟩:commit_Change),(⟨(0:Int),[]⟩:commit_Node),(⟨(0:Int),(0:Int),(Vector.replicate 32 (0:Int))⟩:seal_Ref)⟩
def w0:W:=⟨⟨0,0,none⟩,none,0,none,0,none,0,⟨0,0,none⟩,none,0,none,0,none,0,none,0,none,0,none,0,none,0,none,0⟩
abbrev QT:=Bool→St Obj→Prop
abbrev RT:=Bool→Hp→Prop
def kt (ρ:Ids) (A:List At) (Q':QT) (Q:RT):Prop:=
  ∀ (r0:Bool) (h':Hp) (σ':St Obj),Inv h' (hpA (obA ρ) σ'::A)→Q' r0 σ'→Q r0 h'
def I1 (ρ:Ids) (c:V) (w:W) (σ:St Obj) (A:List At) (h:Hp):Prop:=
  Inv h (blk w.p_s1 (ρ.T 11) [.one (.slice w.a_s1 c.s1.begins.length w.c_s1)]::roS (rI .i64) w.a_s1 c.s1.begins.length w.c_s1 c.s1.begins::ownS R_tree_Put w.a_l3 c.l3.length w.c_l3 c.l3::ownS R_commit_Node w.a_n4 c.n4.length w.c_n4 c.n4::blk w.p_r5 (ρ.T 16) [.one (.int .i64 c.r5.Place), .one (.int .u32 c.r5.Epoch), .vec .u8 32 c.r5.Digest]::hpA (obA ρ) σ::A)
def I2 (ρ:Ids) (c:V) (w:W) (σ:St Obj) (A:List At) (h:Hp):Prop:=
  Inv h (blk w.p_s1 (ρ.T 11) [.one (.slice w.a_s1 c.s1.begins.length w.c_s1)]::roS (rI .i64) w.a_s1 c.s1.begins.length w.c_s1 c.s1.begins::ownS R_seal_Ref w.a_v16 c.v16.length w.c_v16 c.v16::hpA (obA ρ) σ::A)
def I3 (ρ:Ids) (c:V) (w:W) (σ:St Obj) (A:List At) (h:Hp):Prop:=
  Inv h (blk w.p_s1 (ρ.T 11) [.one (.slice w.a_s1 c.s1.begins.length w.c_s1)]::roS (rI .i64) w.a_s1 c.s1.begins.length w.c_s1 c.s1.begins::ownS R_commit_Node w.a_v18 c.v18.length w.c_v18 c.v18::hpA (obA ρ) σ::A)
def I4 (ρ:Ids) (c:V) (w:W) (σ:St Obj) (A:List At) (h:Hp):Prop:=
  Inv h (blk w.p_s1 (ρ.T 11) [.one (.slice w.a_s1 c.s1.begins.length w.c_s1)]::roS (rI .i64) w.a_s1 c.s1.begins.length w.c_s1 c.s1.begins::ownS R_commit_Node w.a_v18 c.v18.length w.c_v18 c.v18::ownS (rI .u8) w.a_v19 c.v19.length w.c_v19 c.v19::hpA (obA ρ) σ::A)
def I5 (ρ:Ids) (c:V) (w:W) (σ:St Obj) (A:List At) (h:Hp):Prop:=
  Inv h (blk w.p_s1 (ρ.T 11) [.one (.slice w.a_s1 c.s1.begins.length w.c_s1)]::roS (rI .i64) w.a_s1 c.s1.begins.length w.c_s1 c.s1.begins::ownS R_commit_Node w.a_v18 c.v18.length w.c_v18 c.v18::ownS R_commit_Change w.a_v21 c.v21.length w.c_v21 c.v21::hpA (obA ρ) σ::A)
def I6 (ρ:Ids) (c:V) (w:W) (σ:St Obj) (A:List At) (h:Hp):Prop:=
  Inv h (blk w.p_s1 (ρ.T 11) [.one (.slice w.a_s1 c.s1.begins.length w.c_s1)]::roS (rI .i64) w.a_s1 c.s1.begins.length w.c_s1 c.s1.begins::blk w.p_r5 (ρ.T 16) [.one (.int .i64 c.r5.Place), .one (.int .u32 c.r5.Epoch), .vec .u8 32 c.r5.Digest]::ownS R_tree_Put w.a_v23 c.v23.length w.c_v23 c.v23::ownS R_commit_Node w.a_v24 c.v24.length w.c_v24 c.v24::hpA (obA ρ) σ::A)
def I7 (ρ:Ids) (c:V) (w:W) (σ:St Obj) (A:List At) (h:Hp):Prop:=
  Inv h (blk w.p_s1 (ρ.T 11) [.one (.slice w.a_s1 c.s1.begins.length w.c_s1)]::roS (rI .i64) w.a_s1 c.s1.begins.length w.c_s1 c.s1.begins::ownS R_tree_Put w.a_l3 c.l3.length w.c_l3 c.l3::ownS R_commit_Node w.a_n4 c.n4.length w.c_n4 c.n4::blk w.p_r5 (ρ.T 16) [.one (.int .i64 c.r5.Place), .one (.int .u32 c.r5.Epoch), .vec .u8 32 c.r5.Digest]::hpA (obA ρ) σ::A)
def I8 (ρ:Ids) (c:V) (w:W) (σ:St Obj) (A:List At) (h:Hp):Prop:=
  Inv h (blk w.p_s1 (ρ.T 11) [.one (.slice w.a_s1 c.s1.begins.length w.c_s1)]::roS (rI .i64) w.a_s1 c.s1.begins.length w.c_s1 c.s1.begins::blk w.p_r5 (ρ.T 16) [.one (.int .i64 c.r5.Place), .one (.int .u32 c.r5.Epoch), .vec .u8 32 c.r5.Digest]::ownS R_commit_Node w.a_v18 c.v18.length w.c_v18 c.v18::ownS R_commit_Change w.a_v21 c.v21.length w.c_v21 c.v21::hpA (obA ρ) σ::A)
def I9 (ρ:Ids) (c:V) (w:W) (σ:St Obj) (A:List At) (h:Hp):Prop:=
  Inv h (blk w.p_s1 (ρ.T 11) [.one (.slice w.a_s1 c.s1.begins.length w.c_s1)]::roS (rI .i64) w.a_s1 c.s1.begins.length w.c_s1 c.s1.begins::blk w.p_r5 (ρ.T 16) [.one (.int .i64 c.r5.Place), .one (.int .u32 c.r5.Epoch), .vec .u8 32 c.r5.Digest]::ownS R_commit_Node w.a_v18 c.v18.length w.c_v18 c.v18::ownS (rI .u8) w.a_v20_1 c.v20.Bytes.length w.c_v20_1 c.v20.Bytes::hpA (obA ρ) σ::A)
def I10 (ρ:Ids) (c:V) (w:W) (σ:St Obj) (A:List At) (h:Hp):Prop:=
  Inv h (blk w.p_s1 (ρ.T 11) [.one (.slice w.a_s1 c.s1.begins.length w.c_s1)]::roS (rI .i64) w.a_s1 c.s1.begins.length w.c_s1 c.s1.begins::blk w.p_r5 (ρ.T 16) [.one (.int .i64 c.r5.Place), .one (.int .u32 c.r5.Epoch), .vec .u8 32 c.r5.Digest]::ownS R_commit_Node w.a_v18 c.v18.length w.c_v18 c.v18::hpA (obA ρ) σ::A)
def I11 (ρ:Ids) (c:V) (w:W) (σ:St Obj) (A:List At) (h:Hp):Prop:=
  Inv h (blk w.p_s1 (ρ.T 11) [.one (.slice w.a_s1 c.s1.begins.length w.c_s1)]::roS (rI .i64) w.a_s1 c.s1.begins.length w.c_s1 c.s1.begins::blk w.p_r5 (ρ.T 16) [.one (.int .i64 c.r5.Place), .one (.int .u32 c.r5.Epoch), .vec .u8 32 c.r5.Digest]::ownS R_commit_Node w.a_v18 c.v18.length w.c_v18 c.v18::ownS (rI .u8) w.a_v19 c.v19.length w.c_v19 c.v19::hpA (obA ρ) σ::A)
def I12 (ρ:Ids) (c:V) (w:W) (σ:St Obj) (A:List At) (h:Hp):Prop:=
  Inv h (blk w.p_s1 (ρ.T 11) [.one (.slice w.a_s1 c.s1.begins.length w.c_s1)]::roS (rI .i64) w.a_s1 c.s1.begins.length w.c_s1 c.s1.begins::ownS R_seal_Ref w.a_v17_1 c.v17.Refs.length w.c_v17_1 c.v17.Refs::ownS (rI .u8) w.a_v19 c.v19.length w.c_v19 c.v19::hpA (obA ρ) σ::A)
def I13 (ρ:Ids) (c:V) (w:W) (σ:St Obj) (A:List At) (h:Hp):Prop:=
  Inv h (blk w.p_s1 (ρ.T 11) [.one (.slice w.a_s1 c.s1.begins.length w.c_s1)]::roS (rI .i64) w.a_s1 c.s1.begins.length w.c_s1 c.s1.begins::ownS R_commit_Node w.a_v18 c.v18.length w.c_v18 c.v18::ownS (rI .u8) w.a_v20_1 c.v20.Bytes.length w.c_v20_1 c.v20.Bytes::hpA (obA ρ) σ::A)
def I14 (ρ:Ids) (c:V) (w:W) (σ:St Obj) (A:List At) (h:Hp):Prop:=
  Inv h (blk w.p_s1 (ρ.T 11) [.one (.slice w.a_s1 c.s1.begins.length w.c_s1)]::roS (rI .i64) w.a_s1 c.s1.begins.length w.c_s1 c.s1.begins::ownS R_seal_Ref w.a_v17_1 c.v17.Refs.length w.c_v17_1 c.v17.Refs::ownS R_commit_Change w.a_v21 c.v21.length w.c_v21 c.v21::hpA (obA ρ) σ::A)
def I15 (ρ:Ids) (c:V) (w:W) (σ:St Obj) (A:List At) (h:Hp):Prop:=
  Inv h (blk w.p_s1 (ρ.T 11) [.one (.slice w.a_s1 c.s1.begins.length w.c_s1)]::roS (rI .i64) w.a_s1 c.s1.begins.length w.c_s1 c.s1.begins::blk w.p_r5 (ρ.T 16) [.one (.int .i64 c.r5.Place), .one (.int .u32 c.r5.Epoch), .vec .u8 32 c.r5.Digest]::ownS R_seal_Ref w.a_v17_1 c.v17.Refs.length w.c_v17_1 c.v17.Refs::ownS R_commit_Change w.a_v21 c.v21.length w.c_v21 c.v21::hpA (obA ρ) σ::A)
def I16 (ρ:Ids) (c:V) (w:W) (σ:St Obj) (A:List At) (h:Hp):Prop:=
  Inv h (blk w.p_s1 (ρ.T 11) [.one (.slice w.a_s1 c.s1.begins.length w.c_s1)]::roS (rI .i64) w.a_s1 c.s1.begins.length w.c_s1 c.s1.begins::blk w.p_r5 (ρ.T 16) [.one (.int .i64 c.r5.Place), .one (.int .u32 c.r5.Epoch), .vec .u8 32 c.r5.Digest]::ownS R_seal_Ref w.a_v17_1 c.v17.Refs.length w.c_v17_1 c.v17.Refs::ownS (rI .u8) w.a_v20_1 c.v20.Bytes.length w.c_v20_1 c.v20.Bytes::hpA (obA ρ) σ::A)
def I17 (ρ:Ids) (c:V) (w:W) (σ:St Obj) (A:List At) (h:Hp):Prop:=
  Inv h (blk w.p_s1 (ρ.T 11) [.one (.slice w.a_s1 c.s1.begins.length w.c_s1)]::roS (rI .i64) w.a_s1 c.s1.begins.length w.c_s1 c.s1.begins::blk w.p_r5 (ρ.T 16) [.one (.int .i64 c.r5.Place), .one (.int .u32 c.r5.Epoch), .vec .u8 32 c.r5.Digest]::ownS R_seal_Ref w.a_v17_1 c.v17.Refs.length w.c_v17_1 c.v17.Refs::hpA (obA ρ) σ::A)
def I18 (ρ:Ids) (c:V) (w:W) (σ:St Obj) (A:List At) (h:Hp):Prop:=
  Inv h (blk w.p_s1 (ρ.T 11) [.one (.slice w.a_s1 c.s1.begins.length w.c_s1)]::roS (rI .i64) w.a_s1 c.s1.begins.length w.c_s1 c.s1.begins::blk w.p_r5 (ρ.T 16) [.one (.int .i64 c.r5.Place), .one (.int .u32 c.r5.Epoch), .vec .u8 32 c.r5.Digest]::ownS R_seal_Ref w.a_v17_1 c.v17.Refs.length w.c_v17_1 c.v17.Refs::ownS (rI .u8) w.a_v19 c.v19.length w.c_v19 c.v19::hpA (obA ρ) σ::A)
def I19 (ρ:Ids) (c:V) (w:W) (σ:St Obj) (A:List At) (h:Hp):Prop:=
  Inv h (blk w.p_s1 (ρ.T 11) [.one (.slice w.a_s1 c.s1.begins.length w.c_s1)]::roS (rI .i64) w.a_s1 c.s1.begins.length w.c_s1 c.s1.begins::ownS (rI .u8) w.a_v19 c.v19.length w.c_v19 c.v19::hpA (obA ρ) σ::A)
def I20 (ρ:Ids) (c:V) (w:W) (σ:St Obj) (A:List At) (h:Hp):Prop:=
  Inv h (blk w.p_s1 (ρ.T 11) [.one (.slice w.a_s1 c.s1.begins.length w.c_s1)]::roS (rI .i64) w.a_s1 c.s1.begins.length w.c_s1 c.s1.begins::ownS R_seal_Ref w.a_v16 c.v16.length w.c_v16 c.v16::ownS (rI .u8) w.a_v20_1 c.v20.Bytes.length w.c_v20_1 c.v20.Bytes::hpA (obA ρ) σ::A)
def I21 (ρ:Ids) (c:V) (w:W) (σ:St Obj) (A:List At) (h:Hp):Prop:=
  Inv h (blk w.p_s1 (ρ.T 11) [.one (.slice w.a_s1 c.s1.begins.length w.c_s1)]::roS (rI .i64) w.a_s1 c.s1.begins.length w.c_s1 c.s1.begins::ownS R_commit_Change w.a_v21 c.v21.length w.c_v21 c.v21::hpA (obA ρ) σ::A)
def I22 (ρ:Ids) (c:V) (w:W) (σ:St Obj) (A:List At) (h:Hp):Prop:=
  Inv h (blk w.p_s1 (ρ.T 11) [.one (.slice w.a_s1 c.s1.begins.length w.c_s1)]::roS (rI .i64) w.a_s1 c.s1.begins.length w.c_s1 c.s1.begins::ownS R_seal_Ref w.a_v16 c.v16.length w.c_v16 c.v16::ownS R_commit_Change w.a_v21 c.v21.length w.c_v21 c.v21::hpA (obA ρ) σ::A)
def I23 (ρ:Ids) (c:V) (w:W) (σ:St Obj) (A:List At) (h:Hp):Prop:=
  Inv h (blk w.p_s1 (ρ.T 11) [.one (.slice w.a_s1 c.s1.begins.length w.c_s1)]::roS (rI .i64) w.a_s1 c.s1.begins.length w.c_s1 c.s1.begins::blk w.p_r5 (ρ.T 16) [.one (.int .i64 c.r5.Place), .one (.int .u32 c.r5.Epoch), .vec .u8 32 c.r5.Digest]::ownS R_commit_Change w.a_v21 c.v21.length w.c_v21 c.v21::hpA (obA ρ) σ::A)
def I24 (ρ:Ids) (c:V) (w:W) (σ:St Obj) (A:List At) (h:Hp):Prop:=
  Inv h (blk w.p_s1 (ρ.T 11) [.one (.slice w.a_s1 c.s1.begins.length w.c_s1)]::roS (rI .i64) w.a_s1 c.s1.begins.length w.c_s1 c.s1.begins::blk w.p_r5 (ρ.T 16) [.one (.int .i64 c.r5.Place), .one (.int .u32 c.r5.Epoch), .vec .u8 32 c.r5.Digest]::ownS R_seal_Ref w.a_v16 c.v16.length w.c_v16 c.v16::ownS R_commit_Change w.a_v21 c.v21.length w.c_v21 c.v21::hpA (obA ρ) σ::A)
def I25 (ρ:Ids) (c:V) (w:W) (σ:St Obj) (A:List At) (h:Hp):Prop:=
  Inv h (blk w.p_s1 (ρ.T 11) [.one (.slice w.a_s1 c.s1.begins.length w.c_s1)]::roS (rI .i64) w.a_s1 c.s1.begins.length w.c_s1 c.s1.begins::blk w.p_r5 (ρ.T 16) [.one (.int .i64 c.r5.Place), .one (.int .u32 c.r5.Epoch), .vec .u8 32 c.r5.Digest]::ownS (rI .u8) w.a_v20_1 c.v20.Bytes.length w.c_v20_1 c.v20.Bytes::hpA (obA ρ) σ::A)
def I26 (ρ:Ids) (c:V) (w:W) (σ:St Obj) (A:List At) (h:Hp):Prop:=
  Inv h (blk w.p_s1 (ρ.T 11) [.one (.slice w.a_s1 c.s1.begins.length w.c_s1)]::roS (rI .i64) w.a_s1 c.s1.begins.length w.c_s1 c.s1.begins::blk w.p_r5 (ρ.T 16) [.one (.int .i64 c.r5.Place), .one (.int .u32 c.r5.Epoch), .vec .u8 32 c.r5.Digest]::ownS R_seal_Ref w.a_v16 c.v16.length w.c_v16 c.v16::ownS (rI .u8) w.a_v20_1 c.v20.Bytes.length w.c_v20_1 c.v20.Bytes::hpA (obA ρ) σ::A)
def I27 (ρ:Ids) (c:V) (w:W) (σ:St Obj) (A:List At) (h:Hp):Prop:=
  Inv h (blk w.p_s1 (ρ.T 11) [.one (.slice w.a_s1 c.s1.begins.length w.c_s1)]::roS (rI .i64) w.a_s1 c.s1.begins.length w.c_s1 c.s1.begins::blk w.p_r5 (ρ.T 16) [.one (.int .i64 c.r5.Place), .one (.int .u32 c.r5.Epoch), .vec .u8 32 c.r5.Digest]::hpA (obA ρ) σ::A)
def I28 (ρ:Ids) (c:V) (w:W) (σ:St Obj) (A:List At) (h:Hp):Prop:=
  Inv h (blk w.p_s1 (ρ.T 11) [.one (.slice w.a_s1 c.s1.begins.length w.c_s1)]::roS (rI .i64) w.a_s1 c.s1.begins.length w.c_s1 c.s1.begins::blk w.p_r5 (ρ.T 16) [.one (.int .i64 c.r5.Place), .one (.int .u32 c.r5.Epoch), .vec .u8 32 c.r5.Digest]::ownS R_seal_Ref w.a_v16 c.v16.length w.c_v16 c.v16::hpA (obA ρ) σ::A)
def I29 (ρ:Ids) (c:V) (w:W) (σ:St Obj) (A:List At) (h:Hp):Prop:=
  Inv h (blk w.p_s1 (ρ.T 11) [.one (.slice w.a_s1 c.s1.begins.length w.c_s1)]::roS (rI .i64) w.a_s1 c.s1.begins.length w.c_s1 c.s1.begins::blk w.p_r5 (ρ.T 16) [.one (.int .i64 c.r5.Place), .one (.int .u32 c.r5.Epoch), .vec .u8 32 c.r5.Digest]::ownS (rI .u8) w.a_v19 c.v19.length w.c_v19 c.v19::hpA (obA ρ) σ::A)
variable {c:V} {w:W} {σ:St Obj} {Q':QT} {Q:RT}
def K1 (Q:QT) (c:V) (σ:St Obj):Prop:=
  br (c.e6==(0:Int))
  (br ((c.l3.length:Int)==(2:Int))
  (ixP c.l3 (0:Int) fun x_28=>
  br (x_28.Block==(2:Int))
  (ixP c.l3 (1:Int) fun x_37=>
  br (x_37.Block==(5:Int))
  (br (c.r5.Place==(1:Int))
  (br (c.r5.Epoch==(2:Int))
  (br ((c.n4.length:Int)==(1:Int))
  (commit_Need c.s1 ([(0:Int)]) fun r_52=>
  Q ((r_52.length:Int)==(1:Int)) σ)
  (Q false σ))
  (Q false σ))
  (Q false σ))
  (Q false σ))
  (Q false σ))
  (Q false σ))
  (Q false σ)
theorem K1_r (I : I1 ρ c w σ A h) (H : K1 Q' c σ) (k : kt ρ A Q' Q) : Tx.carlinglaw16_alive_K1 ρ Q w.p_s1 ⟨w.a_l3, c.l3.length, w.c_l3⟩ ⟨w.a_n4, c.n4.length, w.c_n4⟩ w.p_r5 c.e6 h := by
  unfold I1 at I
  unfold Tx.carlinglaw16_alive_K1
  unfold K1 at H
  refine br_r H (fun hb H=> ?_) (fun hb H=> ?_)
  · refine br_r H (fun hb H => ?_) (fun hb H => ?_)
    · refine ixtree_Put rd_own I.pull2 H fun p_29 x_28 a_34 c_35 he_30 hb_31 hc_32 hc_33 I H => ?_
      refine ldI_r hc_32 ?_
      refine br_r H (fun hb H=> ?_) (fun hb H=> ?_)
      · refine ixtree_Put rd_own I.pull1 H fun p_38 x_37 a_43 c_44 he_39 hb_40 hc_41 hc_42 I H => ?_
        refine ldI_r hc_41 ?_
        refine br_r H (fun hb H=> ?_) (fun hb H=> ?_)
        · refine ldI_r (I.pull6.cell 0 0 rfl) ?_
          refine br_r H (fun hb H=> ?_) (fun hb H=> ?_)
          · refine ldI_r (I.pull6.cell 1 1 rfl) ?_
            refine br_r H (fun hb H=> ?_) (fun hb H=> ?_)
            · refine br_r H (fun hb H => ?_) (fun hb H => ?_)
              · refine ldS_r (I.pull3.cell 0 0 rfl) ?_
                refine al_r [.one (.int .i64 (0:Int))] rfl I fun p_46 h I=> ?_
                replace I:=I.litN (rI .i64)
                replace I:=I.repI (k:= .i64) (0:Int)
                replace I:=I.pull1.pull1
                replace I:=I.litC
                replace I:=I.pull1.pull1
                replace I:=Inv.litL (l:=[(0:Int)]) I rfl rfl
                replace I:=I.pull5.dupR
                replace I:=I.pull2.pull1
                try simp only [nrm_v]
                refine commit_Need_r (s0:=c.s1) (pages1:=[(0:Int)]) rd_own I H fun r_52 a_53 c_54 h I H=> ?_
                replace I:=I.drop1
                replace I:=I.drop1
                replace I:=I.drop1
                replace I:=I.drop1
                replace I:=I.drop1
                replace I:=I.drop1
                replace I:=I.drop1
                replace I:=I.drop1
                replace I:=I.drop1
                exact k ((r_52.length:Int)==(1:Int)) _ σ I H
              · replace I := I.drop1
                replace I:=I.drop1
                replace I:=I.drop1
                replace I:=I.drop1
                replace I:=I.drop1
                replace I:=I.drop1
                replace I:=I.drop1
                exact k false _ σ I H
            · replace I := I.drop1
              replace I:=I.drop1
              replace I:=I.drop1
              replace I:=I.drop1
              replace I:=I.drop1
              replace I:=I.drop1
              replace I:=I.drop1
              exact k false _ σ I H
          · replace I := I.drop1
            replace I:=I.drop1
            replace I:=I.drop1
            replace I:=I.drop1
            replace I:=I.drop1
            replace I:=I.drop1
            replace I:=I.drop1
            exact k false _ σ I H
        · replace I := I.drop1
          replace I:=I.drop1
          replace I:=I.drop1
          replace I:=I.drop1
          replace I:=I.drop1
          replace I:=I.drop1
          replace I:=I.drop1
          exact k false _ σ I H
      · replace I := I.drop1
        replace I:=I.drop1
        replace I:=I.drop1
        replace I:=I.drop1
        replace I:=I.drop1
        replace I:=I.drop1
        exact k false _ σ I H
    · replace I := I.drop1
      replace I:=I.drop1
      replace I:=I.drop1
      replace I:=I.drop1
      replace I:=I.drop1
      exact k false _ σ I H
  · replace I := I.drop1
    replace I:=I.drop1
    replace I:=I.drop1
    replace I:=I.drop1
    replace I:=I.drop1
    exact k false _ σ I H
def K7 (Q:QT) (c:V) (σ:St Obj):Prop:=
  K1 Q {c with e6:=c.v26} σ
theorem K7_r (I:I7 ρ c w σ A h) (H:K7 Q' c σ) (k:kt ρ A Q' Q):Tx.carlinglaw16_alive_K7 ρ Q w.p_s1 ⟨w.a_l3,c.l3.length,w.c_l3⟩ ⟨w.a_n4,c.n4.length,w.c_n4⟩ w.p_r5 c.v26 h:=by
  unfold I7 at I
  unfold Tx.carlinglaw16_alive_K7
  unfold K7 at H
  replace I:=I.pull1.dupR
  replace I:=I.pull1.drop1
  replace I:=I.pull5.pull5.pull5.pull5.pull4.pull5
  exact K1_r (c:= {c with e6:=c.v26}) (w:=w) I H k
def K6 (Q:QT) (c:V) (σ:St Obj):Prop:=
  K7 Q {c with l3:=c.v23,n4:=c.v24,r5:=c.v25} σ
theorem K6_r (I:I6 ρ c w σ A h) (H:K6 Q' c σ) (k:kt ρ A Q' Q):Tx.carlinglaw16_alive_K6 ρ Q w.p_s1 w.p_r5 ⟨w.a_v23,c.v23.length,w.c_v23⟩ ⟨w.a_v24,c.v24.length,w.c_v24⟩ c.v25.Place c.v25.Epoch c.v25.Digest.toList c.v26 h:=by
  unfold I6 at I
  unfold Tx.carlinglaw16_alive_K6
  unfold K6 at H
  try simp only [nrm_v]
  refine stA_r I.pull2 0 3 0 [.one (.int .i64 c.v25.Place), .one (.int .u32 c.v25.Epoch), .vec .u8 32 c.v25.Digest] rfl rfl rfl (by first | exact all_segs rfl | exact all_one (by simp [segs,Seg.cells,allOne,allOne_append,allOne_lump,Value.oneCell'])) fun h (I:Inv h (blk w.p_r5 (ρ.T 16) [.one (.int .i64 c.v25.Place), .one (.int .u32 c.v25.Epoch), .vec .u8 32 c.v25.Digest]::_))=> ?_
  replace I:=I.pull2.dupR
  replace I:=I.pull1.drop1
  replace I:=I.pull5.pull2.pull5.pull5.pull4.pull5
  exact K7_r (c:= {c with l3:=c.v23,n4:=c.v24,r5:=c.v25}) (w:= {w with a_l3:=w.a_v23,c_l3:=w.c_v23,a_n4:=w.a_v24,c_n4:=w.c_v24}) I H k
def K8 (Q:QT) (c:V) (σ:St Obj):Prop:=
  commit_Plan none c.v12 (2:Int) c.s1 c.v14 c.v18 c.v21 σ fun r_144 r_147 r_150 r_151 σ_154=>
  K7 Q {c with l3:=r_144,n4:=r_147,r5:=r_150,v26:=r_151} σ_154
theorem K8_r (I:I8 ρ c w σ A h) (H:K8 Q' c σ) (k:kt ρ A Q' Q):Tx.carlinglaw16_alive_K8 ρ Q w.p_s1 w.p_r5 c.v12.toList ⟨w.a_s1,c.s1.begins.length,w.c_s1⟩ c.v14.Place c.v14.Epoch c.v14.Digest.toList ⟨w.a_v18,c.v18.length,w.c_v18⟩ ⟨w.a_v21,c.v21.length,w.c_v21⟩ h:=by
  unfold I8 at I
  unfold Tx.carlinglaw16_alive_K8
  unfold K8 at H
  try simp only [nrm_v]
  replace I:=I.pull1.dupR
  replace I:=I.pull6.pull6.pull6.pull3
  try simp only [nrm_v]
  refine commit_Plan_r (b0:=none) (key1:=c.v12) (epoch2:=(2:Int)) (s3:=c.s1) (root4:=c.v14) (nodes5:=c.v18) (changes6:=c.v21) (σ:=σ) rd_own rd_own I H fun r_144 a_145 c_146 r_147 a_148 c_149 r_150 r_151 h σ_154 I H=> ?_
  refine stA_r I.pull7 0 3 0 [.one (.int .i64 r_150.Place), .one (.int .u32 r_150.Epoch), .vec .u8 32 r_150.Digest] rfl rfl rfl (by first | exact all_segs rfl | exact all_one (by simp [segs,Seg.cells,allOne,allOne_append,allOne_lump,Value.oneCell'])) fun h (I:Inv h (blk w.p_r5 (ρ.T 16) [.one (.int .i64 r_150.Place), .one (.int .u32 r_150.Epoch), .vec .u8 32 r_150.Digest]::_))=> ?_
  replace I:=I.pull6.dupR
  replace I:=I.pull1.drop1
  replace I:=I.pull4.drop1
  replace I:=I.pull4.drop1
  replace I:=I.pull4.pull2.pull4.pull4.pull4.pull5
  exact K7_r (c:= {c with l3:=r_144,n4:=r_147,r5:=r_150,v26:=r_151}) (w:= {w with a_l3:=a_145,c_l3:=c_146,a_n4:=a_148,c_n4:=c_149}) I H k
def K5 (Q:QT) (c:V) (σ:St Obj):Prop:=
  (commit_Plan none c.v12 (2:Int) c.s1 c.v14 c.v18 c.v21 σ fun r_106 r_109 r_112 r_113 σ_116=>
  K6 Q {c with r5:=(⟨(0:Int),(0:Int),(Vector.replicate 32 (0:Int))⟩:seal_Ref),v23:=r_106,v24:=r_109,v25:=r_112,v26:=r_113} σ_116)∧
  (K8 Q {c with r5:=(⟨(0:Int),(0:Int),(Vector.replicate 32 (0:Int))⟩:seal_Ref)} σ)
theorem K5_r (I:I5 ρ c w σ A h) (H:K5 Q' c σ) (k:kt ρ A Q' Q):Tx.carlinglaw16_alive_K5 ρ Q w.p_s1 c.v12.toList ⟨w.a_s1,c.s1.begins.length,w.c_s1⟩ c.v14.Place c.v14.Epoch c.v14.Digest.toList ⟨w.a_v18,c.v18.length,w.c_v18⟩ ⟨w.a_v21,c.v21.length,w.c_v21⟩ h:=by
  unfold I5 at I
  unfold Tx.carlinglaw16_alive_K5
  unfold K5 at H
  try simp only [nrm_v]
  refine and2_r H (fun H=> ?_) (fun H=> ?_)
  · replace I := I.pull1.dupR
    replace I:=I.pull5.pull5.pull5.pull3
    try simp only [nrm_v]
    refine commit_Plan_r (b0:=none) (key1:=c.v12) (epoch2:=(2:Int)) (s3:=c.s1) (root4:=c.v14) (nodes5:=c.v18) (changes6:=c.v21) (σ:=σ) rd_own rd_own I H fun r_106 a_107 c_108 r_109 a_110 c_111 r_112 r_113 h σ_116 I H=> ?_
    refine al_r [.one (.int .i64 (0:Int)), .one (.int .u32 (0:Int)), .vec .u8 32 (Vector.replicate 32 (0:Int))] rfl I fun p_117 h I=> ?_
    replace I:=I.pull6.dupR
    replace I:=I.pull1.drop1
    replace I:=I.pull4.drop1
    replace I:=I.pull4.drop1
    replace I:=I.pull4.pull4.pull4.pull4.pull4.pull5
    try simp only [nrm_v]
    exact K6_r (c:= {c with r5:=(⟨(0:Int),(0:Int),(Vector.replicate 32 (0:Int))⟩:seal_Ref),v23:=r_106,v24:=r_109,v25:=r_112,v26:=r_113}) (w:= {w with p_r5:=p_117,a_v23:=a_107,c_v23:=c_108,a_v24:=a_110,c_v24:=c_111}) I H k
  · refine al_r [.one (.int .i64 (0 : Int)), .one (.int .u32 (0 : Int)), .vec .u8 32 (Vector.replicate 32 (0 : Int))] rfl I fun p_120 h I => ?_
    refine ⟨⟨I.pull1.cell 0 0 rfl,trivial⟩, ?_⟩
    replace I:=I.pull2.dupR
    replace I:=I.pull1.drop1
    replace I:=I.pull5.pull5.pull5.pull4.pull4.pull5
    try simp only [nrm_v]
    exact K8_r (c:= {c with r5:=(⟨(0:Int),(0:Int),(Vector.replicate 32 (0:Int))⟩:seal_Ref)}) (w:= {w with p_r5:=p_120}) I H k
def K9 (Q:QT) (c:V) (σ:St Obj):Prop:=
  K8 Q {c with v21:=[c.v20]} σ
theorem K9_r (I:I9 ρ c w σ A h) (H:K9 Q' c σ) (k:kt ρ A Q' Q):Tx.carlinglaw16_alive_K9 ρ Q w.p_s1 w.p_r5 c.v12.toList ⟨w.a_s1,c.s1.begins.length,w.c_s1⟩ c.v14.Place c.v14.Epoch c.v14.Digest.toList ⟨w.a_v18,c.v18.length,w.c_v18⟩ c.v20.Page ⟨w.a_v20_1,c.v20.Bytes.length,w.c_v20_1⟩ h:=by
  unfold I9 at I
  unfold Tx.carlinglaw16_alive_K9
  unfold K9 at H
  try simp only [nrm_v]
  refine al_r [.one (.int .i64 c.v20.Page), .one (.slice w.a_v20_1 c.v20.Bytes.length w.c_v20_1)] rfl I fun p_162 h I=> ?_
  replace I:=I.litN R_commit_Change
  replace I:=I.pull6.freeze
  replace I:=I.dupR
  replace I:=mcommit_Change c.v20 I
  replace I:=I.pull2.pull1
  replace I:=I.litC
  replace I:=I.pull2.pull1
  replace I:=Inv.litL (l:=[c.v20]) I rfl rfl
  refine ⟨⟨I.pull2.cell 0 0 rfl,trivial⟩, ?_⟩
  replace I:=I.pull3.dupR
  replace I:=I.pull1.drop1
  replace I:=I.pull2.drop1
  replace I:=I.pull5.pull2.pull5.pull5.pull4.pull5
  try simp only [nrm_v]
  exact K8_r (c:= {c with v21:=[c.v20]}) (w:= {w with a_v21:=(some p_162),c_v21:=1}) I H k
def K4 (Q:QT) (c:V) (σ:St Obj):Prop:=
  (K5 Q {c with v21:=[(⟨(0:Int),c.v19⟩:commit_Change)]} σ)∧
  (K9 Q {c with r5:=(⟨(0:Int),(0:Int),(Vector.replicate 32 (0:Int))⟩:seal_Ref),v20:=(⟨(0:Int),c.v19⟩:commit_Change)} σ)
theorem K4_r (I:I4 ρ c w σ A h) (H:K4 Q' c σ) (k:kt ρ A Q' Q):Tx.carlinglaw16_alive_K4 ρ Q w.p_s1 c.v12.toList ⟨w.a_s1,c.s1.begins.length,w.c_s1⟩ c.v14.Place c.v14.Epoch c.v14.Digest.toList ⟨w.a_v18,c.v18.length,w.c_v18⟩ ⟨w.a_v19,c.v19.length,w.c_v19⟩ h:=by
  unfold I4 at I
  unfold Tx.carlinglaw16_alive_K4
  unfold K4 at H
  try simp only [nrm_v]
  refine and2_r H (fun H=> ?_) (fun H=> ?_)
  · refine al_r [.one (.int .i64 (0 : Int)), .one (.slice w.a_v19 c.v19.length w.c_v19)] rfl I fun p_90 h I => ?_
    replace I:=I.litN R_commit_Change
    replace I:=I.pull5.freeze
    replace I:=I.dupR
    replace I:=mcommit_Change (⟨(0:Int),c.v19⟩:commit_Change) I
    replace I:=I.pull2.pull1
    replace I:=I.litC
    replace I:=I.pull2.pull1
    replace I:=Inv.litL (l:=[(⟨(0:Int),c.v19⟩:commit_Change)]) I rfl rfl
    refine ⟨⟨I.pull2.cell 0 0 rfl,trivial⟩, ?_⟩
    replace I:=I.pull3.dupR
    replace I:=I.pull1.drop1
    replace I:=I.pull2.drop1
    replace I:=I.pull4.pull2.pull4.pull3.pull4
    try simp only [nrm_v]
    exact K5_r (c:= {c with v21:=[(⟨(0:Int),c.v19⟩:commit_Change)]}) (w:= {w with a_v21:=(some p_90),c_v21:=1}) I H k
  · refine al_r [.one (.int .i64 (0 : Int)), .one (.int .u32 (0 : Int)), .vec .u8 32 (Vector.replicate 32 (0 : Int))] rfl I fun p_97 h I => ?_
    refine ⟨⟨I.pull1.cell 0 0 rfl,trivial⟩, ?_⟩
    replace I:=I.pull2.dupR
    replace I:=I.pull1.drop1
    replace I:=I.pull5.pull5.pull5.pull4.pull4.pull5
    try simp only [nrm_v]
    exact K9_r (c:= {c with r5:=(⟨(0:Int),(0:Int),(Vector.replicate 32 (0:Int))⟩:seal_Ref),v20:=(⟨(0:Int),c.v19⟩:commit_Change)}) (w:= {w with p_r5:=p_97,a_v20_1:=w.a_v19,c_v20_1:=w.c_v19}) I H k
def K11 (Q:QT) (c:V) (σ:St Obj):Prop:=
  K8 Q {c with v21:=[(⟨(0:Int),c.v19⟩:commit_Change)]} σ
theorem K11_r (I:I11 ρ c w σ A h) (H:K11 Q' c σ) (k:kt ρ A Q' Q):Tx.carlinglaw16_alive_K11 ρ Q w.p_s1 w.p_r5 c.v12.toList ⟨w.a_s1,c.s1.begins.length,w.c_s1⟩ c.v14.Place c.v14.Epoch c.v14.Digest.toList ⟨w.a_v18,c.v18.length,w.c_v18⟩ ⟨w.a_v19,c.v19.length,w.c_v19⟩ h:=by
  unfold I11 at I
  unfold Tx.carlinglaw16_alive_K11
  unfold K11 at H
  try simp only [nrm_v]
  refine al_r [.one (.int .i64 (0:Int)), .one (.slice w.a_v19 c.v19.length w.c_v19)] rfl I fun p_184 h I=> ?_
  replace I:=I.litN R_commit_Change
  replace I:=I.pull6.freeze
  replace I:=I.dupR
  replace I:=mcommit_Change (⟨(0:Int),c.v19⟩:commit_Change) I
  replace I:=I.pull2.pull1
  replace I:=I.litC
  replace I:=I.pull2.pull1
  replace I:=Inv.litL (l:=[(⟨(0:Int),c.v19⟩:commit_Change)]) I rfl rfl
  refine ⟨⟨I.pull2.cell 0 0 rfl,trivial⟩, ?_⟩
  replace I:=I.pull3.dupR
  replace I:=I.pull1.drop1
  replace I:=I.pull2.drop1
  replace I:=I.pull5.pull2.pull5.pull5.pull4.pull5
  try simp only [nrm_v]
  exact K8_r (c:= {c with v21:=[(⟨(0:Int),c.v19⟩:commit_Change)]}) (w:= {w with a_v21:=(some p_184),c_v21:=1}) I H k
def K10 (Q:QT) (c:V) (σ:St Obj):Prop:=
  K11 Q {c with v19:=(List.replicate (Int.toNat (256:Int)) (0:Int))} σ
theorem K10_r (I:I10 ρ c w σ A h) (H:K10 Q' c σ) (k:kt ρ A Q' Q):Tx.carlinglaw16_alive_K10 ρ Q w.p_s1 w.p_r5 c.v12.toList ⟨w.a_s1,c.s1.begins.length,w.c_s1⟩ c.v14.Place c.v14.Epoch c.v14.Digest.toList ⟨w.a_v18,c.v18.length,w.c_v18⟩ h:=by
  unfold I10 at I
  unfold Tx.carlinglaw16_alive_K10
  unfold K10 at H
  try simp only [nrm_v]
  refine mk_r (E:=(rI .u8)) (z0:=(0:Int)) I (fun _ _=>rfl) (by decide) ⟨by decide,by decide⟩ fun a_174 c_175 h I=> ?_
  refine ⟨⟨I.pull1.cell 0 0 rfl,trivial⟩, ?_⟩
  replace I:=I.pull2.dupR
  replace I:=I.pull1.drop1
  replace I:=I.pull5.pull2.pull5.pull5.pull4.pull5
  try simp only [nrm_v]
  exact K11_r (c:= {c with v19:=(List.replicate (Int.toNat (256:Int)) (0:Int))}) (w:= {w with a_v19:=a_174,c_v19:=c_175}) I H k
def K3 (Q:QT) (c:V) (σ:St Obj):Prop:=
  (K4 Q {c with v19:=(List.replicate (Int.toNat (256:Int)) (0:Int))} σ)∧
  (K10 Q {c with r5:=(⟨(0:Int),(0:Int),(Vector.replicate 32 (0:Int))⟩:seal_Ref)} σ)
theorem K3_r (I:I3 ρ c w σ A h) (H:K3 Q' c σ) (k:kt ρ A Q' Q):Tx.carlinglaw16_alive_K3 ρ Q w.p_s1 c.v12.toList ⟨w.a_s1,c.s1.begins.length,w.c_s1⟩ c.v14.Place c.v14.Epoch c.v14.Digest.toList ⟨w.a_v18,c.v18.length,w.c_v18⟩ h:=by
  unfold I3 at I
  unfold Tx.carlinglaw16_alive_K3
  unfold K3 at H
  try simp only [nrm_v]
  refine and2_r H (fun H=> ?_) (fun H=> ?_)
  · refine mk_r (E := (rI .u8)) (z0 := (0 : Int)) I (fun _ _ => rfl) (by decide) ⟨by decide, by decide⟩ fun a_78 c_79 h I => ?_
    refine ⟨⟨I.pull1.cell 0 0 rfl,trivial⟩, ?_⟩
    replace I:=I.pull2.dupR
    replace I:=I.pull1.drop1
    replace I:=I.pull4.pull2.pull4.pull3.pull4
    try simp only [nrm_v]
    exact K4_r (c:= {c with v19:=(List.replicate (Int.toNat (256:Int)) (0:Int))}) (w:= {w with a_v19:=a_78,c_v19:=c_79}) I H k
  · refine al_r [.one (.int .i64 (0 : Int)), .one (.int .u32 (0 : Int)), .vec .u8 32 (Vector.replicate 32 (0 : Int))] rfl I fun p_82 h I => ?_
    refine ⟨⟨I.pull1.cell 0 0 rfl,trivial⟩, ?_⟩
    replace I:=I.pull2.dupR
    replace I:=I.pull1.drop1
    replace I:=I.pull4.pull4.pull3.pull3.pull4
    try simp only [nrm_v]
    exact K10_r (c:= {c with r5:=(⟨(0:Int),(0:Int),(Vector.replicate 32 (0:Int))⟩:seal_Ref)}) (w:= {w with p_r5:=p_82}) I H k
def K13 (Q:QT) (c:V) (σ:St Obj):Prop:=
  (K5 Q {c with v21:=[c.v20]} σ)∧
  (K9 Q {c with r5:=(⟨(0:Int),(0:Int),(Vector.replicate 32 (0:Int))⟩:seal_Ref)} σ)
theorem K13_r (I:I13 ρ c w σ A h) (H:K13 Q' c σ) (k:kt ρ A Q' Q):Tx.carlinglaw16_alive_K13 ρ Q w.p_s1 c.v12.toList ⟨w.a_s1,c.s1.begins.length,w.c_s1⟩ c.v14.Place c.v14.Epoch c.v14.Digest.toList ⟨w.a_v18,c.v18.length,w.c_v18⟩ c.v20.Page ⟨w.a_v20_1,c.v20.Bytes.length,w.c_v20_1⟩ h:=by
  unfold I13 at I
  unfold Tx.carlinglaw16_alive_K13
  unfold K13 at H
  try simp only [nrm_v]
  refine and2_r H (fun H=> ?_) (fun H=> ?_)
  · refine al_r [.one (.int .i64 c.v20.Page), .one (.slice w.a_v20_1 c.v20.Bytes.length w.c_v20_1)] rfl I fun p_218 h I => ?_
    replace I:=I.litN R_commit_Change
    replace I:=I.pull5.freeze
    replace I:=I.dupR
    replace I:=mcommit_Change c.v20 I
    replace I:=I.pull2.pull1
    replace I:=I.litC
    replace I:=I.pull2.pull1
    replace I:=Inv.litL (l:=[c.v20]) I rfl rfl
    refine ⟨⟨I.pull2.cell 0 0 rfl,trivial⟩, ?_⟩
    replace I:=I.pull3.dupR
    replace I:=I.pull1.drop1
    replace I:=I.pull2.drop1
    replace I:=I.pull4.pull2.pull4.pull3.pull4
    try simp only [nrm_v]
    exact K5_r (c:= {c with v21:=[c.v20]}) (w:= {w with a_v21:=(some p_218),c_v21:=1}) I H k
  · refine al_r [.one (.int .i64 (0 : Int)), .one (.int .u32 (0 : Int)), .vec .u8 32 (Vector.replicate 32 (0 : Int))] rfl I fun p_225 h I => ?_
    refine ⟨⟨I.pull1.cell 0 0 rfl,trivial⟩, ?_⟩
    replace I:=I.pull2.dupR
    replace I:=I.pull1.drop1
    replace I:=I.pull5.pull5.pull5.pull4.pull4.pull5
    try simp only [nrm_v]
    exact K9_r (c:= {c with r5:=(⟨(0:Int),(0:Int),(Vector.replicate 32 (0:Int))⟩:seal_Ref)}) (w:= {w with p_r5:=p_225}) I H k
def K15 (Q:QT) (c:V) (σ:St Obj):Prop:=
  K8 Q {c with v18:=[c.v17]} σ
theorem K15_r (I:I15 ρ c w σ A h) (H:K15 Q' c σ) (k:kt ρ A Q' Q):Tx.carlinglaw16_alive_K15 ρ Q w.p_s1 w.p_r5 c.v12.toList ⟨w.a_s1,c.s1.begins.length,w.c_s1⟩ c.v14.Place c.v14.Epoch c.v14.Digest.toList c.v17.Item ⟨w.a_v17_1,c.v17.Refs.length,w.c_v17_1⟩ ⟨w.a_v21,c.v21.length,w.c_v21⟩ h:=by
  unfold I15 at I
  unfold Tx.carlinglaw16_alive_K15
  unfold K15 at H
  try simp only [nrm_v]
  refine al_r [.one (.int .i64 c.v17.Item), .one (.slice w.a_v17_1 c.v17.Refs.length w.c_v17_1)] rfl I fun p_249 h I=> ?_
  replace I:=I.litN R_commit_Node
  replace I:=I.pull5.freeze
  replace I:=I.dupR
  replace I:=mcommit_Node c.v17 I
  replace I:=I.pull2.pull1
  replace I:=I.litC
  replace I:=I.pull2.pull1
  replace I:=Inv.litL (l:=[c.v17]) I rfl rfl
  refine ⟨⟨I.pull2.cell 0 0 rfl,trivial⟩, ?_⟩
  replace I:=I.pull3.dupR
  replace I:=I.pull1.drop1
  replace I:=I.pull2.drop1
  replace I:=I.pull5.pull5.pull3.pull5.pull4.pull5
  try simp only [nrm_v]
  exact K8_r (c:= {c with v18:=[c.v17]}) (w:= {w with a_v18:=(some p_249),c_v18:=1}) I H k
def K14 (Q:QT) (c:V) (σ:St Obj):Prop:=
  (K5 Q {c with v18:=[c.v17]} σ)∧
  (K15 Q {c with r5:=(⟨(0:Int),(0:Int),(Vector.replicate 32 (0:Int))⟩:seal_Ref)} σ)
theorem K14_r (I:I14 ρ c w σ A h) (H:K14 Q' c σ) (k:kt ρ A Q' Q):Tx.carlinglaw16_alive_K14 ρ Q w.p_s1 c.v12.toList ⟨w.a_s1,c.s1.begins.length,w.c_s1⟩ c.v14.Place c.v14.Epoch c.v14.Digest.toList c.v17.Item ⟨w.a_v17_1,c.v17.Refs.length,w.c_v17_1⟩ ⟨w.a_v21,c.v21.length,w.c_v21⟩ h:=by
  unfold I14 at I
  unfold Tx.carlinglaw16_alive_K14
  unfold K14 at H
  try simp only [nrm_v]
  refine and2_r H (fun H=> ?_) (fun H=> ?_)
  · refine al_r [.one (.int .i64 c.v17.Item), .one (.slice w.a_v17_1 c.v17.Refs.length w.c_v17_1)] rfl I fun p_233 h I => ?_
    replace I:=I.litN R_commit_Node
    replace I:=I.pull4.freeze
    replace I:=I.dupR
    replace I:=mcommit_Node c.v17 I
    replace I:=I.pull2.pull1
    replace I:=I.litC
    replace I:=I.pull2.pull1
    replace I:=Inv.litL (l:=[c.v17]) I rfl rfl
    refine ⟨⟨I.pull2.cell 0 0 rfl,trivial⟩, ?_⟩
    replace I:=I.pull3.dupR
    replace I:=I.pull1.drop1
    replace I:=I.pull2.drop1
    replace I:=I.pull4.pull4.pull3.pull3.pull4
    try simp only [nrm_v]
    exact K5_r (c:= {c with v18:=[c.v17]}) (w:= {w with a_v18:=(some p_233),c_v18:=1}) I H k
  · refine al_r [.one (.int .i64 (0 : Int)), .one (.int .u32 (0 : Int)), .vec .u8 32 (Vector.replicate 32 (0 : Int))] rfl I fun p_240 h I => ?_
    refine ⟨⟨I.pull1.cell 0 0 rfl,trivial⟩, ?_⟩
    replace I:=I.pull2.dupR
    replace I:=I.pull1.drop1
    replace I:=I.pull5.pull5.pull5.pull4.pull4.pull5
    try simp only [nrm_v]
    exact K15_r (c:= {c with r5:=(⟨(0:Int),(0:Int),(Vector.replicate 32 (0:Int))⟩:seal_Ref)}) (w:= {w with p_r5:=p_240}) I H k
def K16 (Q:QT) (c:V) (σ:St Obj):Prop:=
  (K9 Q {c with v18:=[c.v17]} σ)∧
  (K15 Q {c with v21:=[c.v20]} σ)
theorem K16_r (I:I16 ρ c w σ A h) (H:K16 Q' c σ) (k:kt ρ A Q' Q):Tx.carlinglaw16_alive_K16 ρ Q w.p_s1 w.p_r5 c.v12.toList ⟨w.a_s1,c.s1.begins.length,w.c_s1⟩ c.v14.Place c.v14.Epoch c.v14.Digest.toList c.v17.Item ⟨w.a_v17_1,c.v17.Refs.length,w.c_v17_1⟩ c.v20.Page ⟨w.a_v20_1,c.v20.Bytes.length,w.c_v20_1⟩ h:=by
  unfold I16 at I
  unfold Tx.carlinglaw16_alive_K16
  unfold K16 at H
  try simp only [nrm_v]
  refine and2_r H (fun H=> ?_) (fun H=> ?_)
  · refine al_r [.one (.int .i64 c.v17.Item), .one (.slice w.a_v17_1 c.v17.Refs.length w.c_v17_1)] rfl I fun p_262 h I => ?_
    replace I:=I.litN R_commit_Node
    replace I:=I.pull5.freeze
    replace I:=I.dupR
    replace I:=mcommit_Node c.v17 I
    replace I:=I.pull2.pull1
    replace I:=I.litC
    replace I:=I.pull2.pull1
    replace I:=Inv.litL (l:=[c.v17]) I rfl rfl
    refine ⟨⟨I.pull2.cell 0 0 rfl,trivial⟩, ?_⟩
    replace I:=I.pull3.dupR
    replace I:=I.pull1.drop1
    replace I:=I.pull2.drop1
    replace I:=I.pull5.pull5.pull3.pull5.pull4.pull5
    try simp only [nrm_v]
    exact K9_r (c:= {c with v18:=[c.v17]}) (w:= {w with a_v18:=(some p_262),c_v18:=1}) I H k
  · refine al_r [.one (.int .i64 c.v20.Page), .one (.slice w.a_v20_1 c.v20.Bytes.length w.c_v20_1)] rfl I fun p_269 h I => ?_
    replace I:=I.litN R_commit_Change
    replace I:=I.pull6.freeze
    replace I:=I.dupR
    replace I:=mcommit_Change c.v20 I
    replace I:=I.pull2.pull1
    replace I:=I.litC
    replace I:=I.pull2.pull1
    replace I:=Inv.litL (l:=[c.v20]) I rfl rfl
    refine ⟨⟨I.pull2.cell 0 0 rfl,trivial⟩, ?_⟩
    replace I:=I.pull3.dupR
    replace I:=I.pull1.drop1
    replace I:=I.pull2.drop1
    replace I:=I.pull5.pull2.pull5.pull5.pull4.pull5
    try simp only [nrm_v]
    exact K15_r (c:= {c with v21:=[c.v20]}) (w:= {w with a_v21:=(some p_269),c_v21:=1}) I H k
def K12 (Q:QT) (c:V) (σ:St Obj):Prop:=
  (K13 Q {c with v18:=[c.v17],v20:=(⟨(0:Int),c.v19⟩:commit_Change)} σ)∧
  ((K14 Q {c with v21:=[(⟨(0:Int),c.v19⟩:commit_Change)]} σ)∧
  (K16 Q {c with r5:=(⟨(0:Int),(0:Int),(Vector.replicate 32 (0:Int))⟩:seal_Ref),v20:=(⟨(0:Int),c.v19⟩:commit_Change)} σ))
theorem K12_r (I:I12 ρ c w σ A h) (H:K12 Q' c σ) (k:kt ρ A Q' Q):Tx.carlinglaw16_alive_K12 ρ Q w.p_s1 c.v12.toList ⟨w.a_s1,c.s1.begins.length,w.c_s1⟩ c.v14.Place c.v14.Epoch c.v14.Digest.toList c.v17.Item ⟨w.a_v17_1,c.v17.Refs.length,w.c_v17_1⟩ ⟨w.a_v19,c.v19.length,w.c_v19⟩ h:=by
  unfold I12 at I
  unfold Tx.carlinglaw16_alive_K12
  unfold K12 at H
  try simp only [nrm_v]
  refine and2_r H (fun H=> ?_) (fun H=> ?_)
  · refine al_r [.one (.int .i64 c.v17.Item), .one (.slice w.a_v17_1 c.v17.Refs.length w.c_v17_1)] rfl I fun p_196 h I => ?_
    replace I:=I.litN R_commit_Node
    replace I:=I.pull4.freeze
    replace I:=I.dupR
    replace I:=mcommit_Node c.v17 I
    replace I:=I.pull2.pull1
    replace I:=I.litC
    replace I:=I.pull2.pull1
    replace I:=Inv.litL (l:=[c.v17]) I rfl rfl
    refine ⟨⟨I.pull2.cell 0 0 rfl,trivial⟩, ?_⟩
    replace I:=I.pull3.dupR
    replace I:=I.pull1.drop1
    replace I:=I.pull2.drop1
    replace I:=I.pull4.pull4.pull3.pull3.pull4
    try simp only [nrm_v]
    exact K13_r (c:= {c with v18:=[c.v17],v20:=(⟨(0:Int),c.v19⟩:commit_Change)}) (w:= {w with a_v18:=(some p_196),c_v18:=1,a_v20_1:=w.a_v19,c_v20_1:=w.c_v19}) I H k
  · refine and2_r H (fun H => ?_) (fun H => ?_)
    · refine al_r [.one (.int .i64 (0 : Int)), .one (.slice w.a_v19 c.v19.length w.c_v19)] rfl I fun p_203 h I => ?_
      replace I:=I.litN R_commit_Change
      replace I:=I.pull5.freeze
      replace I:=I.dupR
      replace I:=mcommit_Change (⟨(0:Int),c.v19⟩:commit_Change) I
      replace I:=I.pull2.pull1
      replace I:=I.litC
      replace I:=I.pull2.pull1
      replace I:=Inv.litL (l:=[(⟨(0:Int),c.v19⟩:commit_Change)]) I rfl rfl
      refine ⟨⟨I.pull2.cell 0 0 rfl,trivial⟩, ?_⟩
      replace I:=I.pull3.dupR
      replace I:=I.pull1.drop1
      replace I:=I.pull2.drop1
      replace I:=I.pull4.pull2.pull4.pull3.pull4
      try simp only [nrm_v]
      exact K14_r (c:= {c with v21:=[(⟨(0:Int),c.v19⟩:commit_Change)]}) (w:= {w with a_v21:=(some p_203),c_v21:=1}) I H k
    · refine al_r [.one (.int .i64 (0 : Int)), .one (.int .u32 (0 : Int)), .vec .u8 32 (Vector.replicate 32 (0 : Int))] rfl I fun p_210 h I => ?_
      refine ⟨⟨I.pull1.cell 0 0 rfl,trivial⟩, ?_⟩
      replace I:=I.pull2.dupR
      replace I:=I.pull1.drop1
      replace I:=I.pull5.pull5.pull5.pull4.pull4.pull5
      try simp only [nrm_v]
      exact K16_r (c:= {c with r5:=(⟨(0:Int),(0:Int),(Vector.replicate 32 (0:Int))⟩:seal_Ref),v20:=(⟨(0:Int),c.v19⟩:commit_Change)}) (w:= {w with p_r5:=p_210,a_v20_1:=w.a_v19,c_v20_1:=w.c_v19}) I H k
def K18 (Q:QT) (c:V) (σ:St Obj):Prop:=
  (K9 Q {c with v18:=[c.v17],v20:=(⟨(0:Int),c.v19⟩:commit_Change)} σ)∧
  (K15 Q {c with v21:=[(⟨(0:Int),c.v19⟩:commit_Change)]} σ)
theorem K18_r (I:I18 ρ c w σ A h) (H:K18 Q' c σ) (k:kt ρ A Q' Q):Tx.carlinglaw16_alive_K18 ρ Q w.p_s1 w.p_r5 c.v12.toList ⟨w.a_s1,c.s1.begins.length,w.c_s1⟩ c.v14.Place c.v14.Epoch c.v14.Digest.toList c.v17.Item ⟨w.a_v17_1,c.v17.Refs.length,w.c_v17_1⟩ ⟨w.a_v19,c.v19.length,w.c_v19⟩ h:=by
  unfold I18 at I
  unfold Tx.carlinglaw16_alive_K18
  unfold K18 at H
  try simp only [nrm_v]
  refine and2_r H (fun H=> ?_) (fun H=> ?_)
  · refine al_r [.one (.int .i64 c.v17.Item), .one (.slice w.a_v17_1 c.v17.Refs.length w.c_v17_1)] rfl I fun p_298 h I => ?_
    replace I:=I.litN R_commit_Node
    replace I:=I.pull5.freeze
    replace I:=I.dupR
    replace I:=mcommit_Node c.v17 I
    replace I:=I.pull2.pull1
    replace I:=I.litC
    replace I:=I.pull2.pull1
    replace I:=Inv.litL (l:=[c.v17]) I rfl rfl
    refine ⟨⟨I.pull2.cell 0 0 rfl,trivial⟩, ?_⟩
    replace I:=I.pull3.dupR
    replace I:=I.pull1.drop1
    replace I:=I.pull2.drop1
    replace I:=I.pull5.pull5.pull3.pull5.pull4.pull5
    try simp only [nrm_v]
    exact K9_r (c:= {c with v18:=[c.v17],v20:=(⟨(0:Int),c.v19⟩:commit_Change)}) (w:= {w with a_v18:=(some p_298),c_v18:=1,a_v20_1:=w.a_v19,c_v20_1:=w.c_v19}) I H k
  · refine al_r [.one (.int .i64 (0 : Int)), .one (.slice w.a_v19 c.v19.length w.c_v19)] rfl I fun p_305 h I => ?_
    replace I:=I.litN R_commit_Change
    replace I:=I.pull6.freeze
    replace I:=I.dupR
    replace I:=mcommit_Change (⟨(0:Int),c.v19⟩:commit_Change) I
    replace I:=I.pull2.pull1
    replace I:=I.litC
    replace I:=I.pull2.pull1
    replace I:=Inv.litL (l:=[(⟨(0:Int),c.v19⟩:commit_Change)]) I rfl rfl
    refine ⟨⟨I.pull2.cell 0 0 rfl,trivial⟩, ?_⟩
    replace I:=I.pull3.dupR
    replace I:=I.pull1.drop1
    replace I:=I.pull2.drop1
    replace I:=I.pull5.pull2.pull5.pull5.pull4.pull5
    try simp only [nrm_v]
    exact K15_r (c:= {c with v21:=[(⟨(0:Int),c.v19⟩:commit_Change)]}) (w:= {w with a_v21:=(some p_305),c_v21:=1}) I H k
def K17 (Q:QT) (c:V) (σ:St Obj):Prop:=
  (K10 Q {c with v18:=[c.v17]} σ)∧
  (K18 Q {c with v19:=(List.replicate (Int.toNat (256:Int)) (0:Int))} σ)
theorem K17_r (I:I17 ρ c w σ A h) (H:K17 Q' c σ) (k:kt ρ A Q' Q):Tx.carlinglaw16_alive_K17 ρ Q w.p_s1 w.p_r5 c.v12.toList ⟨w.a_s1,c.s1.begins.length,w.c_s1⟩ c.v14.Place c.v14.Epoch c.v14.Digest.toList c.v17.Item ⟨w.a_v17_1,c.v17.Refs.length,w.c_v17_1⟩ h:=by
  unfold I17 at I
  unfold Tx.carlinglaw16_alive_K17
  unfold K17 at H
  try simp only [nrm_v]
  refine and2_r H (fun H=> ?_) (fun H=> ?_)
  · refine al_r [.one (.int .i64 c.v17.Item), .one (.slice w.a_v17_1 c.v17.Refs.length w.c_v17_1)] rfl I fun p_281 h I => ?_
    replace I:=I.litN R_commit_Node
    replace I:=I.pull5.freeze
    replace I:=I.dupR
    replace I:=mcommit_Node c.v17 I
    replace I:=I.pull2.pull1
    replace I:=I.litC
    replace I:=I.pull2.pull1
    replace I:=Inv.litL (l:=[c.v17]) I rfl rfl
    refine ⟨⟨I.pull2.cell 0 0 rfl,trivial⟩, ?_⟩
    replace I:=I.pull3.dupR
    replace I:=I.pull1.drop1
    replace I:=I.pull2.drop1
    replace I:=I.pull4.pull2.pull4.pull3.pull4
    try simp only [nrm_v]
    exact K10_r (c:= {c with v18:=[c.v17]}) (w:= {w with a_v18:=(some p_281),c_v18:=1}) I H k
  · refine mk_r (E := (rI .u8)) (z0 := (0 : Int)) I (fun _ _ => rfl) (by decide) ⟨by decide, by decide⟩ fun a_288 c_289 h I => ?_
    refine ⟨⟨I.pull1.cell 0 0 rfl,trivial⟩, ?_⟩
    replace I:=I.pull2.dupR
    replace I:=I.pull1.drop1
    replace I:=I.pull5.pull2.pull5.pull5.pull4.pull5
    try simp only [nrm_v]
    exact K18_r (c:= {c with v19:=(List.replicate (Int.toNat (256:Int)) (0:Int))}) (w:= {w with a_v19:=a_288,c_v19:=c_289}) I H k
def K2 (Q:QT) (c:V) (σ:St Obj):Prop:=
  (K3 Q {c with v18:=[(⟨(1:Int),c.v16⟩:commit_Node)]} σ)∧
  ((K12 Q {c with v17:=(⟨(1:Int),c.v16⟩:commit_Node),v19:=(List.replicate (Int.toNat (256:Int)) (0:Int))} σ)∧
  (K17 Q {c with r5:=(⟨(0:Int),(0:Int),(Vector.replicate 32 (0:Int))⟩:seal_Ref),v17:=(⟨(1:Int),c.v16⟩:commit_Node)} σ))
theorem K2_r (I:I2 ρ c w σ A h) (H:K2 Q' c σ) (k:kt ρ A Q' Q):Tx.carlinglaw16_alive_K2 ρ Q w.p_s1 c.v12.toList ⟨w.a_s1,c.s1.begins.length,w.c_s1⟩ c.v14.Place c.v14.Epoch c.v14.Digest.toList ⟨w.a_v16,c.v16.length,w.c_v16⟩ h:=by
  unfold I2 at I
  unfold Tx.carlinglaw16_alive_K2
  unfold K2 at H
  try simp only [nrm_v]
  refine and2_r H (fun H=> ?_) (fun H=> ?_)
  · refine al_r [.one (.int .i64 (1 : Int)), .one (.slice w.a_v16 c.v16.length w.c_v16)] rfl I fun p_60 h I => ?_
    replace I:=I.litN R_commit_Node
    replace I:=I.pull4.freeze
    replace I:=I.dupR
    replace I:=mcommit_Node (⟨(1:Int),c.v16⟩:commit_Node) I
    replace I:=I.pull2.pull1
    replace I:=I.litC
    replace I:=I.pull2.pull1
    replace I:=Inv.litL (l:=[(⟨(1:Int),c.v16⟩:commit_Node)]) I rfl rfl
    refine ⟨⟨I.pull2.cell 0 0 rfl,trivial⟩, ?_⟩
    replace I:=I.pull3.dupR
    replace I:=I.pull1.drop1
    replace I:=I.pull2.drop1
    replace I:=I.pull3.pull2.pull2.pull3
    try simp only [nrm_v]
    exact K3_r (c:= {c with v18:=[(⟨(1:Int),c.v16⟩:commit_Node)]}) (w:= {w with a_v18:=(some p_60),c_v18:=1}) I H k
  · refine and2_r H (fun H => ?_) (fun H => ?_)
    · refine mk_r (E := (rI .u8)) (z0 := (0 : Int)) I (fun _ _ => rfl) (by decide) ⟨by decide, by decide⟩ fun a_67 c_68 h I => ?_
      refine ⟨⟨I.pull1.cell 0 0 rfl,trivial⟩, ?_⟩
      replace I:=I.pull2.dupR
      replace I:=I.pull1.drop1
      replace I:=I.pull4.pull2.pull4.pull3.pull4
      try simp only [nrm_v]
      exact K12_r (c:= {c with v17:=(⟨(1:Int),c.v16⟩:commit_Node),v19:=(List.replicate (Int.toNat (256:Int)) (0:Int))}) (w:= {w with a_v17_1:=w.a_v16,c_v17_1:=w.c_v16,a_v19:=a_67,c_v19:=c_68}) I H k
    · refine al_r [.one (.int .i64 (0 : Int)), .one (.int .u32 (0 : Int)), .vec .u8 32 (Vector.replicate 32 (0 : Int))] rfl I fun p_71 h I => ?_
      refine ⟨⟨I.pull1.cell 0 0 rfl,trivial⟩, ?_⟩
      replace I:=I.pull2.dupR
      replace I:=I.pull1.drop1
      replace I:=I.pull4.pull4.pull3.pull3.pull4
      try simp only [nrm_v]
      exact K17_r (c:= {c with r5:=(⟨(0:Int),(0:Int),(Vector.replicate 32 (0:Int))⟩:seal_Ref),v17:=(⟨(1:Int),c.v16⟩:commit_Node)}) (w:= {w with p_r5:=p_71,a_v17_1:=w.a_v16,c_v17_1:=w.c_v16}) I H k
def K20 (Q:QT) (c:V) (σ:St Obj):Prop:=
  (K13 Q {c with v18:=[(⟨(1:Int),c.v16⟩:commit_Node)]} σ)∧
  ((K14 Q {c with v17:=(⟨(1:Int),c.v16⟩:commit_Node),v21:=[c.v20]} σ)∧
  (K16 Q {c with r5:=(⟨(0:Int),(0:Int),(Vector.replicate 32 (0:Int))⟩:seal_Ref),v17:=(⟨(1:Int),c.v16⟩:commit_Node)} σ))
theorem K20_r (I:I20 ρ c w σ A h) (H:K20 Q' c σ) (k:kt ρ A Q' Q):Tx.carlinglaw16_alive_K20 ρ Q w.p_s1 c.v12.toList ⟨w.a_s1,c.s1.begins.length,w.c_s1⟩ c.v14.Place c.v14.Epoch c.v14.Digest.toList ⟨w.a_v16,c.v16.length,w.c_v16⟩ c.v20.Page ⟨w.a_v20_1,c.v20.Bytes.length,w.c_v20_1⟩ h:=by
  unfold I20 at I
  unfold Tx.carlinglaw16_alive_K20
  unfold K20 at H
  try simp only [nrm_v]
  refine and2_r H (fun H=> ?_) (fun H=> ?_)
  · refine al_r [.one (.int .i64 (1 : Int)), .one (.slice w.a_v16 c.v16.length w.c_v16)] rfl I fun p_337 h I => ?_
    replace I:=I.litN R_commit_Node
    replace I:=I.pull4.freeze
    replace I:=I.dupR
    replace I:=mcommit_Node (⟨(1:Int),c.v16⟩:commit_Node) I
    replace I:=I.pull2.pull1
    replace I:=I.litC
    replace I:=I.pull2.pull1
    replace I:=Inv.litL (l:=[(⟨(1:Int),c.v16⟩:commit_Node)]) I rfl rfl
    refine ⟨⟨I.pull2.cell 0 0 rfl,trivial⟩, ?_⟩
    replace I:=I.pull3.dupR
    replace I:=I.pull1.drop1
    replace I:=I.pull2.drop1
    replace I:=I.pull4.pull4.pull3.pull3.pull4
    try simp only [nrm_v]
    exact K13_r (c:= {c with v18:=[(⟨(1:Int),c.v16⟩:commit_Node)]}) (w:= {w with a_v18:=(some p_337),c_v18:=1}) I H k
  · refine and2_r H (fun H => ?_) (fun H => ?_)
    · refine al_r [.one (.int .i64 c.v20.Page), .one (.slice w.a_v20_1 c.v20.Bytes.length w.c_v20_1)] rfl I fun p_344 h I => ?_
      replace I:=I.litN R_commit_Change
      replace I:=I.pull5.freeze
      replace I:=I.dupR
      replace I:=mcommit_Change c.v20 I
      replace I:=I.pull2.pull1
      replace I:=I.litC
      replace I:=I.pull2.pull1
      replace I:=Inv.litL (l:=[c.v20]) I rfl rfl
      refine ⟨⟨I.pull2.cell 0 0 rfl,trivial⟩, ?_⟩
      replace I:=I.pull3.dupR
      replace I:=I.pull1.drop1
      replace I:=I.pull2.drop1
      replace I:=I.pull4.pull2.pull4.pull3.pull4
      try simp only [nrm_v]
      exact K14_r (c:= {c with v17:=(⟨(1:Int),c.v16⟩:commit_Node),v21:=[c.v20]}) (w:= {w with a_v17_1:=w.a_v16,c_v17_1:=w.c_v16,a_v21:=(some p_344),c_v21:=1}) I H k
    · refine al_r [.one (.int .i64 (0 : Int)), .one (.int .u32 (0 : Int)), .vec .u8 32 (Vector.replicate 32 (0 : Int))] rfl I fun p_351 h I => ?_
      refine ⟨⟨I.pull1.cell 0 0 rfl,trivial⟩, ?_⟩
      replace I:=I.pull2.dupR
      replace I:=I.pull1.drop1
      replace I:=I.pull5.pull5.pull5.pull4.pull4.pull5
      try simp only [nrm_v]
      exact K16_r (c:= {c with r5:=(⟨(0:Int),(0:Int),(Vector.replicate 32 (0:Int))⟩:seal_Ref),v17:=(⟨(1:Int),c.v16⟩:commit_Node)}) (w:= {w with p_r5:=p_351,a_v17_1:=w.a_v16,c_v17_1:=w.c_v16}) I H k
def K22 (Q:QT) (c:V) (σ:St Obj):Prop:=
  (K5 Q {c with v18:=[(⟨(1:Int),c.v16⟩:commit_Node)]} σ)∧
  (K15 Q {c with r5:=(⟨(0:Int),(0:Int),(Vector.replicate 32 (0:Int))⟩:seal_Ref),v17:=(⟨(1:Int),c.v16⟩:commit_Node)} σ)
theorem K22_r (I:I22 ρ c w σ A h) (H:K22 Q' c σ) (k:kt ρ A Q' Q):Tx.carlinglaw16_alive_K22 ρ Q w.p_s1 c.v12.toList ⟨w.a_s1,c.s1.begins.length,w.c_s1⟩ c.v14.Place c.v14.Epoch c.v14.Digest.toList ⟨w.a_v16,c.v16.length,w.c_v16⟩ ⟨w.a_v21,c.v21.length,w.c_v21⟩ h:=by
  unfold I22 at I
  unfold Tx.carlinglaw16_alive_K22
  unfold K22 at H
  try simp only [nrm_v]
  refine and2_r H (fun H=> ?_) (fun H=> ?_)
  · refine al_r [.one (.int .i64 (1 : Int)), .one (.slice w.a_v16 c.v16.length w.c_v16)] rfl I fun p_372 h I => ?_
    replace I:=I.litN R_commit_Node
    replace I:=I.pull4.freeze
    replace I:=I.dupR
    replace I:=mcommit_Node (⟨(1:Int),c.v16⟩:commit_Node) I
    replace I:=I.pull2.pull1
    replace I:=I.litC
    replace I:=I.pull2.pull1
    replace I:=Inv.litL (l:=[(⟨(1:Int),c.v16⟩:commit_Node)]) I rfl rfl
    refine ⟨⟨I.pull2.cell 0 0 rfl,trivial⟩, ?_⟩
    replace I:=I.pull3.dupR
    replace I:=I.pull1.drop1
    replace I:=I.pull2.drop1
    replace I:=I.pull4.pull4.pull3.pull3.pull4
    try simp only [nrm_v]
    exact K5_r (c:= {c with v18:=[(⟨(1:Int),c.v16⟩:commit_Node)]}) (w:= {w with a_v18:=(some p_372),c_v18:=1}) I H k
  · refine al_r [.one (.int .i64 (0 : Int)), .one (.int .u32 (0 : Int)), .vec .u8 32 (Vector.replicate 32 (0 : Int))] rfl I fun p_379 h I => ?_
    refine ⟨⟨I.pull1.cell 0 0 rfl,trivial⟩, ?_⟩
    replace I:=I.pull2.dupR
    replace I:=I.pull1.drop1
    replace I:=I.pull5.pull5.pull5.pull4.pull4.pull5
    try simp only [nrm_v]
    exact K15_r (c:= {c with r5:=(⟨(0:Int),(0:Int),(Vector.replicate 32 (0:Int))⟩:seal_Ref),v17:=(⟨(1:Int),c.v16⟩:commit_Node)}) (w:= {w with p_r5:=p_379,a_v17_1:=w.a_v16,c_v17_1:=w.c_v16}) I H k
def K24 (Q:QT) (c:V) (σ:St Obj):Prop:=
  K8 Q {c with v18:=[(⟨(1:Int),c.v16⟩:commit_Node)]} σ
theorem K24_r (I:I24 ρ c w σ A h) (H:K24 Q' c σ) (k:kt ρ A Q' Q):Tx.carlinglaw16_alive_K24 ρ Q w.p_s1 w.p_r5 c.v12.toList ⟨w.a_s1,c.s1.begins.length,w.c_s1⟩ c.v14.Place c.v14.Epoch c.v14.Digest.toList ⟨w.a_v16,c.v16.length,w.c_v16⟩ ⟨w.a_v21,c.v21.length,w.c_v21⟩ h:=by
  unfold I24 at I
  unfold Tx.carlinglaw16_alive_K24
  unfold K24 at H
  try simp only [nrm_v]
  refine al_r [.one (.int .i64 (1:Int)), .one (.slice w.a_v16 c.v16.length w.c_v16)] rfl I fun p_399 h I=> ?_
  replace I:=I.litN R_commit_Node
  replace I:=I.pull5.freeze
  replace I:=I.dupR
  replace I:=mcommit_Node (⟨(1:Int),c.v16⟩:commit_Node) I
  replace I:=I.pull2.pull1
  replace I:=I.litC
  replace I:=I.pull2.pull1
  replace I:=Inv.litL (l:=[(⟨(1:Int),c.v16⟩:commit_Node)]) I rfl rfl
  refine ⟨⟨I.pull2.cell 0 0 rfl,trivial⟩, ?_⟩
  replace I:=I.pull3.dupR
  replace I:=I.pull1.drop1
  replace I:=I.pull2.drop1
  replace I:=I.pull5.pull5.pull3.pull5.pull4.pull5
  try simp only [nrm_v]
  exact K8_r (c:= {c with v18:=[(⟨(1:Int),c.v16⟩:commit_Node)]}) (w:= {w with a_v18:=(some p_399),c_v18:=1}) I H k
def K23 (Q:QT) (c:V) (σ:St Obj):Prop:=
  K24 Q {c with v16:=[c.v15]} σ
theorem K23_r (I:I23 ρ c w σ A h) (H:K23 Q' c σ) (k:kt ρ A Q' Q):Tx.carlinglaw16_alive_K23 ρ Q w.p_s1 w.p_r5 c.v12.toList ⟨w.a_s1,c.s1.begins.length,w.c_s1⟩ c.v14.Place c.v14.Epoch c.v14.Digest.toList c.v15.Place c.v15.Epoch c.v15.Digest.toList ⟨w.a_v21,c.v21.length,w.c_v21⟩ h:=by
  unfold I23 at I
  unfold Tx.carlinglaw16_alive_K23
  unfold K23 at H
  try simp only [nrm_v]
  refine al_r [.one (.int .i64 c.v15.Place), .one (.int .u32 c.v15.Epoch), .vec .u8 32 c.v15.Digest] rfl I fun p_387 h I=> ?_
  replace I:=I.litN R_seal_Ref
  replace I:=mseal_Ref c.v15 I
  replace I:=I.pull1.pull1
  replace I:=I.litC
  replace I:=I.pull1.pull1
  replace I:=Inv.litL (l:=[c.v15]) I rfl rfl
  refine ⟨⟨I.pull1.cell 0 0 rfl,trivial⟩, ?_⟩
  replace I:=I.pull2.dupR
  replace I:=I.pull1.drop1
  replace I:=I.pull5.pull5.pull3.pull5.pull4.pull5
  try simp only [nrm_v]
  exact K24_r (c:= {c with v16:=[c.v15]}) (w:= {w with a_v16:=(some p_387),c_v16:=1}) I H k
def K21 (Q:QT) (c:V) (σ:St Obj):Prop:=
  (K22 Q {c with v16:=[c.v15]} σ)∧
  (K23 Q {c with r5:=(⟨(0:Int),(0:Int),(Vector.replicate 32 (0:Int))⟩:seal_Ref)} σ)
theorem K21_r (I:I21 ρ c w σ A h) (H:K21 Q' c σ) (k:kt ρ A Q' Q):Tx.carlinglaw16_alive_K21 ρ Q w.p_s1 c.v12.toList ⟨w.a_s1,c.s1.begins.length,w.c_s1⟩ c.v14.Place c.v14.Epoch c.v14.Digest.toList c.v15.Place c.v15.Epoch c.v15.Digest.toList ⟨w.a_v21,c.v21.length,w.c_v21⟩ h:=by
  unfold I21 at I
  unfold Tx.carlinglaw16_alive_K21
  unfold K21 at H
  try simp only [nrm_v]
  refine and2_r H (fun H=> ?_) (fun H=> ?_)
  · refine al_r [.one (.int .i64 c.v15.Place), .one (.int .u32 c.v15.Epoch), .vec .u8 32 c.v15.Digest] rfl I fun p_358 h I => ?_
    replace I:=I.litN R_seal_Ref
    replace I:=mseal_Ref c.v15 I
    replace I:=I.pull1.pull1
    replace I:=I.litC
    replace I:=I.pull1.pull1
    replace I:=Inv.litL (l:=[c.v15]) I rfl rfl
    refine ⟨⟨I.pull1.cell 0 0 rfl,trivial⟩, ?_⟩
    replace I:=I.pull2.dupR
    replace I:=I.pull1.drop1
    replace I:=I.pull4.pull4.pull3.pull3.pull4
    try simp only [nrm_v]
    exact K22_r (c:= {c with v16:=[c.v15]}) (w:= {w with a_v16:=(some p_358),c_v16:=1}) I H k
  · refine al_r [.one (.int .i64 (0 : Int)), .one (.int .u32 (0 : Int)), .vec .u8 32 (Vector.replicate 32 (0 : Int))] rfl I fun p_364 h I => ?_
    refine ⟨⟨I.pull1.cell 0 0 rfl,trivial⟩, ?_⟩
    replace I:=I.pull2.dupR
    replace I:=I.pull1.drop1
    replace I:=I.pull4.pull4.pull3.pull3.pull4
    try simp only [nrm_v]
    exact K23_r (c:= {c with r5:=(⟨(0:Int),(0:Int),(Vector.replicate 32 (0:Int))⟩:seal_Ref)}) (w:= {w with p_r5:=p_364}) I H k
def K26 (Q:QT) (c:V) (σ:St Obj):Prop:=
  (K9 Q {c with v18:=[(⟨(1:Int),c.v16⟩:commit_Node)]} σ)∧
  (K15 Q {c with v17:=(⟨(1:Int),c.v16⟩:commit_Node),v21:=[c.v20]} σ)
theorem K26_r (I:I26 ρ c w σ A h) (H:K26 Q' c σ) (k:kt ρ A Q' Q):Tx.carlinglaw16_alive_K26 ρ Q w.p_s1 w.p_r5 c.v12.toList ⟨w.a_s1,c.s1.begins.length,w.c_s1⟩ c.v14.Place c.v14.Epoch c.v14.Digest.toList ⟨w.a_v16,c.v16.length,w.c_v16⟩ c.v20.Page ⟨w.a_v20_1,c.v20.Bytes.length,w.c_v20_1⟩ h:=by
  unfold I26 at I
  unfold Tx.carlinglaw16_alive_K26
  unfold K26 at H
  try simp only [nrm_v]
  refine and2_r H (fun H=> ?_) (fun H=> ?_)
  · refine al_r [.one (.int .i64 (1 : Int)), .one (.slice w.a_v16 c.v16.length w.c_v16)] rfl I fun p_430 h I => ?_
    replace I:=I.litN R_commit_Node
    replace I:=I.pull5.freeze
    replace I:=I.dupR
    replace I:=mcommit_Node (⟨(1:Int),c.v16⟩:commit_Node) I
    replace I:=I.pull2.pull1
    replace I:=I.litC
    replace I:=I.pull2.pull1
    replace I:=Inv.litL (l:=[(⟨(1:Int),c.v16⟩:commit_Node)]) I rfl rfl
    refine ⟨⟨I.pull2.cell 0 0 rfl,trivial⟩, ?_⟩
    replace I:=I.pull3.dupR
    replace I:=I.pull1.drop1
    replace I:=I.pull2.drop1
    replace I:=I.pull5.pull5.pull3.pull5.pull4.pull5
    try simp only [nrm_v]
    exact K9_r (c:= {c with v18:=[(⟨(1:Int),c.v16⟩:commit_Node)]}) (w:= {w with a_v18:=(some p_430),c_v18:=1}) I H k
  · refine al_r [.one (.int .i64 c.v20.Page), .one (.slice w.a_v20_1 c.v20.Bytes.length w.c_v20_1)] rfl I fun p_437 h I => ?_
    replace I:=I.litN R_commit_Change
    replace I:=I.pull6.freeze
    replace I:=I.dupR
    replace I:=mcommit_Change c.v20 I
    replace I:=I.pull2.pull1
    replace I:=I.litC
    replace I:=I.pull2.pull1
    replace I:=Inv.litL (l:=[c.v20]) I rfl rfl
    refine ⟨⟨I.pull2.cell 0 0 rfl,trivial⟩, ?_⟩
    replace I:=I.pull3.dupR
    replace I:=I.pull1.drop1
    replace I:=I.pull2.drop1
    replace I:=I.pull5.pull2.pull5.pull5.pull4.pull5
    try simp only [nrm_v]
    exact K15_r (c:= {c with v17:=(⟨(1:Int),c.v16⟩:commit_Node),v21:=[c.v20]}) (w:= {w with a_v17_1:=w.a_v16,c_v17_1:=w.c_v16,a_v21:=(some p_437),c_v21:=1}) I H k
def K25 (Q:QT) (c:V) (σ:St Obj):Prop:=
  (K26 Q {c with v16:=[c.v15]} σ)∧
  (K23 Q {c with v21:=[c.v20]} σ)
theorem K25_r (I:I25 ρ c w σ A h) (H:K25 Q' c σ) (k:kt ρ A Q' Q):Tx.carlinglaw16_alive_K25 ρ Q w.p_s1 w.p_r5 c.v12.toList ⟨w.a_s1,c.s1.begins.length,w.c_s1⟩ c.v14.Place c.v14.Epoch c.v14.Digest.toList c.v15.Place c.v15.Epoch c.v15.Digest.toList c.v20.Page ⟨w.a_v20_1,c.v20.Bytes.length,w.c_v20_1⟩ h:=by
  unfold I25 at I
  unfold Tx.carlinglaw16_alive_K25
  unfold K25 at H
  try simp only [nrm_v]
  refine and2_r H (fun H=> ?_) (fun H=> ?_)
  · refine al_r [.one (.int .i64 c.v15.Place), .one (.int .u32 c.v15.Epoch), .vec .u8 32 c.v15.Digest] rfl I fun p_411 h I => ?_
    replace I:=I.litN R_seal_Ref
    replace I:=mseal_Ref c.v15 I
    replace I:=I.pull1.pull1
    replace I:=I.litC
    replace I:=I.pull1.pull1
    replace I:=Inv.litL (l:=[c.v15]) I rfl rfl
    refine ⟨⟨I.pull1.cell 0 0 rfl,trivial⟩, ?_⟩
    replace I:=I.pull2.dupR
    replace I:=I.pull1.drop1
    replace I:=I.pull5.pull5.pull3.pull5.pull4.pull5
    try simp only [nrm_v]
    exact K26_r (c:= {c with v16:=[c.v15]}) (w:= {w with a_v16:=(some p_411),c_v16:=1}) I H k
  · refine al_r [.one (.int .i64 c.v20.Page), .one (.slice w.a_v20_1 c.v20.Bytes.length w.c_v20_1)] rfl I fun p_417 h I => ?_
    replace I:=I.litN R_commit_Change
    replace I:=I.pull5.freeze
    replace I:=I.dupR
    replace I:=mcommit_Change c.v20 I
    replace I:=I.pull2.pull1
    replace I:=I.litC
    replace I:=I.pull2.pull1
    replace I:=Inv.litL (l:=[c.v20]) I rfl rfl
    refine ⟨⟨I.pull2.cell 0 0 rfl,trivial⟩, ?_⟩
    replace I:=I.pull3.dupR
    replace I:=I.pull1.drop1
    replace I:=I.pull2.drop1
    replace I:=I.pull4.pull2.pull4.pull3.pull4
    try simp only [nrm_v]
    exact K23_r (c:= {c with v21:=[c.v20]}) (w:= {w with a_v21:=(some p_417),c_v21:=1}) I H k
def K19 (Q:QT) (c:V) (σ:St Obj):Prop:=
  (K20 Q {c with v16:=[c.v15],v20:=(⟨(0:Int),c.v19⟩:commit_Change)} σ)∧
  ((K21 Q {c with v21:=[(⟨(0:Int),c.v19⟩:commit_Change)]} σ)∧
  (K25 Q {c with r5:=(⟨(0:Int),(0:Int),(Vector.replicate 32 (0:Int))⟩:seal_Ref),v20:=(⟨(0:Int),c.v19⟩:commit_Change)} σ))
theorem K19_r (I:I19 ρ c w σ A h) (H:K19 Q' c σ) (k:kt ρ A Q' Q):Tx.carlinglaw16_alive_K19 ρ Q w.p_s1 c.v12.toList ⟨w.a_s1,c.s1.begins.length,w.c_s1⟩ c.v14.Place c.v14.Epoch c.v14.Digest.toList c.v15.Place c.v15.Epoch c.v15.Digest.toList ⟨w.a_v19,c.v19.length,w.c_v19⟩ h:=by
  unfold I19 at I
  unfold Tx.carlinglaw16_alive_K19
  unfold K19 at H
  try simp only [nrm_v]
  refine and2_r H (fun H=> ?_) (fun H=> ?_)
  · refine al_r [.one (.int .i64 c.v15.Place), .one (.int .u32 c.v15.Epoch), .vec .u8 32 c.v15.Digest] rfl I fun p_316 h I => ?_
    replace I:=I.litN R_seal_Ref
    replace I:=mseal_Ref c.v15 I
    replace I:=I.pull1.pull1
    replace I:=I.litC
    replace I:=I.pull1.pull1
    replace I:=Inv.litL (l:=[c.v15]) I rfl rfl
    refine ⟨⟨I.pull1.cell 0 0 rfl,trivial⟩, ?_⟩
    replace I:=I.pull2.dupR
    replace I:=I.pull1.drop1
    replace I:=I.pull4.pull4.pull3.pull3.pull4
    try simp only [nrm_v]
    exact K20_r (c:= {c with v16:=[c.v15],v20:=(⟨(0:Int),c.v19⟩:commit_Change)}) (w:= {w with a_v16:=(some p_316),c_v16:=1,a_v20_1:=w.a_v19,c_v20_1:=w.c_v19}) I H k
  · refine and2_r H (fun H => ?_) (fun H => ?_)
    · refine al_r [.one (.int .i64 (0 : Int)), .one (.slice w.a_v19 c.v19.length w.c_v19)] rfl I fun p_322 h I => ?_
      replace I:=I.litN R_commit_Change
      replace I:=I.pull4.freeze
      replace I:=I.dupR
      replace I:=mcommit_Change (⟨(0:Int),c.v19⟩:commit_Change) I
      replace I:=I.pull2.pull1
      replace I:=I.litC
      replace I:=I.pull2.pull1
      replace I:=Inv.litL (l:=[(⟨(0:Int),c.v19⟩:commit_Change)]) I rfl rfl
      refine ⟨⟨I.pull2.cell 0 0 rfl,trivial⟩, ?_⟩
      replace I:=I.pull3.dupR
      replace I:=I.pull1.drop1
      replace I:=I.pull2.drop1
      replace I:=I.pull3.pull2.pull2.pull3
      try simp only [nrm_v]
      exact K21_r (c:= {c with v21:=[(⟨(0:Int),c.v19⟩:commit_Change)]}) (w:= {w with a_v21:=(some p_322),c_v21:=1}) I H k
    · refine al_r [.one (.int .i64 (0 : Int)), .one (.int .u32 (0 : Int)), .vec .u8 32 (Vector.replicate 32 (0 : Int))] rfl I fun p_329 h I => ?_
      refine ⟨⟨I.pull1.cell 0 0 rfl,trivial⟩, ?_⟩
      replace I:=I.pull2.dupR
      replace I:=I.pull1.drop1
      replace I:=I.pull4.pull4.pull3.pull3.pull4
      try simp only [nrm_v]
      exact K25_r (c:= {c with r5:=(⟨(0:Int),(0:Int),(Vector.replicate 32 (0:Int))⟩:seal_Ref),v20:=(⟨(0:Int),c.v19⟩:commit_Change)}) (w:= {w with p_r5:=p_329,a_v20_1:=w.a_v19,c_v20_1:=w.c_v19}) I H k
def K28 (Q:QT) (c:V) (σ:St Obj):Prop:=
  (K10 Q {c with v18:=[(⟨(1:Int),c.v16⟩:commit_Node)]} σ)∧
  (K18 Q {c with v17:=(⟨(1:Int),c.v16⟩:commit_Node),v19:=(List.replicate (Int.toNat (256:Int)) (0:Int))} σ)
theorem K28_r (I:I28 ρ c w σ A h) (H:K28 Q' c σ) (k:kt ρ A Q' Q):Tx.carlinglaw16_alive_K28 ρ Q w.p_s1 w.p_r5 c.v12.toList ⟨w.a_s1,c.s1.begins.length,w.c_s1⟩ c.v14.Place c.v14.Epoch c.v14.Digest.toList ⟨w.a_v16,c.v16.length,w.c_v16⟩ h:=by
  unfold I28 at I
  unfold Tx.carlinglaw16_alive_K28
  unfold K28 at H
  try simp only [nrm_v]
  refine and2_r H (fun H=> ?_) (fun H=> ?_)
  · refine al_r [.one (.int .i64 (1 : Int)), .one (.slice w.a_v16 c.v16.length w.c_v16)] rfl I fun p_463 h I => ?_
    replace I:=I.litN R_commit_Node
    replace I:=I.pull5.freeze
    replace I:=I.dupR
    replace I:=mcommit_Node (⟨(1:Int),c.v16⟩:commit_Node) I
    replace I:=I.pull2.pull1
    replace I:=I.litC
    replace I:=I.pull2.pull1
    replace I:=Inv.litL (l:=[(⟨(1:Int),c.v16⟩:commit_Node)]) I rfl rfl
    refine ⟨⟨I.pull2.cell 0 0 rfl,trivial⟩, ?_⟩
    replace I:=I.pull3.dupR
    replace I:=I.pull1.drop1
    replace I:=I.pull2.drop1
    replace I:=I.pull4.pull2.pull4.pull3.pull4
    try simp only [nrm_v]
    exact K10_r (c:= {c with v18:=[(⟨(1:Int),c.v16⟩:commit_Node)]}) (w:= {w with a_v18:=(some p_463),c_v18:=1}) I H k
  · refine mk_r (E := (rI .u8)) (z0 := (0 : Int)) I (fun _ _ => rfl) (by decide) ⟨by decide, by decide⟩ fun a_470 c_471 h I => ?_
    refine ⟨⟨I.pull1.cell 0 0 rfl,trivial⟩, ?_⟩
    replace I:=I.pull2.dupR
    replace I:=I.pull1.drop1
    replace I:=I.pull5.pull2.pull5.pull5.pull4.pull5
    try simp only [nrm_v]
    exact K18_r (c:= {c with v17:=(⟨(1:Int),c.v16⟩:commit_Node),v19:=(List.replicate (Int.toNat (256:Int)) (0:Int))}) (w:= {w with a_v17_1:=w.a_v16,c_v17_1:=w.c_v16,a_v19:=a_470,c_v19:=c_471}) I H k
def K29 (Q:QT) (c:V) (σ:St Obj):Prop:=
  (K26 Q {c with v16:=[c.v15],v20:=(⟨(0:Int),c.v19⟩:commit_Change)} σ)∧
  (K23 Q {c with v21:=[(⟨(0:Int),c.v19⟩:commit_Change)]} σ)
theorem K29_r (I:I29 ρ c w σ A h) (H:K29 Q' c σ) (k:kt ρ A Q' Q):Tx.carlinglaw16_alive_K29 ρ Q w.p_s1 w.p_r5 c.v12.toList ⟨w.a_s1,c.s1.begins.length,w.c_s1⟩ c.v14.Place c.v14.Epoch c.v14.Digest.toList c.v15.Place c.v15.Epoch c.v15.Digest.toList ⟨w.a_v19,c.v19.length,w.c_v19⟩ h:=by
  unfold I29 at I
  unfold Tx.carlinglaw16_alive_K29
  unfold K29 at H
  try simp only [nrm_v]
  refine and2_r H (fun H=> ?_) (fun H=> ?_)
  · refine al_r [.one (.int .i64 c.v15.Place), .one (.int .u32 c.v15.Epoch), .vec .u8 32 c.v15.Digest] rfl I fun p_479 h I => ?_
    replace I:=I.litN R_seal_Ref
    replace I:=mseal_Ref c.v15 I
    replace I:=I.pull1.pull1
    replace I:=I.litC
    replace I:=I.pull1.pull1
    replace I:=Inv.litL (l:=[c.v15]) I rfl rfl
    refine ⟨⟨I.pull1.cell 0 0 rfl,trivial⟩, ?_⟩
    replace I:=I.pull2.dupR
    replace I:=I.pull1.drop1
    replace I:=I.pull5.pull5.pull3.pull5.pull4.pull5
    try simp only [nrm_v]
    exact K26_r (c:= {c with v16:=[c.v15],v20:=(⟨(0:Int),c.v19⟩:commit_Change)}) (w:= {w with a_v16:=(some p_479),c_v16:=1,a_v20_1:=w.a_v19,c_v20_1:=w.c_v19}) I H k
  · refine al_r [.one (.int .i64 (0 : Int)), .one (.slice w.a_v19 c.v19.length w.c_v19)] rfl I fun p_485 h I => ?_
    replace I:=I.litN R_commit_Change
    replace I:=I.pull5.freeze
    replace I:=I.dupR
    replace I:=mcommit_Change (⟨(0:Int),c.v19⟩:commit_Change) I
    replace I:=I.pull2.pull1
    replace I:=I.litC
    replace I:=I.pull2.pull1
    replace I:=Inv.litL (l:=[(⟨(0:Int),c.v19⟩:commit_Change)]) I rfl rfl
    refine ⟨⟨I.pull2.cell 0 0 rfl,trivial⟩, ?_⟩
    replace I:=I.pull3.dupR
    replace I:=I.pull1.drop1
    replace I:=I.pull2.drop1
    replace I:=I.pull4.pull2.pull4.pull3.pull4
    try simp only [nrm_v]
    exact K23_r (c:= {c with v21:=[(⟨(0:Int),c.v19⟩:commit_Change)]}) (w:= {w with a_v21:=(some p_485),c_v21:=1}) I H k
def K27 (Q:QT) (c:V) (σ:St Obj):Prop:=
  (K28 Q {c with v16:=[c.v15]} σ)∧
  (K29 Q {c with v19:=(List.replicate (Int.toNat (256:Int)) (0:Int))} σ)
theorem K27_r (I:I27 ρ c w σ A h) (H:K27 Q' c σ) (k:kt ρ A Q' Q):Tx.carlinglaw16_alive_K27 ρ Q w.p_s1 w.p_r5 c.v12.toList ⟨w.a_s1,c.s1.begins.length,w.c_s1⟩ c.v14.Place c.v14.Epoch c.v14.Digest.toList c.v15.Place c.v15.Epoch c.v15.Digest.toList h:=by
  unfold I27 at I
  unfold Tx.carlinglaw16_alive_K27
  unfold K27 at H
  try simp only [nrm_v]
  refine and2_r H (fun H=> ?_) (fun H=> ?_)
  · refine al_r [.one (.int .i64 c.v15.Place), .one (.int .u32 c.v15.Epoch), .vec .u8 32 c.v15.Digest] rfl I fun p_448 h I => ?_
    replace I:=I.litN R_seal_Ref
    replace I:=mseal_Ref c.v15 I
    replace I:=I.pull1.pull1
    replace I:=I.litC
    replace I:=I.pull1.pull1
    replace I:=Inv.litL (l:=[c.v15]) I rfl rfl
    refine ⟨⟨I.pull1.cell 0 0 rfl,trivial⟩, ?_⟩
    replace I:=I.pull2.dupR
    replace I:=I.pull1.drop1
    replace I:=I.pull4.pull2.pull4.pull3.pull4
    try simp only [nrm_v]
    exact K28_r (c:= {c with v16:=[c.v15]}) (w:= {w with a_v16:=(some p_448),c_v16:=1}) I H k
  · refine mk_r (E := (rI .u8)) (z0 := (0 : Int)) I (fun _ _ => rfl) (by decide) ⟨by decide, by decide⟩ fun a_454 c_455 h I => ?_
    refine ⟨⟨I.pull1.cell 0 0 rfl,trivial⟩, ?_⟩
    replace I:=I.pull2.dupR
    replace I:=I.pull1.drop1
    replace I:=I.pull4.pull2.pull4.pull3.pull4
    try simp only [nrm_v]
    exact K29_r (c:= {c with v19:=(List.replicate (Int.toNat (256:Int)) (0:Int))}) (w:= {w with a_v19:=a_454,c_v19:=c_455}) I H k
end carlinglaw16_alive
def carlinglaw16_alive (σ:St Obj) (Q:carlinglaw16_alive.QT):Prop:=
  shape_New (1:Int) fun r_2 r_5=>
  (carlinglaw16_alive.K2 Q {carlinglaw16_alive.v0 with s1:=r_2,v12:=(Vector.replicate 32 (0:Int)),v14:=(⟨(0:Int),(0:Int),(Vector.replicate 32 (0:Int))⟩:seal_Ref),v16:=[(⟨(1:Int),(0:Int),(Vector.replicate 32 (0:Int))⟩:seal_Ref)]} σ)∧
  ((carlinglaw16_alive.K19 Q {carlinglaw16_alive.v0 with s1:=r_2,v12:=(Vector.replicate 32 (0:Int)),v14:=(⟨(0:Int),(0:Int),(Vector.replicate 32 (0:Int))⟩:seal_Ref),v15:=(⟨(1:Int),(0:Int),(Vector.replicate 32 (0:Int))⟩:seal_Ref),v19:=(List.replicate (Int.toNat (256:Int)) (0:Int))} σ)∧
  (carlinglaw16_alive.K27 Q {carlinglaw16_alive.v0 with s1:=r_2,r5:=(⟨(0:Int),(0:Int),(Vector.replicate 32 (0:Int))⟩:seal_Ref),v12:=(Vector.replicate 32 (0:Int)),v14:=(⟨(0:Int),(0:Int),(Vector.replicate 32 (0:Int))⟩:seal_Ref),v15:=(⟨(1:Int),(0:Int),(Vector.replicate 32 (0:Int))⟩:seal_Ref)} σ))
theorem carlinglaw16_alive_r {σ:St Obj} {Q':carlinglaw16_alive.QT} {Q:carlinglaw16_alive.RT} (I:Inv h (hpA (obA ρ) σ::A)) (H:carlinglaw16_alive σ Q')
    (k:carlinglaw16_alive.kt ρ A Q' Q):Tx.carlinglaw16_alive ρ h Q:=by
  unfold Tx.carlinglaw16_alive
  unfold carlinglaw16_alive at H
  refine shape_New_r (pages0:=(1:Int)) I H fun r_2 a_3 c_4 r_5 h I H=> ?_
  refine al_r [.one (.slice none 0 0)] rfl I fun p_7 h I=> ?_
  refine st_r I 0 0 rfl fun h (I:Inv h (blk p_7 (ρ.T 11) [.one (.slice a_3 r_2.begins.length c_4)]::_))=> ?_
  refine ldS_r (I.cell 0 0 rfl) ?_
  refine and2_r H (fun H=> ?_) (fun H=> ?_)
  · refine al_r [.one (.int .i64 (1 : Int)), .one (.int .u32 (0 : Int)), .vec .u8 32 (Vector.replicate 32 (0 : Int))] rfl I fun p_9 h I => ?_
    replace I:=I.litN R_seal_Ref
    replace I:=mseal_Ref (⟨(1:Int),(0:Int),(Vector.replicate 32 (0:Int))⟩:seal_Ref) I
    replace I:=I.pull1.pull1
    replace I:=I.litC
    replace I:=I.pull1.pull1
    replace I:=Inv.litL (l:=[(⟨(1:Int),(0:Int),(Vector.replicate 32 (0:Int))⟩:seal_Ref)]) I rfl rfl
    refine ⟨⟨I.pull1.cell 0 0 rfl,trivial⟩, ?_⟩
    replace I:=I.pull2.dupR
    replace I:=I.pull1.drop1
    replace I:=I.pull3.pull2.pull2.pull3
    try simp only [nrm_v]
    exact carlinglaw16_alive.K2_r (c:= {carlinglaw16_alive.v0 with s1:=r_2,v12:=(Vector.replicate 32 (0:Int)),v14:=(⟨(0:Int),(0:Int),(Vector.replicate 32 (0:Int))⟩:seal_Ref),v16:=[(⟨(1:Int),(0:Int),(Vector.replicate 32 (0:Int))⟩:seal_Ref)]}) (w:= {carlinglaw16_alive.w0 with p_s1:=p_7,a_s1:=a_3,c_s1:=c_4,a_v16:=(some p_9),c_v16:=1}) I H k
  · refine and2_r H (fun H => ?_) (fun H => ?_)
    · refine mk_r (E := (rI .u8)) (z0 := (0 : Int)) I (fun _ _ => rfl) (by decide) ⟨by decide, by decide⟩ fun a_15 c_16 h I => ?_
      refine ⟨⟨I.pull1.cell 0 0 rfl,trivial⟩, ?_⟩
      replace I:=I.pull2.dupR
      replace I:=I.pull1.drop1
      replace I:=I.pull3.pull2.pull2.pull3
      try simp only [nrm_v]
      exact carlinglaw16_alive.K19_r (c:= {carlinglaw16_alive.v0 with s1:=r_2,v12:=(Vector.replicate 32 (0:Int)),v14:=(⟨(0:Int),(0:Int),(Vector.replicate 32 (0:Int))⟩:seal_Ref),v15:=(⟨(1:Int),(0:Int),(Vector.replicate 32 (0:Int))⟩:seal_Ref),v19:=(List.replicate (Int.toNat (256:Int)) (0:Int))}) (w:= {carlinglaw16_alive.w0 with p_s1:=p_7,a_s1:=a_3,c_s1:=c_4,a_v19:=a_15,c_v19:=c_16}) I H k
    · refine al_r [.one (.int .i64 (0 : Int)), .one (.int .u32 (0 : Int)), .vec .u8 32 (Vector.replicate 32 (0 : Int))] rfl I fun p_19 h I => ?_
      refine ⟨⟨I.pull1.cell 0 0 rfl,trivial⟩, ?_⟩
      replace I:=I.pull2.dupR
      replace I:=I.pull1.drop1
      replace I:=I.pull3.pull2.pull2.pull3
      try simp only [nrm_v]
      exact carlinglaw16_alive.K27_r (c:= {carlinglaw16_alive.v0 with s1:=r_2,r5:=(⟨(0:Int),(0:Int),(Vector.replicate 32 (0:Int))⟩:seal_Ref),v12:=(Vector.replicate 32 (0:Int)),v14:=(⟨(0:Int),(0:Int),(Vector.replicate 32 (0:Int))⟩:seal_Ref),v15:=(⟨(1:Int),(0:Int),(Vector.replicate 32 (0:Int))⟩:seal_Ref)}) (w:= {carlinglaw16_alive.w0 with p_s1:=p_7,a_s1:=a_3,c_s1:=c_4,p_r5:=p_19}) I H k
namespace carlingref16_has
structure V where
  l0:List Int
  n1:Int
  i5:Int
structure W where
  a_l0:Option Addr
  c_l0:Nat
def v0:V:=⟨[],0,0⟩
def w0:W:=⟨none,0⟩
abbrev QT:=Bool→Prop
abbrev RT:=Bool→Hp→Prop
def kt (ρ:Ids) (X_l0:At) (A:List At) (Q':QT) (Q:RT):Prop:=
  ∀ (r0:Bool) (h':Hp),Inv h' (X_l0::A)→Q' r0→Q r0 h'
def I1 (ρ:Ids) (X_l0:At) (c:V) (w:W) (A:List At) (h:Hp):Prop:=
  Rd (rI .i64) X_l0 w.a_l0 c.l0.length w.c_l0 c.l0∧Inv h (X_l0::A)
abbrev Y1:=Sl→Int→Int→Hp→Prop
abbrev T1 (X_l0:At) (S:Y1) (c:V) (w:W) (h:Hp):Prop:=S ⟨w.a_l0,c.l0.length,w.c_l0⟩ c.n1 c.i5 h
def k1t (ρ:Ids) (X_l0:At) (A:List At) (S':V→Prop) (S:Y1):Prop:= ∀ (c:V) (w:W) (h:Hp),I1 ρ X_l0 c w A h→S' c→T1 X_l0 S c w h
variable {X_l0:At} {c:V} {w:W} {Q':QT} {Q:RT} {S1':V→Prop} {S1:Y1}
def B1 (S1:V→Prop) (Q:QT) (c:V):Prop:=
  br (decide (c.i5<(c.l0.length:Int)))
  (ixP c.l0 c.i5 fun x_3=>
  br (x_3==c.n1)
  (Q true)
  (S1 {c with i5:=(IntKind.wrap .i64 (c.i5+(1:Int)))}))
  (Q false)
def L1 (Q:QT) (c:V):Prop:=Lf (fun S=>B1 S Q) c
theorem L1_in {Q:QT} {c:V} (H:B1 (L1 Q) Q c):L1 Q c:=Lf.fold H
theorem B1_r (I:I1 ρ X_l0 c w A h) (H:B1 S1' Q' c) (kS1:k1t ρ X_l0 A S1' S1) (k:kt ρ X_l0 A Q' Q):T1 X_l0 (Tx.carlingref16_has_B1 ρ S1 Q) c w h:=by
  obtain ⟨hX_l0,I⟩:=I
  unfold T1 Tx.carlingref16_has_B1
  unfold B1 at H
  refine br_r H (fun hb H=> ?_) (fun hb H=> ?_)
  · refine ixI_a hX_l0 I (ixP_keep H) fun p_4 x_3 he_5 hb_6 hc_7 H => ?_
    obtain ⟨hg_8,H⟩:=H
    refine ldI_r hc_7 ?_
    refine br_r H (fun hb H=> ?_) (fun hb H=> ?_)
    · exact k true _ I H
    · exact kS1 {c with i5:=(IntKind.wrap .i64 (c.i5+(1:Int)))} w _ ⟨hX_l0,I⟩ H
  · exact k false _ I H
theorem L1_r (I:I1 ρ X_l0 c w A h) (H:L1 Q' c) (k:kt ρ X_l0 A Q' Q):T1 X_l0 (Tx.carlingref16_has_L1 ρ Q) c w h:=by
  refine Lf.ind H (fun v=> ∀ (w:W) (h:Hp),I1 ρ X_l0 v w A h→T1 X_l0 (Tx.carlingref16_has_L1 ρ Q) v w h) ?_ w h I
  rintro c S hS HB w h I
  refine Tx.carlingref16_has_L1_in _ _ _ _ _ _ ?_
  try simp only [nrm_v]
  exact B1_r (c:=c) (w:=w) I HB (fun c w h I H=>hS _ H w h I) k
end carlingref16_has
def carlingref16_has (l0:List Int) (n1:Int) (Q:carlingref16_has.QT):Prop:=
  carlingref16_has.L1 Q {carlingref16_has.v0 with l0:=l0,n1:=n1,i5:=(0:Int)}
theorem carlingref16_has_r {l0:List Int} {n1:Int} {a_l0:Option Addr} {c_l0:Nat} {n_l0:Nat} {X_l0:At} {Q':carlingref16_has.QT} {Q:carlingref16_has.RT} (hX_l0:Rd (rI .i64) X_l0 a_l0 n_l0 c_l0 l0) (I:Inv h (X_l0::A)) (H:carlingref16_has l0 n1 Q')
    (k:carlingref16_has.kt ρ X_l0 A Q' Q):Tx.carlingref16_has ρ ⟨a_l0,n_l0,c_l0⟩ n1 h Q:=by
  obtain rfl:=rd_len hX_l0 I
  unfold Tx.carlingref16_has
  unfold carlingref16_has at H
  exact carlingref16_has.L1_r (c:= {carlingref16_has.v0 with l0:=l0,n1:=n1,i5:=(0:Int)}) (w:= {carlingref16_has.w0 with a_l0:=a_l0,c_l0:=c_l0}) ⟨hX_l0,I⟩ H k
def carlingref12_Shape_has (s0:carlingref12_Shape) (item1:Int) (Q:Bool→Prop):Prop:=
  br (decide (item1≥(0:Int)))
  (Q (decide (item1<(s0.Level.length:Int))))
  (Q false)
theorem carlingref12_Shape_has_r {s0:carlingref12_Shape} {item1:Int} {a_s0_1:Option Addr} {c_s0_1:Nat} {n_s0_1:Nat} {a_s0_2:Option Addr} {c_s0_2:Nat} {n_s0_2:Nat} {Q':Bool→Prop} {Q:Bool→Hp→Prop} (I:Inv h (roS (rI .i64) a_s0_1 n_s0_1 c_s0_1 s0.Level::roS (rI .i64) a_s0_2 n_s0_2 c_s0_2 s0.First::A)) (H:carlingref12_Shape_has s0 item1 Q')
    (k: ∀ (r0:Bool) (h':Hp),Inv h' (A)→Q' r0→Q r0 h'):Tx.carlingref12_Shape_has ρ s0.P ⟨a_s0_1,n_s0_1,c_s0_1⟩ ⟨a_s0_2,n_s0_2,c_s0_2⟩ item1 h Q:=by
  obtain rfl:=ro_len I
  obtain rfl:=ro_len I.pull1
  unfold Tx.carlingref12_Shape_has
  unfold carlingref12_Shape_has at H
  refine al_r [.one (.int .i64 s0.P), .one (.slice a_s0_1 s0.Level.length c_s0_1), .one (.slice a_s0_2 s0.First.length c_s0_2)] rfl I fun p_3 h I=> ?_
  refine br_r H (fun hb H=> ?_) (fun hb H=> ?_)
  · refine ldS_r (I.cell 1 1 rfl) ?_
    replace I:=I.drop1
    replace I:=I.drop1
    replace I:=I.drop1
    exact k (decide (item1<(s0.Level.length:Int))) _ I H
  · replace I := I.drop1
    replace I:=I.drop1
    replace I:=I.drop1
    exact k false _ I H
namespace carlingref12_Shape_Kids
structure V where
  item1:Int
  s2:carlingref12_Shape
  out5:List Int
  v18:Bool
  k6:Int
  v45:Bool
structure W where
  p_s2:Addr
  a_s2_1:Option Addr
  c_s2_1:Nat
  a_s2_2:Option Addr
  c_s2_2:Nat
  a_out5:Option Addr
  c_out5:Nat
def v0:V:=⟨0,(⟨(0:Int),[],[]⟩:carlingref12_Shape),[],false,0,false⟩
def w0:W:=⟨⟨0,0,none⟩,none,0,none,0,none,0⟩
abbrev QT:=(List Int)→Prop
abbrev RT:=Sl→Hp→Prop
def kt (ρ:Ids) (A:List At) (Q':QT) (Q:RT):Prop:=
  ∀ (r0:List Int) (ra0:Option Addr) (rc0:Nat) (h':Hp),Inv h' (ownS (rI .i64) ra0 r0.length rc0 r0::A)→Q' r0→Q ⟨ra0,r0.length,rc0⟩ h'
def I1 (ρ:Ids) (c:V) (w:W) (A:List At) (h:Hp):Prop:=
  Inv h (blk w.p_s2 (ρ.T 12) [.one (.int .i64 c.s2.P), .one (.slice w.a_s2_1 c.s2.Level.length w.c_s2_1), .one (.slice w.a_s2_2 c.s2.First.length w.c_s2_2)]::roS (rI .i64) w.a_s2_1 c.s2.Level.length w.c_s2_1 c.s2.Level::roS (rI .i64) w.a_s2_2 c.s2.First.length w.c_s2_2 c.s2.First::ownS (rI .i64) w.a_out5 c.out5.length w.c_out5 c.out5::A)
def I2 (ρ:Ids) (c:V) (w:W) (A:List At) (h:Hp):Prop:=
  Inv h (blk w.p_s2 (ρ.T 12) [.one (.int .i64 c.s2.P), .one (.slice w.a_s2_1 c.s2.Level.length w.c_s2_1), .one (.slice w.a_s2_2 c.s2.First.length w.c_s2_2)]::roS (rI .i64) w.a_s2_1 c.s2.Level.length w.c_s2_1 c.s2.Level::roS (rI .i64) w.a_s2_2 c.s2.First.length w.c_s2_2 c.s2.First::ownS (rI .i64) w.a_out5 c.out5.length w.c_out5 c.out5::A)
abbrev Y2:=Int→Addr→Sl→Int→Hp→Prop
abbrev T2 (S:Y2) (c:V) (w:W) (h:Hp):Prop:=S c.item1 w.p_s2 ⟨w.a_out5,c.out5.length,w.c_out5⟩ c.k6 h
def k2t (ρ:Ids) (A:List At) (S':V→Prop) (S:Y2):Prop:= ∀ (c:V) (w:W) (h:Hp),I2 ρ c w A h→S' c→T2 S c w h
def I3 (ρ:Ids) (c:V) (w:W) (A:List At) (h:Hp):Prop:=
  Inv h (blk w.p_s2 (ρ.T 12) [.one (.int .i64 c.s2.P), .one (.slice w.a_s2_1 c.s2.Level.length w.c_s2_1), .one (.slice w.a_s2_2 c.s2.First.length w.c_s2_2)]::roS (rI .i64) w.a_s2_1 c.s2.Level.length w.c_s2_1 c.s2.Level::roS (rI .i64) w.a_s2_2 c.s2.First.length w.c_s2_2 c.s2.First::ownS (rI .i64) w.a_out5 c.out5.length w.c_out5 c.out5::A)
variable {c:V} {w:W} {Q':QT} {Q:RT} {S2':V→Prop} {S2:Y2}
def K3 (S2:V→Prop) (Q:QT) (c:V):Prop:=
  br c.v45
  ((Bnd (c.out5.length+([c.k6]).length))∧
  S2 {c with out5:=(c.out5++[c.k6]),k6:=(IntKind.wrap .i64 (c.k6+(1:Int)))})
  (Q c.out5)
theorem K3_r (I:I3 ρ c w A h) (H:K3 S2' Q' c) (kS2:k2t ρ A S2' S2) (k:kt ρ A Q' Q):Tx.carlingref12_Shape_Kids_K3 ρ S2 Q c.item1 w.p_s2 ⟨w.a_out5,c.out5.length,w.c_out5⟩ c.k6 c.v45 h:=by
  unfold I3 at I
  unfold Tx.carlingref12_Shape_Kids_K3
  unfold K3 at H
  refine br_r H (fun hb H=> ?_) (fun hb H=> ?_)
  · refine al_r [.one (.int .i64 c.k6)] rfl I fun p_59 h I => ?_
    replace I:=I.litN (rI .i64)
    replace I:=I.repI (k:= .i64) c.k6
    replace I:=I.pull1.pull1
    replace I:=I.litC
    replace I:=I.pull1.pull1
    replace I:=Inv.litL (l:=[c.k6]) I rfl rfl
    refine ap_r rd_own I.pull4 rfl (by decide) (by decide) H.1 fun a_64 c_65 h I=> ?_
    replace H:=H.2
    replace I:=I.pull1.drop1
    replace I:=I.pull2.dupR
    replace I:=I.pull4.dupR
    replace I:=I.pull1.drop1
    replace I:=I.pull2.drop1
    replace I:=I.pull2.pull1.pull2.pull3
    exact kS2 {c with out5:=(c.out5++[c.k6]),k6:=(IntKind.wrap .i64 (c.k6+(1:Int)))} {w with a_out5:=a_64,c_out5:=c_65} _ I H
  · replace I := I.drop1
    replace I:=I.drop1
    replace I:=I.drop1
    exact k c.out5 w.a_out5 w.c_out5 _ I H
def B2 (S2:V→Prop) (Q:QT) (c:V):Prop:=
  br (decide ((c.out5.length:Int)<(6:Int)))
  (br (decide (c.k6<c.item1))
  (ixP c.s2.Level c.k6 fun x_37=>
  ixP c.s2.Level c.item1 fun x_43=>
  K3 S2 Q {c with v45:=(x_37==(IntKind.wrap .i64 (x_43 - (1:Int))))})
  (K3 S2 Q {c with v45:=false}))
  (K3 S2 Q {c with v45:=false})
def L2 (Q:QT) (c:V):Prop:=Lf (fun S=>B2 S Q) c
theorem L2_in {Q:QT} {c:V} (H:B2 (L2 Q) Q c):L2 Q c:=Lf.fold H
theorem B2_r (I:I2 ρ c w A h) (H:B2 S2' Q' c) (kS2:k2t ρ A S2' S2) (k:kt ρ A Q' Q):T2 (Tx.carlingref12_Shape_Kids_B2 ρ S2 Q) c w h:=by
  unfold I2 at I
  unfold T2 Tx.carlingref12_Shape_Kids_B2
  unfold B2 at H
  refine br_r H (fun hb H=> ?_) (fun hb H=> ?_)
  · refine br_r H (fun hb H => ?_) (fun hb H => ?_)
    · refine ldS_r (I.cell 1 1 rfl) ?_
      refine ixI_a rd_ro I.pull1 (ixP_keep H) fun p_38 x_37 he_39 hb_40 hc_41 H=> ?_
      obtain ⟨hg_42,H⟩:=H
      refine ldI_r hc_41 ?_
      refine ldS_r (I.cell 1 1 rfl) ?_
      refine ixI_a rd_ro I.pull1 (ixP_keep H) fun p_44 x_43 he_45 hb_46 hc_47 H=> ?_
      obtain ⟨hg_48,H⟩:=H
      refine ldI_r hc_47 ?_
      replace I:=I.pull1.dupR
      replace I:=I.pull3.dupR
      replace I:=I.pull1.drop1
      replace I:=I.pull2.drop1
      replace I:=I.pull3.pull1.pull2.pull3
      exact K3_r (c:= {c with v45:=(x_37==(IntKind.wrap .i64 (x_43 - (1:Int))))}) (w:=w) I H kS2 k
    · replace I := I.pull1.dupR
      replace I:=I.pull3.dupR
      replace I:=I.pull1.drop1
      replace I:=I.pull2.drop1
      replace I:=I.pull3.pull1.pull2.pull3
      exact K3_r (c:= {c with v45:=false}) (w:=w) I H kS2 k
  · replace I := I.pull1.dupR
    replace I:=I.pull3.dupR
    replace I:=I.pull1.drop1
    replace I:=I.pull2.drop1
    replace I:=I.pull3.pull1.pull2.pull3
    exact K3_r (c:= {c with v45:=false}) (w:=w) I H kS2 k
theorem L2_r (I:I2 ρ c w A h) (H:L2 Q' c) (k:kt ρ A Q' Q):T2 (Tx.carlingref12_Shape_Kids_L2 ρ Q) c w h:=by
  refine Lf.ind H (fun v=> ∀ (w:W) (h:Hp),I2 ρ v w A h→T2 (Tx.carlingref12_Shape_Kids_L2 ρ Q) v w h) ?_ w h I
  rintro c S hS HB w h I
  refine Tx.carlingref12_Shape_Kids_L2_in _ _ _ _ _ _ _ ?_
  try simp only [nrm_v]
  exact B2_r (c:=c) (w:=w) I HB (fun c w h I H=>hS _ H w h I) k
def K1 (Q:QT) (c:V):Prop:=
  br c.v18
  (Q ([]:List Int))
  (ixP c.s2.First c.item1 fun x_25=>
  L2 Q {c with k6:=x_25})
theorem K1_r (I:I1 ρ c w A h) (H:K1 Q' c) (k:kt ρ A Q' Q):Tx.carlingref12_Shape_Kids_K1 ρ Q c.item1 w.p_s2 ⟨w.a_out5,c.out5.length,w.c_out5⟩ c.v18 h:=by
  unfold I1 at I
  unfold Tx.carlingref12_Shape_Kids_K1
  unfold K1 at H
  refine br_r H (fun hb H=> ?_) (fun hb H=> ?_)
  · replace I := I.nilO (rI .i64)
    replace I:=I.pull1.drop1
    replace I:=I.pull1.drop1
    replace I:=I.pull1.drop1
    replace I:=I.pull1.drop1
    exact k ([]:List Int) none 0 _ I H
  · refine ldS_r (I.cell 2 2 rfl) ?_
    refine ixI_a rd_ro I.pull2 (ixP_keep H) fun p_26 x_25 he_27 hb_28 hc_29 H=> ?_
    obtain ⟨hg_30,H⟩:=H
    refine ldI_r hc_29 ?_
    replace I:=I.pull1.dupR
    replace I:=I.pull3.dupR
    replace I:=I.pull1.drop1
    replace I:=I.pull2.drop1
    replace I:=I.pull3.pull1.pull2.pull3
    exact L2_r (c:= {c with k6:=x_25}) (w:=w) I H k
end carlingref12_Shape_Kids
def carlingref12_Shape_Kids (s0:carlingref12_Shape) (item1:Int) (Q:carlingref12_Shape_Kids.QT):Prop:=
  carlingref12_Shape_has s0 item1 fun r_7=>
  br (!r_7)
  (carlingref12_Shape_Kids.K1 Q {carlingref12_Shape_Kids.v0 with item1:=item1,s2:=s0,out5:=([]:List Int),v18:=true})
  (ixP s0.First item1 fun x_11=>
  carlingref12_Shape_Kids.K1 Q {carlingref12_Shape_Kids.v0 with item1:=item1,s2:=s0,out5:=([]:List Int),v18:=(decide (x_11<(0:Int)))})
theorem carlingref12_Shape_Kids_r {s0:carlingref12_Shape} {item1:Int} {a_s0_1:Option Addr} {c_s0_1:Nat} {n_s0_1:Nat} {a_s0_2:Option Addr} {c_s0_2:Nat} {n_s0_2:Nat} {Q':carlingref12_Shape_Kids.QT} {Q:carlingref12_Shape_Kids.RT} (I:Inv h (roS (rI .i64) a_s0_1 n_s0_1 c_s0_1 s0.Level::roS (rI .i64) a_s0_2 n_s0_2 c_s0_2 s0.First::A)) (H:carlingref12_Shape_Kids s0 item1 Q')
    (k:carlingref12_Shape_Kids.kt ρ A Q' Q):Tx.carlingref12_Shape_Kids ρ s0.P ⟨a_s0_1,n_s0_1,c_s0_1⟩ ⟨a_s0_2,n_s0_2,c_s0_2⟩ item1 h Q:=by
  obtain rfl:=ro_len I
  obtain rfl:=ro_len I.pull1
  unfold Tx.carlingref12_Shape_Kids
  unfold carlingref12_Shape_Kids at H
  refine al_r [.one (.int .i64 s0.P), .one (.slice a_s0_1 s0.Level.length c_s0_1), .one (.slice a_s0_2 s0.First.length c_s0_2)] rfl I fun p_3 h I=> ?_
  refine ldI_r (I.cell 0 0 rfl) ?_
  refine ldS_r (I.cell 1 1 rfl) ?_
  refine ldS_r (I.cell 2 2 rfl) ?_
  replace I:=I.pull1.dupR
  replace I:=I.pull3.dupR
  replace I:=I.pull2
  try simp only [nrm_v]
  refine carlingref12_Shape_has_r (s0:=s0) (item1:=item1) I H fun r_7 h I H=> ?_
  refine br_r H (fun hb H=> ?_) (fun hb H=> ?_)
  · replace I := I.pull1.dupR
    replace I:=I.pull2.dupR
    replace I:=I.nilO (rI .i64)
    replace I:=I.pull2.drop1
    replace I:=I.pull3.drop1
    replace I:=I.pull1.pull2.pull3
    exact carlingref12_Shape_Kids.K1_r (c:= {carlingref12_Shape_Kids.v0 with item1:=item1,s2:=s0,out5:=([]:List Int),v18:=true}) (w:= {carlingref12_Shape_Kids.w0 with p_s2:=p_3,a_s2_1:=a_s0_1,c_s2_1:=c_s0_1,a_s2_2:=a_s0_2,c_s2_2:=c_s0_2,a_out5:=none,c_out5:=0}) I H k
  · refine ldS_r (I.pull2.cell 2 2 rfl) ?_
    refine ixI_a rd_ro I (ixP_keep H) fun p_12 x_11 he_13 hb_14 hc_15 H=> ?_
    obtain ⟨hg_16,H⟩:=H
    refine ldI_r hc_15 ?_
    replace I:=I.pull1.dupR
    replace I:=I.pull2.dupR
    replace I:=I.nilO (rI .i64)
    replace I:=I.pull2.drop1
    replace I:=I.pull3.drop1
    replace I:=I.pull1.pull2.pull3
    exact carlingref12_Shape_Kids.K1_r (c:= {carlingref12_Shape_Kids.v0 with item1:=item1,s2:=s0,out5:=([]:List Int),v18:=(decide (x_11<(0:Int)))}) (w:= {carlingref12_Shape_Kids.w0 with p_s2:=p_3,a_s2_1:=a_s0_1,c_s2_1:=c_s0_1,a_s2_2:=a_s0_2,c_s2_2:=c_s0_2,a_out5:=none,c_out5:=0}) I H k
end Go.Pt
