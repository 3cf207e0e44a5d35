import Derived.Test.YtpjehkdneiclnaaCnPtB
set_option linter.unusedVariables false
set_option linter.unusedSimpArgs false
set_option maxRecDepth 20000
namespace Go.Pt
open Go Go.Wc Go.Pu
variable {ρ:Ids} {h:Hp} {A:List At}
namespace carlingref12_Shape_Parent
structure V where
  item1:Int
  s2:carlingref12_Shape
  p7:Int
  l8:List Int
  i9:Int
structure W where
  p_s2:Addr
  a_s2_1:Option Addr
  c_s2_1:Nat
  a_s2_2:Option Addr
  c_s2_2:Nat
  a_l8:Option Addr
  c_l8:Nat
def v0:V:=⟨0,(⟨(0:Int),[],[]⟩:carlingref12_Shape),0,[],0⟩
def w0:W:=⟨⟨0,0,none⟩,none,0,none,0,none,0⟩
abbrev QT:=Int→Int→Bool→Prop
abbrev RT:=Int→Int→Bool→Hp→Prop
def kt (ρ:Ids) (A:List At) (Q':QT) (Q:RT):Prop:=
  ∀ (r0:Int) (r1:Int) (r2:Bool) (h':Hp),Inv h' (A)→Q' r0 r1 r2→Q r0 r1 r2 h'
def I1 (ρ:Ids) (c:V) (w:W) (A:List At) (h:Hp):Prop:=
  Inv h (blk w.p_s2 (ρ.T 12) [.one (.int .i64 c.s2.P), .one (.slice w.a_s2_1 c.s2.Level.length w.c_s2_1), .one (.slice w.a_s2_2 c.s2.First.length w.c_s2_2)]::roS (rI .i64) w.a_s2_1 c.s2.Level.length w.c_s2_1 c.s2.Level::roS (rI .i64) w.a_s2_2 c.s2.First.length w.c_s2_2 c.s2.First::A)
abbrev Y1:=Int→Addr→Int→Hp→Prop
abbrev T1 (S:Y1) (c:V) (w:W) (h:Hp):Prop:=S c.item1 w.p_s2 c.p7 h
def k1t (ρ:Ids) (A:List At) (S':V→Prop) (S:Y1):Prop:= ∀ (c:V) (w:W) (h:Hp),I1 ρ c w A h→S' c→T1 S c w h
def I2 (ρ:Ids) (c:V) (w:W) (A:List At) (h:Hp):Prop:=
  Inv h (blk w.p_s2 (ρ.T 12) [.one (.int .i64 c.s2.P), .one (.slice w.a_s2_1 c.s2.Level.length w.c_s2_1), .one (.slice w.a_s2_2 c.s2.First.length w.c_s2_2)]::roS (rI .i64) w.a_s2_1 c.s2.Level.length w.c_s2_1 c.s2.Level::roS (rI .i64) w.a_s2_2 c.s2.First.length w.c_s2_2 c.s2.First::ownS (rI .i64) w.a_l8 c.l8.length w.c_l8 c.l8::A)
abbrev Y2:=Int→Addr→Int→Sl→Int→Hp→Prop
abbrev T2 (S:Y2) (c:V) (w:W) (h:Hp):Prop:=S c.item1 w.p_s2 c.p7 ⟨w.a_l8,c.l8.length,w.c_l8⟩ c.i9 h
def k2t (ρ:Ids) (A:List At) (S':V→Prop) (S:Y2):Prop:= ∀ (c:V) (w:W) (h:Hp),I2 ρ c w A h→S' c→T2 S c w h
variable {c:V} {w:W} {Q':QT} {Q:RT} {S1' S2':V→Prop} {S1:Y1} {S2:Y2}
def B2 (S1:V→Prop) (S2:V→Prop) (Q:QT) (c:V):Prop:=
  br (decide (c.i9<(c.l8.length:Int)))
  (ixP c.l8 c.i9 fun x_22=>
  br (x_22==c.item1)
  (Q c.p7 c.i9 true)
  (S2 {c with i9:=(IntKind.wrap .i64 (c.i9+(1:Int)))}))
  (S1 {c with p7:=(IntKind.wrap .i64 (c.p7+(1:Int)))})
def L2 (S1:V→Prop) (Q:QT) (c:V):Prop:=Lf (fun S=>B2 S1 S Q) c
theorem L2_in (S1:V→Prop) {Q:QT} {c:V} (H:B2 S1 (L2 S1 Q) Q c):L2 S1 Q c:=Lf.fold H
theorem B2_r (I:I2 ρ c w A h) (H:B2 S1' S2' Q' c) (kS1:k1t ρ A S1' S1) (kS2:k2t ρ A S2' S2) (k:kt ρ A Q' Q):T2 (Tx.carlingref12_Shape_Parent_B2 ρ S1 S2 Q) c w h:=by
  unfold I2 at I
  unfold T2 Tx.carlingref12_Shape_Parent_B2
  unfold B2 at H
  refine br_r H (fun hb H=> ?_) (fun hb H=> ?_)
  · refine ixI_a rd_own I.pull3 (ixP_keep H) fun p_23 x_22 he_24 hb_25 hc_26 H => ?_
    obtain ⟨hg_27,H⟩:=H
    refine ldI_r hc_26 ?_
    refine br_r H (fun hb H=> ?_) (fun hb H=> ?_)
    · replace I := I.drop1
      replace I:=I.drop1
      replace I:=I.drop1
      replace I:=I.drop1
      exact k c.p7 c.i9 true _ I H
    · replace I := I.pull1.dupR
      replace I:=I.pull3.dupR
      replace I:=I.pull1.drop1
      replace I:=I.pull2.drop1
      replace I:=I.pull3.pull1.pull2.pull3
      exact kS2 {c with i9:=(IntKind.wrap .i64 (c.i9+(1:Int)))} w _ I H
  · replace I := I.pull1.dupR
    replace I:=I.pull3.dupR
    replace I:=I.pull1.drop1
    replace I:=I.pull2.drop1
    replace I:=I.pull3.drop1
    replace I:=I.pull1.pull2
    exact kS1 {c with p7:=(IntKind.wrap .i64 (c.p7+(1:Int)))} w _ I H
theorem L2_r (I:I2 ρ c w A h) (H:L2 S1' Q' c) (kS1:k1t ρ A S1' S1) (k:kt ρ A Q' Q):T2 (Tx.carlingref12_Shape_Parent_L2 ρ S1 Q) c w h:=by
  refine Lf.ind H (fun v=> ∀ (w:W) (h:Hp),I2 ρ v w A h→T2 (Tx.carlingref12_Shape_Parent_L2 ρ S1 Q) v w h) ?_ w h I
  rintro c S hS HB w h I
  refine Tx.carlingref12_Shape_Parent_L2_in _ _ _ _ _ _ _ _ _ ?_
  try simp only [nrm_v]
  exact B2_r (c:=c) (w:=w) I HB kS1 (fun c w h I H=>hS _ H w h I) k
def B1 (S1:V→Prop) (Q:QT) (c:V):Prop:=
  br (decide (c.p7<(c.s2.Level.length:Int)))
  (carlingref12_Shape_Kids c.s2 c.p7 fun r_12=>
  L2 S1 Q {c with l8:=r_12,i9:=(0:Int)})
  (Q (0:Int) (0:Int) false)
def L1 (Q:QT) (c:V):Prop:=Lf (fun S=>B1 S Q) c
theorem L1_in {Q:QT} {c:V} (H:B1 (L1 Q) Q c):L1 Q c:=Lf.fold H
theorem B1_r (I:I1 ρ c w A h) (H:B1 S1' Q' c) (kS1:k1t ρ A S1' S1) (k:kt ρ A Q' Q):T1 (Tx.carlingref12_Shape_Parent_B1 ρ S1 Q) c w h:=by
  unfold I1 at I
  unfold T1 Tx.carlingref12_Shape_Parent_B1
  unfold B1 at H
  refine ldS_r (I.cell 1 1 rfl) ?_
  refine br_r H (fun hb H=> ?_) (fun hb H=> ?_)
  · refine ldI_r (I.cell 0 0 rfl) ?_
    refine ldS_r (I.cell 1 1 rfl) ?_
    refine ldS_r (I.cell 2 2 rfl) ?_
    replace I:=I.pull1.dupR
    replace I:=I.pull3.dupR
    replace I:=I.pull2
    try simp only [nrm_v]
    refine carlingref12_Shape_Kids_r (s0:=c.s2) (item1:=c.p7) I H fun r_12 a_13 c_14 h I H=> ?_
    replace I:=I.pull2.dupR
    replace I:=I.pull3.dupR
    replace I:=I.pull1.drop1
    replace I:=I.pull2.drop1
    replace I:=I.pull2.pull1.pull2.pull3
    exact L2_r (c:= {c with l8:=r_12,i9:=(0:Int)}) (w:= {w with a_l8:=a_13,c_l8:=c_14}) I H kS1 k
  · replace I := I.drop1
    replace I:=I.drop1
    replace I:=I.drop1
    exact k (0:Int) (0:Int) false _ I H
theorem L1_r (I:I1 ρ c w A h) (H:L1 Q' c) (k:kt ρ A Q' Q):T1 (Tx.carlingref12_Shape_Parent_L1 ρ Q) c w h:=by
  refine Lf.ind H (fun v=> ∀ (w:W) (h:Hp),I1 ρ v w A h→T1 (Tx.carlingref12_Shape_Parent_L1 ρ Q) v w h) ?_ w h I
  rintro c S hS HB w h I
  refine Tx.carlingref12_Shape_Parent_L1_in _ _ _ _ _ _ ?_
  try simp only [nrm_v]
  exact B1_r (c:=c) (w:=w) I HB (fun c w h I H=>hS _ H w h I) k
end carlingref12_Shape_Parent
def carlingref12_Shape_Parent (s0:carlingref12_Shape) (item1:Int) (Q:carlingref12_Shape_Parent.QT):Prop:=
  carlingref12_Shape_Parent.L1 Q {carlingref12_Shape_Parent.v0 with item1:=item1,s2:=s0,p7:=(0:Int)}
theorem carlingref12_Shape_Parent_r {s0:carlingref12_Shape} {item1:Int} {a_s0_1:Option Addr} {c_s0_1:Nat} {n_s0_1:Nat} {a_s0_2:Option Addr} {c_s0_2:Nat} {n_s0_2:Nat} {Q':carlingref12_Shape_Parent.QT} {Q:carlingref12_Shape_Parent.RT} (I:Inv h (roS (rI .i64) a_s0_1 n_s0_1 c_s0_1 s0.Level::roS (rI .i64) a_s0_2 n_s0_2 c_s0_2 s0.First::A)) (H:carlingref12_Shape_Parent s0 item1 Q')
    (k:carlingref12_Shape_Parent.kt ρ A Q' Q):Tx.carlingref12_Shape_Parent ρ s0.P ⟨a_s0_1,n_s0_1,c_s0_1⟩ ⟨a_s0_2,n_s0_2,c_s0_2⟩ item1 h Q:=by
  obtain rfl:=ro_len I
  obtain rfl:=ro_len I.pull1
  unfold Tx.carlingref12_Shape_Parent
  unfold carlingref12_Shape_Parent at H
  refine al_r [.one (.int .i64 s0.P), .one (.slice a_s0_1 s0.Level.length c_s0_1), .one (.slice a_s0_2 s0.First.length c_s0_2)] rfl I fun p_3 h I=> ?_
  replace I:=I.pull1.dupR
  replace I:=I.pull3.dupR
  replace I:=I.pull1.drop1
  replace I:=I.pull2.drop1
  replace I:=I.pull1.pull2
  exact carlingref12_Shape_Parent.L1_r (c:= {carlingref12_Shape_Parent.v0 with item1:=item1,s2:=s0,p7:=(0:Int)}) (w:= {carlingref12_Shape_Parent.w0 with p_s2:=p_3,a_s2_1:=a_s0_1,c_s2_1:=c_s0_1,a_s2_2:=a_s0_2,c_s2_2:=c_s0_2}) I H k
namespace carlingref12_Shape_Path
structure V where
  page1:Int
  s2:carlingref12_Shape
  v17:Bool
  out5:List Int
  n6:Int
structure W where
  p_s2:Addr
  a_s2_1:Option Addr
  c_s2_1:Nat
  a_s2_2:Option Addr
  c_s2_2:Nat
  a_out5:Option Addr
  c_out5:Nat
def v0:V:=⟨0,(⟨(0:Int),[],[]⟩:carlingref12_Shape),false,[],0⟩
def w0:W:=⟨⟨0,0,none⟩,none,0,none,0,none,0⟩
abbrev QT:=(List Int)→Prop
abbrev RT:=Sl→Hp→Prop
def kt (ρ:Ids) (A:List At) (Q':QT) (Q:RT):Prop:=
  ∀ (r0:List Int) (ra0:Option Addr) (rc0:Nat) (h':Hp),Inv h' (ownS (rI .i64) ra0 r0.length rc0 r0::A)→Q' r0→Q ⟨ra0,r0.length,rc0⟩ h'
def I1 (ρ:Ids) (c:V) (w:W) (A:List At) (h:Hp):Prop:=
  Inv h (blk w.p_s2 (ρ.T 12) [.one (.int .i64 c.s2.P), .one (.slice w.a_s2_1 c.s2.Level.length w.c_s2_1), .one (.slice w.a_s2_2 c.s2.First.length w.c_s2_2)]::roS (rI .i64) w.a_s2_1 c.s2.Level.length w.c_s2_1 c.s2.Level::roS (rI .i64) w.a_s2_2 c.s2.First.length w.c_s2_2 c.s2.First::A)
def I2 (ρ:Ids) (c:V) (w:W) (A:List At) (h:Hp):Prop:=
  Inv h (blk w.p_s2 (ρ.T 12) [.one (.int .i64 c.s2.P), .one (.slice w.a_s2_1 c.s2.Level.length w.c_s2_1), .one (.slice w.a_s2_2 c.s2.First.length w.c_s2_2)]::roS (rI .i64) w.a_s2_1 c.s2.Level.length w.c_s2_1 c.s2.Level::roS (rI .i64) w.a_s2_2 c.s2.First.length w.c_s2_2 c.s2.First::ownS (rI .i64) w.a_out5 c.out5.length w.c_out5 c.out5::A)
abbrev Y2:=Addr→Sl→Int→Hp→Prop
abbrev T2 (S:Y2) (c:V) (w:W) (h:Hp):Prop:=S w.p_s2 ⟨w.a_out5,c.out5.length,w.c_out5⟩ c.n6 h
def k2t (ρ:Ids) (A:List At) (S':V→Prop) (S:Y2):Prop:= ∀ (c:V) (w:W) (h:Hp),I2 ρ c w A h→S' c→T2 S c w h
variable {c:V} {w:W} {Q':QT} {Q:RT} {S2':V→Prop} {S2:Y2}
def B2 (S2:V→Prop) (Q:QT) (c:V):Prop:=
  br (decide (c.n6<(10:Int)))
  (ixP c.out5 (IntKind.wrap .i64 ((c.out5.length:Int) - (1:Int))) fun x_24=>
  carlingref12_Shape_Parent c.s2 x_24 fun r_32 r_33 r_34=>
  br (!r_34)
  (Q c.out5)
  ((Bnd (c.out5.length+([r_32]).length))∧
  S2 {c with out5:=(c.out5++[r_32]),n6:=(IntKind.wrap .i64 (c.n6+(1:Int)))}))
  (Q c.out5)
def L2 (Q:QT) (c:V):Prop:=Lf (fun S=>B2 S Q) c
theorem L2_in {Q:QT} {c:V} (H:B2 (L2 Q) Q c):L2 Q c:=Lf.fold H
theorem B2_r (I:I2 ρ c w A h) (H:B2 S2' Q' c) (kS2:k2t ρ A S2' S2) (k:kt ρ A Q' Q):T2 (Tx.carlingref12_Shape_Path_B2 ρ S2 Q) c w h:=by
  unfold I2 at I
  unfold T2 Tx.carlingref12_Shape_Path_B2
  unfold B2 at H
  refine br_r H (fun hb H=> ?_) (fun hb H=> ?_)
  · refine ldI_r (I.cell 0 0 rfl) ?_
    refine ldS_r (I.cell 1 1 rfl) ?_
    refine ldS_r (I.cell 2 2 rfl) ?_
    refine ixI_a rd_own I.pull3 (ixP_keep H) fun p_25 x_24 he_26 hb_27 hc_28 H=> ?_
    obtain ⟨hg_29,H⟩:=H
    refine ldI_r hc_28 ?_
    replace I:=I.pull1.dupR
    replace I:=I.pull3.dupR
    replace I:=I.pull2
    try simp only [nrm_v]
    refine carlingref12_Shape_Parent_r (s0:=c.s2) (item1:=x_24) I H fun r_32 r_33 r_34 h I H=> ?_
    refine br_r H (fun hb H=> ?_) (fun hb H=> ?_)
    · replace I := I.drop1
      replace I:=I.drop1
      replace I:=I.drop1
      exact k c.out5 w.a_out5 w.c_out5 _ I H
    · refine al_r [.one (.int .i64 r_32)] rfl I fun p_35 h I => ?_
      replace I:=I.litN (rI .i64)
      replace I:=I.repI (k:= .i64) r_32
      replace I:=I.pull1.pull1
      replace I:=I.litC
      replace I:=I.pull1.pull1
      replace I:=Inv.litL (l:=[r_32]) I rfl rfl
      refine ap_r rd_own I.pull4 rfl (by decide) (by decide) H.1 fun a_40 c_41 h I=> ?_
      replace H:=H.2
      replace I:=I.pull1.drop1
      replace I:=I.pull2.dupR
      replace I:=I.pull3.dupR
      replace I:=I.pull1.drop1
      replace I:=I.pull2.drop1
      replace I:=I.pull2.pull1.pull2.pull3
      exact kS2 {c with out5:=(c.out5++[r_32]),n6:=(IntKind.wrap .i64 (c.n6+(1:Int)))} {w with a_out5:=a_40,c_out5:=c_41} _ I H
  · replace I := I.drop1
    replace I:=I.drop1
    replace I:=I.drop1
    exact k c.out5 w.a_out5 w.c_out5 _ I H
theorem L2_r (I:I2 ρ c w A h) (H:L2 Q' c) (k:kt ρ A Q' Q):T2 (Tx.carlingref12_Shape_Path_L2 ρ Q) c w h:=by
  refine Lf.ind H (fun v=> ∀ (w:W) (h:Hp),I2 ρ v w A h→T2 (Tx.carlingref12_Shape_Path_L2 ρ Q) v w h) ?_ w h I
  rintro c S hS HB w h I
  refine Tx.carlingref12_Shape_Path_L2_in _ _ _ _ _ _ ?_
  try simp only [nrm_v]
  exact B2_r (c:=c) (w:=w) I HB (fun c w h I H=>hS _ H w h I) k
def K1 (Q:QT) (c:V):Prop:=
  br c.v17
  (Q ([]:List Int))
  (L2 Q {c with out5:=[c.page1],n6:=(0:Int)})
theorem K1_r (I:I1 ρ c w A h) (H:K1 Q' c) (k:kt ρ A Q' Q):Tx.carlingref12_Shape_Path_K1 ρ Q c.page1 w.p_s2 c.v17 h:=by
  unfold I1 at I
  unfold Tx.carlingref12_Shape_Path_K1
  unfold K1 at H
  refine br_r H (fun hb H=> ?_) (fun hb H=> ?_)
  · replace I := I.nilO (rI .i64)
    replace I:=I.pull1.drop1
    replace I:=I.pull1.drop1
    replace I:=I.pull1.drop1
    exact k ([]:List Int) none 0 _ I H
  · refine al_r [.one (.int .i64 c.page1)] rfl I fun p_13 h I => ?_
    replace I:=I.litN (rI .i64)
    replace I:=I.repI (k:= .i64) c.page1
    replace I:=I.pull1.pull1
    replace I:=I.litC
    replace I:=I.pull1.pull1
    replace I:=Inv.litL (l:=[c.page1]) I rfl rfl
    replace I:=I.pull2.dupR
    replace I:=I.pull4.dupR
    replace I:=I.pull1.drop1
    replace I:=I.pull2.drop1
    replace I:=I.pull2.pull1.pull2.pull3
    exact L2_r (c:= {c with out5:=[c.page1],n6:=(0:Int)}) (w:= {w with a_out5:=(some p_13),c_out5:=1}) I H k
end carlingref12_Shape_Path
def carlingref12_Shape_Path (s0:carlingref12_Shape) (page1:Int) (Q:carlingref12_Shape_Path.QT):Prop:=
  br (decide (page1<(0:Int)))
  (carlingref12_Shape_Path.K1 Q {carlingref12_Shape_Path.v0 with page1:=page1,s2:=s0,v17:=true})
  (carlingref12_Shape_Path.K1 Q {carlingref12_Shape_Path.v0 with page1:=page1,s2:=s0,v17:=(decide (page1≥s0.P))})
theorem carlingref12_Shape_Path_r {s0:carlingref12_Shape} {page1:Int} {a_s0_1:Option Addr} {c_s0_1:Nat} {n_s0_1:Nat} {a_s0_2:Option Addr} {c_s0_2:Nat} {n_s0_2:Nat} {Q':carlingref12_Shape_Path.QT} {Q:carlingref12_Shape_Path.RT} (I:Inv h (roS (rI .i64) a_s0_1 n_s0_1 c_s0_1 s0.Level::roS (rI .i64) a_s0_2 n_s0_2 c_s0_2 s0.First::A)) (H:carlingref12_Shape_Path s0 page1 Q')
    (k:carlingref12_Shape_Path.kt ρ A Q' Q):Tx.carlingref12_Shape_Path ρ s0.P ⟨a_s0_1,n_s0_1,c_s0_1⟩ ⟨a_s0_2,n_s0_2,c_s0_2⟩ page1 h Q:=by
  obtain rfl:=ro_len I
  obtain rfl:=ro_len I.pull1
  unfold Tx.carlingref12_Shape_Path
  unfold carlingref12_Shape_Path at H
  refine al_r [.one (.int .i64 s0.P), .one (.slice a_s0_1 s0.Level.length c_s0_1), .one (.slice a_s0_2 s0.First.length c_s0_2)] rfl I fun p_3 h I=> ?_
  refine br_r H (fun hb H=> ?_) (fun hb H=> ?_)
  · replace I := I.pull1.dupR
    replace I:=I.pull3.dupR
    replace I:=I.pull1.drop1
    replace I:=I.pull2.drop1
    replace I:=I.pull1.pull2
    exact carlingref12_Shape_Path.K1_r (c:= {carlingref12_Shape_Path.v0 with page1:=page1,s2:=s0,v17:=true}) (w:= {carlingref12_Shape_Path.w0 with p_s2:=p_3,a_s2_1:=a_s0_1,c_s2_1:=c_s0_1,a_s2_2:=a_s0_2,c_s2_2:=c_s0_2}) I H k
  · refine ldI_r (I.cell 0 0 rfl) ?_
    replace I:=I.pull1.dupR
    replace I:=I.pull3.dupR
    replace I:=I.pull1.drop1
    replace I:=I.pull2.drop1
    replace I:=I.pull1.pull2
    exact carlingref12_Shape_Path.K1_r (c:= {carlingref12_Shape_Path.v0 with page1:=page1,s2:=s0,v17:=(decide (page1≥s0.P))}) (w:= {carlingref12_Shape_Path.w0 with p_s2:=p_3,a_s2_1:=a_s0_1,c_s2_1:=c_s0_1,a_s2_2:=a_s0_2,c_s2_2:=c_s0_2}) I H k
namespace carlingref16_Need
structure V where
  pages1:List Int
  s2:carlingref12_Shape
  out5:List Int
  item6:Int
  i7:Int
structure W where
  a_pages1:Option Addr
  c_pages1:Nat
  p_s2:Addr
  a_s2_1:Option Addr
  c_s2_1:Nat
  a_s2_2:Option Addr
  c_s2_2:Nat
  a_out5:Option Addr
  c_out5:Nat
def v0:V:=⟨[],(⟨(0:Int),[],[]⟩:carlingref12_Shape),[],0,0⟩
def w0:W:=⟨none,0,⟨0,0,none⟩,none,0,none,0,none,0⟩
abbrev QT:=(List Int)→Prop
abbrev RT:=Sl→Hp→Prop
def kt (ρ:Ids) (X_pages1:At) (A:List At) (Q':QT) (Q:RT):Prop:=
  ∀ (r0:List Int) (ra0:Option Addr) (rc0:Nat) (h':Hp),Inv h' (ownS (rI .i64) ra0 r0.length rc0 r0::X_pages1::A)→Q' r0→Q ⟨ra0,r0.length,rc0⟩ h'
def I1 (ρ:Ids) (X_pages1:At) (c:V) (w:W) (A:List At) (h:Hp):Prop:=
  Rd (rI .i64) X_pages1 w.a_pages1 c.pages1.length w.c_pages1 c.pages1∧Inv h (X_pages1::blk w.p_s2 (ρ.T 12) [.one (.int .i64 c.s2.P), .one (.slice w.a_s2_1 c.s2.Level.length w.c_s2_1), .one (.slice w.a_s2_2 c.s2.First.length w.c_s2_2)]::roS (rI .i64) w.a_s2_1 c.s2.Level.length w.c_s2_1 c.s2.Level::roS (rI .i64) w.a_s2_2 c.s2.First.length w.c_s2_2 c.s2.First::ownS (rI .i64) w.a_out5 c.out5.length w.c_out5 c.out5::A)
abbrev Y1:=Sl→Addr→Sl→Int→Hp→Prop
abbrev T1 (X_pages1:At) (S:Y1) (c:V) (w:W) (h:Hp):Prop:=S ⟨w.a_pages1,c.pages1.length,w.c_pages1⟩ w.p_s2 ⟨w.a_out5,c.out5.length,w.c_out5⟩ c.item6 h
def k1t (ρ:Ids) (X_pages1:At) (A:List At) (S':V→Prop) (S:Y1):Prop:= ∀ (c:V) (w:W) (h:Hp),I1 ρ X_pages1 c w A h→S' c→T1 X_pages1 S c w h
def I2 (ρ:Ids) (X_pages1:At) (c:V) (w:W) (A:List At) (h:Hp):Prop:=
  Rd (rI .i64) X_pages1 w.a_pages1 c.pages1.length w.c_pages1 c.pages1∧Inv h (X_pages1::blk w.p_s2 (ρ.T 12) [.one (.int .i64 c.s2.P), .one (.slice w.a_s2_1 c.s2.Level.length w.c_s2_1), .one (.slice w.a_s2_2 c.s2.First.length w.c_s2_2)]::roS (rI .i64) w.a_s2_1 c.s2.Level.length w.c_s2_1 c.s2.Level::roS (rI .i64) w.a_s2_2 c.s2.First.length w.c_s2_2 c.s2.First::ownS (rI .i64) w.a_out5 c.out5.length w.c_out5 c.out5::A)
abbrev Y2:=Sl→Addr→Sl→Int→Int→Hp→Prop
abbrev T2 (X_pages1:At) (S:Y2) (c:V) (w:W) (h:Hp):Prop:=S ⟨w.a_pages1,c.pages1.length,w.c_pages1⟩ w.p_s2 ⟨w.a_out5,c.out5.length,w.c_out5⟩ c.item6 c.i7 h
def k2t (ρ:Ids) (X_pages1:At) (A:List At) (S':V→Prop) (S:Y2):Prop:= ∀ (c:V) (w:W) (h:Hp),I2 ρ X_pages1 c w A h→S' c→T2 X_pages1 S c w h
def I3 (ρ:Ids) (X_pages1:At) (c:V) (w:W) (A:List At) (h:Hp):Prop:=
  Rd (rI .i64) X_pages1 w.a_pages1 c.pages1.length w.c_pages1 c.pages1∧Inv h (X_pages1::blk w.p_s2 (ρ.T 12) [.one (.int .i64 c.s2.P), .one (.slice w.a_s2_1 c.s2.Level.length w.c_s2_1), .one (.slice w.a_s2_2 c.s2.First.length w.c_s2_2)]::roS (rI .i64) w.a_s2_1 c.s2.Level.length w.c_s2_1 c.s2.Level::roS (rI .i64) w.a_s2_2 c.s2.First.length w.c_s2_2 c.s2.First::ownS (rI .i64) w.a_out5 c.out5.length w.c_out5 c.out5::A)
variable {X_pages1:At} {c:V} {w:W} {Q':QT} {Q:RT} {S1' S2':V→Prop} {S1:Y1} {S2:Y2}
def K3 (S1:V→Prop) (Q:QT) (c:V):Prop:=
  S1 {c with item6:=(IntKind.wrap .i64 (c.item6+(1:Int)))}
theorem K3_r (I:I3 ρ X_pages1 c w A h) (H:K3 S1' Q' c) (kS1:k1t ρ X_pages1 A S1' S1) (k:kt ρ X_pages1 A Q' Q):Tx.carlingref16_Need_K3 ρ S1 Q ⟨w.a_pages1,c.pages1.length,w.c_pages1⟩ w.p_s2 ⟨w.a_out5,c.out5.length,w.c_out5⟩ c.item6 h:=by
  obtain ⟨hX_pages1,I⟩:=I
  unfold Tx.carlingref16_Need_K3
  unfold K3 at H
  replace I:=I.pull2.dupR
  replace I:=I.pull4.dupR
  replace I:=I.pull1.drop1
  replace I:=I.pull2.drop1
  replace I:=I.pull4.pull1.pull2.pull4.pull4
  exact kS1 {c with item6:=(IntKind.wrap .i64 (c.item6+(1:Int)))} w _ ⟨hX_pages1,I⟩ H
def B2 (S1:V→Prop) (S2:V→Prop) (Q:QT) (c:V):Prop:=
  br (decide (c.i7<(c.pages1.length:Int)))
  (ixP c.pages1 c.i7 fun x_21=>
  carlingref12_Shape_Path c.s2 x_21 fun r_29=>
  carlingref16_has r_29 c.item6 fun r_33=>
  br r_33
  ((Bnd (c.out5.length+([c.item6]).length))∧
  K3 S1 Q {c with out5:=(c.out5++[c.item6])})
  (S2 {c with i7:=(IntKind.wrap .i64 (c.i7+(1:Int)))}))
  (K3 S1 Q c)
def L2 (S1:V→Prop) (Q:QT) (c:V):Prop:=Lf (fun S=>B2 S1 S Q) c
theorem L2_in (S1:V→Prop) {Q:QT} {c:V} (H:B2 S1 (L2 S1 Q) Q c):L2 S1 Q c:=Lf.fold H
theorem B2_r (I:I2 ρ X_pages1 c w A h) (H:B2 S1' S2' Q' c) (kS1:k1t ρ X_pages1 A S1' S1) (kS2:k2t ρ X_pages1 A S2' S2) (k:kt ρ X_pages1 A Q' Q):T2 X_pages1 (Tx.carlingref16_Need_B2 ρ S1 S2 Q) c w h:=by
  obtain ⟨hX_pages1,I⟩:=I
  unfold T2 Tx.carlingref16_Need_B2
  unfold B2 at H
  refine br_r H (fun hb H=> ?_) (fun hb H=> ?_)
  · refine ldI_r (I.pull1.cell 0 0 rfl) ?_
    refine ldS_r (I.pull1.cell 1 1 rfl) ?_
    refine ldS_r (I.pull1.cell 2 2 rfl) ?_
    refine ixI_a hX_pages1 I (ixP_keep H) fun p_22 x_21 he_23 hb_24 hc_25 H=> ?_
    obtain ⟨hg_26,H⟩:=H
    refine ldI_r hc_25 ?_
    replace I:=I.pull2.dupR
    replace I:=I.pull4.dupR
    replace I:=I.pull2
    try simp only [nrm_v]
    refine carlingref12_Shape_Path_r (s0:=c.s2) (page1:=x_21) I H fun r_29 a_30 c_31 h I H=> ?_
    refine carlingref16_has_r (l0:=r_29) (n1:=c.item6) rd_own I H fun r_33 h I H=> ?_
    refine br_r H (fun hb H=> ?_) (fun hb H=> ?_)
    · refine al_r [.one (.int .i64 c.item6)] rfl I fun p_34 h I => ?_
      replace I:=I.litN (rI .i64)
      replace I:=I.repI (k:= .i64) c.item6
      replace I:=I.pull1.pull1
      replace I:=I.litC
      replace I:=I.pull1.pull1
      replace I:=Inv.litL (l:=[c.item6]) I rfl rfl
      refine ap_r rd_own I.pull6 rfl (by decide) (by decide) H.1 fun a_39 c_40 h I=> ?_
      replace H:=H.2
      replace I:=I.pull1.drop1
      replace I:=I.pull3.dupR
      replace I:=I.pull4.dupR
      replace I:=I.pull1.drop1
      replace I:=I.pull2.drop1
      replace I:=I.pull3.drop1
      replace I:=I.pull2.pull1.pull2.pull4.pull4
      exact K3_r (c:= {c with out5:=(c.out5++[c.item6])}) (w:= {w with a_out5:=a_39,c_out5:=c_40}) ⟨hX_pages1,I⟩ H kS1 k
    · replace I := I.pull2.dupR
      replace I:=I.pull3.dupR
      replace I:=I.pull1.drop1
      replace I:=I.pull2.drop1
      replace I:=I.pull2.drop1
      replace I:=I.pull4.pull1.pull2.pull4.pull4
      exact kS2 {c with i7:=(IntKind.wrap .i64 (c.i7+(1:Int)))} w _ ⟨hX_pages1,I⟩ H
  · replace I := I.pull2.dupR
    replace I:=I.pull4.dupR
    replace I:=I.pull1.drop1
    replace I:=I.pull2.drop1
    replace I:=I.pull4.pull1.pull2.pull4.pull4
    exact K3_r (c:=c) (w:=w) ⟨hX_pages1,I⟩ H kS1 k
theorem L2_r (I:I2 ρ X_pages1 c w A h) (H:L2 S1' Q' c) (kS1:k1t ρ X_pages1 A S1' S1) (k:kt ρ X_pages1 A Q' Q):T2 X_pages1 (Tx.carlingref16_Need_L2 ρ S1 Q) c w h:=by
  refine Lf.ind H (fun v=> ∀ (w:W) (h:Hp),I2 ρ X_pages1 v w A h→T2 X_pages1 (Tx.carlingref16_Need_L2 ρ S1 Q) v w h) ?_ w h I
  rintro c S hS HB w h I
  refine Tx.carlingref16_Need_L2_in _ _ _ _ _ _ _ _ _ ?_
  try simp only [nrm_v]
  exact B2_r (c:=c) (w:=w) I HB kS1 (fun c w h I H=>hS _ H w h I) k
def B1 (S1:V→Prop) (Q:QT) (c:V):Prop:=
  br (decide (c.item6<(c.s2.Level.length:Int)))
  (L2 S1 Q {c with i7:=(0:Int)})
  (Q c.out5)
def L1 (Q:QT) (c:V):Prop:=Lf (fun S=>B1 S Q) c
theorem L1_in {Q:QT} {c:V} (H:B1 (L1 Q) Q c):L1 Q c:=Lf.fold H
theorem B1_r (I:I1 ρ X_pages1 c w A h) (H:B1 S1' Q' c) (kS1:k1t ρ X_pages1 A S1' S1) (k:kt ρ X_pages1 A Q' Q):T1 X_pages1 (Tx.carlingref16_Need_B1 ρ S1 Q) c w h:=by
  obtain ⟨hX_pages1,I⟩:=I
  unfold T1 Tx.carlingref16_Need_B1
  unfold B1 at H
  refine ldS_r (I.pull1.cell 1 1 rfl) ?_
  refine br_r H (fun hb H=> ?_) (fun hb H=> ?_)
  · replace I := I.pull2.dupR
    replace I:=I.pull4.dupR
    replace I:=I.pull1.drop1
    replace I:=I.pull2.drop1
    replace I:=I.pull4.pull1.pull2.pull4.pull4
    exact L2_r (c:= {c with i7:=(0:Int)}) (w:=w) ⟨hX_pages1,I⟩ H kS1 k
  · replace I := I.pull1.drop1
    replace I:=I.pull1.drop1
    replace I:=I.pull1.drop1
    replace I:=I.pull1
    exact k c.out5 w.a_out5 w.c_out5 _ I H
theorem L1_r (I:I1 ρ X_pages1 c w A h) (H:L1 Q' c) (k:kt ρ X_pages1 A Q' Q):T1 X_pages1 (Tx.carlingref16_Need_L1 ρ Q) c w h:=by
  refine Lf.ind H (fun v=> ∀ (w:W) (h:Hp),I1 ρ X_pages1 v w A h→T1 X_pages1 (Tx.carlingref16_Need_L1 ρ Q) v w h) ?_ w h I
  rintro c S hS HB w h I
  refine Tx.carlingref16_Need_L1_in _ _ _ _ _ _ _ ?_
  try simp only [nrm_v]
  exact B1_r (c:=c) (w:=w) I HB (fun c w h I H=>hS _ H w h I) k
end carlingref16_Need
def carlingref16_Need (s0:carlingref12_Shape) (pages1:List Int) (Q:carlingref16_Need.QT):Prop:=
  carlingref16_Need.L1 Q {carlingref16_Need.v0 with pages1:=pages1,s2:=s0,out5:=([]:List Int),item6:=s0.P}
theorem carlingref16_Need_r {s0:carlingref12_Shape} {pages1:List Int} {a_s0_1:Option Addr} {c_s0_1:Nat} {n_s0_1:Nat} {a_s0_2:Option Addr} {c_s0_2:Nat} {n_s0_2:Nat} {a_pages1:Option Addr} {c_pages1:Nat} {n_pages1:Nat} {X_pages1:At} {Q':carlingref16_Need.QT} {Q:carlingref16_Need.RT} (hX_pages1:Rd (rI .i64) X_pages1 a_pages1 n_pages1 c_pages1 pages1) (I:Inv h (roS (rI .i64) a_s0_1 n_s0_1 c_s0_1 s0.Level::roS (rI .i64) a_s0_2 n_s0_2 c_s0_2 s0.First::X_pages1::A)) (H:carlingref16_Need s0 pages1 Q')
    (k:carlingref16_Need.kt ρ X_pages1 A Q' Q):Tx.carlingref16_Need ρ s0.P ⟨a_s0_1,n_s0_1,c_s0_1⟩ ⟨a_s0_2,n_s0_2,c_s0_2⟩ ⟨a_pages1,n_pages1,c_pages1⟩ h Q:=by
  obtain rfl:=ro_len I
  obtain rfl:=ro_len I.pull1
  obtain rfl:=rd_len hX_pages1 I.pull2
  unfold Tx.carlingref16_Need
  unfold carlingref16_Need at H
  refine al_r [.one (.int .i64 s0.P), .one (.slice a_s0_1 s0.Level.length c_s0_1), .one (.slice a_s0_2 s0.First.length c_s0_2)] rfl I fun p_4 h I=> ?_
  refine ldI_r (I.cell 0 0 rfl) ?_
  replace I:=I.pull1.dupR
  replace I:=I.pull3.dupR
  replace I:=I.nilO (rI .i64)
  replace I:=I.pull2.drop1
  replace I:=I.pull3.drop1
  replace I:=I.pull1.pull2.pull3.pull4
  exact carlingref16_Need.L1_r (c:= {carlingref16_Need.v0 with pages1:=pages1,s2:=s0,out5:=([]:List Int),item6:=s0.P}) (w:= {carlingref16_Need.w0 with a_pages1:=a_pages1,c_pages1:=c_pages1,p_s2:=p_4,a_s2_1:=a_s0_1,c_s2_1:=c_s0_1,a_s2_2:=a_s0_2,c_s2_2:=c_s0_2,a_out5:=none,c_out5:=0}) ⟨hX_pages1,I⟩ H k
namespace carlinglaw16_theirs
structure V where
  out3:List commit_Node
  v9:List carlingref16_Node
  v10:Int
  v11:Int
  x6:commit_Node
  v19:List carlingref09_Ref
  v20:Int
  v21:Int
structure W where
  a_out3:Option Addr
  c_out3:Nat
  a_v9:Option Addr
  c_v9:Nat
  p_x6:Addr
  a_x6_1:Option Addr
  c_x6_1:Nat
  a_v19:Option Addr
  c_v19:Nat
def v0:V:=⟨[],[],0,0,(⟨(0:Int),[]⟩:commit_Node),[],0,0⟩
def w0:W:=⟨none,0,none,0,⟨0,0,none⟩,none,0,none,0⟩
abbrev QT:=(List commit_Node)→Prop
abbrev RT:=Sl→Hp→Prop
def kt (ρ:Ids) (X_l0:At) (A:List At) (Q':QT) (Q:RT):Prop:=
  ∀ (r0:List commit_Node) (ra0:Option Addr) (rc0:Nat) (h':Hp),Inv h' (ownS R_commit_Node ra0 r0.length rc0 r0::X_l0::A)→Q' r0→Q ⟨ra0,r0.length,rc0⟩ h'
def I1 (ρ:Ids) (X_l0:At) (c:V) (w:W) (A:List At) (h:Hp):Prop:=
  Rd R_carlingref16_Node X_l0 w.a_v9 c.v9.length w.c_v9 c.v9∧Inv h (X_l0::ownS R_commit_Node w.a_out3 c.out3.length w.c_out3 c.out3::A)
abbrev Y1:=Sl→Sl→Int→Int→Hp→Prop
abbrev T1 (X_l0:At) (S:Y1) (c:V) (w:W) (h:Hp):Prop:=S ⟨w.a_out3,c.out3.length,w.c_out3⟩ ⟨w.a_v9,c.v9.length,w.c_v9⟩ c.v10 c.v11 h
def k1t (ρ:Ids) (X_l0:At) (A:List At) (S':V→Prop) (S:Y1):Prop:= ∀ (c:V) (w:W) (h:Hp),I1 ρ X_l0 c w A h→S' c→T1 X_l0 S c w h
def I2 (ρ:Ids) (X_l0:At) (c:V) (w:W) (A:List At) (h:Hp):Prop:=
  Rd R_carlingref16_Node X_l0 w.a_v9 c.v9.length w.c_v9 c.v9∧Inv h (X_l0::ownS R_commit_Node w.a_out3 c.out3.length w.c_out3 c.out3::blk w.p_x6 (ρ.T 14) [.one (.int .i64 c.x6.Item), .one (.slice w.a_x6_1 c.x6.Refs.length w.c_x6_1)]::ownS R_seal_Ref w.a_x6_1 c.x6.Refs.length w.c_x6_1 c.x6.Refs::roS R_carlingref09_Ref w.a_v19 c.v19.length w.c_v19 c.v19::A)
abbrev Y2:=Sl→Addr→Sl→Int→Int→Sl→Int→Int→Hp→Prop
abbrev T2 (X_l0:At) (S:Y2) (c:V) (w:W) (h:Hp):Prop:=S ⟨w.a_out3,c.out3.length,w.c_out3⟩ w.p_x6 ⟨w.a_v9,c.v9.length,w.c_v9⟩ c.v10 c.v11 ⟨w.a_v19,c.v19.length,w.c_v19⟩ c.v20 c.v21 h
def k2t (ρ:Ids) (X_l0:At) (A:List At) (S':V→Prop) (S:Y2):Prop:= ∀ (c:V) (w:W) (h:Hp),I2 ρ X_l0 c w A h→S' c→T2 X_l0 S c w h
variable {X_l0:At} {c:V} {w:W} {Q':QT} {Q:RT} {S1' S2':V→Prop} {S1:Y1} {S2:Y2}
def B2 (S1:V→Prop) (S2:V→Prop) (Q:QT) (c:V):Prop:=
  br (decide (c.v21<c.v20))
  (ixP c.v19 c.v21 fun x_25=>
  (Bnd (c.x6.Refs.length+([(⟨x_25.Place,x_25.Epoch,x_25.Digest⟩:seal_Ref)]).length))∧
  S2 {c with x6:=(⟨c.x6.Item,(c.x6.Refs++[(⟨x_25.Place,x_25.Epoch,x_25.Digest⟩:seal_Ref)])⟩:commit_Node),v21:=(IntKind.wrap .i64 (c.v21+(1:Int)))})
  ((Bnd (c.out3.length+([c.x6]).length))∧
  S1 {c with out3:=(c.out3++[c.x6]),v11:=(IntKind.wrap .i64 (c.v11+(1:Int)))})
def L2 (S1:V→Prop) (Q:QT) (c:V):Prop:=Lf (fun S=>B2 S1 S Q) c
theorem L2_in (S1:V→Prop) {Q:QT} {c:V} (H:B2 S1 (L2 S1 Q) Q c):L2 S1 Q c:=Lf.fold H
theorem B2_r (I:I2 ρ X_l0 c w A h) (H:B2 S1' S2' Q' c) (kS1:k1t ρ X_l0 A S1' S1) (kS2:k2t ρ X_l0 A S2' S2) (k:kt ρ X_l0 A Q' Q):T2 X_l0 (Tx.carlinglaw16_theirs_B2 ρ S1 S2 Q) c w h:=by
  obtain ⟨hX_v9,I⟩:=I
  unfold T2 Tx.carlinglaw16_theirs_B2
  unfold B2 at H
  refine br_r H (fun hb H=> ?_) (fun hb H=> ?_)
  · refine ixcarlingref09_Ref rd_ro I.pull4 (ixP_keep H) fun p_26 x_25 he_27 hb_28 hc_29 hc_30 hc_31 I H => ?_
    obtain ⟨hg_32,H⟩:=H
    refine ldI_r hc_29 ?_
    refine ldI_r hc_30 ?_
    refine ldL_r hc_31 ?_
    try simp only [nrm_v]
    refine al_r [.one (.int .i64 (0:Int)), .one (.int .u32 (0:Int)), .vec .u8 32 (Vector.replicate 32 (0:Int))] rfl I fun p_33 h I=> ?_
    refine stA_r I 0 3 0 [.one (.int .i64 x_25.Place), .one (.int .u32 x_25.Epoch), .vec .u8 32 x_25.Digest] rfl rfl rfl (by first | exact all_segs rfl | exact all_one (by simp [segs,Seg.cells,allOne,allOne_append,allOne_lump,Value.oneCell'])) fun h (I:Inv h (blk p_33 (ρ.T 30) [.one (.int .i64 x_25.Place), .one (.int .u32 x_25.Epoch), .vec .u8 32 x_25.Digest]::_))=> ?_
    refine ldS_r (I.pull4.cell 1 1 rfl) ?_
    refine ldI_r (I.cell 0 0 rfl) ?_
    refine ldI_r (I.cell 1 1 rfl) ?_
    refine ldL_r (I.lump 2 2 rfl) ?_
    try simp only [nrm_v]
    refine al_r [.one (.int .i64 x_25.Place), .one (.int .u32 x_25.Epoch), .vec .u8 32 x_25.Digest] rfl I fun p_35 h I=> ?_
    replace I:=I.litN R_seal_Ref
    replace I:=mseal_Ref (⟨x_25.Place,x_25.Epoch,x_25.Digest⟩:seal_Ref) I
    replace I:=I.pull1.pull1
    replace I:=I.litC
    replace I:=I.pull1.pull1
    replace I:=Inv.litL (l:=[(⟨x_25.Place,x_25.Epoch,x_25.Digest⟩:seal_Ref)]) I rfl rfl
    refine ap_r rd_own I.pull6 rfl (by decide) (by decide) H.1 fun a_40 c_41 h I=> ?_
    replace H:=H.2
    replace I:=I.pull1.drop1
    refine st_r I.pull5 1 1 rfl fun h (I:Inv h (blk w.p_x6 (ρ.T 14) [.one (.int .i64 c.x6.Item), .one (.slice a_40 (c.x6.Refs++[(⟨x_25.Place,x_25.Epoch,x_25.Digest⟩:seal_Ref)]).length c_41)]::_))=> ?_
    replace I:=I.pull3.dupR
    replace I:=I.pull1.drop1
    replace I:=I.pull3.drop1
    replace I:=I.pull2.pull2.pull4.pull4
    exact kS2 {c with x6:=(⟨c.x6.Item,(c.x6.Refs++[(⟨x_25.Place,x_25.Epoch,x_25.Digest⟩:seal_Ref)])⟩:commit_Node),v21:=(IntKind.wrap .i64 (c.v21+(1:Int)))} {w with a_x6_1:=a_40,c_x6_1:=c_41} _ ⟨hX_v9,I⟩ H
  · refine ldI_r (I.pull2.cell 0 0 rfl) ?_
    refine ldS_r (I.pull2.cell 1 1 rfl) ?_
    refine al_r [.one (.int .i64 c.x6.Item), .one (.slice w.a_x6_1 c.x6.Refs.length w.c_x6_1)] rfl I fun p_44 h I=> ?_
    replace I:=I.litN R_commit_Node
    replace I:=I.pull5.freeze
    replace I:=I.dupR
    replace I:=mcommit_Node c.x6 I
    replace I:=I.pull2.pull1
    replace I:=I.litC
    replace I:=I.pull2.pull1
    replace I:=Inv.litL (l:=[c.x6]) I rfl rfl
    refine ap_r rd_own I.pull3 rfl (by decide) (by decide) H.1 fun a_50 c_51 h I=> ?_
    replace H:=H.2
    replace I:=I.pull1.drop1
    replace I:=I.pull1.drop1
    replace I:=I.pull2.drop1
    replace I:=I.pull2.drop1
    replace I:=I.pull1
    exact kS1 {c with out3:=(c.out3++[c.x6]),v11:=(IntKind.wrap .i64 (c.v11+(1:Int)))} {w with a_out3:=a_50,c_out3:=c_51} _ ⟨hX_v9,I⟩ H
theorem L2_r (I:I2 ρ X_l0 c w A h) (H:L2 S1' Q' c) (kS1:k1t ρ X_l0 A S1' S1) (k:kt ρ X_l0 A Q' Q):T2 X_l0 (Tx.carlinglaw16_theirs_L2 ρ S1 Q) c w h:=by
  refine Lf.ind H (fun v=> ∀ (w:W) (h:Hp),I2 ρ X_l0 v w A h→T2 X_l0 (Tx.carlinglaw16_theirs_L2 ρ S1 Q) v w h) ?_ w h I
  rintro c S hS HB w h I
  refine Tx.carlinglaw16_theirs_L2_in _ _ _ _ _ _ _ _ _ _ _ _ ?_
  try simp only [nrm_v]
  exact B2_r (c:=c) (w:=w) I HB kS1 (fun c w h I H=>hS _ H w h I) k
def B1 (S1:V→Prop) (Q:QT) (c:V):Prop:=
  br (decide (c.v11<c.v10))
  (ixP c.v9 c.v11 fun x_5=>
  L2 S1 Q {c with x6:=(⟨x_5.Item,([]:List seal_Ref)⟩:commit_Node),v19:=x_5.Refs,v20:=(x_5.Refs.length:Int),v21:=(0:Int)})
  (Q c.out3)
def L1 (Q:QT) (c:V):Prop:=Lf (fun S=>B1 S Q) c
theorem L1_in {Q:QT} {c:V} (H:B1 (L1 Q) Q c):L1 Q c:=Lf.fold H
theorem B1_r (I:I1 ρ X_l0 c w A h) (H:B1 S1' Q' c) (kS1:k1t ρ X_l0 A S1' S1) (k:kt ρ X_l0 A Q' Q):T1 X_l0 (Tx.carlinglaw16_theirs_B1 ρ S1 Q) c w h:=by
  obtain ⟨hX_v9,I⟩:=I
  unfold T1 Tx.carlinglaw16_theirs_B1
  unfold B1 at H
  refine br_r H (fun hb H=> ?_) (fun hb H=> ?_)
  · refine ixcarlingref16_Node hX_v9 I H fun p_6 x_5 a_11 c_12 he_7 hb_8 hc_9 hc_10 I H => ?_
    refine ldI_r hc_9 ?_
    refine ldS_r hc_10 ?_
    refine al_r [.one (.int .i64 (0:Int)), .one (.slice none 0 0)] rfl I fun p_14 h I=> ?_
    refine stA_r I 0 2 0 [.one (.int .i64 x_5.Item), .one (.slice a_11 x_5.Refs.length c_12)] rfl rfl rfl (by first | exact all_segs rfl | exact all_one (by simp [segs,Seg.cells,allOne,allOne_append,allOne_lump,Value.oneCell'])) fun h (I:Inv h (blk p_14 (ρ.T 15) [.one (.int .i64 x_5.Item), .one (.slice a_11 x_5.Refs.length c_12)]::_))=> ?_
    refine ldI_r (I.cell 0 0 rfl) ?_
    refine al_r [.one (.int .i64 (0:Int)), .one (.slice none 0 0)] rfl I fun p_16 h I=> ?_
    refine stA_r I 0 2 0 [.one (.int .i64 x_5.Item), .one (.slice none 0 0)] rfl rfl rfl (by first | exact all_segs rfl | exact all_one (by simp [segs,Seg.cells,allOne,allOne_append,allOne_lump,Value.oneCell'])) fun h (I:Inv h (blk p_16 (ρ.T 14) [.one (.int .i64 x_5.Item), .one (.slice none 0 0)]::_))=> ?_
    refine ldS_r (I.pull1.cell 1 1 rfl) ?_
    replace I:=I.nilO R_seal_Ref
    replace I:=I.pull3.dupR
    replace I:=I.pull1.drop1
    replace I:=I.pull3.drop1
    replace I:=I.pull1.pull2.pull4.pull4
    exact L2_r (c:= {c with x6:=(⟨x_5.Item,([]:List seal_Ref)⟩:commit_Node),v19:=x_5.Refs,v20:=(x_5.Refs.length:Int),v21:=(0:Int)}) (w:= {w with p_x6:=p_16,a_x6_1:=none,c_x6_1:=0,a_v19:=a_11,c_v19:=c_12}) ⟨hX_v9,I⟩ H kS1 k
  · replace I := I.pull1
    exact k c.out3 w.a_out3 w.c_out3 _ I H
theorem L1_r (I:I1 ρ X_l0 c w A h) (H:L1 Q' c) (k:kt ρ X_l0 A Q' Q):T1 X_l0 (Tx.carlinglaw16_theirs_L1 ρ Q) c w h:=by
  refine Lf.ind H (fun v=> ∀ (w:W) (h:Hp),I1 ρ X_l0 v w A h→T1 X_l0 (Tx.carlinglaw16_theirs_L1 ρ Q) v w h) ?_ w h I
  rintro c S hS HB w h I
  refine Tx.carlinglaw16_theirs_L1_in _ _ _ _ _ _ _ ?_
  try simp only [nrm_v]
  exact B1_r (c:=c) (w:=w) I HB (fun c w h I H=>hS _ H w h I) k
end carlinglaw16_theirs
def carlinglaw16_theirs (l0:List carlingref16_Node) (Q:carlinglaw16_theirs.QT):Prop:=
  carlinglaw16_theirs.L1 Q {carlinglaw16_theirs.v0 with out3:=([]:List commit_Node),v9:=l0,v10:=(l0.length:Int),v11:=(0:Int)}
theorem carlinglaw16_theirs_r {l0:List carlingref16_Node} {a_l0:Option Addr} {c_l0:Nat} {n_l0:Nat} {X_l0:At} {Q':carlinglaw16_theirs.QT} {Q:carlinglaw16_theirs.RT} (hX_l0:Rd R_carlingref16_Node X_l0 a_l0 n_l0 c_l0 l0) (I:Inv h (X_l0::A)) (H:carlinglaw16_theirs l0 Q')
    (k:carlinglaw16_theirs.kt ρ X_l0 A Q' Q):Tx.carlinglaw16_theirs ρ ⟨a_l0,n_l0,c_l0⟩ h Q:=by
  obtain rfl:=rd_len hX_l0 I
  unfold Tx.carlinglaw16_theirs
  unfold carlinglaw16_theirs at H
  replace I:=I.nilO R_commit_Node
  replace I:=I.pull1
  exact carlinglaw16_theirs.L1_r (c:= {carlinglaw16_theirs.v0 with out3:=([]:List commit_Node),v9:=l0,v10:=(l0.length:Int),v11:=(0:Int)}) (w:= {carlinglaw16_theirs.w0 with a_out3:=none,c_out3:=0,a_v9:=a_l0,c_v9:=c_l0}) ⟨hX_l0,I⟩ H k
namespace carlingref16_Find
structure V where
  l0:List carlingref16_Node
  item1:Int
  i6:Int
structure W where
  a_l0:Option Addr
  c_l0:Nat
def v0:V:=⟨[],0,0⟩
def w0:W:=⟨none,0⟩
abbrev QT:=(List carlingref09_Ref)→Bool→Prop
abbrev RT:=Sl→Bool→Hp→Prop
def kt (ρ:Ids) (X_l0:At) (A:List At) (Q':QT) (Q:RT):Prop:=
  ∀ (r0:List carlingref09_Ref) (ra0:Option Addr) (rc0:Nat) (r1:Bool) (h':Hp),Inv h' (roS R_carlingref09_Ref ra0 r0.length rc0 r0::X_l0::A)→Q' r0 r1→Q ⟨ra0,r0.length,rc0⟩ r1 h'
def I1 (ρ:Ids) (X_l0:At) (c:V) (w:W) (A:List At) (h:Hp):Prop:=
  Rd R_carlingref16_Node X_l0 w.a_l0 c.l0.length w.c_l0 c.l0∧Inv h (X_l0::A)
abbrev Y1:=Sl→Int→Int→Hp→Prop
abbrev T1 (X_l0:At) (S:Y1) (c:V) (w:W) (h:Hp):Prop:=S ⟨w.a_l0,c.l0.length,w.c_l0⟩ c.item1 c.i6 h
def k1t (ρ:Ids) (X_l0:At) (A:List At) (S':V→Prop) (S:Y1):Prop:= ∀ (c:V) (w:W) (h:Hp),I1 ρ X_l0 c w A h→S' c→T1 X_l0 S c w h
variable {X_l0:At} {c:V} {w:W} {Q':QT} {Q:RT} {S1':V→Prop} {S1:Y1}
def B1 (S1:V→Prop) (Q:QT) (c:V):Prop:=
  br (decide (c.i6<(c.l0.length:Int)))
  (ixP c.l0 c.i6 fun x_3=>
  br (x_3.Item==c.item1)
  (ixP c.l0 c.i6 fun x_12=>
  Q x_12.Refs true)
  (S1 {c with i6:=(IntKind.wrap .i64 (c.i6+(1:Int)))}))
  (Q ([]:List carlingref09_Ref) false)
def L1 (Q:QT) (c:V):Prop:=Lf (fun S=>B1 S Q) c
theorem L1_in {Q:QT} {c:V} (H:B1 (L1 Q) Q c):L1 Q c:=Lf.fold H
theorem B1_r (I:I1 ρ X_l0 c w A h) (H:B1 S1' Q' c) (kS1:k1t ρ X_l0 A S1' S1) (k:kt ρ X_l0 A Q' Q):T1 X_l0 (Tx.carlingref16_Find_B1 ρ S1 Q) c w h:=by
  obtain ⟨hX_l0,I⟩:=I
  unfold T1 Tx.carlingref16_Find_B1
  unfold B1 at H
  refine br_r H (fun hb H=> ?_) (fun hb H=> ?_)
  · refine ixcarlingref16_Node hX_l0 I H fun p_4 x_3 a_9 c_10 he_5 hb_6 hc_7 hc_8 I H => ?_
    refine ldI_r hc_7 ?_
    refine br_r H (fun hb H=> ?_) (fun hb H=> ?_)
    · refine ixcarlingref16_Node hX_l0 I.pull1 H fun p_13 x_12 a_18 c_19 he_14 hb_15 hc_16 hc_17 I H => ?_
      refine ldS_r hc_17 ?_
      replace I:=I.dupR
      replace I:=I.pull1.drop1
      replace I:=I.pull2.drop1
      replace I:=I.pull1.pull1
      exact k x_12.Refs a_18 c_19 true _ I H
    · replace I := I.drop1
      exact kS1 {c with i6:=(IntKind.wrap .i64 (c.i6+(1:Int)))} w _ ⟨hX_l0,I⟩ H
  · replace I := I.nilR R_carlingref09_Ref
    replace I:=I.pull1.pull1
    exact k ([]:List carlingref09_Ref) none 0 false _ I H
theorem L1_r (I:I1 ρ X_l0 c w A h) (H:L1 Q' c) (k:kt ρ X_l0 A Q' Q):T1 X_l0 (Tx.carlingref16_Find_L1 ρ Q) c w h:=by
  refine Lf.ind H (fun v=> ∀ (w:W) (h:Hp),I1 ρ X_l0 v w A h→T1 X_l0 (Tx.carlingref16_Find_L1 ρ Q) v w h) ?_ w h I
  rintro c S hS HB w h I
  refine Tx.carlingref16_Find_L1_in _ _ _ _ _ _ ?_
  try simp only [nrm_v]
  exact B1_r (c:=c) (w:=w) I HB (fun c w h I H=>hS _ H w h I) k
end carlingref16_Find
def carlingref16_Find (l0:List carlingref16_Node) (item1:Int) (Q:carlingref16_Find.QT):Prop:=
  carlingref16_Find.L1 Q {carlingref16_Find.v0 with l0:=l0,item1:=item1,i6:=(0:Int)}
theorem carlingref16_Find_r {l0:List carlingref16_Node} {item1:Int} {a_l0:Option Addr} {c_l0:Nat} {n_l0:Nat} {X_l0:At} {Q':carlingref16_Find.QT} {Q:carlingref16_Find.RT} (hX_l0:Rd R_carlingref16_Node X_l0 a_l0 n_l0 c_l0 l0) (I:Inv h (X_l0::A)) (H:carlingref16_Find l0 item1 Q')
    (k:carlingref16_Find.kt ρ X_l0 A Q' Q):Tx.carlingref16_Find ρ ⟨a_l0,n_l0,c_l0⟩ item1 h Q:=by
  obtain rfl:=rd_len hX_l0 I
  unfold Tx.carlingref16_Find
  unfold carlingref16_Find at H
  exact carlingref16_Find.L1_r (c:= {carlingref16_Find.v0 with l0:=l0,item1:=item1,i6:=(0:Int)}) (w:= {carlingref16_Find.w0 with a_l0:=a_l0,c_l0:=c_l0}) ⟨hX_l0,I⟩ H k
namespace carlinglaw16_same
structure V where
  a0:List commit_Node
  b1:List carlingref16_Node
  v14:Int
  v15:Int
  i5:Int
  v43:Bool
  v48:List seal_Ref
  v49:Int
  v50:Int
structure W where
  a_a0:Option Addr
  c_a0:Nat
  a_b1:Option Addr
  c_b1:Nat
  a_v48:Option Addr
  c_v48:Nat
def v0:V:=⟨[],[],0,0,0,false,[],0,0⟩
def w0:W:=⟨none,0,none,0,none,0⟩
abbrev QT:=Bool→Prop
abbrev RT:=Bool→Hp→Prop
def kt (ρ:Ids) (X_a0:At) (X_b1:At) (A:List At) (Q':QT) (Q:RT):Prop:=
  ∀ (r0:Bool) (h':Hp),Inv h' (X_a0::X_b1::A)→Q' r0→Q r0 h'
def I1 (ρ:Ids) (X_a0:At) (X_b1:At) (c:V) (w:W) (A:List At) (h:Hp):Prop:=
  Rd R_commit_Node X_a0 w.a_a0 c.a0.length w.c_a0 c.a0∧Rd R_carlingref16_Node X_b1 w.a_b1 c.b1.length w.c_b1 c.b1∧Inv h (X_a0::X_b1::A)
abbrev Y1:=Sl→Sl→Int→Int→Hp→Prop
abbrev T1 (X_a0:At) (X_b1:At) (S:Y1) (c:V) (w:W) (h:Hp):Prop:=S ⟨w.a_a0,c.a0.length,w.c_a0⟩ ⟨w.a_b1,c.b1.length,w.c_b1⟩ c.v14 c.v15 h
def k1t (ρ:Ids) (X_a0:At) (X_b1:At) (A:List At) (S':V→Prop) (S:Y1):Prop:= ∀ (c:V) (w:W) (h:Hp),I1 ρ X_a0 X_b1 c w A h→S' c→T1 X_a0 X_b1 S c w h
def I2 (ρ:Ids) (X_a0:At) (X_b1:At) (c:V) (w:W) (A:List At) (h:Hp):Prop:=
  Rd R_commit_Node X_a0 w.a_a0 c.a0.length w.c_a0 c.a0∧Rd R_carlingref16_Node X_b1 w.a_b1 c.b1.length w.c_b1 c.b1∧Inv h (X_a0::X_b1::A)
def I3 (ρ:Ids) (X_a0:At) (X_b1:At) (c:V) (w:W) (A:List At) (h:Hp):Prop:=
  Rd R_commit_Node X_a0 w.a_a0 c.a0.length w.c_a0 c.a0∧Rd R_carlingref16_Node X_b1 w.a_b1 c.b1.length w.c_b1 c.b1∧Inv h (X_a0::X_b1::roS R_seal_Ref w.a_v48 c.v48.length w.c_v48 c.v48::A)
abbrev Y3:=Sl→Sl→Int→Int→Int→Sl→Int→Int→Hp→Prop
abbrev T3 (X_a0:At) (X_b1:At) (S:Y3) (c:V) (w:W) (h:Hp):Prop:=S ⟨w.a_a0,c.a0.length,w.c_a0⟩ ⟨w.a_b1,c.b1.length,w.c_b1⟩ c.i5 c.v14 c.v15 ⟨w.a_v48,c.v48.length,w.c_v48⟩ c.v49 c.v50 h
def k3t (ρ:Ids) (X_a0:At) (X_b1:At) (A:List At) (S':V→Prop) (S:Y3):Prop:= ∀ (c:V) (w:W) (h:Hp),I3 ρ X_a0 X_b1 c w A h→S' c→T3 X_a0 X_b1 S c w h
variable {X_a0 X_b1:At} {c:V} {w:W} {Q':QT} {Q:RT} {S1' S3':V→Prop} {S1:Y1} {S3:Y3}
def B3 (S1:V→Prop) (S3:V→Prop) (Q:QT) (c:V):Prop:=
  br (decide (c.v50<c.v49))
  (ixP c.v48 c.v50 fun x_56=>
  ixP c.b1 c.i5 fun x_66=>
  ixP x_66.Refs c.v50 fun x_75=>
  br (!((x_56.Place==x_75.Place) && ((x_56.Epoch==x_75.Epoch) && ((x_56.Digest.toList==x_75.Digest.toList) && true))))
  (Q false)
  (S3 {c with v50:=(IntKind.wrap .i64 (c.v50+(1:Int)))}))
  (S1 {c with v15:=(IntKind.wrap .i64 (c.v15+(1:Int)))})
def L3 (S1:V→Prop) (Q:QT) (c:V):Prop:=Lf (fun S=>B3 S1 S Q) c
theorem L3_in (S1:V→Prop) {Q:QT} {c:V} (H:B3 S1 (L3 S1 Q) Q c):L3 S1 Q c:=Lf.fold H
theorem B3_r (I:I3 ρ X_a0 X_b1 c w A h) (H:B3 S1' S3' Q' c) (kS1:k1t ρ X_a0 X_b1 A S1' S1) (kS3:k3t ρ X_a0 X_b1 A S3' S3) (k:kt ρ X_a0 X_b1 A Q' Q):T3 X_a0 X_b1 (Tx.carlinglaw16_same_B3 ρ S1 S3 Q) c w h:=by
  obtain ⟨hX_a0,hX_b1,I⟩:=I
  unfold T3 Tx.carlinglaw16_same_B3
  unfold B3 at H
  refine br_r H (fun hb H=> ?_) (fun hb H=> ?_)
  · refine ixseal_Ref rd_ro I.pull2 (ixP_keep H) fun p_57 x_56 he_58 hb_59 hc_60 hc_61 hc_62 I H => ?_
    obtain ⟨hg_63,H⟩:=H
    refine ldI_r hc_60 ?_
    refine ldI_r hc_61 ?_
    refine ldL_r hc_62 ?_
    try simp only [nrm_v]
    refine al_r [.one (.int .i64 (0:Int)), .one (.int .u32 (0:Int)), .vec .u8 32 (Vector.replicate 32 (0:Int))] rfl I fun p_64 h I=> ?_
    refine stA_r I 0 3 0 [.one (.int .i64 x_56.Place), .one (.int .u32 x_56.Epoch), .vec .u8 32 x_56.Digest] rfl rfl rfl (by first | exact all_segs rfl | exact all_one (by simp [segs,Seg.cells,allOne,allOne_append,allOne_lump,Value.oneCell'])) fun h (I:Inv h (blk p_64 (ρ.T 16) [.one (.int .i64 x_56.Place), .one (.int .u32 x_56.Epoch), .vec .u8 32 x_56.Digest]::_))=> ?_
    refine ldI_r (I.cell 0 0 rfl) ?_
    refine ldI_r (I.cell 1 1 rfl) ?_
    refine ldL_r (I.lump 2 2 rfl) ?_
    try simp only [nrm_v]
    refine ixcarlingref16_Node hX_b1 I.pull3 H fun p_67 x_66 a_72 c_73 he_68 hb_69 hc_70 hc_71 I H=> ?_
    refine ldS_r hc_71 ?_
    refine ixcarlingref09_Ref rd_ro I (ixP_keep H) fun p_76 x_75 he_77 hb_78 hc_79 hc_80 hc_81 I H=> ?_
    obtain ⟨hg_82,H⟩:=H
    refine ldI_r hc_79 ?_
    refine ldI_r hc_80 ?_
    refine ldL_r hc_81 ?_
    try simp only [nrm_v]
    try simp only [nrm_v]
    refine br_r H (fun hb H=> ?_) (fun hb H=> ?_)
    · replace I := I.drop1
      replace I:=I.pull1.drop1
      replace I:=I.pull1.drop1
      replace I:=I.pull1
      exact k false _ I H
    · replace I := I.pull3.dupR
      replace I:=I.pull1.drop1
      replace I:=I.pull1.drop1
      replace I:=I.pull2.drop1
      replace I:=I.pull1.pull2
      exact kS3 {c with v50:=(IntKind.wrap .i64 (c.v50+(1:Int)))} w _ ⟨hX_a0,hX_b1,I⟩ H
  · replace I := I.pull2.drop1
    replace I:=I.pull1.pull1
    exact kS1 {c with v15:=(IntKind.wrap .i64 (c.v15+(1:Int)))} w _ ⟨hX_a0,hX_b1,I⟩ H
theorem L3_r (I:I3 ρ X_a0 X_b1 c w A h) (H:L3 S1' Q' c) (kS1:k1t ρ X_a0 X_b1 A S1' S1) (k:kt ρ X_a0 X_b1 A Q' Q):T3 X_a0 X_b1 (Tx.carlinglaw16_same_L3 ρ S1 Q) c w h:=by
  refine Lf.ind H (fun v=> ∀ (w:W) (h:Hp),I3 ρ X_a0 X_b1 v w A h→T3 X_a0 X_b1 (Tx.carlinglaw16_same_L3 ρ S1 Q) v w h) ?_ w h I
  rintro c S hS HB w h I
  refine Tx.carlinglaw16_same_L3_in _ _ _ _ _ _ _ _ _ _ _ _ ?_
  try simp only [nrm_v]
  exact B3_r (c:=c) (w:=w) I HB kS1 (fun c w h I H=>hS _ H w h I) k
def K2 (S1:V→Prop) (Q:QT) (c:V):Prop:=
  br c.v43
  (Q false)
  (ixP c.a0 c.i5 fun x_43=>
  L3 S1 Q {c with v48:=x_43.Refs,v49:=(x_43.Refs.length:Int),v50:=(0:Int)})
theorem K2_r (I:I2 ρ X_a0 X_b1 c w A h) (H:K2 S1' Q' c) (kS1:k1t ρ X_a0 X_b1 A S1' S1) (k:kt ρ X_a0 X_b1 A Q' Q):Tx.carlinglaw16_same_K2 ρ S1 Q ⟨w.a_a0,c.a0.length,w.c_a0⟩ ⟨w.a_b1,c.b1.length,w.c_b1⟩ c.i5 c.v14 c.v15 c.v43 h:=by
  obtain ⟨hX_a0,hX_b1,I⟩:=I
  unfold Tx.carlinglaw16_same_K2
  unfold K2 at H
  refine br_r H (fun hb H=> ?_) (fun hb H=> ?_)
  · replace I := I.pull1.pull1
    exact k false _ I H
  · refine ixcommit_Node hX_a0 I H fun p_44 x_43 a_49 c_50 he_45 hb_46 hc_47 hc_48 I H => ?_
    refine ldS_r hc_48 ?_
    replace I:=I.dupR
    replace I:=I.pull1.drop1
    replace I:=I.pull2.pull2
    exact L3_r (c:= {c with v48:=x_43.Refs,v49:=(x_43.Refs.length:Int),v50:=(0:Int)}) (w:= {w with a_v48:=a_49,c_v48:=c_50}) ⟨hX_a0,hX_b1,I⟩ H kS1 k
def B1 (S1:V→Prop) (Q:QT) (c:V):Prop:=
  br (decide (c.v15<c.v14))
  (ixP c.a0 c.v15 fun x_5=>
  ixP c.b1 c.v15 fun x_14=>
  br (x_5.Item !=x_14.Item)
  (K2 S1 Q {c with i5:=c.v15,v43:=true})
  (ixP c.a0 c.v15 fun x_23=>
  ixP c.b1 c.v15 fun x_32=>
  K2 S1 Q {c with i5:=c.v15,v43:=((x_23.Refs.length:Int) !=(x_32.Refs.length:Int))}))
  (Q true)
def L1 (Q:QT) (c:V):Prop:=Lf (fun S=>B1 S Q) c
theorem L1_in {Q:QT} {c:V} (H:B1 (L1 Q) Q c):L1 Q c:=Lf.fold H
theorem B1_r (I:I1 ρ X_a0 X_b1 c w A h) (H:B1 S1' Q' c) (kS1:k1t ρ X_a0 X_b1 A S1' S1) (k:kt ρ X_a0 X_b1 A Q' Q):T1 X_a0 X_b1 (Tx.carlinglaw16_same_B1 ρ S1 Q) c w h:=by
  obtain ⟨hX_a0,hX_b1,I⟩:=I
  unfold T1 Tx.carlinglaw16_same_B1
  unfold B1 at H
  refine br_r H (fun hb H=> ?_) (fun hb H=> ?_)
  · refine ixcommit_Node hX_a0 I H fun p_6 x_5 a_11 c_12 he_7 hb_8 hc_9 hc_10 I H => ?_
    refine ldI_r hc_9 ?_
    refine ixcarlingref16_Node hX_b1 I.pull2 H fun p_15 x_14 a_20 c_21 he_16 hb_17 hc_18 hc_19 I H=> ?_
    refine ldI_r hc_18 ?_
    refine br_r H (fun hb H=> ?_) (fun hb H=> ?_)
    · replace I := I.drop1
      replace I:=I.pull1.drop1
      replace I:=I.pull1
      exact K2_r (c:= {c with i5:=c.v15,v43:=true}) (w:=w) ⟨hX_a0,hX_b1,I⟩ H kS1 k
    · refine ixcommit_Node hX_a0 I.pull3 H fun p_24 x_23 a_29 c_30 he_25 hb_26 hc_27 hc_28 I H => ?_
      refine ldS_r hc_28 ?_
      refine ixcarlingref16_Node hX_b1 I.pull3 H fun p_33 x_32 a_38 c_39 he_34 hb_35 hc_36 hc_37 I H=> ?_
      refine ldS_r hc_37 ?_
      replace I:=I.drop1
      replace I:=I.pull1.drop1
      replace I:=I.pull2.drop1
      replace I:=I.pull2.drop1
      replace I:=I.pull1
      exact K2_r (c:= {c with i5:=c.v15,v43:=((x_23.Refs.length:Int) !=(x_32.Refs.length:Int))}) (w:=w) ⟨hX_a0,hX_b1,I⟩ H kS1 k
  · replace I := I.pull1.pull1
    exact k true _ I H
theorem L1_r (I:I1 ρ X_a0 X_b1 c w A h) (H:L1 Q' c) (k:kt ρ X_a0 X_b1 A Q' Q):T1 X_a0 X_b1 (Tx.carlinglaw16_same_L1 ρ Q) c w h:=by
  refine Lf.ind H (fun v=> ∀ (w:W) (h:Hp),I1 ρ X_a0 X_b1 v w A h→T1 X_a0 X_b1 (Tx.carlinglaw16_same_L1 ρ Q) v w h) ?_ w h I
  rintro c S hS HB w h I
  refine Tx.carlinglaw16_same_L1_in _ _ _ _ _ _ _ ?_
  try simp only [nrm_v]
  exact B1_r (c:=c) (w:=w) I HB (fun c w h I H=>hS _ H w h I) k
end carlinglaw16_same
def carlinglaw16_same (a0:List commit_Node) (b1:List carlingref16_Node) (Q:carlinglaw16_same.QT):Prop:=
  br ((a0.length:Int) !=(b1.length:Int))
  (Q false)
  (carlinglaw16_same.L1 Q {carlinglaw16_same.v0 with a0:=a0,b1:=b1,v14:=(a0.length:Int),v15:=(0:Int)})
theorem carlinglaw16_same_r {a0:List commit_Node} {b1:List carlingref16_Node} {a_a0:Option Addr} {c_a0:Nat} {n_a0:Nat} {X_a0:At} {a_b1:Option Addr} {c_b1:Nat} {n_b1:Nat} {X_b1:At} {Q':carlinglaw16_same.QT} {Q:carlinglaw16_same.RT} (hX_a0:Rd R_commit_Node X_a0 a_a0 n_a0 c_a0 a0) (hX_b1:Rd R_carlingref16_Node X_b1 a_b1 n_b1 c_b1 b1) (I:Inv h (X_a0::X_b1::A)) (H:carlinglaw16_same a0 b1 Q')
    (k:carlinglaw16_same.kt ρ X_a0 X_b1 A Q' Q):Tx.carlinglaw16_same ρ ⟨a_a0,n_a0,c_a0⟩ ⟨a_b1,n_b1,c_b1⟩ h Q:=by
  obtain rfl:=rd_len hX_a0 I
  obtain rfl:=rd_len hX_b1 I.pull1
  unfold Tx.carlinglaw16_same
  unfold carlinglaw16_same at H
  refine br_r H (fun hb H=> ?_) (fun hb H=> ?_)
  · replace I := I.pull1.pull1
    exact k false _ I H
  · replace I := I.pull1.pull1
    exact carlinglaw16_same.L1_r (c:= {carlinglaw16_same.v0 with a0:=a0,b1:=b1,v14:=(a0.length:Int),v15:=(0:Int)}) (w:= {carlinglaw16_same.w0 with a_a0:=a_a0,c_a0:=c_a0,a_b1:=a_b1,c_b1:=c_b1}) ⟨hX_a0,hX_b1,I⟩ H k
namespace carlinglaw16_changed
structure V where
  out3:List commit_Change
  v6:List carlingref16_Change
  v7:Int
  v8:Int
structure W where
  a_out3:Option Addr
  c_out3:Nat
  a_v6:Option Addr
  c_v6:Nat
def v0:V:=⟨[],[],0,0⟩
def w0:W:=⟨none,0,none,0⟩
abbrev QT:=(List commit_Change)→Prop
abbrev RT:=Sl→Hp→Prop
def kt (ρ:Ids) (X_l0:At) (A:List At) (Q':QT) (Q:RT):Prop:=
  ∀ (r0:List commit_Change) (ra0:Option Addr) (rc0:Nat) (h':Hp),Inv h' (ownS R_commit_Change ra0 r0.length rc0 r0::X_l0::A)→Q' r0→Q ⟨ra0,r0.length,rc0⟩ h'
def I1 (ρ:Ids) (X_l0:At) (c:V) (w:W) (A:List At) (h:Hp):Prop:=
  Rd R_carlingref16_Change X_l0 w.a_v6 c.v6.length w.c_v6 c.v6∧Inv h (X_l0::ownS R_commit_Change w.a_out3 c.out3.length w.c_out3 c.out3::A)
abbrev Y1:=Sl→Sl→Int→Int→Hp→Prop
abbrev T1 (X_l0:At) (S:Y1) (c:V) (w:W) (h:Hp):Prop:=S ⟨w.a_out3,c.out3.length,w.c_out3⟩ ⟨w.a_v6,c.v6.length,w.c_v6⟩ c.v7 c.v8 h
def k1t (ρ:Ids) (X_l0:At) (A:List At) (S':V→Prop) (S:Y1):Prop:= ∀ (c:V) (w:W) (h:Hp),I1 ρ X_l0 c w A h→S' c→T1 X_l0 S c w h
variable {X_l0:At} {c:V} {w:W} {Q':QT} {Q:RT} {S1':V→Prop} {S1:Y1}
def B1 (S1:V→Prop) (Q:QT) (c:V):Prop:=
  br (decide (c.v8<c.v7))
  (ixP c.v6 c.v8 fun x_5=>
  (Bnd (c.out3.length+([(⟨x_5.Page,x_5.Bytes⟩:commit_Change)]).length))∧
  S1 {c with out3:=(c.out3++[(⟨x_5.Page,x_5.Bytes⟩:commit_Change)]),v8:=(IntKind.wrap .i64 (c.v8+(1:Int)))})
  (Q c.out3)
def L1 (Q:QT) (c:V):Prop:=Lf (fun S=>B1 S Q) c
theorem L1_in {Q:QT} {c:V} (H:B1 (L1 Q) Q c):L1 Q c:=Lf.fold H
theorem B1_r (I:I1 ρ X_l0 c w A h) (H:B1 S1' Q' c) (kS1:k1t ρ X_l0 A S1' S1) (k:kt ρ X_l0 A Q' Q):T1 X_l0 (Tx.carlinglaw16_changed_B1 ρ S1 Q) c w h:=by
  obtain ⟨hX_v6,I⟩:=I
  unfold T1 Tx.carlinglaw16_changed_B1
  unfold B1 at H
  refine br_r H (fun hb H=> ?_) (fun hb H=> ?_)
  · refine ixcarlingref16_Change hX_v6 I H fun p_6 x_5 a_11 c_12 he_7 hb_8 hc_9 hc_10 I H => ?_
    refine ldI_r hc_9 ?_
    refine ldS_r hc_10 ?_
    refine al_r [.one (.int .i64 (0:Int)), .one (.slice none 0 0)] rfl I fun p_14 h I=> ?_
    refine stA_r I 0 2 0 [.one (.int .i64 x_5.Page), .one (.slice a_11 x_5.Bytes.length c_12)] rfl rfl rfl (by first | exact all_segs rfl | exact all_one (by simp [segs,Seg.cells,allOne,allOne_append,allOne_lump,Value.oneCell'])) fun h (I:Inv h (blk p_14 (ρ.T 13) [.one (.int .i64 x_5.Page), .one (.slice a_11 x_5.Bytes.length c_12)]::_))=> ?_
    refine ldI_r (I.cell 0 0 rfl) ?_
    refine ldS_r (I.cell 1 1 rfl) ?_
    refine al_r [.one (.int .i64 x_5.Page), .one (.slice a_11 x_5.Bytes.length c_12)] rfl I fun p_16 h I=> ?_
    replace I:=I.litN R_commit_Change
    replace I:=I.pull3.dupR
    replace I:=mcommit_Change (⟨x_5.Page,x_5.Bytes⟩:commit_Change) I
    replace I:=I.pull2.pull1
    replace I:=I.litC
    replace I:=I.pull2.pull1
    replace I:=Inv.litL (l:=[(⟨x_5.Page,x_5.Bytes⟩:commit_Change)]) I rfl rfl
    refine ap_r rd_own I.pull4 rfl (by decide) (by decide) H.1 fun a_22 c_23 h I=> ?_
    replace H:=H.2
    replace I:=I.pull1.drop1
    replace I:=I.pull1.drop1
    replace I:=I.pull1.drop1
    replace I:=I.pull1
    exact kS1 {c with out3:=(c.out3++[(⟨x_5.Page,x_5.Bytes⟩:commit_Change)]),v8:=(IntKind.wrap .i64 (c.v8+(1:Int)))} {w with a_out3:=a_22,c_out3:=c_23} _ ⟨hX_v6,I⟩ H
  · replace I := I.pull1
    exact k c.out3 w.a_out3 w.c_out3 _ I H
theorem L1_r (I:I1 ρ X_l0 c w A h) (H:L1 Q' c) (k:kt ρ X_l0 A Q' Q):T1 X_l0 (Tx.carlinglaw16_changed_L1 ρ Q) c w h:=by
  refine Lf.ind H (fun v=> ∀ (w:W) (h:Hp),I1 ρ X_l0 v w A h→T1 X_l0 (Tx.carlinglaw16_changed_L1 ρ Q) v w h) ?_ w h I
  rintro c S hS HB w h I
  refine Tx.carlinglaw16_changed_L1_in _ _ _ _ _ _ _ ?_
  try simp only [nrm_v]
  exact B1_r (c:=c) (w:=w) I HB (fun c w h I H=>hS _ H w h I) k
end carlinglaw16_changed
def carlinglaw16_changed (l0:List carlingref16_Change) (Q:carlinglaw16_changed.QT):Prop:=
  carlinglaw16_changed.L1 Q {carlinglaw16_changed.v0 with out3:=([]:List commit_Change),v6:=l0,v7:=(l0.length:Int),v8:=(0:Int)}
theorem carlinglaw16_changed_r {l0:List carlingref16_Change} {a_l0:Option Addr} {c_l0:Nat} {n_l0:Nat} {X_l0:At} {Q':carlinglaw16_changed.QT} {Q:carlinglaw16_changed.RT} (hX_l0:Rd R_carlingref16_Change X_l0 a_l0 n_l0 c_l0 l0) (I:Inv h (X_l0::A)) (H:carlinglaw16_changed l0 Q')
    (k:carlinglaw16_changed.kt ρ X_l0 A Q' Q):Tx.carlinglaw16_changed ρ ⟨a_l0,n_l0,c_l0⟩ h Q:=by
  obtain rfl:=rd_len hX_l0 I
  unfold Tx.carlinglaw16_changed
  unfold carlinglaw16_changed at H
  replace I:=I.nilO R_commit_Change
  replace I:=I.pull1
  exact carlinglaw16_changed.L1_r (c:= {carlinglaw16_changed.v0 with out3:=([]:List commit_Change),v6:=l0,v7:=(l0.length:Int),v8:=(0:Int)}) (w:= {carlinglaw16_changed.w0 with a_out3:=none,c_out3:=0,a_v6:=a_l0,c_v6:=c_l0}) ⟨hX_l0,I⟩ H k
namespace carlingref16_pages
structure V where
  l0:List carlingref16_Change
  out3:List Int
  i4:Int
structure W where
  a_l0:Option Addr
  c_l0:Nat
  a_out3:Option Addr
  c_out3:Nat
def v0:V:=⟨[],[],0⟩
def w0:W:=⟨none,0,none,0⟩
abbrev QT:=(List Int)→Prop
abbrev RT:=Sl→Hp→Prop
def kt (ρ:Ids) (X_l0:At) (A:List At) (Q':QT) (Q:RT):Prop:=
  ∀ (r0:List Int) (ra0:Option Addr) (rc0:Nat) (h':Hp),Inv h' (ownS (rI .i64) ra0 r0.length rc0 r0::X_l0::A)→Q' r0→Q ⟨ra0,r0.length,rc0⟩ h'
def I1 (ρ:Ids) (X_l0:At) (c:V) (w:W) (A:List At) (h:Hp):Prop:=
  Rd R_carlingref16_Change X_l0 w.a_l0 c.l0.length w.c_l0 c.l0∧Inv h (X_l0::ownS (rI .i64) w.a_out3 c.out3.length w.c_out3 c.out3::A)
abbrev Y1:=Sl→Sl→Int→Hp→Prop
abbrev T1 (X_l0:At) (S:Y1) (c:V) (w:W) (h:Hp):Prop:=S ⟨w.a_l0,c.l0.length,w.c_l0⟩ ⟨w.a_out3,c.out3.length,w.c_out3⟩ c.i4 h
def k1t (ρ:Ids) (X_l0:At) (A:List At) (S':V→Prop) (S:Y1):Prop:= ∀ (c:V) (w:W) (h:Hp),I1 ρ X_l0 c w A h→S' c→T1 X_l0 S c w h
variable {X_l0:At} {c:V} {w:W} {Q':QT} {Q:RT} {S1':V→Prop} {S1:Y1}
def B1 (S1:V→Prop) (Q:QT) (c:V):Prop:=
  br (decide (c.i4<(c.l0.length:Int)))
  (ixP c.l0 c.i4 fun x_5=>
  (Bnd (c.out3.length+([x_5.Page]).length))∧
  S1 {c with out3:=(c.out3++[x_5.Page]),i4:=(IntKind.wrap .i64 (c.i4+(1:Int)))})
  (Q c.out3)
def L1 (Q:QT) (c:V):Prop:=Lf (fun S=>B1 S Q) c
theorem L1_in {Q:QT} {c:V} (H:B1 (L1 Q) Q c):L1 Q c:=Lf.fold H
theorem B1_r (I:I1 ρ X_l0 c w A h) (H:B1 S1' Q' c) (kS1:k1t ρ X_l0 A S1' S1) (k:kt ρ X_l0 A Q' Q):T1 X_l0 (Tx.carlingref16_pages_B1 ρ S1 Q) c w h:=by
  obtain ⟨hX_l0,I⟩:=I
  unfold T1 Tx.carlingref16_pages_B1
  unfold B1 at H
  refine br_r H (fun hb H=> ?_) (fun hb H=> ?_)
  · refine ixcarlingref16_Change hX_l0 I H fun p_6 x_5 a_11 c_12 he_7 hb_8 hc_9 hc_10 I H => ?_
    refine ldI_r hc_9 ?_
    refine al_r [.one (.int .i64 x_5.Page)] rfl I fun p_14 h I=> ?_
    replace I:=I.litN (rI .i64)
    replace I:=I.repI (k:= .i64) x_5.Page
    replace I:=I.pull1.pull1
    replace I:=I.litC
    replace I:=I.pull1.pull1
    replace I:=Inv.litL (l:=[x_5.Page]) I rfl rfl
    refine ap_r rd_own I.pull3 rfl (by decide) (by decide) H.1 fun a_19 c_20 h I=> ?_
    replace H:=H.2
    replace I:=I.pull1.drop1
    replace I:=I.pull1.drop1
    replace I:=I.pull1
    exact kS1 {c with out3:=(c.out3++[x_5.Page]),i4:=(IntKind.wrap .i64 (c.i4+(1:Int)))} {w with a_out3:=a_19,c_out3:=c_20} _ ⟨hX_l0,I⟩ H
  · replace I := I.pull1
    exact k c.out3 w.a_out3 w.c_out3 _ I H
theorem L1_r (I:I1 ρ X_l0 c w A h) (H:L1 Q' c) (k:kt ρ X_l0 A Q' Q):T1 X_l0 (Tx.carlingref16_pages_L1 ρ Q) c w h:=by
  refine Lf.ind H (fun v=> ∀ (w:W) (h:Hp),I1 ρ X_l0 v w A h→T1 X_l0 (Tx.carlingref16_pages_L1 ρ Q) v w h) ?_ w h I
  rintro c S hS HB w h I
  refine Tx.carlingref16_pages_L1_in _ _ _ _ _ _ ?_
  try simp only [nrm_v]
  exact B1_r (c:=c) (w:=w) I HB (fun c w h I H=>hS _ H w h I) k
end carlingref16_pages
def carlingref16_pages (l0:List carlingref16_Change) (Q:carlingref16_pages.QT):Prop:=
  carlingref16_pages.L1 Q {carlingref16_pages.v0 with l0:=l0,out3:=([]:List Int),i4:=(0:Int)}
theorem carlingref16_pages_r {l0:List carlingref16_Change} {a_l0:Option Addr} {c_l0:Nat} {n_l0:Nat} {X_l0:At} {Q':carlingref16_pages.QT} {Q:carlingref16_pages.RT} (hX_l0:Rd R_carlingref16_Change X_l0 a_l0 n_l0 c_l0 l0) (I:Inv h (X_l0::A)) (H:carlingref16_pages l0 Q')
    (k:carlingref16_pages.kt ρ X_l0 A Q' Q):Tx.carlingref16_pages ρ ⟨a_l0,n_l0,c_l0⟩ h Q:=by
  obtain rfl:=rd_len hX_l0 I
  unfold Tx.carlingref16_pages
  unfold carlingref16_pages at H
  replace I:=I.nilO (rI .i64)
  replace I:=I.pull1
  exact carlingref16_pages.L1_r (c:= {carlingref16_pages.v0 with l0:=l0,out3:=([]:List Int),i4:=(0:Int)}) (w:= {carlingref16_pages.w0 with a_l0:=a_l0,c_l0:=c_l0,a_out3:=none,c_out3:=0}) ⟨hX_l0,I⟩ H k
def carlingref16_right (r0:carlingref09_Ref) (Q:Bool→Prop):Prop:=
  br (r0.Place==(0:Int))
  (Q true)
  (Q (r0.Place==(1:Int)))
theorem carlingref16_right_r {r0:carlingref09_Ref} {Q':Bool→Prop} {Q:Bool→Hp→Prop} (I:Inv h (A)) (H:carlingref16_right r0 Q')
    (k: ∀ (r0:Bool) (h':Hp),Inv h' (A)→Q' r0→Q r0 h'):Tx.carlingref16_right ρ r0.Place r0.Epoch r0.Digest.toList h Q:=by
  unfold Tx.carlingref16_right
  unfold carlingref16_right at H
  try simp only [nrm_v]
  refine al_r [.one (.int .i64 r0.Place), .one (.int .u32 r0.Epoch), .vec .u8 32 r0.Digest] rfl I fun p_1 h I=> ?_
  refine ldI_r (I.cell 0 0 rfl) ?_
  refine br_r H (fun hb H=> ?_) (fun hb H=> ?_)
  · replace I := I.drop1
    exact k true _ I H
  · refine ldI_r (I.cell 0 0 rfl) ?_
    replace I:=I.drop1
    exact k (r0.Place==(1:Int)) _ I H
namespace carlingref16_May
structure V where
  l1:List carlingref16_Node
  c2:List carlingref16_Change
  s3:carlingref12_Shape
  i7:Int
  v61:Bool
  need8:List Int
  i9:Int
  refs10:List carlingref09_Ref
  v94:Bool
  k12:Int
structure W where
  a_l1:Option Addr
  c_l1:Nat
  a_c2:Option Addr
  c_c2:Nat
  p_s3:Addr
  a_s3_1:Option Addr
  c_s3_1:Nat
  a_s3_2:Option Addr
  c_s3_2:Nat
  a_need8:Option Addr
  c_need8:Nat
  a_refs10:Option Addr
  c_refs10:Nat
def v0:V:=⟨[],[],(⟨(0:Int),[],[]⟩:carlingref12_Shape),0,false,[],0,[],false,0⟩
def w0:W:=⟨none,0,none,0,⟨0,0,none⟩,none,0,none,0,none,0,none,0⟩
abbrev QT:=Bool→Prop
abbrev RT:=Bool→Hp→Prop
def kt (ρ:Ids) (X_l1:At) (X_c2:At) (A:List At) (Q':QT) (Q:RT):Prop:=
  ∀ (r0:Bool) (h':Hp),Inv h' (X_l1::X_c2::A)→Q' r0→Q r0 h'
def I1 (ρ:Ids) (X_l1:At) (X_c2:At) (c:V) (w:W) (A:List At) (h:Hp):Prop:=
  Rd R_carlingref16_Node X_l1 w.a_l1 c.l1.length w.c_l1 c.l1∧Rd R_carlingref16_Change X_c2 w.a_c2 c.c2.length w.c_c2 c.c2∧Inv h (X_l1::X_c2::blk w.p_s3 (ρ.T 12) [.one (.int .i64 c.s3.P), .one (.slice w.a_s3_1 c.s3.Level.length w.c_s3_1), .one (.slice w.a_s3_2 c.s3.First.length w.c_s3_2)]::roS (rI .i64) w.a_s3_1 c.s3.Level.length w.c_s3_1 c.s3.Level::roS (rI .i64) w.a_s3_2 c.s3.First.length w.c_s3_2 c.s3.First::A)
abbrev Y1:=Sl→Sl→Addr→Int→Hp→Prop
abbrev T1 (X_l1:At) (X_c2:At) (S:Y1) (c:V) (w:W) (h:Hp):Prop:=S ⟨w.a_l1,c.l1.length,w.c_l1⟩ ⟨w.a_c2,c.c2.length,w.c_c2⟩ w.p_s3 c.i7 h
def k1t (ρ:Ids) (X_l1:At) (X_c2:At) (A:List At) (S':V→Prop) (S:Y1):Prop:= ∀ (c:V) (w:W) (h:Hp),I1 ρ X_l1 X_c2 c w A h→S' c→T1 X_l1 X_c2 S c w h
def I2 (ρ:Ids) (X_l1:At) (X_c2:At) (c:V) (w:W) (A:List At) (h:Hp):Prop:=
  Rd R_carlingref16_Node X_l1 w.a_l1 c.l1.length w.c_l1 c.l1∧Rd R_carlingref16_Change X_c2 w.a_c2 c.c2.length w.c_c2 c.c2∧Inv h (X_l1::X_c2::blk w.p_s3 (ρ.T 12) [.one (.int .i64 c.s3.P), .one (.slice w.a_s3_1 c.s3.Level.length w.c_s3_1), .one (.slice w.a_s3_2 c.s3.First.length w.c_s3_2)]::roS (rI .i64) w.a_s3_1 c.s3.Level.length w.c_s3_1 c.s3.Level::roS (rI .i64) w.a_s3_2 c.s3.First.length w.c_s3_2 c.s3.First::A)
def I3 (ρ:Ids) (X_l1:At) (X_c2:At) (c:V) (w:W) (A:List At) (h:Hp):Prop:=
  Rd R_carlingref16_Node X_l1 w.a_l1 c.l1.length w.c_l1 c.l1∧Inv h (X_l1::X_c2::blk w.p_s3 (ρ.T 12) [.one (.int .i64 c.s3.P), .one (.slice w.a_s3_1 c.s3.Level.length w.c_s3_1), .one (.slice w.a_s3_2 c.s3.First.length w.c_s3_2)]::roS (rI .i64) w.a_s3_1 c.s3.Level.length w.c_s3_1 c.s3.Level::roS (rI .i64) w.a_s3_2 c.s3.First.length w.c_s3_2 c.s3.First::ownS (rI .i64) w.a_need8 c.need8.length w.c_need8 c.need8::A)
abbrev Y3:=Sl→Addr→Sl→Int→Hp→Prop
abbrev T3 (X_l1:At) (X_c2:At) (S:Y3) (c:V) (w:W) (h:Hp):Prop:=S ⟨w.a_l1,c.l1.length,w.c_l1⟩ w.p_s3 ⟨w.a_need8,c.need8.length,w.c_need8⟩ c.i9 h
def k3t (ρ:Ids) (X_l1:At) (X_c2:At) (A:List At) (S':V→Prop) (S:Y3):Prop:= ∀ (c:V) (w:W) (h:Hp),I3 ρ X_l1 X_c2 c w A h→S' c→T3 X_l1 X_c2 S c w h
def I4 (ρ:Ids) (X_l1:At) (X_c2:At) (c:V) (w:W) (A:List At) (h:Hp):Prop:=
  Rd R_carlingref16_Node X_l1 w.a_l1 c.l1.length w.c_l1 c.l1∧Inv h (X_l1::X_c2::blk w.p_s3 (ρ.T 12) [.one (.int .i64 c.s3.P), .one (.slice w.a_s3_1 c.s3.Level.length w.c_s3_1), .one (.slice w.a_s3_2 c.s3.First.length w.c_s3_2)]::roS (rI .i64) w.a_s3_1 c.s3.Level.length w.c_s3_1 c.s3.Level::roS (rI .i64) w.a_s3_2 c.s3.First.length w.c_s3_2 c.s3.First::ownS (rI .i64) w.a_need8 c.need8.length w.c_need8 c.need8::roS R_carlingref09_Ref w.a_refs10 c.refs10.length w.c_refs10 c.refs10::A)
def I5 (ρ:Ids) (X_l1:At) (X_c2:At) (c:V) (w:W) (A:List At) (h:Hp):Prop:=
  Rd R_carlingref16_Node X_l1 w.a_l1 c.l1.length w.c_l1 c.l1∧Inv h (X_l1::X_c2::blk w.p_s3 (ρ.T 12) [.one (.int .i64 c.s3.P), .one (.slice w.a_s3_1 c.s3.Level.length w.c_s3_1), .one (.slice w.a_s3_2 c.s3.First.length w.c_s3_2)]::roS (rI .i64) w.a_s3_1 c.s3.Level.length w.c_s3_1 c.s3.Level::roS (rI .i64) w.a_s3_2 c.s3.First.length w.c_s3_2 c.s3.First::ownS (rI .i64) w.a_need8 c.need8.length w.c_need8 c.need8::roS R_carlingref09_Ref w.a_refs10 c.refs10.length w.c_refs10 c.refs10::A)
abbrev Y5:=Sl→Addr→Sl→Int→Sl→Int→Hp→Prop
abbrev T5 (X_l1:At) (X_c2:At) (S:Y5) (c:V) (w:W) (h:Hp):Prop:=S ⟨w.a_l1,c.l1.length,w.c_l1⟩ w.p_s3 ⟨w.a_need8,c.need8.length,w.c_need8⟩ c.i9 ⟨w.a_refs10,c.refs10.length,w.c_refs10⟩ c.k12 h
def k5t (ρ:Ids) (X_l1:At) (X_c2:At) (A:List At) (S':V→Prop) (S:Y5):Prop:= ∀ (c:V) (w:W) (h:Hp),I5 ρ X_l1 X_c2 c w A h→S' c→T5 X_l1 X_c2 S c w h
variable {X_l1 X_c2:At} {c:V} {w:W} {Q':QT} {Q:RT} {S1' S3' S5':V→Prop} {S1:Y1} {S3:Y3} {S5:Y5}
def K2 (S1:V→Prop) (Q:QT) (c:V):Prop:=
  br c.v61
  (Q false)
  (S1 {c with i7:=(IntKind.wrap .i64 (c.i7+(1:Int)))})
theorem K2_r (I:I2 ρ X_l1 X_c2 c w A h) (H:K2 S1' Q' c) (kS1:k1t ρ X_l1 X_c2 A S1' S1) (k:kt ρ X_l1 X_c2 A Q' Q):Tx.carlingref16_May_K2 ρ S1 Q ⟨w.a_l1,c.l1.length,w.c_l1⟩ ⟨w.a_c2,c.c2.length,w.c_c2⟩ w.p_s3 c.i7 c.v61 h:=by
  obtain ⟨hX_l1,hX_c2,I⟩:=I
  unfold Tx.carlingref16_May_K2
  unfold K2 at H
  refine br_r H (fun hb H=> ?_) (fun hb H=> ?_)
  · replace I := I.pull2.drop1
    replace I:=I.pull2.drop1
    replace I:=I.pull2.drop1
    replace I:=I.pull1.pull1
    exact k false _ I H
  · replace I := I.pull3.dupR
    replace I:=I.pull5.dupR
    replace I:=I.pull1.drop1
    replace I:=I.pull2.drop1
    replace I:=I.pull1.pull4.pull4.pull4
    exact kS1 {c with i7:=(IntKind.wrap .i64 (c.i7+(1:Int)))} w _ ⟨hX_l1,hX_c2,I⟩ H
def B5 (S3:V→Prop) (S5:V→Prop) (Q:QT) (c:V):Prop:=
  br (decide (c.k12<(c.refs10.length:Int)))
  (ixP c.refs10 c.k12 fun x_149=>
  carlingref16_right x_149 fun r_157=>
  br (!r_157)
  (Q false)
  (S5 {c with k12:=(IntKind.wrap .i64 (c.k12+(1:Int)))}))
  (S3 {c with i9:=(IntKind.wrap .i64 (c.i9+(1:Int)))})
def L5 (S3:V→Prop) (Q:QT) (c:V):Prop:=Lf (fun S=>B5 S3 S Q) c
theorem L5_in (S3:V→Prop) {Q:QT} {c:V} (H:B5 S3 (L5 S3 Q) Q c):L5 S3 Q c:=Lf.fold H
theorem B5_r (I:I5 ρ X_l1 X_c2 c w A h) (H:B5 S3' S5' Q' c) (kS3:k3t ρ X_l1 X_c2 A S3' S3) (kS5:k5t ρ X_l1 X_c2 A S5' S5) (k:kt ρ X_l1 X_c2 A Q' Q):T5 X_l1 X_c2 (Tx.carlingref16_May_B5 ρ S3 S5 Q) c w h:=by
  obtain ⟨hX_l1,I⟩:=I
  unfold T5 Tx.carlingref16_May_B5
  unfold B5 at H
  refine br_r H (fun hb H=> ?_) (fun hb H=> ?_)
  · refine ixcarlingref09_Ref rd_ro I.pull6 (ixP_keep H) fun p_150 x_149 he_151 hb_152 hc_153 hc_154 hc_155 I H => ?_
    obtain ⟨hg_156,H⟩:=H
    refine ldI_r hc_153 ?_
    refine ldI_r hc_154 ?_
    refine ldL_r hc_155 ?_
    try simp only [nrm_v]
    try simp only [nrm_v]
    refine carlingref16_right_r (r0:=x_149) I H fun r_157 h I H=> ?_
    refine br_r H (fun hb H=> ?_) (fun hb H=> ?_)
    · replace I := I.drop1
      replace I:=I.pull2.drop1
      replace I:=I.pull2.drop1
      replace I:=I.pull2.drop1
      replace I:=I.pull2.drop1
      replace I:=I.pull1.pull1
      exact k false _ I H
    · replace I := I.pull4.dupR
      replace I:=I.pull6.dupR
      replace I:=I.pull4.dupR
      replace I:=I.pull1.drop1
      replace I:=I.pull2.drop1
      replace I:=I.pull3.drop1
      replace I:=I.pull6.pull2.pull3.pull6.pull6.pull6
      exact kS5 {c with k12:=(IntKind.wrap .i64 (c.k12+(1:Int)))} w _ ⟨hX_l1,I⟩ H
  · replace I := I.pull3.dupR
    replace I:=I.pull5.dupR
    replace I:=I.pull1.drop1
    replace I:=I.pull2.drop1
    replace I:=I.pull6.drop1
    replace I:=I.pull5.pull1.pull2.pull5.pull5.pull5
    exact kS3 {c with i9:=(IntKind.wrap .i64 (c.i9+(1:Int)))} w _ ⟨hX_l1,I⟩ H
theorem L5_r (I:I5 ρ X_l1 X_c2 c w A h) (H:L5 S3' Q' c) (kS3:k3t ρ X_l1 X_c2 A S3' S3) (k:kt ρ X_l1 X_c2 A Q' Q):T5 X_l1 X_c2 (Tx.carlingref16_May_L5 ρ S3 Q) c w h:=by
  refine Lf.ind H (fun v=> ∀ (w:W) (h:Hp),I5 ρ X_l1 X_c2 v w A h→T5 X_l1 X_c2 (Tx.carlingref16_May_L5 ρ S3 Q) v w h) ?_ w h I
  rintro c S hS HB w h I
  refine Tx.carlingref16_May_L5_in _ _ _ _ _ _ _ _ _ _ ?_
  try simp only [nrm_v]
  exact B5_r (c:=c) (w:=w) I HB kS3 (fun c w h I H=>hS _ H w h I) k
def K4 (S3:V→Prop) (Q:QT) (c:V):Prop:=
  br c.v94
  (Q false)
  (L5 S3 Q {c with k12:=(0:Int)})
theorem K4_r (I:I4 ρ X_l1 X_c2 c w A h) (H:K4 S3' Q' c) (kS3:k3t ρ X_l1 X_c2 A S3' S3) (k:kt ρ X_l1 X_c2 A Q' Q):Tx.carlingref16_May_K4 ρ S3 Q ⟨w.a_l1,c.l1.length,w.c_l1⟩ w.p_s3 ⟨w.a_need8,c.need8.length,w.c_need8⟩ c.i9 ⟨w.a_refs10,c.refs10.length,w.c_refs10⟩ c.v94 h:=by
  obtain ⟨hX_l1,I⟩:=I
  unfold Tx.carlingref16_May_K4
  unfold K4 at H
  refine br_r H (fun hb H=> ?_) (fun hb H=> ?_)
  · replace I := I.pull2.drop1
    replace I:=I.pull2.drop1
    replace I:=I.pull2.drop1
    replace I:=I.pull2.drop1
    replace I:=I.pull2.drop1
    replace I:=I.pull1.pull1
    exact k false _ I H
  · replace I := I.pull3.dupR
    replace I:=I.pull5.dupR
    replace I:=I.pull8.dupR
    replace I:=I.pull1.drop1
    replace I:=I.pull2.drop1
    replace I:=I.pull3.drop1
    replace I:=I.pull6.pull2.pull3.pull6.pull6.pull6
    exact L5_r (c:= {c with k12:=(0:Int)}) (w:=w) ⟨hX_l1,I⟩ H kS3 k
def B3 (S3:V→Prop) (Q:QT) (c:V):Prop:=
  br (decide (c.i9<(c.need8.length:Int)))
  (ixP c.need8 c.i9 fun x_103=>
  carlingref16_Find c.l1 x_103 fun r_109 r_112=>
  br (!r_112)
  (K4 S3 Q {c with refs10:=r_109,v94:=true})
  (ixP c.need8 c.i9 fun x_117=>
  carlingref12_Shape_Kids c.s3 x_117 fun r_125=>
  K4 S3 Q {c with refs10:=r_109,v94:=((r_109.length:Int) !=(r_125.length:Int))}))
  (Q true)
def L3 (Q:QT) (c:V):Prop:=Lf (fun S=>B3 S Q) c
theorem L3_in {Q:QT} {c:V} (H:B3 (L3 Q) Q c):L3 Q c:=Lf.fold H
theorem B3_r (I:I3 ρ X_l1 X_c2 c w A h) (H:B3 S3' Q' c) (kS3:k3t ρ X_l1 X_c2 A S3' S3) (k:kt ρ X_l1 X_c2 A Q' Q):T3 X_l1 X_c2 (Tx.carlingref16_May_B3 ρ S3 Q) c w h:=by
  obtain ⟨hX_l1,I⟩:=I
  unfold T3 Tx.carlingref16_May_B3
  unfold B3 at H
  refine br_r H (fun hb H=> ?_) (fun hb H=> ?_)
  · refine ixI_a rd_own I.pull5 (ixP_keep H) fun p_104 x_103 he_105 hb_106 hc_107 H => ?_
    obtain ⟨hg_108,H⟩:=H
    refine ldI_r hc_107 ?_
    refine carlingref16_Find_r (l0:=c.l1) (item1:=x_103) hX_l1 I H fun r_109 a_110 c_111 r_112 h I H=> ?_
    refine br_r H (fun hb H=> ?_) (fun hb H=> ?_)
    · replace I := I.pull4.dupR
      replace I:=I.pull6.dupR
      replace I:=I.pull4.dupR
      replace I:=I.pull1.drop1
      replace I:=I.pull2.drop1
      replace I:=I.pull3.drop1
      replace I:=I.pull6.pull2.pull3.pull6.pull6.pull6
      exact K4_r (c:= {c with refs10:=r_109,v94:=true}) (w:= {w with a_refs10:=a_110,c_refs10:=c_111}) ⟨hX_l1,I⟩ H kS3 k
    · refine ldI_r (I.pull3.cell 0 0 rfl) ?_
      refine ldS_r (I.pull3.cell 1 1 rfl) ?_
      refine ldS_r (I.pull3.cell 2 2 rfl) ?_
      refine ixI_a rd_own I.pull6 (ixP_keep H) fun p_118 x_117 he_119 hb_120 hc_121 H=> ?_
      obtain ⟨hg_122,H⟩:=H
      refine ldI_r hc_121 ?_
      replace I:=I.pull4.dupR
      replace I:=I.pull6.dupR
      replace I:=I.pull2
      try simp only [nrm_v]
      refine carlingref12_Shape_Kids_r (s0:=c.s3) (item1:=x_117) I H fun r_125 a_126 c_127 h I H=> ?_
      refine ⟨trivial, ?_⟩
      replace I:=I.pull2.dupR
      replace I:=I.pull3.dupR
      replace I:=I.pull5.dupR
      replace I:=I.pull1.drop1
      replace I:=I.pull2.drop1
      replace I:=I.pull3.drop1
      replace I:=I.pull3.drop1
      replace I:=I.pull6.pull2.pull3.pull6.pull6.pull6
      exact K4_r (c:= {c with refs10:=r_109,v94:=((r_109.length:Int) !=(r_125.length:Int))}) (w:= {w with a_refs10:=a_110,c_refs10:=c_111}) ⟨hX_l1,I⟩ H kS3 k
  · replace I := I.pull2.drop1
    replace I:=I.pull2.drop1
    replace I:=I.pull2.drop1
    replace I:=I.pull2.drop1
    replace I:=I.pull1.pull1
    exact k true _ I H
theorem L3_r (I:I3 ρ X_l1 X_c2 c w A h) (H:L3 Q' c) (k:kt ρ X_l1 X_c2 A Q' Q):T3 X_l1 X_c2 (Tx.carlingref16_May_L3 ρ Q) c w h:=by
  refine Lf.ind H (fun v=> ∀ (w:W) (h:Hp),I3 ρ X_l1 X_c2 v w A h→T3 X_l1 X_c2 (Tx.carlingref16_May_L3 ρ Q) v w h) ?_ w h I
  rintro c S hS HB w h I
  refine Tx.carlingref16_May_L3_in _ _ _ _ _ _ _ ?_
  try simp only [nrm_v]
  exact B3_r (c:=c) (w:=w) I HB (fun c w h I H=>hS _ H w h I) k
def B1 (S1:V→Prop) (Q:QT) (c:V):Prop:=
  br (decide (c.i7<(c.c2.length:Int)))
  (ixP c.c2 c.i7 fun x_14=>
  br (decide (x_14.Page<(0:Int)))
  (K2 S1 Q {c with v61:=true})
  (ixP c.c2 c.i7 fun x_25=>
  br (decide (x_25.Page≥c.s3.P))
  (K2 S1 Q {c with v61:=true})
  (br (decide (c.i7>(0:Int)))
  (ixP c.c2 (IntKind.wrap .i64 (c.i7 - (1:Int))) fun x_36=>
  ixP c.c2 c.i7 fun x_45=>
  br (decide (x_36.Page≥x_45.Page))
  (K2 S1 Q {c with v61:=true})
  (ixP c.c2 c.i7 fun x_56=>
  K2 S1 Q {c with v61:=((x_56.Bytes.length:Int) !=(256:Int))}))
  (ixP c.c2 c.i7 fun x_67=>
  K2 S1 Q {c with v61:=((x_67.Bytes.length:Int) !=(256:Int))}))))
  (carlingref16_pages c.c2 fun r_78=>
  carlingref16_Need c.s3 r_78 fun r_84=>
  L3 Q {c with need8:=r_84,i9:=(0:Int)})
def L1 (Q:QT) (c:V):Prop:=Lf (fun S=>B1 S Q) c
theorem L1_in {Q:QT} {c:V} (H:B1 (L1 Q) Q c):L1 Q c:=Lf.fold H
theorem B1_r (I : I1 ρ X_l1 X_c2 c w A h) (H : B1 S1' Q' c) (kS1 : k1t ρ X_l1 X_c2 A S1' S1) (k : kt ρ X_l1 X_c2 A Q' Q) : T1 X_l1 X_c2 (Tx.carlingref16_May_B1 ρ S1 Q) c w h := by
  obtain ⟨hX_l1,hX_c2,I⟩:=I
  unfold T1 Tx.carlingref16_May_B1
  unfold B1 at H
  refine br_r H (fun hb H=> ?_) (fun hb H=> ?_)
  · refine ixcarlingref16_Change hX_c2 I.pull1 H fun p_15 x_14 a_20 c_21 he_16 hb_17 hc_18 hc_19 I H => ?_
    refine ldI_r hc_18 ?_
    refine br_r H (fun hb H=> ?_) (fun hb H=> ?_)
    · replace I := I.pull4.dupR
      replace I:=I.pull6.dupR
      replace I:=I.pull1.drop1
      replace I:=I.pull2.drop1
      replace I:=I.pull2.drop1
      replace I:=I.pull1.pull4.pull3.pull4
      exact K2_r (c:= {c with v61:=true}) (w:=w) ⟨hX_l1,hX_c2,I⟩ H kS1 k
    · refine ixcarlingref16_Change hX_c2 I.pull1 H fun p_26 x_25 a_31 c_32 he_27 hb_28 hc_29 hc_30 I H => ?_
      refine ldI_r hc_29 ?_
      refine ldI_r (I.pull4.cell 0 0 rfl) ?_
      refine br_r H (fun hb H=> ?_) (fun hb H=> ?_)
      · replace I := I.pull5.dupR
        replace I:=I.pull7.dupR
        replace I:=I.pull1.drop1
        replace I:=I.pull2.drop1
        replace I:=I.pull2.drop1
        replace I:=I.pull3.drop1
        replace I:=I.pull1.pull4.pull3.pull4
        exact K2_r (c:= {c with v61:=true}) (w:=w) ⟨hX_l1,hX_c2,I⟩ H kS1 k
      · refine br_r H (fun hb H => ?_) (fun hb H => ?_)
        · refine ixcarlingref16_Change hX_c2 I.pull1 H fun p_37 x_36 a_42 c_43 he_38 hb_39 hc_40 hc_41 I H => ?_
          refine ldI_r hc_40 ?_
          refine ixcarlingref16_Change hX_c2 I.pull1 H fun p_46 x_45 a_51 c_52 he_47 hb_48 hc_49 hc_50 I H=> ?_
          refine ldI_r hc_49 ?_
          refine br_r H (fun hb H=> ?_) (fun hb H=> ?_)
          · replace I := I.pull7.dupR
            replace I:=I.pull9.dupR
            replace I:=I.pull1.drop1
            replace I:=I.pull2.drop1
            replace I:=I.pull2.drop1
            replace I:=I.pull3.drop1
            replace I:=I.pull3.drop1
            replace I:=I.pull3.drop1
            replace I:=I.pull1.pull4.pull3.pull4
            exact K2_r (c:= {c with v61:=true}) (w:=w) ⟨hX_l1,hX_c2,I⟩ H kS1 k
          · refine ixcarlingref16_Change hX_c2 I.pull1 H fun p_57 x_56 a_62 c_63 he_58 hb_59 hc_60 hc_61 I H => ?_
            refine ldS_r hc_61 ?_
            replace I:=I.pull8.dupR
            replace I:=I.pull10.dupR
            replace I:=I.pull1.drop1
            replace I:=I.pull2.drop1
            replace I:=I.pull2.drop1
            replace I:=I.pull3.drop1
            replace I:=I.pull3.drop1
            replace I:=I.pull3.drop1
            replace I:=I.pull3.drop1
            replace I:=I.pull1.pull4.pull3.pull4
            exact K2_r (c:= {c with v61:=((x_56.Bytes.length:Int) !=(256:Int))}) (w:=w) ⟨hX_l1,hX_c2,I⟩ H kS1 k
        · refine ixcarlingref16_Change hX_c2 I.pull1 H fun p_68 x_67 a_73 c_74 he_69 hb_70 hc_71 hc_72 I H => ?_
          refine ldS_r hc_72 ?_
          replace I:=I.pull6.dupR
          replace I:=I.pull8.dupR
          replace I:=I.pull1.drop1
          replace I:=I.pull2.drop1
          replace I:=I.pull2.drop1
          replace I:=I.pull3.drop1
          replace I:=I.pull3.drop1
          replace I:=I.pull1.pull4.pull3.pull4
          exact K2_r (c:= {c with v61:=((x_67.Bytes.length:Int) !=(256:Int))}) (w:=w) ⟨hX_l1,hX_c2,I⟩ H kS1 k
  · refine ldI_r (I.pull2.cell 0 0 rfl) ?_
    refine ldS_r (I.pull2.cell 1 1 rfl) ?_
    refine ldS_r (I.pull2.cell 2 2 rfl) ?_
    replace I:=I.pull1
    refine carlingref16_pages_r (l0:=c.c2) hX_c2 I H fun r_78 a_79 c_80 h I H=> ?_
    refine ⟨⟨I.pull3.cell 0 0 rfl,I.pull3.cell 1 1 rfl,I.pull3.cell 2 2 rfl,trivial⟩, ?_⟩
    replace I:=I.pull4.dupR
    replace I:=I.pull6.dupR
    replace I:=I.pull4.pull1.pull3
    try simp only [nrm_v]
    refine carlingref16_Need_r (s0:=c.s3) (pages1:=r_78) rd_own I H fun r_84 a_85 c_86 h I H=> ?_
    replace I:=I.pull3.dupR
    replace I:=I.pull4.dupR
    replace I:=I.pull1.drop1
    replace I:=I.pull2.drop1
    replace I:=I.pull3.drop1
    replace I:=I.pull2.pull1.pull2.pull5.pull4.pull5
    exact L3_r (c:= {c with need8:=r_84,i9:=(0:Int)}) (w:= {w with a_need8:=a_85,c_need8:=c_86}) ⟨hX_l1,I⟩ H k
theorem L1_r (I:I1 ρ X_l1 X_c2 c w A h) (H:L1 Q' c) (k:kt ρ X_l1 X_c2 A Q' Q):T1 X_l1 X_c2 (Tx.carlingref16_May_L1 ρ Q) c w h:=by
  refine Lf.ind H (fun v=> ∀ (w:W) (h:Hp),I1 ρ X_l1 X_c2 v w A h→T1 X_l1 X_c2 (Tx.carlingref16_May_L1 ρ Q) v w h) ?_ w h I
  rintro c S hS HB w h I
  refine Tx.carlingref16_May_L1_in _ _ _ _ _ _ _ ?_
  try simp only [nrm_v]
  exact B1_r (c:=c) (w:=w) I HB (fun c w h I H=>hS _ H w h I) k
end carlingref16_May
def carlingref16_May (s0:carlingref12_Shape) (l1:List carlingref16_Node) (c2:List carlingref16_Change) (Q:carlingref16_May.QT):Prop:=
  carlingref16_May.L1 Q {carlingref16_May.v0 with l1:=l1,c2:=c2,s3:=s0,i7:=(0:Int)}
theorem carlingref16_May_r {s0:carlingref12_Shape} {l1:List carlingref16_Node} {c2:List carlingref16_Change} {a_s0_1:Option Addr} {c_s0_1:Nat} {n_s0_1:Nat} {a_s0_2:Option Addr} {c_s0_2:Nat} {n_s0_2:Nat} {a_l1:Option Addr} {c_l1:Nat} {n_l1:Nat} {X_l1:At} {a_c2:Option Addr} {c_c2:Nat} {n_c2:Nat} {X_c2:At} {Q':carlingref16_May.QT} {Q:carlingref16_May.RT} (hX_l1:Rd R_carlingref16_Node X_l1 a_l1 n_l1 c_l1 l1) (hX_c2:Rd R_carlingref16_Change X_c2 a_c2 n_c2 c_c2 c2) (I:Inv h (roS (rI .i64) a_s0_1 n_s0_1 c_s0_1 s0.Level::roS (rI .i64) a_s0_2 n_s0_2 c_s0_2 s0.First::X_l1::X_c2::A)) (H:carlingref16_May s0 l1 c2 Q')
    (k:carlingref16_May.kt ρ X_l1 X_c2 A Q' Q):Tx.carlingref16_May ρ s0.P ⟨a_s0_1,n_s0_1,c_s0_1⟩ ⟨a_s0_2,n_s0_2,c_s0_2⟩ ⟨a_l1,n_l1,c_l1⟩ ⟨a_c2,n_c2,c_c2⟩ h Q:=by
  obtain rfl:=ro_len I
  obtain rfl:=ro_len I.pull1
  obtain rfl:=rd_len hX_l1 I.pull2
  obtain rfl:=rd_len hX_c2 I.pull3
  unfold Tx.carlingref16_May
  unfold carlingref16_May at H
  refine al_r [.one (.int .i64 s0.P), .one (.slice a_s0_1 s0.Level.length c_s0_1), .one (.slice a_s0_2 s0.First.length c_s0_2)] rfl I fun p_5 h I=> ?_
  replace I:=I.pull1.dupR
  replace I:=I.pull3.dupR
  replace I:=I.pull1.drop1
  replace I:=I.pull2.drop1
  replace I:=I.pull1.pull2.pull4.pull4
  exact carlingref16_May.L1_r (c:= {carlingref16_May.v0 with l1:=l1,c2:=c2,s3:=s0,i7:=(0:Int)}) (w:= {carlingref16_May.w0 with a_l1:=a_l1,c_l1:=c_l1,a_c2:=a_c2,c_c2:=c_c2,p_s3:=p_5,a_s3_1:=a_s0_1,c_s3_1:=c_s0_1,a_s3_2:=a_s0_2,c_s3_2:=c_s0_2}) ⟨hX_l1,hX_c2,I⟩ H k
namespace carlinglaw16_full
structure V where
  out3:List carlingref16_Change
  v7:List carlingref16_Change
  v8:Int
  v9:Int
structure W where
  a_out3:Option Addr
  c_out3:Nat
  a_v7:Option Addr
  c_v7:Nat
def v0:V:=⟨[],[],0,0⟩
def w0:W:=⟨none,0,none,0⟩
abbrev QT:=(List carlingref16_Change)→Prop
abbrev RT:=Sl→Hp→Prop
def kt (ρ:Ids) (X_l0:At) (A:List At) (Q':QT) (Q:RT):Prop:=
  ∀ (r0:List carlingref16_Change) (ra0:Option Addr) (rc0:Nat) (h':Hp),Inv h' (ownS R_carlingref16_Change ra0 r0.length rc0 r0::X_l0::A)→Q' r0→Q ⟨ra0,r0.length,rc0⟩ h'
def I1 (ρ:Ids) (X_l0:At) (c:V) (w:W) (A:List At) (h:Hp):Prop:=
  Rd R_carlingref16_Change X_l0 w.a_v7 c.v7.length w.c_v7 c.v7∧Inv h (X_l0::ownS R_carlingref16_Change w.a_out3 c.out3.length w.c_out3 c.out3::A)
abbrev Y1:=Sl→Sl→Int→Int→Hp→Prop
abbrev T1 (X_l0:At) (S:Y1) (c:V) (w:W) (h:Hp):Prop:=S ⟨w.a_out3,c.out3.length,w.c_out3⟩ ⟨w.a_v7,c.v7.length,w.c_v7⟩ c.v8 c.v9 h
def k1t (ρ:Ids) (X_l0:At) (A:List At) (S':V→Prop) (S:Y1):Prop:= ∀ (c:V) (w:W) (h:Hp),I1 ρ X_l0 c w A h→S' c→T1 X_l0 S c w h
variable {X_l0:At} {c:V} {w:W} {Q':QT} {Q:RT} {S1':V→Prop} {S1:Y1}
def B1 (S1:V→Prop) (Q:QT) (c:V):Prop:=
  br (decide (c.v9<c.v8))
  (ixP c.v7 c.v9 fun x_5=>
  (Bnd (c.out3.length+([(⟨x_5.Page,(cpL (List.replicate (Int.toNat (256:Int)) (0:Int)) x_5.Bytes)⟩:carlingref16_Change)]).length))∧
  S1 {c with out3:=(c.out3++[(⟨x_5.Page,(cpL (List.replicate (Int.toNat (256:Int)) (0:Int)) x_5.Bytes)⟩:carlingref16_Change)]),v9:=(IntKind.wrap .i64 (c.v9+(1:Int)))})
  (Q c.out3)
def L1 (Q:QT) (c:V):Prop:=Lf (fun S=>B1 S Q) c
theorem L1_in {Q:QT} {c:V} (H:B1 (L1 Q) Q c):L1 Q c:=Lf.fold H
theorem B1_r (I:I1 ρ X_l0 c w A h) (H:B1 S1' Q' c) (kS1:k1t ρ X_l0 A S1' S1) (k:kt ρ X_l0 A Q' Q):T1 X_l0 (Tx.carlinglaw16_full_B1 ρ S1 Q) c w h:=by
  obtain ⟨hX_v7,I⟩:=I
  unfold T1 Tx.carlinglaw16_full_B1
  unfold B1 at H
  refine br_r H (fun hb H=> ?_) (fun hb H=> ?_)
  · refine ixcarlingref16_Change hX_v7 I H fun p_6 x_5 a_11 c_12 he_7 hb_8 hc_9 hc_10 I H => ?_
    refine ldI_r hc_9 ?_
    refine ldS_r hc_10 ?_
    refine al_r [.one (.int .i64 (0:Int)), .one (.slice none 0 0)] rfl I fun p_14 h I=> ?_
    refine stA_r I 0 2 0 [.one (.int .i64 x_5.Page), .one (.slice a_11 x_5.Bytes.length c_12)] rfl rfl rfl (by first | exact all_segs rfl | exact all_one (by simp [segs,Seg.cells,allOne,allOne_append,allOne_lump,Value.oneCell'])) fun h (I:Inv h (blk p_14 (ρ.T 13) [.one (.int .i64 x_5.Page), .one (.slice a_11 x_5.Bytes.length c_12)]::_))=> ?_
    refine mk_r (E:=(rI .u8)) (z0:=(0:Int)) I (fun _ _=>rfl) (by decide) ⟨by decide,by decide⟩ fun a_16 c_17 h I=> ?_
    refine ldS_r (I.pull1.cell 1 1 rfl) ?_
    refine cp_r rd_ro I.pull2.pull1 fun h I=> ?_
    refine ldI_r (I.pull2.cell 0 0 rfl) ?_
    refine al_r [.one (.int .i64 x_5.Page), .one (.slice a_16 (List.replicate (Int.toNat (256:Int)) (0:Int)).length c_17)] rfl I fun p_19 h I=> ?_
    replace I:=I.litN R_carlingref16_Change
    replace I:=I.pull2.freeze
    replace I:=I.dupR
    replace I:=mcarlingref16_Change (⟨x_5.Page,(cpL (List.replicate (Int.toNat (256:Int)) (0:Int)) x_5.Bytes)⟩:carlingref16_Change) I
    replace I:=I.pull2.pull1
    replace I:=I.litC
    replace I:=I.pull2.pull1
    replace I:=Inv.litL (l:=[(⟨x_5.Page,(cpL (List.replicate (Int.toNat (256:Int)) (0:Int)) x_5.Bytes)⟩:carlingref16_Change)]) I rfl rfl
    refine ap_r rd_own I.pull5 rfl (by decide) (by decide) H.1 fun a_25 c_26 h I=> ?_
    replace H:=H.2
    replace I:=I.pull1.drop1
    replace I:=I.pull1.drop1
    replace I:=I.pull1.drop1
    replace I:=I.pull1.drop1
    replace I:=I.pull1
    exact kS1 {c with out3:=(c.out3++[(⟨x_5.Page,(cpL (List.replicate (Int.toNat (256:Int)) (0:Int)) x_5.Bytes)⟩:carlingref16_Change)]),v9:=(IntKind.wrap .i64 (c.v9+(1:Int)))} {w with a_out3:=a_25,c_out3:=c_26} _ ⟨hX_v7,I⟩ H
  · replace I := I.pull1
    exact k c.out3 w.a_out3 w.c_out3 _ I H
theorem L1_r (I:I1 ρ X_l0 c w A h) (H:L1 Q' c) (k:kt ρ X_l0 A Q' Q):T1 X_l0 (Tx.carlinglaw16_full_L1 ρ Q) c w h:=by
  refine Lf.ind H (fun v=> ∀ (w:W) (h:Hp),I1 ρ X_l0 v w A h→T1 X_l0 (Tx.carlinglaw16_full_L1 ρ Q) v w h) ?_ w h I
  rintro c S hS HB w h I
  refine Tx.carlinglaw16_full_L1_in _ _ _ _ _ _ _ ?_
  try simp only [nrm_v]
  exact B1_r (c:=c) (w:=w) I HB (fun c w h I H=>hS _ H w h I) k
end carlinglaw16_full
def carlinglaw16_full (l0:List carlingref16_Change) (Q:carlinglaw16_full.QT):Prop:=
  carlinglaw16_full.L1 Q {carlinglaw16_full.v0 with out3:=([]:List carlingref16_Change),v7:=l0,v8:=(l0.length:Int),v9:=(0:Int)}
theorem carlinglaw16_full_r {l0:List carlingref16_Change} {a_l0:Option Addr} {c_l0:Nat} {n_l0:Nat} {X_l0:At} {Q':carlinglaw16_full.QT} {Q:carlinglaw16_full.RT} (hX_l0:Rd R_carlingref16_Change X_l0 a_l0 n_l0 c_l0 l0) (I:Inv h (X_l0::A)) (H:carlinglaw16_full l0 Q')
    (k:carlinglaw16_full.kt ρ X_l0 A Q' Q):Tx.carlinglaw16_full ρ ⟨a_l0,n_l0,c_l0⟩ h Q:=by
  obtain rfl:=rd_len hX_l0 I
  unfold Tx.carlinglaw16_full
  unfold carlinglaw16_full at H
  replace I:=I.nilO R_carlingref16_Change
  replace I:=I.pull1
  exact carlinglaw16_full.L1_r (c:= {carlinglaw16_full.v0 with out3:=([]:List carlingref16_Change),v7:=l0,v8:=(l0.length:Int),v9:=(0:Int)}) (w:= {carlinglaw16_full.w0 with a_out3:=none,c_out3:=0,a_v7:=a_l0,c_v7:=c_l0}) ⟨hX_l0,I⟩ H k
namespace carlinglaw16_CommitNeeds
structure V where
  l1:List carlingref16_Node
  c2:List carlingref16_Change
  s8:shape_Shape
  e9:Int
  h10:carlingref12_Shape
  v43:Bool
  list12:List Int
  v49:List carlingref16_Change
  v50:Int
  v51:Int
  a15:List Int
  b16:List Int
  v73:Int
  v74:Int
  v89:Int
  v90:Int
  v118:Bool
structure W where
  a_l1:Option Addr
  c_l1:Nat
  a_c2:Option Addr
  c_c2:Nat
  p_s8:Addr
  a_s8:Option Addr
  c_s8:Nat
  p_h10:Addr
  a_h10_1:Option Addr
  c_h10_1:Nat
  a_h10_2:Option Addr
  c_h10_2:Nat
  a_list12:Option Addr
  c_list12:Nat
  a_v49:Option Addr
  c_v49:Nat
  a_a15:Option Addr
  c_a15:Nat
  a_b16:Option Addr
  c_b16:Nat
def v0:V:=⟨[],[],(⟨[]⟩:shape_Shape),0,(⟨(0:Int),[],[]⟩:carlingref12_Shape),false,[],[],0,0,[],[],0,0,0,0,false⟩
def w0:W:=⟨none,0,none,0,⟨0,0,none⟩,none,0,⟨0,0,none⟩,none,0,none,0,none,0,none,0,none,0,none,0⟩
abbrev QT:=Bool→St Obj→Prop
abbrev RT:=Bool→Hp→Prop
def kt (ρ:Ids) (X_l1:At) (X_c2:At) (A:List At) (Q':QT) (Q:RT):Prop:=
  ∀ (r0:Bool) (h':Hp) (σ':St Obj),Inv h' (X_l1::X_c2::hpA (obA ρ) σ'::A)→Q' r0 σ'→Q r0 h'
def I1 (ρ:Ids) (X_l1:At) (X_c2:At) (c:V) (w:W) (σ:St Obj) (A:List At) (h:Hp):Prop:=
  Rd R_carlingref16_Node X_l1 w.a_l1 c.l1.length w.c_l1 c.l1∧Rd R_carlingref16_Change X_c2 w.a_c2 c.c2.length w.c_c2 c.c2∧Inv h (X_l1::X_c2::blk w.p_s8 (ρ.T 11) [.one (.slice w.a_s8 c.s8.begins.length w.c_s8)]::roS (rI .i64) w.a_s8 c.s8.begins.length w.c_s8 c.s8.begins::blk w.p_h10 (ρ.T 12) [.one (.int .i64 c.h10.P), .one (.slice w.a_h10_1 c.h10.Level.length w.c_h10_1), .one (.slice w.a_h10_2 c.h10.First.length w.c_h10_2)]::roS (rI .i64) w.a_h10_1 c.h10.Level.length w.c_h10_1 c.h10.Level::roS (rI .i64) w.a_h10_2 c.h10.First.length w.c_h10_2 c.h10.First::hpA (obA ρ) σ::A)
def I2 (ρ:Ids) (X_l1:At) (X_c2:At) (c:V) (w:W) (σ:St Obj) (A:List At) (h:Hp):Prop:=
  Rd R_carlingref16_Node X_l1 w.a_l1 c.l1.length w.c_l1 c.l1∧Rd R_carlingref16_Change X_c2 w.a_c2 c.c2.length w.c_c2 c.c2∧Rd R_carlingref16_Change X_c2 w.a_v49 c.v49.length w.c_v49 c.v49∧Inv h (X_l1::X_c2::blk w.p_s8 (ρ.T 11) [.one (.slice w.a_s8 c.s8.begins.length w.c_s8)]::roS (rI .i64) w.a_s8 c.s8.begins.length w.c_s8 c.s8.begins::blk w.p_h10 (ρ.T 12) [.one (.int .i64 c.h10.P), .one (.slice w.a_h10_1 c.h10.Level.length w.c_h10_1), .one (.slice w.a_h10_2 c.h10.First.length w.c_h10_2)]::roS (rI .i64) w.a_h10_1 c.h10.Level.length w.c_h10_1 c.h10.Level::roS (rI .i64) w.a_h10_2 c.h10.First.length w.c_h10_2 c.h10.First::ownS (rI .i64) w.a_list12 c.list12.length w.c_list12 c.list12::hpA (obA ρ) σ::A)
abbrev Y2:=Sl→Sl→Addr→Addr→Sl→Sl→Int→Int→Hp→Prop
abbrev T2 (X_l1:At) (X_c2:At) (S:Y2) (c:V) (w:W) (h:Hp):Prop:=S ⟨w.a_l1,c.l1.length,w.c_l1⟩ ⟨w.a_c2,c.c2.length,w.c_c2⟩ w.p_s8 w.p_h10 ⟨w.a_list12,c.list12.length,w.c_list12⟩ ⟨w.a_v49,c.v49.length,w.c_v49⟩ c.v50 c.v51 h
def k2t (ρ:Ids) (X_l1:At) (X_c2:At) (A:List At) (S':V→St Obj→Prop) (S:Y2):Prop:= ∀ (c:V) (w:W) (h:Hp) (σ:St Obj),I2 ρ X_l1 X_c2 c w σ A h→S' c σ→T2 X_l1 X_c2 S c w h
def I3 (ρ:Ids) (X_l1:At) (X_c2:At) (c:V) (w:W) (σ:St Obj) (A:List At) (h:Hp):Prop:=
  Rd R_carlingref16_Node X_l1 w.a_l1 c.l1.length w.c_l1 c.l1∧Rd R_carlingref16_Change X_c2 w.a_c2 c.c2.length w.c_c2 c.c2∧Inv h (X_l1::X_c2::blk w.p_s8 (ρ.T 11) [.one (.slice w.a_s8 c.s8.begins.length w.c_s8)]::roS (rI .i64) w.a_s8 c.s8.begins.length w.c_s8 c.s8.begins::blk w.p_h10 (ρ.T 12) [.one (.int .i64 c.h10.P), .one (.slice w.a_h10_1 c.h10.Level.length w.c_h10_1), .one (.slice w.a_h10_2 c.h10.First.length w.c_h10_2)]::roS (rI .i64) w.a_h10_1 c.h10.Level.length w.c_h10_1 c.h10.Level::roS (rI .i64) w.a_h10_2 c.h10.First.length w.c_h10_2 c.h10.First::ownS (rI .i64) w.a_a15 c.a15.length w.c_a15 c.a15::ownS (rI .i64) w.a_b16 c.b16.length w.c_b16 c.b16::hpA (obA ρ) σ::A)
abbrev Y3:=Sl→Sl→Addr→Addr→Sl→Sl→Int→Int→Hp→Prop
abbrev T3 (X_l1:At) (X_c2:At) (S:Y3) (c:V) (w:W) (h:Hp):Prop:=S ⟨w.a_l1,c.l1.length,w.c_l1⟩ ⟨w.a_c2,c.c2.length,w.c_c2⟩ w.p_s8 w.p_h10 ⟨w.a_a15,c.a15.length,w.c_a15⟩ ⟨w.a_b16,c.b16.length,w.c_b16⟩ c.v73 c.v74 h
def k3t (ρ:Ids) (X_l1:At) (X_c2:At) (A:List At) (S':V→St Obj→Prop) (S:Y3):Prop:= ∀ (c:V) (w:W) (h:Hp) (σ:St Obj),I3 ρ X_l1 X_c2 c w σ A h→S' c σ→T3 X_l1 X_c2 S c w h
def I4 (ρ:Ids) (X_l1:At) (X_c2:At) (c:V) (w:W) (σ:St Obj) (A:List At) (h:Hp):Prop:=
  Rd R_carlingref16_Node X_l1 w.a_l1 c.l1.length w.c_l1 c.l1∧Rd R_carlingref16_Change X_c2 w.a_c2 c.c2.length w.c_c2 c.c2∧Inv h (X_l1::X_c2::blk w.p_s8 (ρ.T 11) [.one (.slice w.a_s8 c.s8.begins.length w.c_s8)]::roS (rI .i64) w.a_s8 c.s8.begins.length w.c_s8 c.s8.begins::blk w.p_h10 (ρ.T 12) [.one (.int .i64 c.h10.P), .one (.slice w.a_h10_1 c.h10.Level.length w.c_h10_1), .one (.slice w.a_h10_2 c.h10.First.length w.c_h10_2)]::roS (rI .i64) w.a_h10_1 c.h10.Level.length w.c_h10_1 c.h10.Level::roS (rI .i64) w.a_h10_2 c.h10.First.length w.c_h10_2 c.h10.First::hpA (obA ρ) σ::A)
abbrev Y4:=Sl→Sl→Addr→Addr→Int→Int→Hp→Prop
abbrev T4 (X_l1:At) (X_c2:At) (S:Y4) (c:V) (w:W) (h:Hp):Prop:=S ⟨w.a_l1,c.l1.length,w.c_l1⟩ ⟨w.a_c2,c.c2.length,w.c_c2⟩ w.p_s8 w.p_h10 c.v89 c.v90 h
def k4t (ρ:Ids) (X_l1:At) (X_c2:At) (A:List At) (S':V→St Obj→Prop) (S:Y4):Prop:= ∀ (c:V) (w:W) (h:Hp) (σ:St Obj),I4 ρ X_l1 X_c2 c w σ A h→S' c σ→T4 X_l1 X_c2 S c w h
def I5 (ρ:Ids) (X_l1:At) (X_c2:At) (c:V) (w:W) (σ:St Obj) (A:List At) (h:Hp):Prop:=
  Rd R_carlingref16_Node X_l1 w.a_l1 c.l1.length w.c_l1 c.l1∧Rd R_carlingref16_Change X_c2 w.a_c2 c.c2.length w.c_c2 c.c2∧Inv h (X_l1::X_c2::blk w.p_s8 (ρ.T 11) [.one (.slice w.a_s8 c.s8.begins.length w.c_s8)]::roS (rI .i64) w.a_s8 c.s8.begins.length w.c_s8 c.s8.begins::blk w.p_h10 (ρ.T 12) [.one (.int .i64 c.h10.P), .one (.slice w.a_h10_1 c.h10.Level.length w.c_h10_1), .one (.slice w.a_h10_2 c.h10.First.length w.c_h10_2)]::roS (rI .i64) w.a_h10_1 c.h10.Level.length w.c_h10_1 c.h10.Level::roS (rI .i64) w.a_h10_2 c.h10.First.length w.c_h10_2 c.h10.First::hpA (obA ρ) σ::A)
variable {X_l1 X_c2:At} {c:V} {w:W} {σ:St Obj} {Q':QT} {Q:RT} {S2' S3' S4':V→St Obj→Prop} {S2:Y2} {S3:Y3} {S4:Y4}
def K5 (S4:V→St Obj→Prop) (Q:QT) (c:V) (σ:St Obj):Prop:=
  br c.v118
  (Q false σ)
  (S4 {c with v90:=(IntKind.wrap .i64 (c.v90+(1:Int)))} σ)
theorem K5_r (I:I5 ρ X_l1 X_c2 c w σ A h) (H:K5 S4' Q' c σ) (kS4:k4t ρ X_l1 X_c2 A S4' S4) (k:kt ρ X_l1 X_c2 A Q' Q):Tx.carlinglaw16_CommitNeeds_K5 ρ S4 Q ⟨w.a_l1,c.l1.length,w.c_l1⟩ ⟨w.a_c2,c.c2.length,w.c_c2⟩ w.p_s8 w.p_h10 c.v89 c.v90 c.v118 h:=by
  obtain ⟨hX_l1,hX_c2,I⟩:=I
  unfold Tx.carlinglaw16_CommitNeeds_K5
  unfold K5 at H
  refine br_r H (fun hb H=> ?_) (fun hb H=> ?_)
  · replace I := I.pull2.drop1
    replace I:=I.pull2.drop1
    replace I:=I.pull2.drop1
    replace I:=I.pull2.drop1
    replace I:=I.pull2.drop1
    replace I:=I.pull2.pull2.pull2
    exact k false _ σ I H
  · replace I := I.pull3.dupR
    replace I:=I.pull6.dupR
    replace I:=I.pull8.dupR
    replace I:=I.pull1.drop1
    replace I:=I.pull2.drop1
    replace I:=I.pull3.drop1
    replace I:=I.pull7.pull1.pull2.pull7.pull4.pull7.pull7.pull7
    exact kS4 {c with v90:=(IntKind.wrap .i64 (c.v90+(1:Int)))} w _ σ ⟨hX_l1,hX_c2,I⟩ H
def B4 (S4:V→St Obj→Prop) (Q:QT) (c:V) (σ:St Obj):Prop:=
  br (decide (c.v90<c.v89))
  (carlinglaw16_theirs c.l1 fun r_125=>
  commit_Find r_125 c.v90 fun r_129 r_132=>
  carlingref16_Find c.l1 c.v90 fun r_134 r_137=>
  br (!(r_132==r_137))
  (K5 S4 Q {c with v118:=true} σ)
  (carlinglaw16_same ([(⟨(0:Int),r_129⟩:commit_Node)]) ([(⟨(0:Int),r_134⟩:carlingref16_Node)]) fun r_154=>
  K5 S4 Q {c with v118:=(!r_154)} σ))
  (carlinglaw16_theirs c.l1 fun r_158=>
  carlinglaw16_changed c.c2 fun r_162=>
  commit_May c.s8 r_158 r_162 fun r_167=>
  carlingref16_May c.h10 c.l1 c.c2 fun r_170=>
  br (r_167==r_170)
  (carlinglaw16_theirs c.l1 fun r_171=>
  carlinglaw16_full c.c2 fun r_175=>
  carlinglaw16_changed r_175 fun r_179=>
  commit_May c.s8 r_171 r_179 fun r_184=>
  carlinglaw16_full c.c2 fun r_185=>
  carlingref16_May c.h10 c.l1 r_185 fun r_191=>
  br (r_184==r_191)
  (carlinglaw16_alive σ fun r_192 σ_193=>
  Q r_192 σ_193)
  (Q false σ))
  (Q false σ))
def L4 (Q:QT) (c:V) (σ:St Obj):Prop:=
  Lf (fun S (v:V × St Obj)=>B4 (fun c σ=>S (c,σ)) Q v.1 v.2) (c,σ)
theorem L4_in {Q:QT} {c:V} {σ:St Obj} (H:B4 (L4 Q) Q c σ):L4 Q c σ:=Lf.fold H
theorem B4_r (I : I4 ρ X_l1 X_c2 c w σ A h) (H : B4 S4' Q' c σ) (kS4 : k4t ρ X_l1 X_c2 A S4' S4) (k : kt ρ X_l1 X_c2 A Q' Q) : T4 X_l1 X_c2 (Tx.carlinglaw16_CommitNeeds_B4 ρ S4 Q) c w h := by
  obtain ⟨hX_l1,hX_c2,I⟩:=I
  unfold T4 Tx.carlinglaw16_CommitNeeds_B4
  unfold B4 at H
  refine br_r H (fun hb H=> ?_) (fun hb H=> ?_)
  · refine carlinglaw16_theirs_r (l0 := c.l1) hX_l1 I H fun r_125 a_126 c_127 h I H => ?_
    refine commit_Find_r (nodes0:=r_125) (item1:=c.v90) rd_own I H fun r_129 a_130 c_131 r_132 h I H=> ?_
    replace I:=I.pull2
    refine carlingref16_Find_r (l0:=c.l1) (item1:=c.v90) hX_l1 I H fun r_134 a_135 c_136 r_137 h I H=> ?_
    refine br_r H (fun hb H=> ?_) (fun hb H=> ?_)
    · replace I := I.pull6.dupR
      replace I:=I.pull9.dupR
      replace I:=I.pull11.dupR
      replace I:=I.pull1.drop1
      replace I:=I.pull2.drop1
      replace I:=I.pull3.drop1
      replace I:=I.pull3.drop1
      replace I:=I.pull4.drop1
      replace I:=I.pull4.drop1
      replace I:=I.pull7.pull1.pull2.pull7.pull4.pull7.pull7.pull7
      exact K5_r (c:= {c with v118:=true}) (w:=w) ⟨hX_l1,hX_c2,I⟩ H kS4 k
    · refine al_r [.one (.int .i64 (0 : Int)), .one (.slice a_130 r_129.length c_131)] rfl I fun p_142 h I => ?_
      replace I:=I.litN R_commit_Node
      replace I:=I.pull4.freeze
      replace I:=I.dupR
      replace I:=mcommit_Node (⟨(0:Int),r_129⟩:commit_Node) I
      replace I:=I.pull2.pull1
      replace I:=I.litC
      replace I:=I.pull2.pull1
      replace I:=Inv.litL (l:=[(⟨(0:Int),r_129⟩:commit_Node)]) I rfl rfl
      refine al_r [.one (.int .i64 (0:Int)), .one (.slice a_135 r_134.length c_136)] rfl I fun p_148 h I=> ?_
      replace I:=I.litN R_carlingref16_Node
      replace I:=I.pull4.dupR
      replace I:=mcarlingref16_Node (⟨(0:Int),r_134⟩:carlingref16_Node) I
      replace I:=I.pull2.pull1
      replace I:=I.litC
      replace I:=I.pull2.pull1
      replace I:=Inv.litL (l:=[(⟨(0:Int),r_134⟩:carlingref16_Node)]) I rfl rfl
      replace I:=I.pull2
      refine carlinglaw16_same_r (a0:=[(⟨(0:Int),r_129⟩:commit_Node)]) (b1:=[(⟨(0:Int),r_134⟩:carlingref16_Node)]) rd_own rd_own I H fun r_154 h I H=> ?_
      replace I:=I.pull8.dupR
      replace I:=I.pull11.dupR
      replace I:=I.pull13.dupR
      replace I:=I.pull1.drop1
      replace I:=I.pull2.drop1
      replace I:=I.pull3.drop1
      replace I:=I.pull3.drop1
      replace I:=I.pull3.drop1
      replace I:=I.pull3.drop1
      replace I:=I.pull3.drop1
      replace I:=I.pull4.drop1
      replace I:=I.pull7.pull1.pull2.pull7.pull4.pull7.pull7.pull7
      exact K5_r (c:= {c with v118:=(!r_154)}) (w:=w) ⟨hX_l1,hX_c2,I⟩ H kS4 k
  · refine ldS_r (I.pull2.cell 0 0 rfl) ?_
    refine ldI_r (I.pull4.cell 0 0 rfl) ?_
    refine ldS_r (I.pull4.cell 1 1 rfl) ?_
    refine ldS_r (I.pull4.cell 2 2 rfl) ?_
    refine carlinglaw16_theirs_r (l0:=c.l1) hX_l1 I H fun r_158 a_159 c_160 h I H=> ?_
    refine ⟨⟨I.pull5.cell 0 0 rfl,I.pull5.cell 1 1 rfl,I.pull5.cell 2 2 rfl,trivial⟩, ?_⟩
    refine ⟨⟨I.pull3.cell 0 0 rfl,trivial⟩, ?_⟩
    replace I:=I.pull2
    refine carlinglaw16_changed_r (l0:=c.c2) hX_c2 I H fun r_162 a_163 c_164 h I H=> ?_
    refine ⟨⟨I.pull6.cell 0 0 rfl,I.pull6.cell 1 1 rfl,I.pull6.cell 2 2 rfl,trivial⟩, ?_⟩
    refine ⟨⟨I.pull4.cell 0 0 rfl,trivial⟩, ?_⟩
    replace I:=I.pull5.dupR
    replace I:=I.pull2.pull4.pull2
    try simp only [nrm_v]
    refine commit_May_r (s0:=c.s8) (nodes1:=r_158) (changes2:=r_162) rd_own rd_own I H fun r_167 h I H=> ?_
    refine ⟨⟨I.pull6.cell 0 0 rfl,I.pull6.cell 1 1 rfl,I.pull6.cell 2 2 rfl,trivial⟩, ?_⟩
    replace I:=I.pull7.dupR
    replace I:=I.pull9.dupR
    replace I:=I.pull7.pull8.pull2.pull4
    try simp only [nrm_v]
    refine carlingref16_May_r (s0:=c.h10) (l1:=c.l1) (c2:=c.c2) hX_l1 hX_c2 I H fun r_170 h I H=> ?_
    refine br_r H (fun hb H=> ?_) (fun hb H=> ?_)
    · refine ldS_r (I.pull7.cell 0 0 rfl) ?_
      refine ldI_r (I.pull8.cell 0 0 rfl) ?_
      refine ldS_r (I.pull8.cell 1 1 rfl) ?_
      refine ldS_r (I.pull8.cell 2 2 rfl) ?_
      refine carlinglaw16_theirs_r (l0:=c.l1) hX_l1 I H fun r_171 a_172 c_173 h I H=> ?_
      refine ⟨⟨I.pull9.cell 0 0 rfl,I.pull9.cell 1 1 rfl,I.pull9.cell 2 2 rfl,trivial⟩, ?_⟩
      refine ⟨⟨I.pull8.cell 0 0 rfl,trivial⟩, ?_⟩
      replace I:=I.pull2
      refine carlinglaw16_full_r (l0:=c.c2) hX_c2 I H fun r_175 a_176 c_177 h I H=> ?_
      refine ⟨⟨I.pull10.cell 0 0 rfl,I.pull10.cell 1 1 rfl,I.pull10.cell 2 2 rfl,trivial⟩, ?_⟩
      refine ⟨⟨I.pull9.cell 0 0 rfl,trivial⟩, ?_⟩
      refine carlinglaw16_changed_r (l0:=r_175) rd_own I H fun r_179 a_180 c_181 h I H=> ?_
      refine ⟨⟨I.pull11.cell 0 0 rfl,I.pull11.cell 1 1 rfl,I.pull11.cell 2 2 rfl,trivial⟩, ?_⟩
      refine ⟨⟨I.pull10.cell 0 0 rfl,trivial⟩, ?_⟩
      replace I:=I.pull9.dupR
      replace I:=I.pull2.pull5.pull2
      try simp only [nrm_v]
      refine commit_May_r (s0:=c.s8) (nodes1:=r_171) (changes2:=r_179) rd_own rd_own I H fun r_184 h I H=> ?_
      refine ⟨⟨I.pull11.cell 0 0 rfl,I.pull11.cell 1 1 rfl,I.pull11.cell 2 2 rfl,trivial⟩, ?_⟩
      replace I:=I.pull4
      refine carlinglaw16_full_r (l0:=c.c2) hX_c2 I H fun r_185 a_186 c_187 h I H=> ?_
      refine ⟨⟨I.pull12.cell 0 0 rfl,I.pull12.cell 1 1 rfl,I.pull12.cell 2 2 rfl,trivial⟩, ?_⟩
      replace I:=I.pull8.dupR
      replace I:=I.pull9.dupR
      replace I:=I.pull4.pull10.pull2.pull4
      try simp only [nrm_v]
      refine carlingref16_May_r (s0:=c.h10) (l1:=c.l1) (c2:=r_185) hX_l1 rd_own I H fun r_191 h I H=> ?_
      refine br_r H (fun hb H=> ?_) (fun hb H=> ?_)
      · replace I := I.pull13
        refine carlinglaw16_alive_r (σ:=σ) I H fun r_192 h σ_193 I H=> ?_
        replace I:=I.pull2.drop1
        replace I:=I.pull2.drop1
        replace I:=I.pull2.drop1
        replace I:=I.pull3.drop1
        replace I:=I.pull3.drop1
        replace I:=I.pull3.drop1
        replace I:=I.pull3.drop1
        replace I:=I.pull3.drop1
        replace I:=I.pull3.drop1
        replace I:=I.pull3.drop1
        replace I:=I.pull3.drop1
        replace I:=I.pull2.pull2
        exact k r_192 _ σ_193 I H
      · replace I := I.pull1.drop1
        replace I:=I.pull1.drop1
        replace I:=I.pull1.drop1
        replace I:=I.pull2.drop1
        replace I:=I.pull2.drop1
        replace I:=I.pull2.drop1
        replace I:=I.pull2.drop1
        replace I:=I.pull2.drop1
        replace I:=I.pull2.drop1
        replace I:=I.pull2.drop1
        replace I:=I.pull2.drop1
        replace I:=I.pull2.pull2.pull2
        exact k false _ σ I H
    · replace I := I.pull2.drop1
      replace I:=I.pull2.drop1
      replace I:=I.pull2.drop1
      replace I:=I.pull2.drop1
      replace I:=I.pull2.drop1
      replace I:=I.pull2.drop1
      replace I:=I.pull2.drop1
      replace I:=I.pull2.pull2.pull2
      exact k false _ σ I H
theorem L4_r (I:I4 ρ X_l1 X_c2 c w σ A h) (H:L4 Q' c σ) (k:kt ρ X_l1 X_c2 A Q' Q):T4 X_l1 X_c2 (Tx.carlinglaw16_CommitNeeds_L4 ρ Q) c w h:=by
  refine Lf.ind H (fun v=> ∀ (w:W) (h:Hp),I4 ρ X_l1 X_c2 v.1 w v.2 A h→T4 X_l1 X_c2 (Tx.carlinglaw16_CommitNeeds_L4 ρ Q) v.1 w h) ?_ w h I
  rintro ⟨c,σ⟩ S hS HB w h I
  refine Tx.carlinglaw16_CommitNeeds_L4_in _ _ _ _ _ _ _ _ _ ?_
  try simp only [nrm_v]
  exact B4_r (c:=c) (w:=w) I HB (fun c w h σ I H=>hS _ H w h I) k
def B3 (S3:V→St Obj→Prop) (Q:QT) (c:V) (σ:St Obj):Prop:=
  br (decide (c.v74<c.v73))
  (ixP c.a15 c.v74 fun x_97=>
  ixP c.b16 c.v74 fun x_103=>
  br (x_97 !=x_103)
  (Q false σ)
  (S3 {c with v74:=(IntKind.wrap .i64 (c.v74+(1:Int)))} σ))
  (shape_Shape_Items c.s8 fun r_113=>
  L4 Q {c with v89:=(IntKind.wrap .i64 (r_113+(1:Int))),v90:=(0:Int)} σ)
def L3 (Q:QT) (c:V) (σ:St Obj):Prop:=
  Lf (fun S (v:V × St Obj)=>B3 (fun c σ=>S (c,σ)) Q v.1 v.2) (c,σ)
theorem L3_in {Q:QT} {c:V} {σ:St Obj} (H:B3 (L3 Q) Q c σ):L3 Q c σ:=Lf.fold H
theorem B3_r (I:I3 ρ X_l1 X_c2 c w σ A h) (H:B3 S3' Q' c σ) (kS3:k3t ρ X_l1 X_c2 A S3' S3) (k:kt ρ X_l1 X_c2 A Q' Q):T3 X_l1 X_c2 (Tx.carlinglaw16_CommitNeeds_B3 ρ S3 Q) c w h:=by
  obtain ⟨hX_l1,hX_c2,I⟩:=I
  unfold T3 Tx.carlinglaw16_CommitNeeds_B3
  unfold B3 at H
  refine br_r H (fun hb H=> ?_) (fun hb H=> ?_)
  · refine ixI_a rd_own I.pull7 (ixP_keep H) fun p_98 x_97 he_99 hb_100 hc_101 H => ?_
    obtain ⟨hg_102,H⟩:=H
    refine ldI_r hc_101 ?_
    refine ixI_a rd_own I.pull8 (ixP_keep H) fun p_104 x_103 he_105 hb_106 hc_107 H=> ?_
    obtain ⟨hg_108,H⟩:=H
    refine ldI_r hc_107 ?_
    refine br_r H (fun hb H=> ?_) (fun hb H=> ?_)
    · replace I := I.pull2.drop1
      replace I:=I.pull2.drop1
      replace I:=I.pull2.drop1
      replace I:=I.pull2.drop1
      replace I:=I.pull2.drop1
      replace I:=I.pull2.drop1
      replace I:=I.pull2.drop1
      replace I:=I.pull2.pull2.pull2
      exact k false _ σ I H
    · replace I := I.pull3.dupR
      replace I:=I.pull6.dupR
      replace I:=I.pull8.dupR
      replace I:=I.pull1.drop1
      replace I:=I.pull2.drop1
      replace I:=I.pull3.drop1
      replace I:=I.pull9.pull9.pull9.pull3.pull4.pull9.pull6.pull9.pull9.pull9
      exact kS3 {c with v74:=(IntKind.wrap .i64 (c.v74+(1:Int)))} w _ σ ⟨hX_l1,hX_c2,I⟩ H
  · refine ldS_r (I.pull2.cell 0 0 rfl) ?_
    replace I:=I.pull3.dupR
    try simp only [nrm_v]
    refine shape_Shape_Items_r (s0:=c.s8) I H fun r_113 h I H=> ?_
    replace I:=I.dupR
    replace I:=I.pull6.dupR
    replace I:=I.pull8.dupR
    replace I:=I.pull1.drop1
    replace I:=I.pull2.drop1
    replace I:=I.pull3.drop1
    replace I:=I.pull7.drop1
    replace I:=I.pull7.drop1
    replace I:=I.pull7.pull1.pull2.pull7.pull4.pull7.pull7.pull7
    exact L4_r (c:= {c with v89:=(IntKind.wrap .i64 (r_113+(1:Int))),v90:=(0:Int)}) (w:=w) ⟨hX_l1,hX_c2,I⟩ H k
theorem L3_r (I:I3 ρ X_l1 X_c2 c w σ A h) (H:L3 Q' c σ) (k:kt ρ X_l1 X_c2 A Q' Q):T3 X_l1 X_c2 (Tx.carlinglaw16_CommitNeeds_L3 ρ Q) c w h:=by
  refine Lf.ind H (fun v=> ∀ (w:W) (h:Hp),I3 ρ X_l1 X_c2 v.1 w v.2 A h→T3 X_l1 X_c2 (Tx.carlinglaw16_CommitNeeds_L3 ρ Q) v.1 w h) ?_ w h I
  rintro ⟨c,σ⟩ S hS HB w h I
  refine Tx.carlinglaw16_CommitNeeds_L3_in _ _ _ _ _ _ _ _ _ _ _ ?_
  try simp only [nrm_v]
  exact B3_r (c:=c) (w:=w) I HB (fun c w h σ I H=>hS _ H w h I) k
def B2 (S2:V→St Obj→Prop) (Q:QT) (c:V) (σ:St Obj):Prop:=
  br (decide (c.v51<c.v50))
  (ixP c.v49 c.v51 fun x_51=>
  (Bnd (c.list12.length+([x_51.Page]).length))∧
  S2 {c with list12:=(c.list12++[x_51.Page]),v51:=(IntKind.wrap .i64 (c.v51+(1:Int)))} σ)
  (commit_Need c.s8 c.list12 fun r_74=>
  carlingref16_Need c.h10 c.list12 fun r_80=>
  br ((r_74.length:Int) !=(r_80.length:Int))
  (Q false σ)
  (L3 Q {c with a15:=r_74,b16:=r_80,v73:=(r_74.length:Int),v74:=(0:Int)} σ))
def L2 (Q:QT) (c:V) (σ:St Obj):Prop:=
  Lf (fun S (v:V × St Obj)=>B2 (fun c σ=>S (c,σ)) Q v.1 v.2) (c,σ)
theorem L2_in {Q:QT} {c:V} {σ:St Obj} (H:B2 (L2 Q) Q c σ):L2 Q c σ:=Lf.fold H
theorem B2_r (I:I2 ρ X_l1 X_c2 c w σ A h) (H:B2 S2' Q' c σ) (kS2:k2t ρ X_l1 X_c2 A S2' S2) (k:kt ρ X_l1 X_c2 A Q' Q):T2 X_l1 X_c2 (Tx.carlinglaw16_CommitNeeds_B2 ρ S2 Q) c w h:=by
  obtain ⟨hX_l1,hX_c2,hX_v49,I⟩:=I
  unfold T2 Tx.carlinglaw16_CommitNeeds_B2
  unfold B2 at H
  refine br_r H (fun hb H=> ?_) (fun hb H=> ?_)
  · refine ixcarlingref16_Change hX_v49 I.pull1 H fun p_52 x_51 a_57 c_58 he_53 hb_54 hc_55 hc_56 I H => ?_
    refine ldI_r hc_55 ?_
    refine ldS_r hc_56 ?_
    refine al_r [.one (.int .i64 (0:Int)), .one (.slice none 0 0)] rfl I fun p_60 h I=> ?_
    refine stA_r I 0 2 0 [.one (.int .i64 x_51.Page), .one (.slice a_57 x_51.Bytes.length c_58)] rfl rfl rfl (by first | exact all_segs rfl | exact all_one (by simp [segs,Seg.cells,allOne,allOne_append,allOne_lump,Value.oneCell'])) fun h (I:Inv h (blk p_60 (ρ.T 13) [.one (.int .i64 x_51.Page), .one (.slice a_57 x_51.Bytes.length c_58)]::_))=> ?_
    refine ldI_r (I.cell 0 0 rfl) ?_
    refine al_r [.one (.int .i64 x_51.Page)] rfl I fun p_62 h I=> ?_
    replace I:=I.litN (rI .i64)
    replace I:=I.repI (k:= .i64) x_51.Page
    replace I:=I.pull1.pull1
    replace I:=I.litC
    replace I:=I.pull1.pull1
    replace I:=Inv.litL (l:=[x_51.Page]) I rfl rfl
    refine ap_r rd_own I.pull10 rfl (by decide) (by decide) H.1 fun a_67 c_68 h I=> ?_
    replace H:=H.2
    replace I:=I.pull1.drop1
    replace I:=I.pull6.dupR
    replace I:=I.pull9.dupR
    replace I:=I.pull11.dupR
    replace I:=I.pull1.drop1
    replace I:=I.pull2.drop1
    replace I:=I.pull3.drop1
    replace I:=I.pull4.drop1
    replace I:=I.pull4.drop1
    replace I:=I.pull8.pull4.pull2.pull3.pull8.pull5.pull8.pull7.pull8
    exact kS2 {c with list12:=(c.list12++[x_51.Page]),v51:=(IntKind.wrap .i64 (c.v51+(1:Int)))} {w with a_list12:=a_67,c_list12:=c_68} _ σ ⟨hX_l1,hX_c2,hX_v49,I⟩ H
  · refine ldS_r (I.pull2.cell 0 0 rfl) ?_
    refine ldI_r (I.pull4.cell 0 0 rfl) ?_
    refine ldS_r (I.pull4.cell 1 1 rfl) ?_
    refine ldS_r (I.pull4.cell 2 2 rfl) ?_
    replace I:=I.pull3.dupR
    replace I:=I.pull8.pull1
    try simp only [nrm_v]
    refine commit_Need_r (s0:=c.s8) (pages1:=c.list12) rd_own I H fun r_74 a_75 c_76 h I H=> ?_
    refine ⟨⟨I.pull6.cell 0 0 rfl,I.pull6.cell 1 1 rfl,I.pull6.cell 2 2 rfl,trivial⟩, ?_⟩
    replace I:=I.pull7.dupR
    replace I:=I.pull9.dupR
    replace I:=I.pull5.pull1.pull3
    try simp only [nrm_v]
    refine carlingref16_Need_r (s0:=c.h10) (pages1:=c.list12) rd_own I H fun r_80 a_81 c_82 h I H=> ?_
    refine br_r H (fun hb H=> ?_) (fun hb H=> ?_)
    · replace I := I.drop1
      replace I:=I.drop1
      replace I:=I.drop1
      replace I:=I.drop1
      replace I:=I.drop1
      replace I:=I.drop1
      replace I:=I.pull2.drop1
      replace I:=I.pull2.drop1
      replace I:=I.pull2.pull2.pull2
      exact k false _ σ I H
    · replace I := I.pull5.dupR
      replace I:=I.pull5.dupR
      replace I:=I.pull6.dupR
      replace I:=I.pull1.drop1
      replace I:=I.pull2.drop1
      replace I:=I.pull3.drop1
      replace I:=I.pull4.drop1
      replace I:=I.pull9.pull4.pull5.pull3.pull4.pull9.pull6.pull9.pull9.pull9
      exact L3_r (c:= {c with a15:=r_74,b16:=r_80,v73:=(r_74.length:Int),v74:=(0:Int)}) (w:= {w with a_a15:=a_75,c_a15:=c_76,a_b16:=a_81,c_b16:=c_82}) ⟨hX_l1,hX_c2,I⟩ H k
theorem L2_r (I:I2 ρ X_l1 X_c2 c w σ A h) (H:L2 Q' c σ) (k:kt ρ X_l1 X_c2 A Q' Q):T2 X_l1 X_c2 (Tx.carlinglaw16_CommitNeeds_L2 ρ Q) c w h:=by
  refine Lf.ind H (fun v=> ∀ (w:W) (h:Hp),I2 ρ X_l1 X_c2 v.1 w v.2 A h→T2 X_l1 X_c2 (Tx.carlinglaw16_CommitNeeds_L2 ρ Q) v.1 w h) ?_ w h I
  rintro ⟨c,σ⟩ S hS HB w h I
  refine Tx.carlinglaw16_CommitNeeds_L2_in _ _ _ _ _ _ _ _ _ _ _ ?_
  try simp only [nrm_v]
  exact B2_r (c:=c) (w:=w) I HB (fun c w h σ I H=>hS _ H w h I) k
def K1 (Q:QT) (c:V) (σ:St Obj):Prop:=
  br c.v43
  (br (c.e9==(0:Int))
  (carlinglaw16_alive σ fun r_36 σ_37=>
  Q r_36 σ_37)
  (Q false σ))
  (L2 Q {c with list12:=([]:List Int),v49:=c.c2,v50:=(c.c2.length:Int),v51:=(0:Int)} σ)
theorem K1_r (I:I1 ρ X_l1 X_c2 c w σ A h) (H:K1 Q' c σ) (k:kt ρ X_l1 X_c2 A Q' Q):Tx.carlinglaw16_CommitNeeds_K1 ρ Q ⟨w.a_l1,c.l1.length,w.c_l1⟩ ⟨w.a_c2,c.c2.length,w.c_c2⟩ w.p_s8 c.e9 w.p_h10 c.v43 h:=by
  obtain ⟨hX_l1,hX_c2,I⟩:=I
  unfold Tx.carlinglaw16_CommitNeeds_K1
  unfold K1 at H
  refine br_r H (fun hb H=> ?_) (fun hb H=> ?_)
  · refine br_r H (fun hb H => ?_) (fun hb H => ?_)
    · replace I := I.pull7
      refine carlinglaw16_alive_r (σ:=σ) I H fun r_36 h σ_37 I H=> ?_
      replace I:=I.pull3.drop1
      replace I:=I.pull3.drop1
      replace I:=I.pull3.drop1
      replace I:=I.pull3.drop1
      replace I:=I.pull3.drop1
      replace I:=I.pull2.pull2
      exact k r_36 _ σ_37 I H
    · replace I := I.pull2.drop1
      replace I:=I.pull2.drop1
      replace I:=I.pull2.drop1
      replace I:=I.pull2.drop1
      replace I:=I.pull2.drop1
      replace I:=I.pull2.pull2.pull2
      exact k false _ σ I H
  · replace I := I.pull3.dupR
    replace I:=I.pull6.dupR
    replace I:=I.pull8.dupR
    replace I:=I.nilO (rI .i64)
    replace I:=I.pull2.drop1
    replace I:=I.pull3.drop1
    replace I:=I.pull4.drop1
    replace I:=I.pull8.pull1.pull2.pull3.pull8.pull5.pull8.pull8.pull8
    exact L2_r (c:= {c with list12:=([]:List Int),v49:=c.c2,v50:=(c.c2.length:Int),v51:=(0:Int)}) (w:= {w with a_list12:=none,c_list12:=0,a_v49:=w.a_c2,c_v49:=w.c_c2}) ⟨hX_l1,hX_c2,hX_c2,I⟩ H k
end carlinglaw16_CommitNeeds
def carlinglaw16_CommitNeeds (pages0:Int) (l1:List carlingref16_Node) (c2:List carlingref16_Change) (σ:St Obj) (Q:carlinglaw16_CommitNeeds.QT):Prop:=
  shape_New (IntKind.wrap .i64 ((Int.tmod (IntKind.wrap .i64 pages0) (14:Int))+(1:Int))) fun r_4 r_7=>
  carlingref12_New (IntKind.wrap .i64 ((Int.tmod (IntKind.wrap .i64 pages0) (14:Int))+(1:Int))) fun r_11 r_16=>
  carlinglaw16_far l1 c2 fun r_21=>
  br r_21
  (carlinglaw16_CommitNeeds.K1 Q {carlinglaw16_CommitNeeds.v0 with l1:=l1,c2:=c2,s8:=r_4,e9:=r_7,h10:=r_11,v43:=true} σ)
  (carlinglaw16_CommitNeeds.K1 Q {carlinglaw16_CommitNeeds.v0 with l1:=l1,c2:=c2,s8:=r_4,e9:=r_7,h10:=r_11,v43:=(r_7 !=(0:Int))} σ)
theorem carlinglaw16_CommitNeeds_r {pages0:Int} {l1:List carlingref16_Node} {c2:List carlingref16_Change} {a_l1:Option Addr} {c_l1:Nat} {n_l1:Nat} {X_l1:At} {a_c2:Option Addr} {c_c2:Nat} {n_c2:Nat} {X_c2:At} {σ:St Obj} {Q':carlinglaw16_CommitNeeds.QT} {Q:carlinglaw16_CommitNeeds.RT} (hX_l1:Rd R_carlingref16_Node X_l1 a_l1 n_l1 c_l1 l1) (hX_c2:Rd R_carlingref16_Change X_c2 a_c2 n_c2 c_c2 c2) (I:Inv h (X_l1::X_c2::hpA (obA ρ) σ::A)) (H:carlinglaw16_CommitNeeds pages0 l1 c2 σ Q')
    (k:carlinglaw16_CommitNeeds.kt ρ X_l1 X_c2 A Q' Q):Tx.carlinglaw16_CommitNeeds ρ pages0 ⟨a_l1,n_l1,c_l1⟩ ⟨a_c2,n_c2,c_c2⟩ h Q:=by
  obtain rfl:=rd_len hX_l1 I
  obtain rfl:=rd_len hX_c2 I.pull1
  unfold Tx.carlinglaw16_CommitNeeds
  unfold carlinglaw16_CommitNeeds at H
  refine ⟨by decide, ?_⟩
  refine shape_New_r (pages0:=(IntKind.wrap .i64 ((Int.tmod (IntKind.wrap .i64 pages0) (14:Int))+(1:Int)))) I H fun r_4 a_5 c_6 r_7 h I H=> ?_
  refine al_r [.one (.slice none 0 0)] rfl I fun p_9 h I=> ?_
  refine st_r I 0 0 rfl fun h (I:Inv h (blk p_9 (ρ.T 11) [.one (.slice a_5 r_4.begins.length c_6)]::_))=> ?_
  refine carlingref12_New_r (pages0:=(IntKind.wrap .i64 ((Int.tmod (IntKind.wrap .i64 pages0) (14:Int))+(1:Int)))) I H fun r_11 a_12 c_13 a_14 c_15 r_16 h I H=> ?_
  refine al_r [.one (.int .i64 (0:Int)), .one (.slice none 0 0), .one (.slice none 0 0)] rfl I fun p_19 h I=> ?_
  refine stA_r I 0 3 0 [.one (.int .i64 r_11.P), .one (.slice a_12 r_11.Level.length c_13), .one (.slice a_14 r_11.First.length c_15)] rfl rfl rfl (by first | exact all_segs rfl | exact all_one (by simp [segs,Seg.cells,allOne,allOne_append,allOne_lump,Value.oneCell'])) fun h (I:Inv h (blk p_19 (ρ.T 12) [.one (.int .i64 r_11.P), .one (.slice a_12 r_11.Level.length c_13), .one (.slice a_14 r_11.First.length c_15)]::_))=> ?_
  replace I:=I.pull6.pull6
  refine carlinglaw16_far_r (l0:=l1) (c1:=c2) hX_l1 hX_c2 I H fun r_21 h I H=> ?_
  refine br_r H (fun hb H=> ?_) (fun hb H=> ?_)
  · replace I := I.pull6.dupR
    replace I:=I.pull5.dupR
    replace I:=I.pull7.dupR
    replace I:=I.pull1.drop1
    replace I:=I.pull2.drop1
    replace I:=I.pull3.drop1
    replace I:=I.pull7.pull1.pull2.pull6.pull4.pull7.pull7.pull7
    exact carlinglaw16_CommitNeeds.K1_r (c:= {carlinglaw16_CommitNeeds.v0 with l1:=l1,c2:=c2,s8:=r_4,e9:=r_7,h10:=r_11,v43:=true}) (w:= {carlinglaw16_CommitNeeds.w0 with a_l1:=a_l1,c_l1:=c_l1,a_c2:=a_c2,c_c2:=c_c2,p_s8:=p_9,a_s8:=a_5,c_s8:=c_6,p_h10:=p_19,a_h10_1:=a_12,c_h10_1:=c_13,a_h10_2:=a_14,c_h10_2:=c_15}) ⟨hX_l1,hX_c2,I⟩ H k
  · replace I := I.pull6.dupR
    replace I:=I.pull5.dupR
    replace I:=I.pull7.dupR
    replace I:=I.pull1.drop1
    replace I:=I.pull2.drop1
    replace I:=I.pull3.drop1
    replace I:=I.pull7.pull1.pull2.pull6.pull4.pull7.pull7.pull7
    exact carlinglaw16_CommitNeeds.K1_r (c:= {carlinglaw16_CommitNeeds.v0 with l1:=l1,c2:=c2,s8:=r_4,e9:=r_7,h10:=r_11,v43:=(r_7 !=(0:Int))}) (w:= {carlinglaw16_CommitNeeds.w0 with a_l1:=a_l1,c_l1:=c_l1,a_c2:=a_c2,c_c2:=c_c2,p_s8:=p_9,a_s8:=a_5,c_s8:=c_6,p_h10:=p_19,a_h10_1:=a_12,c_h10_1:=c_13,a_h10_2:=a_14,c_h10_2:=c_15}) ⟨hX_l1,hX_c2,I⟩ H k
end Go.Pt
