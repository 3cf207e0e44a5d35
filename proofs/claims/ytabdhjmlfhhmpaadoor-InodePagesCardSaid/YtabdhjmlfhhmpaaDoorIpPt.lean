import Derived.Test.YtabdhjmlfhhmpaaDoorIpPtA
set_option linter.unusedVariables false
set_option linter.unusedSimpArgs false
set_option maxRecDepth 20000
namespace Go.Pt
open Go Go.Wc Go.Pu

def pack_Fill (b0 : List Int) (size1 : Int) (Q : (List Int) → Int → Prop) : Prop :=
  br (decide ((b0.length : Int) > size1))
  (Q ([] : List Int) (1 : Int))
  (bytes_Clone b0 fun r_3 =>
  (0 ≤ (IntKind.wrap .i64 (size1 - (b0.length : Int)))) ∧ (Bnd (r_3.length + Int.toNat (IntKind.wrap .i64 (size1 - (b0.length : Int))))) ∧
  Q (r_3 ++ List.replicate (Int.toNat (IntKind.wrap .i64 (size1 - (b0.length : Int)))) (0 : Int)) (0 : Int))

theorem pack_Fill_r {ρ : Ids} {h : Hp} {A : List At} {b0 : List Int} {size1 : Int} {a_b00 : Option Addr} {n_b00 c_b00 : Nat} {X_b0 : At} {Q' : (List Int) → Int → Prop} {Q : Sl → Int → Hp → Prop} (hX_b0 : Rd (rI .u8) X_b0 a_b00 n_b00 c_b00 b0) (I : Inv h (X_b0 :: A)) (H : pack_Fill b0 size1 Q')
    (k : ∀ (r0 : List Int) (ra0 : Option Addr) (rc0 : Nat) (r1 : Int) (h' : Hp), Inv h' (ownS (rI .u8) ra0 r0.length rc0 r0 :: X_b0 :: A) → Q' r0 r1 → Q ⟨ra0, r0.length, rc0⟩ r1 h') : Tx.pack_Fill ρ ⟨a_b00, n_b00, c_b00⟩ size1 h Q := by
  obtain rfl := rd_len hX_b0 I
  unfold Tx.pack_Fill
  unfold pack_Fill at H
  refine br_r H (fun hb H => ?_) (fun hb H => ?_)
  · replace I := I.nilO (rI .u8)
    replace I := I.pull1.pull1
    exact k ([] : List Int) none 0 (1 : Int) _ I H
  · refine bytes_Clone_r (s0 := b0) hX_b0 I H fun r_3 a_4 c_5 h I H => ?_
    refine apZ_r (z0 := (0 : Int)) I (fun _ _ => rfl) (by decide) (by decide) H.1 H.2.1 fun a_7 c_8 h I => ?_
    replace H := H.2.2
    replace I := I.pull1.pull1
    exact k (r_3 ++ List.replicate (Int.toNat (IntKind.wrap .i64 (size1 - (b0.length : Int)))) (0 : Int)) a_7 c_8 (0 : Int) _ I H

def inode_Lay (n0 : inode_Inode) (Q : (List Int) → Int → Prop) : Prop :=
  inode_May n0 fun r_3 =>
  br (!r_3)
  (Q ([] : List Int) (1 : Int))
  (pack_Num ([(IntKind.wrap .u8 n0.Kind), (IntKind.wrap .u8 n0.Mode)]) (IntKind.wrap .u64 n0.Links) (2 : Int) fun r_11 =>
  pack_Num r_11 (IntKind.wrap .u64 n0.Size) (4 : Int) fun r_15 =>
  pack_Num r_15 (IntKind.wrap .u64 n0.Time) (8 : Int) fun r_19 =>
  (Bnd (r_19.length + ([(IntKind.wrap .u8 n0.Attr)]).length)) ∧
  (Bnd ((r_19 ++ [(IntKind.wrap .u8 n0.Attr)]).length + n0.Pages.toList.length)) ∧
  pack_Fill ((r_19 ++ [(IntKind.wrap .u8 n0.Attr)]) ++ n0.Pages.toList) (64 : Int) fun r_34 r_37 =>
  Q r_34 r_37)

theorem inode_Lay_r {ρ : Ids} {h : Hp} {A : List At} {n0 : inode_Inode}  {Q' : (List Int) → Int → Prop} {Q : Sl → Int → Hp → Prop} (I : Inv h (A)) (H : inode_Lay n0 Q')
    (k : ∀ (r0 : List Int) (ra0 : Option Addr) (rc0 : Nat) (r1 : Int) (h' : Hp), Inv h' (ownS (rI .u8) ra0 r0.length rc0 r0 :: A) → Q' r0 r1 → Q ⟨ra0, r0.length, rc0⟩ r1 h') : Tx.inode_Lay ρ n0.Kind n0.Mode n0.Links n0.Size n0.Time n0.Attr n0.Pages.toList h Q := by
  unfold Tx.inode_Lay
  unfold inode_Lay at H
  try simp only [nrm_v]
  refine al_r [.one (.int .i64 n0.Kind), .one (.int .i64 n0.Mode), .one (.int .i64 n0.Links), .one (.int .i64 n0.Size), .one (.int .i64 n0.Time), .one (.int .i64 n0.Attr), .vec .u8 32 n0.Pages] rfl I fun p_1 h I => ?_
  refine ldI_r (I.cell 0 0 rfl) ?_
  refine ldI_r (I.cell 1 1 rfl) ?_
  refine ldI_r (I.cell 2 2 rfl) ?_
  refine ldI_r (I.cell 3 3 rfl) ?_
  refine ldI_r (I.cell 4 4 rfl) ?_
  refine ldI_r (I.cell 5 5 rfl) ?_
  refine ldL_r (I.lump 6 6 rfl) ?_
  try simp only [nrm_v]
  try simp only [nrm_v]
  refine inode_May_r (n0 := n0) I H fun r_3 h I H => ?_
  refine br_r H (fun hb H => ?_) (fun hb H => ?_)
  · replace I := I.nilO (rI .u8)
    replace I := I.pull1.drop1
    exact k ([] : List Int) none 0 (1 : Int) _ I H
  · refine ldI_r (I.cell 0 0 rfl) ?_
    refine ldI_r (I.cell 1 1 rfl) ?_
    refine al_r [.one (.int .u8 (IntKind.wrap .u8 n0.Kind)), .one (.int .u8 (IntKind.wrap .u8 n0.Mode))] rfl I fun p_5 h I => ?_
    replace I := I.litN (rI .u8)
    replace I := I.repI (k := .u8) (IntKind.wrap .u8 n0.Mode)
    replace I := I.pull1.pull1
    replace I := I.litC
    replace I := I.repI (k := .u8) (IntKind.wrap .u8 n0.Kind)
    replace I := I.pull1.pull1
    replace I := I.litC
    replace I := I.pull1.pull1
    replace I := Inv.litL (l := [(IntKind.wrap .u8 n0.Kind), (IntKind.wrap .u8 n0.Mode)]) I rfl rfl
    refine ldI_r (I.pull1.cell 2 2 rfl) ?_
    refine pack_Num_r (b0 := [(IntKind.wrap .u8 n0.Kind), (IntKind.wrap .u8 n0.Mode)]) (n1 := (IntKind.wrap .u64 n0.Links)) (size2 := (2 : Int)) rd_own I H fun r_11 a_12 c_13 h I H => ?_
    refine ldI_r (I.pull2.cell 3 3 rfl) ?_
    refine pack_Num_r (b0 := r_11) (n1 := (IntKind.wrap .u64 n0.Size)) (size2 := (4 : Int)) rd_own I H fun r_15 a_16 c_17 h I H => ?_
    refine ldI_r (I.pull3.cell 4 4 rfl) ?_
    refine pack_Num_r (b0 := r_15) (n1 := (IntKind.wrap .u64 n0.Time)) (size2 := (8 : Int)) rd_own I H fun r_19 a_20 c_21 h I H => ?_
    refine ldI_r (I.pull4.cell 5 5 rfl) ?_
    refine sl_full ?_
    refine al_r [.one (.int .u8 (IntKind.wrap .u8 n0.Attr))] rfl I fun p_23 h I => ?_
    replace I := I.litN (rI .u8)
    replace I := I.repI (k := .u8) (IntKind.wrap .u8 n0.Attr)
    replace I := I.pull1.pull1
    replace I := I.litC
    replace I := I.pull1.pull1
    replace I := Inv.litL (l := [(IntKind.wrap .u8 n0.Attr)]) I rfl rfl
    refine ap_r rd_own I.pull1 rfl (by decide) (by decide) H.1 fun a_28 c_29 h I => ?_
    replace H := H.2
    replace I := I.pull1.drop1
    refine ap_r (rd_vec (j := 6) (off := 6) rfl) I.pull4.pull1 rfl (by decide) (by decide) H.1 fun a_31 c_32 h I => ?_
    replace H := H.2
    refine pack_Fill_r (b0 := ((r_19 ++ [(IntKind.wrap .u8 n0.Attr)]) ++ n0.Pages.toList)) (size1 := (64 : Int)) rd_own I H fun r_34 a_35 c_36 r_37 h I H => ?_
    replace I := I.pull1.drop1
    replace I := I.pull1.drop1
    replace I := I.pull1.drop1
    replace I := I.pull1.drop1
    replace I := I.pull1.drop1
    exact k r_34 a_35 c_36 r_37 _ I H

def carlinglaw21_alive (σ : St Obj) (Q : Bool → St Obj → Prop) : Prop :=
  ixP (Vector.replicate 32 (0 : Int)).toList (1 : Int) fun x_5 =>
  inode_Lay (⟨(1 : Int), (6 : Int), (1 : Int), (300 : Int), (0 : Int), (9 : Int), ((Vector.replicate 32 (0 : Int)).setIfInBounds (Int.toNat (1 : Int)) (7 : Int))⟩ : inode_Inode) fun r_10 r_13 =>
  inode_Parse r_10 σ fun r_16 r_17 σ_18 =>
  inode_Used (⟨(1 : Int), (6 : Int), (1 : Int), (300 : Int), (0 : Int), (9 : Int), ((Vector.replicate 32 (0 : Int)).setIfInBounds (Int.toNat (1 : Int)) (7 : Int))⟩ : inode_Inode) fun r_21 =>
  inode_Parse (List.replicate (Int.toNat (64 : Int)) (0 : Int)) σ_18 fun r_29 r_30 σ_31 =>
  br (r_13 == (0 : Int))
  (br ((r_10.length : Int) == (64 : Int))
  (br ((r_16.Kind == (1 : Int)) && ((r_16.Mode == (6 : Int)) && ((r_16.Links == (1 : Int)) && ((r_16.Size == (300 : Int)) && ((r_16.Time == (0 : Int)) && ((r_16.Attr == (9 : Int)) && ((r_16.Pages.toList == ((Vector.replicate 32 (0 : Int)).setIfInBounds (Int.toNat (1 : Int)) (7 : Int)).toList) && true)))))))
  (br (r_17 == (0 : Int))
  (br ((r_21.length : Int) == (2 : Int))
  (ixP r_21 (0 : Int) fun x_34 =>
  br (x_34 == (7 : Int))
  (ixP r_21 (1 : Int) fun x_40 =>
  br (x_40 == (9 : Int))
  (br (r_29.Kind == (0 : Int))
  (Q (r_30 == (0 : Int)) σ_31)
  (Q false σ_31))
  (Q false σ_31))
  (Q false σ_31))
  (Q false σ_31))
  (Q false σ_31))
  (Q false σ_31))
  (Q false σ_31))
  (Q false σ_31)

theorem carlinglaw21_alive_r {ρ : Ids} {h : Hp} {A : List At}   {σ : St Obj} {Q' : Bool → St Obj → Prop} {Q : Bool → Hp → Prop} (I : Inv h (hpA (obA ρ) σ :: A)) (H : carlinglaw21_alive σ Q')
    (k : ∀ (r0 : Bool) (h' : Hp) (σ' : St Obj), Inv h' (hpA (obA ρ) σ' :: A) → Q' r0 σ' → Q r0 h') : Tx.carlinglaw21_alive ρ h Q := by
  unfold Tx.carlinglaw21_alive
  unfold carlinglaw21_alive at H
  refine al_r [.one (.int .i64 (0 : Int)), .one (.int .i64 (0 : Int)), .one (.int .i64 (0 : Int)), .one (.int .i64 (0 : Int)), .one (.int .i64 (0 : Int)), .one (.int .i64 (0 : Int)), .vec .u8 32 (Vector.replicate 32 (0 : Int))] rfl I fun p_2 h I => ?_
  refine stA_r I 0 7 0 [.one (.int .i64 (1 : Int)), .one (.int .i64 (6 : Int)), .one (.int .i64 (1 : Int)), .one (.int .i64 (300 : Int)), .one (.int .i64 (0 : Int)), .one (.int .i64 (9 : Int)), .vec .u8 32 (Vector.replicate 32 (0 : Int))] rfl rfl rfl (by first | exact all_segs rfl | exact all_one (by simp [segs, Seg.cells, allOne, allOne_append, allOne_lump, Value.oneCell'])) fun h (I : Inv h (blk p_2 (ρ.T 8) [.one (.int .i64 (1 : Int)), .one (.int .i64 (6 : Int)), .one (.int .i64 (1 : Int)), .one (.int .i64 (300 : Int)), .one (.int .i64 (0 : Int)), .one (.int .i64 (9 : Int)), .vec .u8 32 (Vector.replicate 32 (0 : Int))] :: _)) => ?_
  refine ix_vec I (j := 6) (off := 6) rfl H fun q_4 x_5 hq_6 hb_7 hc_8 H => ?_
  refine st_vec (I) (j := 6) (off := 6) rfl hq_6 hb_7 fun h I => ?_
  refine ldI_r (I.cell 0 0 rfl) ?_
  refine ldI_r (I.cell 1 1 rfl) ?_
  refine ldI_r (I.cell 2 2 rfl) ?_
  refine ldI_r (I.cell 3 3 rfl) ?_
  refine ldI_r (I.cell 4 4 rfl) ?_
  refine ldI_r (I.cell 5 5 rfl) ?_
  refine ldL_r (I.lump 6 6 rfl) ?_
  try simp only [nrm_v]
  try simp only [nrm_v]
  refine inode_Lay_r (n0 := (⟨(1 : Int), (6 : Int), (1 : Int), (300 : Int), (0 : Int), (9 : Int), ((Vector.replicate 32 (0 : Int)).setIfInBounds (Int.toNat (1 : Int)) (7 : Int))⟩ : inode_Inode)) I H fun r_10 a_11 c_12 r_13 h I H => ?_
  replace I := I.freeze
  replace I := I.dupR
  replace I := I.pull3.pull1
  refine inode_Parse_r (b0 := r_10) (σ := σ) I H fun r_16 r_17 h σ_18 I H => ?_
  refine al_r [.one (.int .i64 (0 : Int)), .one (.int .i64 (0 : Int)), .one (.int .i64 (0 : Int)), .one (.int .i64 (0 : Int)), .one (.int .i64 (0 : Int)), .one (.int .i64 (0 : Int)), .vec .u8 32 (Vector.replicate 32 (0 : Int))] rfl I fun p_19 h I => ?_
  refine stA_r I 0 7 0 [.one (.int .i64 r_16.Kind), .one (.int .i64 r_16.Mode), .one (.int .i64 r_16.Links), .one (.int .i64 r_16.Size), .one (.int .i64 r_16.Time), .one (.int .i64 r_16.Attr), .vec .u8 32 r_16.Pages] rfl rfl rfl (by first | exact all_segs rfl | exact all_one (by simp [segs, Seg.cells, allOne, allOne_append, allOne_lump, Value.oneCell'])) fun h (I : Inv h (blk p_19 (ρ.T 8) [.one (.int .i64 r_16.Kind), .one (.int .i64 r_16.Mode), .one (.int .i64 r_16.Links), .one (.int .i64 r_16.Size), .one (.int .i64 r_16.Time), .one (.int .i64 r_16.Attr), .vec .u8 32 r_16.Pages] :: _)) => ?_
  refine ldI_r (I.pull3.cell 0 0 rfl) ?_
  refine ldI_r (I.pull3.cell 1 1 rfl) ?_
  refine ldI_r (I.pull3.cell 2 2 rfl) ?_
  refine ldI_r (I.pull3.cell 3 3 rfl) ?_
  refine ldI_r (I.pull3.cell 4 4 rfl) ?_
  refine ldI_r (I.pull3.cell 5 5 rfl) ?_
  refine ldL_r (I.pull3.lump 6 6 rfl) ?_
  try simp only [nrm_v]
  try simp only [nrm_v]
  refine inode_Used_r (n0 := (⟨(1 : Int), (6 : Int), (1 : Int), (300 : Int), (0 : Int), (9 : Int), ((Vector.replicate 32 (0 : Int)).setIfInBounds (Int.toNat (1 : Int)) (7 : Int))⟩ : inode_Inode)) I H fun r_21 a_22 c_23 h I H => ?_
  refine mk_r (E := (rI .u8)) (z0 := (0 : Int)) I (fun _ _ => rfl) (by decide) ⟨by decide, by decide⟩ fun a_25 c_26 h I => ?_
  replace I := I.freeze
  replace I := I.dupR
  replace I := I.pull4.pull1
  refine inode_Parse_r (b0 := (List.replicate (Int.toNat (64 : Int)) (0 : Int))) (σ := σ_18) I H fun r_29 r_30 h σ_31 I H => ?_
  refine al_r [.one (.int .i64 (0 : Int)), .one (.int .i64 (0 : Int)), .one (.int .i64 (0 : Int)), .one (.int .i64 (0 : Int)), .one (.int .i64 (0 : Int)), .one (.int .i64 (0 : Int)), .vec .u8 32 (Vector.replicate 32 (0 : Int))] rfl I fun p_32 h I => ?_
  refine stA_r I 0 7 0 [.one (.int .i64 r_29.Kind), .one (.int .i64 r_29.Mode), .one (.int .i64 r_29.Links), .one (.int .i64 r_29.Size), .one (.int .i64 r_29.Time), .one (.int .i64 r_29.Attr), .vec .u8 32 r_29.Pages] rfl rfl rfl (by first | exact all_segs rfl | exact all_one (by simp [segs, Seg.cells, allOne, allOne_append, allOne_lump, Value.oneCell'])) fun h (I : Inv h (blk p_32 (ρ.T 8) [.one (.int .i64 r_29.Kind), .one (.int .i64 r_29.Mode), .one (.int .i64 r_29.Links), .one (.int .i64 r_29.Size), .one (.int .i64 r_29.Time), .one (.int .i64 r_29.Attr), .vec .u8 32 r_29.Pages] :: _)) => ?_
  refine br_r H (fun hb H => ?_) (fun hb H => ?_)
  · refine br_r H (fun hb H => ?_) (fun hb H => ?_)
    · refine ldI_r (I.pull4.cell 0 0 rfl) ?_
      refine ldI_r (I.pull4.cell 1 1 rfl) ?_
      refine ldI_r (I.pull4.cell 2 2 rfl) ?_
      refine ldI_r (I.pull4.cell 3 3 rfl) ?_
      refine ldI_r (I.pull4.cell 4 4 rfl) ?_
      refine ldI_r (I.pull4.cell 5 5 rfl) ?_
      refine ldL_r (I.pull4.lump 6 6 rfl) ?_
      try simp only [nrm_v]
      refine ldI_r (I.pull6.cell 0 0 rfl) ?_
      refine ldI_r (I.pull6.cell 1 1 rfl) ?_
      refine ldI_r (I.pull6.cell 2 2 rfl) ?_
      refine ldI_r (I.pull6.cell 3 3 rfl) ?_
      refine ldI_r (I.pull6.cell 4 4 rfl) ?_
      refine ldI_r (I.pull6.cell 5 5 rfl) ?_
      refine ldL_r (I.pull6.lump 6 6 rfl) ?_
      try simp only [nrm_v]
      try simp only [nrm_v]
      refine br_r H (fun hb H => ?_) (fun hb H => ?_)
      · refine br_r H (fun hb H => ?_) (fun hb H => ?_)
        · refine br_r H (fun hb H => ?_) (fun hb H => ?_)
          · refine ixI_a rd_own I.pull3 (ixP_keep H) fun p_35 x_34 he_36 hb_37 hc_38 H => ?_
            obtain ⟨hg_39, H⟩ := H
            refine ldI_r hc_38 ?_
            refine br_r H (fun hb H => ?_) (fun hb H => ?_)
            · refine ixI_a rd_own I.pull3 (ixP_keep H) fun p_41 x_40 he_42 hb_43 hc_44 H => ?_
              obtain ⟨hg_45, H⟩ := H
              refine ldI_r hc_44 ?_
              refine br_r H (fun hb H => ?_) (fun hb H => ?_)
              · refine ldI_r (I.cell 0 0 rfl) ?_
                refine br_r H (fun hb H => ?_) (fun hb H => ?_)
                · replace I := I.drop1
                  replace I := I.pull1.drop1
                  replace I := I.pull1.drop1
                  replace I := I.pull1.drop1
                  replace I := I.pull1.drop1
                  replace I := I.pull1.drop1
                  exact k (r_30 == (0 : Int)) _ σ_31 I H
                · replace I := I.drop1
                  replace I := I.pull1.drop1
                  replace I := I.pull1.drop1
                  replace I := I.pull1.drop1
                  replace I := I.pull1.drop1
                  replace I := I.pull1.drop1
                  exact k false _ σ_31 I H
              · replace I := I.drop1
                replace I := I.pull1.drop1
                replace I := I.pull1.drop1
                replace I := I.pull1.drop1
                replace I := I.pull1.drop1
                replace I := I.pull1.drop1
                exact k false _ σ_31 I H
            · replace I := I.drop1
              replace I := I.pull1.drop1
              replace I := I.pull1.drop1
              replace I := I.pull1.drop1
              replace I := I.pull1.drop1
              replace I := I.pull1.drop1
              exact k false _ σ_31 I H
          · replace I := I.drop1
            replace I := I.pull1.drop1
            replace I := I.pull1.drop1
            replace I := I.pull1.drop1
            replace I := I.pull1.drop1
            replace I := I.pull1.drop1
            exact k false _ σ_31 I H
        · replace I := I.drop1
          replace I := I.pull1.drop1
          replace I := I.pull1.drop1
          replace I := I.pull1.drop1
          replace I := I.pull1.drop1
          replace I := I.pull1.drop1
          exact k false _ σ_31 I H
      · replace I := I.drop1
        replace I := I.pull1.drop1
        replace I := I.pull1.drop1
        replace I := I.pull1.drop1
        replace I := I.pull1.drop1
        replace I := I.pull1.drop1
        exact k false _ σ_31 I H
    · replace I := I.drop1
      replace I := I.pull1.drop1
      replace I := I.pull1.drop1
      replace I := I.pull1.drop1
      replace I := I.pull1.drop1
      replace I := I.pull1.drop1
      exact k false _ σ_31 I H
  · replace I := I.drop1
    replace I := I.pull1.drop1
    replace I := I.pull1.drop1
    replace I := I.pull1.drop1
    replace I := I.pull1.drop1
    replace I := I.pull1.drop1
    exact k false _ σ_31 I H

def carlinglaw21_InodeParses (b0 : List Int) (σ : St Obj) (Q : Bool → St Obj → Prop) : Prop :=
  inode_Parse b0 σ fun r_4 r_5 σ_6 =>
  carlingref21_Parse b0 fun r_9 r_10 =>
  carlinglaw21_ours r_4 fun r_13 =>
  br ((r_13.Kind == r_9.Kind) && ((r_13.Mode == r_9.Mode) && ((r_13.Links == r_9.Links) && ((r_13.Size == r_9.Size) && ((r_13.Time == r_9.Time) && ((r_13.Attr == r_9.Attr) && ((r_13.Pages.toList == r_9.Pages.toList) && true)))))))
  (br (r_5 == r_10)
  (carlinglaw21_alive σ_6 fun r_14 σ_15 =>
  Q r_14 σ_15)
  (Q false σ_6))
  (Q false σ_6)

theorem carlinglaw21_InodeParses_r {ρ : Ids} {h : Hp} {A : List At} {b0 : List Int} {a_b00 : Option Addr} {n_b00 c_b00 : Nat} {σ : St Obj} {Q' : Bool → St Obj → Prop} {Q : Bool → Hp → Prop} (I : Inv h (roS (rI .u8) a_b00 n_b00 c_b00 b0 :: hpA (obA ρ) σ :: A)) (H : carlinglaw21_InodeParses b0 σ Q')
    (k : ∀ (r0 : Bool) (h' : Hp) (σ' : St Obj), Inv h' (hpA (obA ρ) σ' :: A) → Q' r0 σ' → Q r0 h') : Tx.carlinglaw21_InodeParses ρ ⟨a_b00, n_b00, c_b00⟩ h Q := by
  obtain rfl := ro_len I
  unfold Tx.carlinglaw21_InodeParses
  unfold carlinglaw21_InodeParses at H
  replace I := I.dupR
  replace I := I.pull2.pull1
  refine inode_Parse_r (b0 := b0) (σ := σ) I H fun r_4 r_5 h σ_6 I H => ?_
  refine al_r [.one (.int .i64 (0 : Int)), .one (.int .i64 (0 : Int)), .one (.int .i64 (0 : Int)), .one (.int .i64 (0 : Int)), .one (.int .i64 (0 : Int)), .one (.int .i64 (0 : Int)), .vec .u8 32 (Vector.replicate 32 (0 : Int))] rfl I fun p_7 h I => ?_
  refine stA_r I 0 7 0 [.one (.int .i64 r_4.Kind), .one (.int .i64 r_4.Mode), .one (.int .i64 r_4.Links), .one (.int .i64 r_4.Size), .one (.int .i64 r_4.Time), .one (.int .i64 r_4.Attr), .vec .u8 32 r_4.Pages] rfl rfl rfl (by first | exact all_segs rfl | exact all_one (by simp [segs, Seg.cells, allOne, allOne_append, allOne_lump, Value.oneCell'])) fun h (I : Inv h (blk p_7 (ρ.T 8) [.one (.int .i64 r_4.Kind), .one (.int .i64 r_4.Mode), .one (.int .i64 r_4.Links), .one (.int .i64 r_4.Size), .one (.int .i64 r_4.Time), .one (.int .i64 r_4.Attr), .vec .u8 32 r_4.Pages] :: _)) => ?_
  replace I := I.pull2
  refine carlingref21_Parse_r (b0 := b0) rd_ro I H fun r_9 r_10 h I H => ?_
  refine al_r [.one (.int .i64 (0 : Int)), .one (.int .i64 (0 : Int)), .one (.int .i64 (0 : Int)), .one (.int .i64 (0 : Int)), .one (.int .i64 (0 : Int)), .one (.int .i64 (0 : Int)), .vec .u8 32 (Vector.replicate 32 (0 : Int))] rfl I fun p_11 h I => ?_
  refine stA_r I 0 7 0 [.one (.int .i64 r_9.Kind), .one (.int .i64 r_9.Mode), .one (.int .i64 r_9.Links), .one (.int .i64 r_9.Size), .one (.int .i64 r_9.Time), .one (.int .i64 r_9.Attr), .vec .u8 32 r_9.Pages] rfl rfl rfl (by first | exact all_segs rfl | exact all_one (by simp [segs, Seg.cells, allOne, allOne_append, allOne_lump, Value.oneCell'])) fun h (I : Inv h (blk p_11 (ρ.T 9) [.one (.int .i64 r_9.Kind), .one (.int .i64 r_9.Mode), .one (.int .i64 r_9.Links), .one (.int .i64 r_9.Size), .one (.int .i64 r_9.Time), .one (.int .i64 r_9.Attr), .vec .u8 32 r_9.Pages] :: _)) => ?_
  refine ldI_r (I.pull2.cell 0 0 rfl) ?_
  refine ldI_r (I.pull2.cell 1 1 rfl) ?_
  refine ldI_r (I.pull2.cell 2 2 rfl) ?_
  refine ldI_r (I.pull2.cell 3 3 rfl) ?_
  refine ldI_r (I.pull2.cell 4 4 rfl) ?_
  refine ldI_r (I.pull2.cell 5 5 rfl) ?_
  refine ldL_r (I.pull2.lump 6 6 rfl) ?_
  try simp only [nrm_v]
  refine ldI_r (I.cell 0 0 rfl) ?_
  refine ldI_r (I.cell 1 1 rfl) ?_
  refine ldI_r (I.cell 2 2 rfl) ?_
  refine ldI_r (I.cell 3 3 rfl) ?_
  refine ldI_r (I.cell 4 4 rfl) ?_
  refine ldI_r (I.cell 5 5 rfl) ?_
  refine ldL_r (I.lump 6 6 rfl) ?_
  try simp only [nrm_v]
  try simp only [nrm_v]
  refine carlinglaw21_ours_r (n0 := r_4) I H fun r_13 h I H => ?_
  refine ⟨⟨I.cell 0 0 rfl, I.cell 1 1 rfl, I.cell 2 2 rfl, I.cell 3 3 rfl, I.cell 4 4 rfl, I.cell 5 5 rfl, I.lump 6 6 rfl, trivial⟩, ?_⟩
  try simp only [nrm_v]
  refine br_r H (fun hb H => ?_) (fun hb H => ?_)
  · refine br_r H (fun hb H => ?_) (fun hb H => ?_)
    · replace I := I.pull3
      refine carlinglaw21_alive_r (σ := σ_6) I H fun r_14 h σ_15 I H => ?_
      replace I := I.pull1.drop1
      replace I := I.pull1.drop1
      replace I := I.pull1.drop1
      exact k r_14 _ σ_15 I H
    · replace I := I.drop1
      replace I := I.drop1
      replace I := I.drop1
      exact k false _ σ_6 I H
  · replace I := I.drop1
    replace I := I.drop1
    replace I := I.drop1
    exact k false _ σ_6 I H

def carlinglaw21_theirs (n0 : carlingref21_Inode) (Q : inode_Inode → Prop) : Prop :=
  Q (⟨n0.Kind, n0.Mode, n0.Links, n0.Size, n0.Time, n0.Attr, n0.Pages⟩ : inode_Inode)

theorem carlinglaw21_theirs_r {ρ : Ids} {h : Hp} {A : List At} {n0 : carlingref21_Inode}  {Q' : inode_Inode → Prop} {Q : Int → Int → Int → Int → Int → Int → List Int → Hp → Prop} (I : Inv h (A)) (H : carlinglaw21_theirs n0 Q')
    (k : ∀ (r0 : inode_Inode) (h' : Hp), Inv h' (A) → Q' r0 → Q r0.Kind r0.Mode r0.Links r0.Size r0.Time r0.Attr r0.Pages.toList h') : Tx.carlinglaw21_theirs ρ n0.Kind n0.Mode n0.Links n0.Size n0.Time n0.Attr n0.Pages.toList h Q := by
  unfold Tx.carlinglaw21_theirs
  unfold carlinglaw21_theirs at H
  try simp only [nrm_v]
  refine al_r [.one (.int .i64 n0.Kind), .one (.int .i64 n0.Mode), .one (.int .i64 n0.Links), .one (.int .i64 n0.Size), .one (.int .i64 n0.Time), .one (.int .i64 n0.Attr), .vec .u8 32 n0.Pages] rfl I fun p_1 h I => ?_
  refine al_r [.one (.int .i64 (0 : Int)), .one (.int .i64 (0 : Int)), .one (.int .i64 (0 : Int)), .one (.int .i64 (0 : Int)), .one (.int .i64 (0 : Int)), .one (.int .i64 (0 : Int)), .vec .u8 32 (Vector.replicate 32 (0 : Int))] rfl I fun p_3 h I => ?_
  refine ldI_r (I.pull1.cell 0 0 rfl) ?_
  refine ldI_r (I.pull1.cell 1 1 rfl) ?_
  refine ldI_r (I.pull1.cell 2 2 rfl) ?_
  refine ldI_r (I.pull1.cell 3 3 rfl) ?_
  refine ldI_r (I.pull1.cell 4 4 rfl) ?_
  refine ldI_r (I.pull1.cell 5 5 rfl) ?_
  refine ldL_r (I.pull1.lump 6 6 rfl) ?_
  try simp only [nrm_v]
  refine stA_r I 0 7 0 [.one (.int .i64 n0.Kind), .one (.int .i64 n0.Mode), .one (.int .i64 n0.Links), .one (.int .i64 n0.Size), .one (.int .i64 n0.Time), .one (.int .i64 n0.Attr), .vec .u8 32 n0.Pages] rfl rfl rfl (by first | exact all_segs rfl | exact all_one (by simp [segs, Seg.cells, allOne, allOne_append, allOne_lump, Value.oneCell'])) fun h (I : Inv h (blk p_3 (ρ.T 8) [.one (.int .i64 n0.Kind), .one (.int .i64 n0.Mode), .one (.int .i64 n0.Links), .one (.int .i64 n0.Size), .one (.int .i64 n0.Time), .one (.int .i64 n0.Attr), .vec .u8 32 n0.Pages] :: _)) => ?_
  refine ldI_r (I.cell 0 0 rfl) ?_
  refine ldI_r (I.cell 1 1 rfl) ?_
  refine ldI_r (I.cell 2 2 rfl) ?_
  refine ldI_r (I.cell 3 3 rfl) ?_
  refine ldI_r (I.cell 4 4 rfl) ?_
  refine ldI_r (I.cell 5 5 rfl) ?_
  refine ldL_r (I.lump 6 6 rfl) ?_
  try simp only [nrm_v]
  replace I := I.drop1
  replace I := I.drop1
  exact k (⟨n0.Kind, n0.Mode, n0.Links, n0.Size, n0.Time, n0.Attr, n0.Pages⟩ : inode_Inode) _ I H

def carlingref02_Same_B1 (S1 : (List Int) → (List Int) → Int → Prop) (Q : Bool → Prop) (a0 : List Int) (b1 : List Int) (i5 : Int) : Prop :=
  br (decide (i5 < (a0.length : Int)))
  (ixP a0 i5 fun x_5 =>
  ixP b1 i5 fun x_11 =>
  br (x_5 != x_11)
  (Q false)
  (S1 a0 b1 (IntKind.wrap .i64 (i5 + (1 : Int)))))
  (Q true)

def carlingref02_Same_L1 (Q : Bool → Prop) (a0 : List Int) (b1 : List Int) (i5 : Int) : Prop :=
  Lf (fun S (v : (List Int) × (List Int) × Int) => carlingref02_Same_B1 (fun a0 b1 i5 => S (a0, b1, i5)) Q v.1 v.2.1 v.2.2) (a0, b1, i5)

theorem carlingref02_Same_L1_in (Q : Bool → Prop) (a0 : List Int) (b1 : List Int) (i5 : Int) (H : carlingref02_Same_B1 (carlingref02_Same_L1 Q) Q a0 b1 i5) : carlingref02_Same_L1 Q a0 b1 i5 := Lf.fold H

theorem carlingref02_Same_B1_r {ρ : Ids} {h : Hp} {A : List At} {X_a0 : At} {X_b1 : At} {a0 : List Int} {b1 : List Int} {i5 : Int} {a_a0 : Option Addr} {n_a0 c_a0 : Nat} {a_b1 : Option Addr} {n_b1 c_b1 : Nat} {Q' : Bool → Prop} {Q : Bool → Hp → Prop} {S1' : (List Int) → (List Int) → Int → Prop} {S1 : Sl → Sl → Int → Hp → Prop} (hX_a0 : Rd (rI .u8) X_a0 a_a0 n_a0 c_a0 a0) (hX_b1 : Rd (rI .u8) X_b1 a_b1 n_b1 c_b1 b1) (I : Inv h (X_a0 :: X_b1 :: A)) (H : carlingref02_Same_B1 S1' Q' a0 b1 i5) (kS1 : ∀ {a0 : List Int} {b1 : List Int} {i5 : Int} {a_a0 : Option Addr} {n_a0 c_a0 : Nat} {a_b1 : Option Addr} {n_b1 c_b1 : Nat} {h : Hp} (hX_a0 : Rd (rI .u8) X_a0 a_a0 n_a0 c_a0 a0) (hX_b1 : Rd (rI .u8) X_b1 a_b1 n_b1 c_b1 b1), Inv h (X_a0 :: X_b1 :: A) → S1' a0 b1 i5 → S1 ⟨a_a0, n_a0, c_a0⟩ ⟨a_b1, n_b1, c_b1⟩ i5 h)
    (k : ∀ (r0 : Bool) (h' : Hp), Inv h' (X_a0 :: X_b1 :: A) → Q' r0 → Q r0 h') : Tx.carlingref02_Same_B1 ρ S1 Q ⟨a_a0, n_a0, c_a0⟩ ⟨a_b1, n_b1, c_b1⟩ i5 h := by
  obtain rfl := rd_len hX_a0 I
  obtain rfl := rd_len hX_b1 I.pull1
  unfold Tx.carlingref02_Same_B1
  unfold carlingref02_Same_B1 at H
  refine br_r H (fun hb H => ?_) (fun hb H => ?_)
  · refine ixI_a hX_a0 I (ixP_keep H) fun p_6 x_5 he_7 hb_8 hc_9 H => ?_
    obtain ⟨hg_10, H⟩ := H
    refine ldI_r hc_9 ?_
    refine ixI_a hX_b1 I.pull1 (ixP_keep H) fun p_12 x_11 he_13 hb_14 hc_15 H => ?_
    obtain ⟨hg_16, H⟩ := H
    refine ldI_r hc_15 ?_
    refine br_r H (fun hb H => ?_) (fun hb H => ?_)
    · replace I := I.pull1.pull1
      exact k false _ I H
    · replace I := I.pull1.pull1
      exact kS1 (a0 := a0) (b1 := b1) (i5 := (IntKind.wrap .i64 (i5 + (1 : Int)))) hX_a0 hX_b1 I H
  · replace I := I.pull1.pull1
    exact k true _ I H

theorem carlingref02_Same_L1_r {ρ : Ids} {h : Hp} {A : List At} {X_a0 : At} {X_b1 : At} {a0 : List Int} {b1 : List Int} {i5 : Int} {a_a0 : Option Addr} {n_a0 c_a0 : Nat} {a_b1 : Option Addr} {n_b1 c_b1 : Nat} {Q' : Bool → Prop} {Q : Bool → Hp → Prop} (hX_a0 : Rd (rI .u8) X_a0 a_a0 n_a0 c_a0 a0) (hX_b1 : Rd (rI .u8) X_b1 a_b1 n_b1 c_b1 b1) (I : Inv h (X_a0 :: X_b1 :: A)) (H : carlingref02_Same_L1 Q' a0 b1 i5)
    (k : ∀ (r0 : Bool) (h' : Hp), Inv h' (X_a0 :: X_b1 :: A) → Q' r0 → Q r0 h') : Tx.carlingref02_Same_L1 ρ Q ⟨a_a0, n_a0, c_a0⟩ ⟨a_b1, n_b1, c_b1⟩ i5 h := by
  refine Lf.ind H (fun v => ∀ (a_a0 : Option Addr) (n_a0 c_a0 : Nat) (a_b1 : Option Addr) (n_b1 c_b1 : Nat) (h : Hp) (hX_a0 : Rd (rI .u8) X_a0 a_a0 n_a0 c_a0 v.1) (hX_b1 : Rd (rI .u8) X_b1 a_b1 n_b1 c_b1 v.2.1), Inv h (X_a0 :: X_b1 :: A) → Tx.carlingref02_Same_L1 ρ Q ⟨a_a0, n_a0, c_a0⟩ ⟨a_b1, n_b1, c_b1⟩ v.2.2 h) ?_ _ _ _ _ _ _ _ hX_a0 hX_b1 I
  rintro ⟨a0, b1, i5⟩ S hS HB a_a0 n_a0 c_a0 a_b1 n_b1 c_b1 h hX_a0 hX_b1 I
  refine Tx.carlingref02_Same_L1_in _ _ _ _ _ _ ?_
  try simp only [nrm_v]
  exact carlingref02_Same_B1_r (a0 := a0) (b1 := b1) (i5 := i5) hX_a0 hX_b1 I HB (fun {a0 b1 i5 a_a0 n_a0 c_a0 a_b1 n_b1 c_b1 h} hX_a0 hX_b1 I H => hS _ H a_a0 n_a0 c_a0 a_b1 n_b1 c_b1 _ hX_a0 hX_b1 I) k

def carlingref02_Same (a0 : List Int) (b1 : List Int) (Q : Bool → Prop) : Prop :=
  br ((a0.length : Int) != (b1.length : Int))
  (Q false)
  (carlingref02_Same_L1 Q a0 b1 (0 : Int))

theorem carlingref02_Same_r {ρ : Ids} {h : Hp} {A : List At} {a0 : List Int} {b1 : List Int} {a_a00 : Option Addr} {n_a00 c_a00 : Nat} {X_a0 : At} {a_b11 : Option Addr} {n_b11 c_b11 : Nat} {X_b1 : At} {Q' : Bool → Prop} {Q : Bool → Hp → Prop} (hX_a0 : Rd (rI .u8) X_a0 a_a00 n_a00 c_a00 a0) (hX_b1 : Rd (rI .u8) X_b1 a_b11 n_b11 c_b11 b1) (I : Inv h (X_a0 :: X_b1 :: A)) (H : carlingref02_Same a0 b1 Q')
    (k : ∀ (r0 : Bool) (h' : Hp), Inv h' (X_a0 :: X_b1 :: A) → Q' r0 → Q r0 h') : Tx.carlingref02_Same ρ ⟨a_a00, n_a00, c_a00⟩ ⟨a_b11, n_b11, c_b11⟩ h Q := by
  obtain rfl := rd_len hX_a0 I
  obtain rfl := rd_len hX_b1 I.pull1
  unfold Tx.carlingref02_Same
  unfold carlingref02_Same at H
  refine br_r H (fun hb H => ?_) (fun hb H => ?_)
  · replace I := I.pull1.pull1
    exact k false _ I H
  · replace I := I.pull1.pull1
    exact carlingref02_Same_L1_r (a0 := a0) (b1 := b1) (i5 := (0 : Int)) hX_a0 hX_b1 I H k

def carlinglaw21_InodeBack_K2 (Q : Bool → St Obj → Prop) (b1 : List Int) (σ : St Obj) : Prop :=
  inode_Parse b1 σ fun r_27 r_28 σ_29 =>
  br (r_28 != (0 : Int))
  (br ((r_27.Kind == (0 : Int)) && ((r_27.Mode == (0 : Int)) && ((r_27.Links == (0 : Int)) && ((r_27.Size == (0 : Int)) && ((r_27.Time == (0 : Int)) && ((r_27.Attr == (0 : Int)) && ((r_27.Pages.toList == (Vector.replicate 32 (0 : Int)).toList) && true)))))))
  (carlinglaw21_alive σ_29 fun r_32 σ_33 =>
  Q r_32 σ_33)
  (Q false σ_29))
  (inode_Lay r_27 fun r_34 r_37 =>
  br (r_37 == (0 : Int))
  (carlingref02_Same r_34 b1 fun r_39 =>
  br r_39
  (carlinglaw21_alive σ_29 fun r_40 σ_41 =>
  Q r_40 σ_41)
  (Q false σ_29))
  (Q false σ_29))

theorem carlinglaw21_InodeBack_K2_r {ρ : Ids} {h : Hp} {A : List At}  {b1 : List Int} {a_b10 : Option Addr} {n_b10 c_b10 : Nat} {σ : St Obj} {Q' : Bool → St Obj → Prop} {Q : Bool → Hp → Prop} (I : Inv h (roS (rI .u8) a_b10 n_b10 c_b10 b1 :: hpA (obA ρ) σ :: A)) (H : carlinglaw21_InodeBack_K2 Q' b1 σ)
    (k : ∀ (r0 : Bool) (h' : Hp) (σ' : St Obj), Inv h' (hpA (obA ρ) σ' :: A) → Q' r0 σ' → Q r0 h') : Tx.carlinglaw21_InodeBack_K2 ρ Q ⟨a_b10, n_b10, c_b10⟩ h := by
  obtain rfl := ro_len I
  unfold Tx.carlinglaw21_InodeBack_K2
  unfold carlinglaw21_InodeBack_K2 at H
  replace I := I.dupR
  replace I := I.pull2.pull1
  refine inode_Parse_r (b0 := b1) (σ := σ) I H fun r_27 r_28 h σ_29 I H => ?_
  refine al_r [.one (.int .i64 (0 : Int)), .one (.int .i64 (0 : Int)), .one (.int .i64 (0 : Int)), .one (.int .i64 (0 : Int)), .one (.int .i64 (0 : Int)), .one (.int .i64 (0 : Int)), .vec .u8 32 (Vector.replicate 32 (0 : Int))] rfl I fun p_30 h I => ?_
  refine stA_r I 0 7 0 [.one (.int .i64 r_27.Kind), .one (.int .i64 r_27.Mode), .one (.int .i64 r_27.Links), .one (.int .i64 r_27.Size), .one (.int .i64 r_27.Time), .one (.int .i64 r_27.Attr), .vec .u8 32 r_27.Pages] rfl rfl rfl (by first | exact all_segs rfl | exact all_one (by simp [segs, Seg.cells, allOne, allOne_append, allOne_lump, Value.oneCell'])) fun h (I : Inv h (blk p_30 (ρ.T 8) [.one (.int .i64 r_27.Kind), .one (.int .i64 r_27.Mode), .one (.int .i64 r_27.Links), .one (.int .i64 r_27.Size), .one (.int .i64 r_27.Time), .one (.int .i64 r_27.Attr), .vec .u8 32 r_27.Pages] :: _)) => ?_
  refine br_r H (fun hb H => ?_) (fun hb H => ?_)
  · refine ldI_r (I.cell 0 0 rfl) ?_
    refine ldI_r (I.cell 1 1 rfl) ?_
    refine ldI_r (I.cell 2 2 rfl) ?_
    refine ldI_r (I.cell 3 3 rfl) ?_
    refine ldI_r (I.cell 4 4 rfl) ?_
    refine ldI_r (I.cell 5 5 rfl) ?_
    refine ldL_r (I.lump 6 6 rfl) ?_
    try simp only [nrm_v]
    try simp only [nrm_v]
    refine br_r H (fun hb H => ?_) (fun hb H => ?_)
    · replace I := I.pull1
      refine carlinglaw21_alive_r (σ := σ_29) I H fun r_32 h σ_33 I H => ?_
      replace I := I.pull1.drop1
      replace I := I.pull1.drop1
      exact k r_32 _ σ_33 I H
    · replace I := I.drop1
      replace I := I.pull1.drop1
      exact k false _ σ_29 I H
  · refine ldI_r (I.cell 0 0 rfl) ?_
    refine ldI_r (I.cell 1 1 rfl) ?_
    refine ldI_r (I.cell 2 2 rfl) ?_
    refine ldI_r (I.cell 3 3 rfl) ?_
    refine ldI_r (I.cell 4 4 rfl) ?_
    refine ldI_r (I.cell 5 5 rfl) ?_
    refine ldL_r (I.lump 6 6 rfl) ?_
    try simp only [nrm_v]
    try simp only [nrm_v]
    refine inode_Lay_r (n0 := r_27) I H fun r_34 a_35 c_36 r_37 h I H => ?_
    refine br_r H (fun hb H => ?_) (fun hb H => ?_)
    · replace I := I.pull3.pull1
      refine carlingref02_Same_r (a0 := r_34) (b1 := b1) rd_own rd_ro I H fun r_39 h I H => ?_
      refine br_r H (fun hb H => ?_) (fun hb H => ?_)
      · replace I := I.pull3
        refine carlinglaw21_alive_r (σ := σ_29) I H fun r_40 h σ_41 I H => ?_
        replace I := I.pull1.drop1
        replace I := I.pull1.drop1
        replace I := I.pull1.drop1
        exact k r_40 _ σ_41 I H
      · replace I := I.drop1
        replace I := I.drop1
        replace I := I.drop1
        exact k false _ σ_29 I H
    · replace I := I.drop1
      replace I := I.drop1
      replace I := I.pull1.drop1
      exact k false _ σ_29 I H

def carlinglaw21_InodeBack_K1 (Q : Bool → St Obj → Prop) (b1 : List Int) (v33 : Bool) (σ : St Obj) : Prop :=
  br v33
  (Q false σ)
  (carlinglaw21_InodeBack_K2 Q b1 σ)

theorem carlinglaw21_InodeBack_K1_r {ρ : Ids} {h : Hp} {A : List At}  {b1 : List Int} {v33 : Bool} {a_b10 : Option Addr} {n_b10 c_b10 : Nat} {σ : St Obj} {Q' : Bool → St Obj → Prop} {Q : Bool → Hp → Prop} (I : Inv h (roS (rI .u8) a_b10 n_b10 c_b10 b1 :: hpA (obA ρ) σ :: A)) (H : carlinglaw21_InodeBack_K1 Q' b1 v33 σ)
    (k : ∀ (r0 : Bool) (h' : Hp) (σ' : St Obj), Inv h' (hpA (obA ρ) σ' :: A) → Q' r0 σ' → Q r0 h') : Tx.carlinglaw21_InodeBack_K1 ρ Q ⟨a_b10, n_b10, c_b10⟩ v33 h := by
  obtain rfl := ro_len I
  unfold Tx.carlinglaw21_InodeBack_K1
  unfold carlinglaw21_InodeBack_K1 at H
  refine br_r H (fun hb H => ?_) (fun hb H => ?_)
  · replace I := I.drop1
    exact k false _ σ I H
  · replace I := I.dupR
    replace I := I.pull1.drop1
    replace I := I.pull1.pull1
    exact carlinglaw21_InodeBack_K2_r (b1 := b1) (σ := σ) I H k

def carlinglaw21_InodeBack (n0 : carlingref21_Inode) (b1 : List Int) (σ : St Obj) (Q : Bool → St Obj → Prop) : Prop :=
  carlinglaw21_theirs n0 fun r_5 =>
  inode_Lay r_5 fun r_6 r_9 =>
  br (r_9 == (0 : Int))
  (inode_Parse r_6 σ fun r_12 r_13 σ_14 =>
  carlinglaw21_theirs n0 fun r_17 =>
  br (!((r_12.Kind == r_17.Kind) && ((r_12.Mode == r_17.Mode) && ((r_12.Links == r_17.Links) && ((r_12.Size == r_17.Size) && ((r_12.Time == r_17.Time) && ((r_12.Attr == r_17.Attr) && ((r_12.Pages.toList == r_17.Pages.toList) && true))))))))
  (carlinglaw21_InodeBack_K1 Q b1 true σ_14)
  (carlinglaw21_InodeBack_K1 Q b1 (r_13 != (0 : Int)) σ_14))
  (carlinglaw21_InodeBack_K2 Q b1 σ)

theorem carlinglaw21_InodeBack_r {ρ : Ids} {h : Hp} {A : List At} {n0 : carlingref21_Inode} {b1 : List Int} {a_b10 : Option Addr} {n_b10 c_b10 : Nat} {σ : St Obj} {Q' : Bool → St Obj → Prop} {Q : Bool → Hp → Prop} (I : Inv h (roS (rI .u8) a_b10 n_b10 c_b10 b1 :: hpA (obA ρ) σ :: A)) (H : carlinglaw21_InodeBack n0 b1 σ Q')
    (k : ∀ (r0 : Bool) (h' : Hp) (σ' : St Obj), Inv h' (hpA (obA ρ) σ' :: A) → Q' r0 σ' → Q r0 h') : Tx.carlinglaw21_InodeBack ρ n0.Kind n0.Mode n0.Links n0.Size n0.Time n0.Attr n0.Pages.toList ⟨a_b10, n_b10, c_b10⟩ h Q := by
  obtain rfl := ro_len I
  unfold Tx.carlinglaw21_InodeBack
  unfold carlinglaw21_InodeBack at H
  try simp only [nrm_v]
  refine al_r [.one (.int .i64 n0.Kind), .one (.int .i64 n0.Mode), .one (.int .i64 n0.Links), .one (.int .i64 n0.Size), .one (.int .i64 n0.Time), .one (.int .i64 n0.Attr), .vec .u8 32 n0.Pages] rfl I fun p_3 h I => ?_
  refine ldI_r (I.cell 0 0 rfl) ?_
  refine ldI_r (I.cell 1 1 rfl) ?_
  refine ldI_r (I.cell 2 2 rfl) ?_
  refine ldI_r (I.cell 3 3 rfl) ?_
  refine ldI_r (I.cell 4 4 rfl) ?_
  refine ldI_r (I.cell 5 5 rfl) ?_
  refine ldL_r (I.lump 6 6 rfl) ?_
  try simp only [nrm_v]
  try simp only [nrm_v]
  refine carlinglaw21_theirs_r (n0 := n0) I H fun r_5 h I H => ?_
  try simp only [nrm_v]
  refine inode_Lay_r (n0 := r_5) I H fun r_6 a_7 c_8 r_9 h I H => ?_
  refine br_r H (fun hb H => ?_) (fun hb H => ?_)
  · replace I := I.freeze
    replace I := I.dupR
    replace I := I.pull4.pull1
    refine inode_Parse_r (b0 := r_6) (σ := σ) I H fun r_12 r_13 h σ_14 I H => ?_
    refine al_r [.one (.int .i64 (0 : Int)), .one (.int .i64 (0 : Int)), .one (.int .i64 (0 : Int)), .one (.int .i64 (0 : Int)), .one (.int .i64 (0 : Int)), .one (.int .i64 (0 : Int)), .vec .u8 32 (Vector.replicate 32 (0 : Int))] rfl I fun p_15 h I => ?_
    refine stA_r I 0 7 0 [.one (.int .i64 r_12.Kind), .one (.int .i64 r_12.Mode), .one (.int .i64 r_12.Links), .one (.int .i64 r_12.Size), .one (.int .i64 r_12.Time), .one (.int .i64 r_12.Attr), .vec .u8 32 r_12.Pages] rfl rfl rfl (by first | exact all_segs rfl | exact all_one (by simp [segs, Seg.cells, allOne, allOne_append, allOne_lump, Value.oneCell'])) fun h (I : Inv h (blk p_15 (ρ.T 8) [.one (.int .i64 r_12.Kind), .one (.int .i64 r_12.Mode), .one (.int .i64 r_12.Links), .one (.int .i64 r_12.Size), .one (.int .i64 r_12.Time), .one (.int .i64 r_12.Attr), .vec .u8 32 r_12.Pages] :: _)) => ?_
    refine ldI_r (I.cell 0 0 rfl) ?_
    refine ldI_r (I.cell 1 1 rfl) ?_
    refine ldI_r (I.cell 2 2 rfl) ?_
    refine ldI_r (I.cell 3 3 rfl) ?_
    refine ldI_r (I.cell 4 4 rfl) ?_
    refine ldI_r (I.cell 5 5 rfl) ?_
    refine ldL_r (I.lump 6 6 rfl) ?_
    try simp only [nrm_v]
    refine ldI_r (I.pull3.cell 0 0 rfl) ?_
    refine ldI_r (I.pull3.cell 1 1 rfl) ?_
    refine ldI_r (I.pull3.cell 2 2 rfl) ?_
    refine ldI_r (I.pull3.cell 3 3 rfl) ?_
    refine ldI_r (I.pull3.cell 4 4 rfl) ?_
    refine ldI_r (I.pull3.cell 5 5 rfl) ?_
    refine ldL_r (I.pull3.lump 6 6 rfl) ?_
    try simp only [nrm_v]
    try simp only [nrm_v]
    refine carlinglaw21_theirs_r (n0 := n0) I H fun r_17 h I H => ?_
    refine ⟨⟨I.cell 0 0 rfl, I.cell 1 1 rfl, I.cell 2 2 rfl, I.cell 3 3 rfl, I.cell 4 4 rfl, I.cell 5 5 rfl, I.lump 6 6 rfl, trivial⟩, ?_⟩
    try simp only [nrm_v]
    refine br_r H (fun hb H => ?_) (fun hb H => ?_)
    · replace I := I.pull4.dupR
      replace I := I.pull1.drop1
      replace I := I.pull1.drop1
      replace I := I.pull2.drop1
      replace I := I.pull2.drop1
      replace I := I.pull1.pull1
      exact carlinglaw21_InodeBack_K1_r (b1 := b1) (v33 := true) (σ := σ_14) I H k
    · replace I := I.pull4.dupR
      replace I := I.pull1.drop1
      replace I := I.pull1.drop1
      replace I := I.pull2.drop1
      replace I := I.pull2.drop1
      replace I := I.pull1.pull1
      exact carlinglaw21_InodeBack_K1_r (b1 := b1) (v33 := (r_13 != (0 : Int))) (σ := σ_14) I H k
  · replace I := I.pull2.dupR
    replace I := I.pull1.drop1
    replace I := I.pull1.drop1
    replace I := I.pull1.drop1
    replace I := I.pull1.pull1
    exact carlinglaw21_InodeBack_K2_r (b1 := b1) (σ := σ) I H k

def inode_Get_K1 (Q : inode_Inode → Int → St Obj → Prop) (page0 : List Int) (at1 : Int) (v4_0 : Int) (v4_1 : Int) (v4_2 : Int) (v4_3 : Int) (v4_4 : Int) (v4_5 : Int) (v4_6 : Vector Int 32) (v16 : Bool) (σ : St Obj) : Prop :=
  br v16
  (Q (⟨(0 : Int), (0 : Int), (0 : Int), (0 : Int), (0 : Int), (0 : Int), (Vector.replicate 32 (0 : Int))⟩ : inode_Inode) (1 : Int) σ)
  ((SlOk page0 (IntKind.wrap .i64 ((64 : Int) * at1)) (IntKind.wrap .i64 ((64 : Int) * (IntKind.wrap .i64 (at1 + (1 : Int)))))) ∧
  inode_Parse (sub page0 (IntKind.wrap .i64 ((64 : Int) * at1)) (IntKind.wrap .i64 ((64 : Int) * (IntKind.wrap .i64 (at1 + (1 : Int)))))) σ fun r_15 r_16 σ_17 =>
  Q r_15 r_16 σ_17)

theorem inode_Get_K1_r {ρ : Ids} {h : Hp} {A : List At}  {page0 : List Int} {at1 : Int} {v4_0 : Int} {v4_1 : Int} {v4_2 : Int} {v4_3 : Int} {v4_4 : Int} {v4_5 : Int} {v4_6 : Vector Int 32} {v16 : Bool} {a_page00 : Option Addr} {n_page00 c_page00 : Nat} {p_v4 : Addr} {σ : St Obj} {Q' : inode_Inode → Int → St Obj → Prop} {Q : Int → Int → Int → Int → Int → Int → List Int → Int → Hp → Prop} (I : Inv h (roS (rI .u8) a_page00 n_page00 c_page00 page0 :: blk p_v4 (ρ.T 8) [.one (.int .i64 v4_0), .one (.int .i64 v4_1), .one (.int .i64 v4_2), .one (.int .i64 v4_3), .one (.int .i64 v4_4), .one (.int .i64 v4_5), .vec .u8 32 v4_6] :: hpA (obA ρ) σ :: A)) (H : inode_Get_K1 Q' page0 at1 v4_0 v4_1 v4_2 v4_3 v4_4 v4_5 v4_6 v16 σ)
    (k : ∀ (r0 : inode_Inode) (r1 : Int) (h' : Hp) (σ' : St Obj), Inv h' (hpA (obA ρ) σ' :: A) → Q' r0 r1 σ' → Q r0.Kind r0.Mode r0.Links r0.Size r0.Time r0.Attr r0.Pages.toList r1 h') : Tx.inode_Get_K1 ρ Q ⟨a_page00, n_page00, c_page00⟩ at1 p_v4 v16 h := by
  obtain rfl := ro_len I
  unfold Tx.inode_Get_K1
  unfold inode_Get_K1 at H
  refine br_r H (fun hb H => ?_) (fun hb H => ?_)
  · refine stA_r I.pull1 0 7 0 [.one (.int .i64 (0 : Int)), .one (.int .i64 (0 : Int)), .one (.int .i64 (0 : Int)), .one (.int .i64 (0 : Int)), .one (.int .i64 (0 : Int)), .one (.int .i64 (0 : Int)), .vec .u8 32 (Vector.replicate 32 (0 : Int))] rfl rfl rfl (by first | exact all_segs rfl | exact all_one (by simp [segs, Seg.cells, allOne, allOne_append, allOne_lump, Value.oneCell'])) fun h (I : Inv h (blk p_v4 (ρ.T 8) [.one (.int .i64 (0 : Int)), .one (.int .i64 (0 : Int)), .one (.int .i64 (0 : Int)), .one (.int .i64 (0 : Int)), .one (.int .i64 (0 : Int)), .one (.int .i64 (0 : Int)), .vec .u8 32 (Vector.replicate 32 (0 : Int))] :: _)) => ?_
    refine ldI_r (I.cell 0 0 rfl) ?_
    refine ldI_r (I.cell 1 1 rfl) ?_
    refine ldI_r (I.cell 2 2 rfl) ?_
    refine ldI_r (I.cell 3 3 rfl) ?_
    refine ldI_r (I.cell 4 4 rfl) ?_
    refine ldI_r (I.cell 5 5 rfl) ?_
    refine ldL_r (I.lump 6 6 rfl) ?_
    try simp only [nrm_v]
    replace I := I.drop1
    replace I := I.drop1
    exact k (⟨(0 : Int), (0 : Int), (0 : Int), (0 : Int), (0 : Int), (0 : Int), (Vector.replicate 32 (0 : Int))⟩ : inode_Inode) (1 : Int) _ σ I H
  · replace I := I.dupR
    refine sl_ro I H.1 fun a_11 c_12 I => ?_
    replace H := H.2
    replace I := I.dupR
    replace I := I.pull4.pull1
    refine inode_Parse_r (b0 := (sub page0 (IntKind.wrap .i64 ((64 : Int) * at1)) (IntKind.wrap .i64 ((64 : Int) * (IntKind.wrap .i64 (at1 + (1 : Int))))))) (σ := σ) I H fun r_15 r_16 h σ_17 I H => ?_
    refine stA_r I.pull3 0 7 0 [.one (.int .i64 r_15.Kind), .one (.int .i64 r_15.Mode), .one (.int .i64 r_15.Links), .one (.int .i64 r_15.Size), .one (.int .i64 r_15.Time), .one (.int .i64 r_15.Attr), .vec .u8 32 r_15.Pages] rfl rfl rfl (by first | exact all_segs rfl | exact all_one (by simp [segs, Seg.cells, allOne, allOne_append, allOne_lump, Value.oneCell'])) fun h (I : Inv h (blk p_v4 (ρ.T 8) [.one (.int .i64 r_15.Kind), .one (.int .i64 r_15.Mode), .one (.int .i64 r_15.Links), .one (.int .i64 r_15.Size), .one (.int .i64 r_15.Time), .one (.int .i64 r_15.Attr), .vec .u8 32 r_15.Pages] :: _)) => ?_
    refine ldI_r (I.cell 0 0 rfl) ?_
    refine ldI_r (I.cell 1 1 rfl) ?_
    refine ldI_r (I.cell 2 2 rfl) ?_
    refine ldI_r (I.cell 3 3 rfl) ?_
    refine ldI_r (I.cell 4 4 rfl) ?_
    refine ldI_r (I.cell 5 5 rfl) ?_
    refine ldL_r (I.lump 6 6 rfl) ?_
    try simp only [nrm_v]
    replace I := I.drop1
    replace I := I.pull1.drop1
    replace I := I.pull1.drop1
    exact k r_15 r_16 _ σ_17 I H

def inode_Get (page0 : List Int) (at1 : Int) (σ : St Obj) (Q : inode_Inode → Int → St Obj → Prop) : Prop :=
  br ((page0.length : Int) != (256 : Int))
  (inode_Get_K1 Q page0 at1 (0 : Int) (0 : Int) (0 : Int) (0 : Int) (0 : Int) (0 : Int) (Vector.replicate 32 (0 : Int)) true σ)
  (br (decide (at1 < (0 : Int)))
  (inode_Get_K1 Q page0 at1 (0 : Int) (0 : Int) (0 : Int) (0 : Int) (0 : Int) (0 : Int) (Vector.replicate 32 (0 : Int)) true σ)
  (inode_Get_K1 Q page0 at1 (0 : Int) (0 : Int) (0 : Int) (0 : Int) (0 : Int) (0 : Int) (Vector.replicate 32 (0 : Int)) (decide (at1 ≥ (4 : Int))) σ))

theorem inode_Get_r {ρ : Ids} {h : Hp} {A : List At} {page0 : List Int} {at1 : Int} {a_page00 : Option Addr} {n_page00 c_page00 : Nat} {σ : St Obj} {Q' : inode_Inode → Int → St Obj → Prop} {Q : Int → Int → Int → Int → Int → Int → List Int → Int → Hp → Prop} (I : Inv h (roS (rI .u8) a_page00 n_page00 c_page00 page0 :: hpA (obA ρ) σ :: A)) (H : inode_Get page0 at1 σ Q')
    (k : ∀ (r0 : inode_Inode) (r1 : Int) (h' : Hp) (σ' : St Obj), Inv h' (hpA (obA ρ) σ' :: A) → Q' r0 r1 σ' → Q r0.Kind r0.Mode r0.Links r0.Size r0.Time r0.Attr r0.Pages.toList r1 h') : Tx.inode_Get ρ ⟨a_page00, n_page00, c_page00⟩ at1 h Q := by
  obtain rfl := ro_len I
  unfold Tx.inode_Get
  unfold inode_Get at H
  refine al_r [.one (.int .i64 (0 : Int)), .one (.int .i64 (0 : Int)), .one (.int .i64 (0 : Int)), .one (.int .i64 (0 : Int)), .one (.int .i64 (0 : Int)), .one (.int .i64 (0 : Int)), .vec .u8 32 (Vector.replicate 32 (0 : Int))] rfl I fun p_3 h I => ?_
  refine br_r H (fun hb H => ?_) (fun hb H => ?_)
  · replace I := I.pull1.dupR
    replace I := I.pull1.drop1
    replace I := I.pull2.pull2.pull2
    exact inode_Get_K1_r (page0 := page0) (at1 := at1) (v4_0 := (0 : Int)) (v4_1 := (0 : Int)) (v4_2 := (0 : Int)) (v4_3 := (0 : Int)) (v4_4 := (0 : Int)) (v4_5 := (0 : Int)) (v4_6 := (Vector.replicate 32 (0 : Int))) (v16 := true) (σ := σ) I H k
  · refine br_r H (fun hb H => ?_) (fun hb H => ?_)
    · replace I := I.pull1.dupR
      replace I := I.pull1.drop1
      replace I := I.pull2.pull2.pull2
      exact inode_Get_K1_r (page0 := page0) (at1 := at1) (v4_0 := (0 : Int)) (v4_1 := (0 : Int)) (v4_2 := (0 : Int)) (v4_3 := (0 : Int)) (v4_4 := (0 : Int)) (v4_5 := (0 : Int)) (v4_6 := (Vector.replicate 32 (0 : Int))) (v16 := true) (σ := σ) I H k
    · replace I := I.pull1.dupR
      replace I := I.pull1.drop1
      replace I := I.pull2.pull2.pull2
      exact inode_Get_K1_r (page0 := page0) (at1 := at1) (v4_0 := (0 : Int)) (v4_1 := (0 : Int)) (v4_2 := (0 : Int)) (v4_3 := (0 : Int)) (v4_4 := (0 : Int)) (v4_5 := (0 : Int)) (v4_6 := (Vector.replicate 32 (0 : Int))) (v16 := (decide (at1 ≥ (4 : Int)))) (σ := σ) I H k

def carlingref21_Get_K1 (Q : carlingref21_Inode → Int → Prop) (page0 : List Int) (at1 : Int) (v4_0 : Int) (v4_1 : Int) (v4_2 : Int) (v4_3 : Int) (v4_4 : Int) (v4_5 : Int) (v4_6 : Vector Int 32) (v16 : Bool) : Prop :=
  br v16
  (Q (⟨(0 : Int), (0 : Int), (0 : Int), (0 : Int), (0 : Int), (0 : Int), (Vector.replicate 32 (0 : Int))⟩ : carlingref21_Inode) (1 : Int))
  ((SlOk page0 (IntKind.wrap .i64 ((64 : Int) * at1)) (IntKind.wrap .i64 ((IntKind.wrap .i64 ((64 : Int) * at1)) + (64 : Int)))) ∧
  carlingref21_Parse (sub page0 (IntKind.wrap .i64 ((64 : Int) * at1)) (IntKind.wrap .i64 ((IntKind.wrap .i64 ((64 : Int) * at1)) + (64 : Int)))) fun r_9 r_10 =>
  Q r_9 r_10)

theorem carlingref21_Get_K1_r {ρ : Ids} {h : Hp} {A : List At} {X_page0 : At} {page0 : List Int} {at1 : Int} {v4_0 : Int} {v4_1 : Int} {v4_2 : Int} {v4_3 : Int} {v4_4 : Int} {v4_5 : Int} {v4_6 : Vector Int 32} {v16 : Bool} {a_page0 : Option Addr} {n_page0 c_page0 : Nat} {p_v4 : Addr} {Q' : carlingref21_Inode → Int → Prop} {Q : Int → Int → Int → Int → Int → Int → List Int → Int → Hp → Prop} (hX_page0 : Rd (rI .u8) X_page0 a_page0 n_page0 c_page0 page0) (I : Inv h (X_page0 :: blk p_v4 (ρ.T 9) [.one (.int .i64 v4_0), .one (.int .i64 v4_1), .one (.int .i64 v4_2), .one (.int .i64 v4_3), .one (.int .i64 v4_4), .one (.int .i64 v4_5), .vec .u8 32 v4_6] :: A)) (H : carlingref21_Get_K1 Q' page0 at1 v4_0 v4_1 v4_2 v4_3 v4_4 v4_5 v4_6 v16)
    (k : ∀ (r0 : carlingref21_Inode) (r1 : Int) (h' : Hp), Inv h' (X_page0 :: A) → Q' r0 r1 → Q r0.Kind r0.Mode r0.Links r0.Size r0.Time r0.Attr r0.Pages.toList r1 h') : Tx.carlingref21_Get_K1 ρ Q ⟨a_page0, n_page0, c_page0⟩ at1 p_v4 v16 h := by
  obtain rfl := rd_len hX_page0 I
  unfold Tx.carlingref21_Get_K1
  unfold carlingref21_Get_K1 at H
  refine br_r H (fun hb H => ?_) (fun hb H => ?_)
  · refine stA_r I.pull1 0 7 0 [.one (.int .i64 (0 : Int)), .one (.int .i64 (0 : Int)), .one (.int .i64 (0 : Int)), .one (.int .i64 (0 : Int)), .one (.int .i64 (0 : Int)), .one (.int .i64 (0 : Int)), .vec .u8 32 (Vector.replicate 32 (0 : Int))] rfl rfl rfl (by first | exact all_segs rfl | exact all_one (by simp [segs, Seg.cells, allOne, allOne_append, allOne_lump, Value.oneCell'])) fun h (I : Inv h (blk p_v4 (ρ.T 9) [.one (.int .i64 (0 : Int)), .one (.int .i64 (0 : Int)), .one (.int .i64 (0 : Int)), .one (.int .i64 (0 : Int)), .one (.int .i64 (0 : Int)), .one (.int .i64 (0 : Int)), .vec .u8 32 (Vector.replicate 32 (0 : Int))] :: _)) => ?_
    refine ldI_r (I.cell 0 0 rfl) ?_
    refine ldI_r (I.cell 1 1 rfl) ?_
    refine ldI_r (I.cell 2 2 rfl) ?_
    refine ldI_r (I.cell 3 3 rfl) ?_
    refine ldI_r (I.cell 4 4 rfl) ?_
    refine ldI_r (I.cell 5 5 rfl) ?_
    refine ldL_r (I.lump 6 6 rfl) ?_
    try simp only [nrm_v]
    replace I := I.drop1
    exact k (⟨(0 : Int), (0 : Int), (0 : Int), (0 : Int), (0 : Int), (0 : Int), (Vector.replicate 32 (0 : Int))⟩ : carlingref21_Inode) (1 : Int) _ I H
  · refine sl_rd hX_page0 I H.1 fun a_6 c_7 hr_8 => ?_
    replace H := H.2
    refine carlingref21_Parse_r (b0 := (sub page0 (IntKind.wrap .i64 ((64 : Int) * at1)) (IntKind.wrap .i64 ((IntKind.wrap .i64 ((64 : Int) * at1)) + (64 : Int))))) hr_8 I H fun r_9 r_10 h I H => ?_
    refine stA_r I.pull1 0 7 0 [.one (.int .i64 r_9.Kind), .one (.int .i64 r_9.Mode), .one (.int .i64 r_9.Links), .one (.int .i64 r_9.Size), .one (.int .i64 r_9.Time), .one (.int .i64 r_9.Attr), .vec .u8 32 r_9.Pages] rfl rfl rfl (by first | exact all_segs rfl | exact all_one (by simp [segs, Seg.cells, allOne, allOne_append, allOne_lump, Value.oneCell'])) fun h (I : Inv h (blk p_v4 (ρ.T 9) [.one (.int .i64 r_9.Kind), .one (.int .i64 r_9.Mode), .one (.int .i64 r_9.Links), .one (.int .i64 r_9.Size), .one (.int .i64 r_9.Time), .one (.int .i64 r_9.Attr), .vec .u8 32 r_9.Pages] :: _)) => ?_
    refine ldI_r (I.cell 0 0 rfl) ?_
    refine ldI_r (I.cell 1 1 rfl) ?_
    refine ldI_r (I.cell 2 2 rfl) ?_
    refine ldI_r (I.cell 3 3 rfl) ?_
    refine ldI_r (I.cell 4 4 rfl) ?_
    refine ldI_r (I.cell 5 5 rfl) ?_
    refine ldL_r (I.lump 6 6 rfl) ?_
    try simp only [nrm_v]
    replace I := I.drop1
    exact k r_9 r_10 _ I H

def carlingref21_Get (page0 : List Int) (at1 : Int) (Q : carlingref21_Inode → Int → Prop) : Prop :=
  br ((page0.length : Int) != (256 : Int))
  (carlingref21_Get_K1 Q page0 at1 (0 : Int) (0 : Int) (0 : Int) (0 : Int) (0 : Int) (0 : Int) (Vector.replicate 32 (0 : Int)) true)
  (br (decide (at1 < (0 : Int)))
  (carlingref21_Get_K1 Q page0 at1 (0 : Int) (0 : Int) (0 : Int) (0 : Int) (0 : Int) (0 : Int) (Vector.replicate 32 (0 : Int)) true)
  (carlingref21_Get_K1 Q page0 at1 (0 : Int) (0 : Int) (0 : Int) (0 : Int) (0 : Int) (0 : Int) (Vector.replicate 32 (0 : Int)) (decide (at1 > (3 : Int)))))

theorem carlingref21_Get_r {ρ : Ids} {h : Hp} {A : List At} {page0 : List Int} {at1 : Int} {a_page00 : Option Addr} {n_page00 c_page00 : Nat} {X_page0 : At} {Q' : carlingref21_Inode → Int → Prop} {Q : Int → Int → Int → Int → Int → Int → List Int → Int → Hp → Prop} (hX_page0 : Rd (rI .u8) X_page0 a_page00 n_page00 c_page00 page0) (I : Inv h (X_page0 :: A)) (H : carlingref21_Get page0 at1 Q')
    (k : ∀ (r0 : carlingref21_Inode) (r1 : Int) (h' : Hp), Inv h' (X_page0 :: A) → Q' r0 r1 → Q r0.Kind r0.Mode r0.Links r0.Size r0.Time r0.Attr r0.Pages.toList r1 h') : Tx.carlingref21_Get ρ ⟨a_page00, n_page00, c_page00⟩ at1 h Q := by
  obtain rfl := rd_len hX_page0 I
  unfold Tx.carlingref21_Get
  unfold carlingref21_Get at H
  refine al_r [.one (.int .i64 (0 : Int)), .one (.int .i64 (0 : Int)), .one (.int .i64 (0 : Int)), .one (.int .i64 (0 : Int)), .one (.int .i64 (0 : Int)), .one (.int .i64 (0 : Int)), .vec .u8 32 (Vector.replicate 32 (0 : Int))] rfl I fun p_2 h I => ?_
  refine br_r H (fun hb H => ?_) (fun hb H => ?_)
  · replace I := I.pull1
    exact carlingref21_Get_K1_r (page0 := page0) (at1 := at1) (v4_0 := (0 : Int)) (v4_1 := (0 : Int)) (v4_2 := (0 : Int)) (v4_3 := (0 : Int)) (v4_4 := (0 : Int)) (v4_5 := (0 : Int)) (v4_6 := (Vector.replicate 32 (0 : Int))) (v16 := true) hX_page0 I H k
  · refine br_r H (fun hb H => ?_) (fun hb H => ?_)
    · replace I := I.pull1
      exact carlingref21_Get_K1_r (page0 := page0) (at1 := at1) (v4_0 := (0 : Int)) (v4_1 := (0 : Int)) (v4_2 := (0 : Int)) (v4_3 := (0 : Int)) (v4_4 := (0 : Int)) (v4_5 := (0 : Int)) (v4_6 := (Vector.replicate 32 (0 : Int))) (v16 := true) hX_page0 I H k
    · replace I := I.pull1
      exact carlingref21_Get_K1_r (page0 := page0) (at1 := at1) (v4_0 := (0 : Int)) (v4_1 := (0 : Int)) (v4_2 := (0 : Int)) (v4_3 := (0 : Int)) (v4_4 := (0 : Int)) (v4_5 := (0 : Int)) (v4_6 := (Vector.replicate 32 (0 : Int))) (v16 := (decide (at1 > (3 : Int)))) hX_page0 I H k

def inode_Put_K1 (Q : (List Int) → Int → Prop) (page0 : List Int) (at1 : Int) (b8 : List Int) (v30 : Bool) : Prop :=
  br v30
  (Q ([] : List Int) (1 : Int))
  (bytes_Clone page0 fun r_12 =>
  (SlOk r_12 (IntKind.wrap .i64 ((64 : Int) * at1)) (r_12.length : Int)) ∧
  Q (cpP r_12 (Int.toNat (IntKind.wrap .i64 ((64 : Int) * at1))) ((sub r_12 (IntKind.wrap .i64 ((64 : Int) * at1)) (r_12.length : Int)).length) b8) (0 : Int))

theorem inode_Put_K1_r {ρ : Ids} {h : Hp} {A : List At} {X_page0 : At} {page0 : List Int} {at1 : Int} {b8 : List Int} {v30 : Bool} {a_page0 : Option Addr} {n_page0 c_page0 : Nat} {a_b81 : Option Addr} {n_b81 c_b81 : Nat} {Q' : (List Int) → Int → Prop} {Q : Sl → Int → Hp → Prop} (hX_page0 : Rd (rI .u8) X_page0 a_page0 n_page0 c_page0 page0) (I : Inv h (X_page0 :: ownS (rI .u8) a_b81 n_b81 c_b81 b8 :: A)) (H : inode_Put_K1 Q' page0 at1 b8 v30)
    (k : ∀ (r0 : List Int) (ra0 : Option Addr) (rc0 : Nat) (r1 : Int) (h' : Hp), Inv h' (ownS (rI .u8) ra0 r0.length rc0 r0 :: X_page0 :: A) → Q' r0 r1 → Q ⟨ra0, r0.length, rc0⟩ r1 h') : Tx.inode_Put_K1 ρ Q ⟨a_page0, n_page0, c_page0⟩ at1 ⟨a_b81, n_b81, c_b81⟩ v30 h := by
  obtain rfl := rd_len hX_page0 I
  obtain rfl := own_len I.pull1
  unfold Tx.inode_Put_K1
  unfold inode_Put_K1 at H
  refine br_r H (fun hb H => ?_) (fun hb H => ?_)
  · replace I := I.nilO (rI .u8)
    replace I := I.pull2.drop1
    replace I := I.pull1.pull1
    exact k ([] : List Int) none 0 (1 : Int) _ I H
  · refine bytes_Clone_r (s0 := page0) hX_page0 I H fun r_12 a_13 c_14 h I H => ?_
    have hS_19 := H.1
    replace H := H.2
    refine sl_part I hS_19 ?_
    have hr_18 : Rd (rI .u8) (ownS (rI .u8) a_13 r_12.length c_14 r_12) (resl a_13 c_14 1 ((Int.toNat (IntKind.wrap .i64 ((64 : Int) * at1)) : Nat) : Int)) (sub r_12 (IntKind.wrap .i64 ((64 : Int) * at1)) (r_12.length : Int)).length (c_14 - Int.toNat (IntKind.wrap .i64 ((64 : Int) * at1))) (sub r_12 (IntKind.wrap .i64 ((64 : Int) * at1)) (r_12.length : Int)) := rd_part rd_own hS_19
    refine cpp_r (i := Int.toNat (IntKind.wrap .i64 ((64 : Int) * at1))) rd_own I.pull2.pull1 (part_ok hS_19) fun h I => ?_
    have en := own_len I
    replace I := I.relenO
    rw [en]
    clear en
    replace I := I.pull1.drop1
    replace I := I.pull1.pull1
    exact k (cpP r_12 (Int.toNat (IntKind.wrap .i64 ((64 : Int) * at1))) ((sub r_12 (IntKind.wrap .i64 ((64 : Int) * at1)) (r_12.length : Int)).length) b8) a_13 c_14 (0 : Int) _ I H

def inode_Put (page0 : List Int) (at1 : Int) (n2 : inode_Inode) (Q : (List Int) → Int → Prop) : Prop :=
  inode_Lay n2 fun r_4 r_7 =>
  br ((page0.length : Int) != (256 : Int))
  (inode_Put_K1 Q page0 at1 r_4 true)
  (br (decide (at1 < (0 : Int)))
  (inode_Put_K1 Q page0 at1 r_4 true)
  (br (decide (at1 ≥ (4 : Int)))
  (inode_Put_K1 Q page0 at1 r_4 true)
  (inode_Put_K1 Q page0 at1 r_4 (r_7 != (0 : Int)))))

theorem inode_Put_r {ρ : Ids} {h : Hp} {A : List At} {page0 : List Int} {at1 : Int} {n2 : inode_Inode} {a_page00 : Option Addr} {n_page00 c_page00 : Nat} {X_page0 : At} {Q' : (List Int) → Int → Prop} {Q : Sl → Int → Hp → Prop} (hX_page0 : Rd (rI .u8) X_page0 a_page00 n_page00 c_page00 page0) (I : Inv h (X_page0 :: A)) (H : inode_Put page0 at1 n2 Q')
    (k : ∀ (r0 : List Int) (ra0 : Option Addr) (rc0 : Nat) (r1 : Int) (h' : Hp), Inv h' (ownS (rI .u8) ra0 r0.length rc0 r0 :: X_page0 :: A) → Q' r0 r1 → Q ⟨ra0, r0.length, rc0⟩ r1 h') : Tx.inode_Put ρ ⟨a_page00, n_page00, c_page00⟩ at1 n2.Kind n2.Mode n2.Links n2.Size n2.Time n2.Attr n2.Pages.toList h Q := by
  obtain rfl := rd_len hX_page0 I
  unfold Tx.inode_Put
  unfold inode_Put at H
  try simp only [nrm_v]
  refine al_r [.one (.int .i64 n2.Kind), .one (.int .i64 n2.Mode), .one (.int .i64 n2.Links), .one (.int .i64 n2.Size), .one (.int .i64 n2.Time), .one (.int .i64 n2.Attr), .vec .u8 32 n2.Pages] rfl I fun p_2 h I => ?_
  refine ldI_r (I.cell 0 0 rfl) ?_
  refine ldI_r (I.cell 1 1 rfl) ?_
  refine ldI_r (I.cell 2 2 rfl) ?_
  refine ldI_r (I.cell 3 3 rfl) ?_
  refine ldI_r (I.cell 4 4 rfl) ?_
  refine ldI_r (I.cell 5 5 rfl) ?_
  refine ldL_r (I.lump 6 6 rfl) ?_
  try simp only [nrm_v]
  try simp only [nrm_v]
  refine inode_Lay_r (n0 := n2) I H fun r_4 a_5 c_6 r_7 h I H => ?_
  refine br_r H (fun hb H => ?_) (fun hb H => ?_)
  · replace I := I.pull1.drop1
    replace I := I.pull1
    exact inode_Put_K1_r (page0 := page0) (at1 := at1) (b8 := r_4) (v30 := true) hX_page0 I H k
  · refine br_r H (fun hb H => ?_) (fun hb H => ?_)
    · replace I := I.pull1.drop1
      replace I := I.pull1
      exact inode_Put_K1_r (page0 := page0) (at1 := at1) (b8 := r_4) (v30 := true) hX_page0 I H k
    · refine br_r H (fun hb H => ?_) (fun hb H => ?_)
      · replace I := I.pull1.drop1
        replace I := I.pull1
        exact inode_Put_K1_r (page0 := page0) (at1 := at1) (b8 := r_4) (v30 := true) hX_page0 I H k
      · replace I := I.pull1.drop1
        replace I := I.pull1
        exact inode_Put_K1_r (page0 := page0) (at1 := at1) (b8 := r_4) (v30 := (r_7 != (0 : Int))) hX_page0 I H k

def carlingref21_Put_B2 (S2 : Int → (List Int) → (List Int) → Int → Prop) (Q : (List Int) → Int → Prop) (at1 : Int) (b8 : List Int) (out10 : List Int) (i11 : Int) : Prop :=
  br (decide (i11 < (64 : Int)))
  (ixP b8 i11 fun x_19 =>
  ixP out10 (IntKind.wrap .i64 ((IntKind.wrap .i64 ((64 : Int) * at1)) + i11)) fun x_25 =>
  S2 at1 b8 (out10.set (Int.toNat (IntKind.wrap .i64 ((IntKind.wrap .i64 ((64 : Int) * at1)) + i11))) x_19) (IntKind.wrap .i64 (i11 + (1 : Int))))
  (Q out10 (0 : Int))

def carlingref21_Put_L2 (Q : (List Int) → Int → Prop) (at1 : Int) (b8 : List Int) (out10 : List Int) (i11 : Int) : Prop :=
  Lf (fun S (v : Int × (List Int) × (List Int) × Int) => carlingref21_Put_B2 (fun at1 b8 out10 i11 => S (at1, b8, out10, i11)) Q v.1 v.2.1 v.2.2.1 v.2.2.2) (at1, b8, out10, i11)

theorem carlingref21_Put_L2_in (Q : (List Int) → Int → Prop) (at1 : Int) (b8 : List Int) (out10 : List Int) (i11 : Int) (H : carlingref21_Put_B2 (carlingref21_Put_L2 Q) Q at1 b8 out10 i11) : carlingref21_Put_L2 Q at1 b8 out10 i11 := Lf.fold H

theorem carlingref21_Put_B2_r {ρ : Ids} {h : Hp} {A : List At} {X_page0 : At} {at1 : Int} {b8 : List Int} {out10 : List Int} {i11 : Int} {a_b81 : Option Addr} {n_b81 c_b81 : Nat} {a_out102 : Option Addr} {n_out102 c_out102 : Nat} {Q' : (List Int) → Int → Prop} {Q : Sl → Int → Hp → Prop} {S2' : Int → (List Int) → (List Int) → Int → Prop} {S2 : Int → Sl → Sl → Int → Hp → Prop} (I : Inv h (X_page0 :: ownS (rI .u8) a_b81 n_b81 c_b81 b8 :: ownS (rI .u8) a_out102 n_out102 c_out102 out10 :: A)) (H : carlingref21_Put_B2 S2' Q' at1 b8 out10 i11) (kS2 : ∀ {at1 : Int} {b8 : List Int} {out10 : List Int} {i11 : Int} {a_b81 : Option Addr} {n_b81 c_b81 : Nat} {a_out102 : Option Addr} {n_out102 c_out102 : Nat} {h : Hp}, Inv h (X_page0 :: ownS (rI .u8) a_b81 n_b81 c_b81 b8 :: ownS (rI .u8) a_out102 n_out102 c_out102 out10 :: A) → S2' at1 b8 out10 i11 → S2 at1 ⟨a_b81, n_b81, c_b81⟩ ⟨a_out102, n_out102, c_out102⟩ i11 h)
    (k : ∀ (r0 : List Int) (ra0 : Option Addr) (rc0 : Nat) (r1 : Int) (h' : Hp), Inv h' (ownS (rI .u8) ra0 r0.length rc0 r0 :: X_page0 :: A) → Q' r0 r1 → Q ⟨ra0, r0.length, rc0⟩ r1 h') : Tx.carlingref21_Put_B2 ρ S2 Q at1 ⟨a_b81, n_b81, c_b81⟩ ⟨a_out102, n_out102, c_out102⟩ i11 h := by
  obtain rfl := own_len I.pull1
  obtain rfl := own_len I.pull2
  unfold Tx.carlingref21_Put_B2
  unfold carlingref21_Put_B2 at H
  refine br_r H (fun hb H => ?_) (fun hb H => ?_)
  · refine ixI_a rd_own I.pull1 (ixP_keep H) fun p_20 x_19 he_21 hb_22 hc_23 H => ?_
    obtain ⟨hg_24, H⟩ := H
    refine ldI_r hc_23 ?_
    refine ixI_a rd_own I.pull2 (ixP_keep H) fun p_26 x_25 he_27 hb_28 hc_29 H => ?_
    obtain ⟨hg_30, H⟩ := H
    replace I := I.repI (k := .u8) x_19
    replace I := I.pull3.pull1
    refine st1_r (x := x_19) I he_27 hb_28 fun h I => ?_
    replace I := I.pull2.pull2
    exact kS2 (at1 := at1) (b8 := b8) (out10 := (out10.set (Int.toNat (IntKind.wrap .i64 ((IntKind.wrap .i64 ((64 : Int) * at1)) + i11))) x_19)) (i11 := (IntKind.wrap .i64 (i11 + (1 : Int)))) I H
  · replace I := I.pull1.drop1
    replace I := I.pull1
    exact k out10 a_out102 c_out102 (0 : Int) _ I H

theorem carlingref21_Put_L2_r {ρ : Ids} {h : Hp} {A : List At} {X_page0 : At} {at1 : Int} {b8 : List Int} {out10 : List Int} {i11 : Int} {a_b81 : Option Addr} {n_b81 c_b81 : Nat} {a_out102 : Option Addr} {n_out102 c_out102 : Nat} {Q' : (List Int) → Int → Prop} {Q : Sl → Int → Hp → Prop} (I : Inv h (X_page0 :: ownS (rI .u8) a_b81 n_b81 c_b81 b8 :: ownS (rI .u8) a_out102 n_out102 c_out102 out10 :: A)) (H : carlingref21_Put_L2 Q' at1 b8 out10 i11)
    (k : ∀ (r0 : List Int) (ra0 : Option Addr) (rc0 : Nat) (r1 : Int) (h' : Hp), Inv h' (ownS (rI .u8) ra0 r0.length rc0 r0 :: X_page0 :: A) → Q' r0 r1 → Q ⟨ra0, r0.length, rc0⟩ r1 h') : Tx.carlingref21_Put_L2 ρ Q at1 ⟨a_b81, n_b81, c_b81⟩ ⟨a_out102, n_out102, c_out102⟩ i11 h := by
  refine Lf.ind H (fun v => ∀ (a_b81 : Option Addr) (n_b81 c_b81 : Nat) (a_out102 : Option Addr) (n_out102 c_out102 : Nat) (h : Hp), Inv h (X_page0 :: ownS (rI .u8) a_b81 n_b81 c_b81 v.2.1 :: ownS (rI .u8) a_out102 n_out102 c_out102 v.2.2.1 :: A) → Tx.carlingref21_Put_L2 ρ Q v.1 ⟨a_b81, n_b81, c_b81⟩ ⟨a_out102, n_out102, c_out102⟩ v.2.2.2 h) ?_ _ _ _ _ _ _ _  I
  rintro ⟨at1, b8, out10, i11⟩ S hS HB a_b81 n_b81 c_b81 a_out102 n_out102 c_out102 h I
  refine Tx.carlingref21_Put_L2_in _ _ _ _ _ _ _ ?_
  try simp only [nrm_v]
  exact carlingref21_Put_B2_r (at1 := at1) (b8 := b8) (out10 := out10) (i11 := i11) I HB (fun {at1 b8 out10 i11 a_b81 n_b81 c_b81 a_out102 n_out102 c_out102 h} I H => hS _ H a_b81 n_b81 c_b81 a_out102 n_out102 c_out102 _ I) k

def carlingref21_Put_K1 (Q : (List Int) → Int → Prop) (page0 : List Int) (at1 : Int) (b8 : List Int) (v31 : Bool) : Prop :=
  br v31
  (Q ([] : List Int) (1 : Int))
  ((Bnd (([] : List Int).length + page0.length)) ∧
  carlingref21_Put_L2 Q at1 b8 (([] : List Int) ++ page0) (0 : Int))

theorem carlingref21_Put_K1_r {ρ : Ids} {h : Hp} {A : List At} {X_page0 : At} {page0 : List Int} {at1 : Int} {b8 : List Int} {v31 : Bool} {a_page0 : Option Addr} {n_page0 c_page0 : Nat} {a_b81 : Option Addr} {n_b81 c_b81 : Nat} {Q' : (List Int) → Int → Prop} {Q : Sl → Int → Hp → Prop} (hX_page0 : Rd (rI .u8) X_page0 a_page0 n_page0 c_page0 page0) (I : Inv h (X_page0 :: ownS (rI .u8) a_b81 n_b81 c_b81 b8 :: A)) (H : carlingref21_Put_K1 Q' page0 at1 b8 v31)
    (k : ∀ (r0 : List Int) (ra0 : Option Addr) (rc0 : Nat) (r1 : Int) (h' : Hp), Inv h' (ownS (rI .u8) ra0 r0.length rc0 r0 :: X_page0 :: A) → Q' r0 r1 → Q ⟨ra0, r0.length, rc0⟩ r1 h') : Tx.carlingref21_Put_K1 ρ Q ⟨a_page0, n_page0, c_page0⟩ at1 ⟨a_b81, n_b81, c_b81⟩ v31 h := by
  obtain rfl := rd_len hX_page0 I
  obtain rfl := own_len I.pull1
  unfold Tx.carlingref21_Put_K1
  unfold carlingref21_Put_K1 at H
  refine br_r H (fun hb H => ?_) (fun hb H => ?_)
  · replace I := I.nilO (rI .u8)
    replace I := I.pull2.drop1
    replace I := I.pull1.pull1
    exact k ([] : List Int) none 0 (1 : Int) _ I H
  · replace I := I.nilO (rI .u8)
    refine ap_r hX_page0 I.pull1.pull1 rfl (by decide) (by decide) H.1 fun a_13 c_14 h I => ?_
    replace H := H.2
    replace I := I.pull2.pull2
    exact carlingref21_Put_L2_r (at1 := at1) (b8 := b8) (out10 := (([] : List Int) ++ page0)) (i11 := (0 : Int)) I H k

def carlingref21_Put (page0 : List Int) (at1 : Int) (n2 : carlingref21_Inode) (Q : (List Int) → Int → Prop) : Prop :=
  carlingref21_Lay n2 fun r_4 r_7 =>
  br ((page0.length : Int) != (256 : Int))
  (carlingref21_Put_K1 Q page0 at1 r_4 true)
  (br (decide (at1 < (0 : Int)))
  (carlingref21_Put_K1 Q page0 at1 r_4 true)
  (br (decide (at1 > (3 : Int)))
  (carlingref21_Put_K1 Q page0 at1 r_4 true)
  (carlingref21_Put_K1 Q page0 at1 r_4 (r_7 != (0 : Int)))))

theorem carlingref21_Put_r {ρ : Ids} {h : Hp} {A : List At} {page0 : List Int} {at1 : Int} {n2 : carlingref21_Inode} {a_page00 : Option Addr} {n_page00 c_page00 : Nat} {X_page0 : At} {Q' : (List Int) → Int → Prop} {Q : Sl → Int → Hp → Prop} (hX_page0 : Rd (rI .u8) X_page0 a_page00 n_page00 c_page00 page0) (I : Inv h (X_page0 :: A)) (H : carlingref21_Put page0 at1 n2 Q')
    (k : ∀ (r0 : List Int) (ra0 : Option Addr) (rc0 : Nat) (r1 : Int) (h' : Hp), Inv h' (ownS (rI .u8) ra0 r0.length rc0 r0 :: X_page0 :: A) → Q' r0 r1 → Q ⟨ra0, r0.length, rc0⟩ r1 h') : Tx.carlingref21_Put ρ ⟨a_page00, n_page00, c_page00⟩ at1 n2.Kind n2.Mode n2.Links n2.Size n2.Time n2.Attr n2.Pages.toList h Q := by
  obtain rfl := rd_len hX_page0 I
  unfold Tx.carlingref21_Put
  unfold carlingref21_Put at H
  try simp only [nrm_v]
  refine al_r [.one (.int .i64 n2.Kind), .one (.int .i64 n2.Mode), .one (.int .i64 n2.Links), .one (.int .i64 n2.Size), .one (.int .i64 n2.Time), .one (.int .i64 n2.Attr), .vec .u8 32 n2.Pages] rfl I fun p_2 h I => ?_
  refine ldI_r (I.cell 0 0 rfl) ?_
  refine ldI_r (I.cell 1 1 rfl) ?_
  refine ldI_r (I.cell 2 2 rfl) ?_
  refine ldI_r (I.cell 3 3 rfl) ?_
  refine ldI_r (I.cell 4 4 rfl) ?_
  refine ldI_r (I.cell 5 5 rfl) ?_
  refine ldL_r (I.lump 6 6 rfl) ?_
  try simp only [nrm_v]
  try simp only [nrm_v]
  refine carlingref21_Lay_r (n0 := n2) I H fun r_4 a_5 c_6 r_7 h I H => ?_
  refine br_r H (fun hb H => ?_) (fun hb H => ?_)
  · replace I := I.pull1.drop1
    replace I := I.pull1
    exact carlingref21_Put_K1_r (page0 := page0) (at1 := at1) (b8 := r_4) (v31 := true) hX_page0 I H k
  · refine br_r H (fun hb H => ?_) (fun hb H => ?_)
    · replace I := I.pull1.drop1
      replace I := I.pull1
      exact carlingref21_Put_K1_r (page0 := page0) (at1 := at1) (b8 := r_4) (v31 := true) hX_page0 I H k
    · refine br_r H (fun hb H => ?_) (fun hb H => ?_)
      · replace I := I.pull1.drop1
        replace I := I.pull1
        exact carlingref21_Put_K1_r (page0 := page0) (at1 := at1) (b8 := r_4) (v31 := true) hX_page0 I H k
      · replace I := I.pull1.drop1
        replace I := I.pull1
        exact carlingref21_Put_K1_r (page0 := page0) (at1 := at1) (b8 := r_4) (v31 := (r_7 != (0 : Int))) hX_page0 I H k

def carlinglaw21_InodePages_K2 (Q : Bool → St Obj → Prop) (x7_0 : Int) (x7_1 : Int) (x7_2 : Int) (x7_3 : Int) (x7_4 : Int) (x7_5 : Int) (x7_6 : Vector Int 32) (e8 : Int) (y9_0 : Int) (y9_1 : Int) (y9_2 : Int) (y9_3 : Int) (y9_4 : Int) (y9_5 : Int) (y9_6 : Vector Int 32) (f10 : Int) (a11 : List Int) (g12 : Int) (b13 : List Int) (h14 : Int) (σ : St Obj) : Prop :=
  carlinglaw21_ours (⟨x7_0, x7_1, x7_2, x7_3, x7_4, x7_5, x7_6⟩ : inode_Inode) fun r_49 =>
  br ((r_49.Kind == y9_0) && ((r_49.Mode == y9_1) && ((r_49.Links == y9_2) && ((r_49.Size == y9_3) && ((r_49.Time == y9_4) && ((r_49.Attr == y9_5) && ((r_49.Pages.toList == y9_6.toList) && true)))))))
  (br (e8 == f10)
  (carlingref02_Same a11 b13 fun r_50 =>
  br r_50
  (br (g12 == h14)
  (carlinglaw21_alive σ fun r_51 σ_52 =>
  Q r_51 σ_52)
  (Q false σ))
  (Q false σ))
  (Q false σ))
  (Q false σ)

theorem carlinglaw21_InodePages_K2_r {ρ : Ids} {h : Hp} {A : List At}  {x7_0 : Int} {x7_1 : Int} {x7_2 : Int} {x7_3 : Int} {x7_4 : Int} {x7_5 : Int} {x7_6 : Vector Int 32} {e8 : Int} {y9_0 : Int} {y9_1 : Int} {y9_2 : Int} {y9_3 : Int} {y9_4 : Int} {y9_5 : Int} {y9_6 : Vector Int 32} {f10 : Int} {a11 : List Int} {g12 : Int} {b13 : List Int} {h14 : Int} {p_x7 : Addr} {p_y9 : Addr} {a_a112 : Option Addr} {n_a112 c_a112 : Nat} {a_b133 : Option Addr} {n_b133 c_b133 : Nat} {σ : St Obj} {Q' : Bool → St Obj → Prop} {Q : Bool → Hp → Prop} (I : Inv h (blk p_x7 (ρ.T 8) [.one (.int .i64 x7_0), .one (.int .i64 x7_1), .one (.int .i64 x7_2), .one (.int .i64 x7_3), .one (.int .i64 x7_4), .one (.int .i64 x7_5), .vec .u8 32 x7_6] :: blk p_y9 (ρ.T 9) [.one (.int .i64 y9_0), .one (.int .i64 y9_1), .one (.int .i64 y9_2), .one (.int .i64 y9_3), .one (.int .i64 y9_4), .one (.int .i64 y9_5), .vec .u8 32 y9_6] :: roS (rI .u8) a_a112 n_a112 c_a112 a11 :: ownS (rI .u8) a_b133 n_b133 c_b133 b13 :: hpA (obA ρ) σ :: A)) (H : carlinglaw21_InodePages_K2 Q' x7_0 x7_1 x7_2 x7_3 x7_4 x7_5 x7_6 e8 y9_0 y9_1 y9_2 y9_3 y9_4 y9_5 y9_6 f10 a11 g12 b13 h14 σ)
    (k : ∀ (r0 : Bool) (h' : Hp) (σ' : St Obj), Inv h' (hpA (obA ρ) σ' :: A) → Q' r0 σ' → Q r0 h') : Tx.carlinglaw21_InodePages_K2 ρ Q p_x7 e8 p_y9 f10 ⟨a_a112, n_a112, c_a112⟩ g12 ⟨a_b133, n_b133, c_b133⟩ h14 h := by
  obtain rfl := ro_len I.pull2
  obtain rfl := own_len I.pull3
  unfold Tx.carlinglaw21_InodePages_K2
  unfold carlinglaw21_InodePages_K2 at H
  refine ldI_r (I.cell 0 0 rfl) ?_
  refine ldI_r (I.cell 1 1 rfl) ?_
  refine ldI_r (I.cell 2 2 rfl) ?_
  refine ldI_r (I.cell 3 3 rfl) ?_
  refine ldI_r (I.cell 4 4 rfl) ?_
  refine ldI_r (I.cell 5 5 rfl) ?_
  refine ldL_r (I.lump 6 6 rfl) ?_
  try simp only [nrm_v]
  refine ldI_r (I.pull1.cell 0 0 rfl) ?_
  refine ldI_r (I.pull1.cell 1 1 rfl) ?_
  refine ldI_r (I.pull1.cell 2 2 rfl) ?_
  refine ldI_r (I.pull1.cell 3 3 rfl) ?_
  refine ldI_r (I.pull1.cell 4 4 rfl) ?_
  refine ldI_r (I.pull1.cell 5 5 rfl) ?_
  refine ldL_r (I.pull1.lump 6 6 rfl) ?_
  try simp only [nrm_v]
  try simp only [nrm_v]
  refine carlinglaw21_ours_r (n0 := (⟨x7_0, x7_1, x7_2, x7_3, x7_4, x7_5, x7_6⟩ : inode_Inode)) I H fun r_49 h I H => ?_
  refine ⟨⟨I.pull1.cell 0 0 rfl, I.pull1.cell 1 1 rfl, I.pull1.cell 2 2 rfl, I.pull1.cell 3 3 rfl, I.pull1.cell 4 4 rfl, I.pull1.cell 5 5 rfl, I.pull1.lump 6 6 rfl, trivial⟩, ?_⟩
  try simp only [nrm_v]
  refine br_r H (fun hb H => ?_) (fun hb H => ?_)
  · refine br_r H (fun hb H => ?_) (fun hb H => ?_)
    · replace I := I.pull3.pull3
      refine carlingref02_Same_r (a0 := a11) (b1 := b13) rd_ro rd_own I H fun r_50 h I H => ?_
      refine br_r H (fun hb H => ?_) (fun hb H => ?_)
      · refine br_r H (fun hb H => ?_) (fun hb H => ?_)
        · replace I := I.pull4
          refine carlinglaw21_alive_r (σ := σ) I H fun r_51 h σ_52 I H => ?_
          replace I := I.pull1.drop1
          replace I := I.pull1.drop1
          replace I := I.pull1.drop1
          replace I := I.pull1.drop1
          exact k r_51 _ σ_52 I H
        · replace I := I.drop1
          replace I := I.drop1
          replace I := I.drop1
          replace I := I.drop1
          exact k false _ σ I H
      · replace I := I.drop1
        replace I := I.drop1
        replace I := I.drop1
        replace I := I.drop1
        exact k false _ σ I H
    · replace I := I.drop1
      replace I := I.drop1
      replace I := I.drop1
      replace I := I.drop1
      exact k false _ σ I H
  · replace I := I.drop1
    replace I := I.drop1
    replace I := I.drop1
    replace I := I.drop1
    exact k false _ σ I H

def carlinglaw21_InodePages_K1 (Q : Bool → St Obj → Prop) (x7_0 : Int) (x7_1 : Int) (x7_2 : Int) (x7_3 : Int) (x7_4 : Int) (x7_5 : Int) (x7_6 : Vector Int 32) (e8 : Int) (y9_0 : Int) (y9_1 : Int) (y9_2 : Int) (y9_3 : Int) (y9_4 : Int) (y9_5 : Int) (y9_6 : Vector Int 32) (f10 : Int) (a11 : List Int) (g12 : Int) (b13 : List Int) (h14 : Int) (v63 : Bool) (σ : St Obj) : Prop :=
  br v63
  (Q false σ)
  (carlinglaw21_InodePages_K2 Q x7_0 x7_1 x7_2 x7_3 x7_4 x7_5 x7_6 e8 y9_0 y9_1 y9_2 y9_3 y9_4 y9_5 y9_6 f10 a11 g12 b13 h14 σ)

theorem carlinglaw21_InodePages_K1_r {ρ : Ids} {h : Hp} {A : List At}  {x7_0 : Int} {x7_1 : Int} {x7_2 : Int} {x7_3 : Int} {x7_4 : Int} {x7_5 : Int} {x7_6 : Vector Int 32} {e8 : Int} {y9_0 : Int} {y9_1 : Int} {y9_2 : Int} {y9_3 : Int} {y9_4 : Int} {y9_5 : Int} {y9_6 : Vector Int 32} {f10 : Int} {a11 : List Int} {g12 : Int} {b13 : List Int} {h14 : Int} {v63 : Bool} {p_x7 : Addr} {p_y9 : Addr} {a_a112 : Option Addr} {n_a112 c_a112 : Nat} {a_b133 : Option Addr} {n_b133 c_b133 : Nat} {σ : St Obj} {Q' : Bool → St Obj → Prop} {Q : Bool → Hp → Prop} (I : Inv h (blk p_x7 (ρ.T 8) [.one (.int .i64 x7_0), .one (.int .i64 x7_1), .one (.int .i64 x7_2), .one (.int .i64 x7_3), .one (.int .i64 x7_4), .one (.int .i64 x7_5), .vec .u8 32 x7_6] :: blk p_y9 (ρ.T 9) [.one (.int .i64 y9_0), .one (.int .i64 y9_1), .one (.int .i64 y9_2), .one (.int .i64 y9_3), .one (.int .i64 y9_4), .one (.int .i64 y9_5), .vec .u8 32 y9_6] :: roS (rI .u8) a_a112 n_a112 c_a112 a11 :: ownS (rI .u8) a_b133 n_b133 c_b133 b13 :: hpA (obA ρ) σ :: A)) (H : carlinglaw21_InodePages_K1 Q' x7_0 x7_1 x7_2 x7_3 x7_4 x7_5 x7_6 e8 y9_0 y9_1 y9_2 y9_3 y9_4 y9_5 y9_6 f10 a11 g12 b13 h14 v63 σ)
    (k : ∀ (r0 : Bool) (h' : Hp) (σ' : St Obj), Inv h' (hpA (obA ρ) σ' :: A) → Q' r0 σ' → Q r0 h') : Tx.carlinglaw21_InodePages_K1 ρ Q p_x7 e8 p_y9 f10 ⟨a_a112, n_a112, c_a112⟩ g12 ⟨a_b133, n_b133, c_b133⟩ h14 v63 h := by
  obtain rfl := ro_len I.pull2
  obtain rfl := own_len I.pull3
  unfold Tx.carlinglaw21_InodePages_K1
  unfold carlinglaw21_InodePages_K1 at H
  refine br_r H (fun hb H => ?_) (fun hb H => ?_)
  · replace I := I.drop1
    replace I := I.drop1
    replace I := I.drop1
    replace I := I.drop1
    exact k false _ σ I H
  · replace I := I.pull2.dupR
    replace I := I.pull1.drop1
    replace I := I.pull4.pull4.pull2.pull4.pull4
    exact carlinglaw21_InodePages_K2_r (x7_0 := x7_0) (x7_1 := x7_1) (x7_2 := x7_2) (x7_3 := x7_3) (x7_4 := x7_4) (x7_5 := x7_5) (x7_6 := x7_6) (e8 := e8) (y9_0 := y9_0) (y9_1 := y9_1) (y9_2 := y9_2) (y9_3 := y9_3) (y9_4 := y9_4) (y9_5 := y9_5) (y9_6 := y9_6) (f10 := f10) (a11 := a11) (g12 := g12) (b13 := b13) (h14 := h14) (σ := σ) I H k

def carlinglaw21_InodePages (page0 : List Int) (at1 : Int) (n2 : carlingref21_Inode) (σ : St Obj) (Q : Bool → St Obj → Prop) : Prop :=
  br (decide ((page0.length : Int) > (600 : Int)))
  (carlinglaw21_alive σ fun r_5 σ_6 =>
  Q r_5 σ_6)
  (inode_Get page0 at1 σ fun r_8 r_9 σ_10 =>
  carlingref21_Get page0 at1 fun r_13 r_14 =>
  carlinglaw21_theirs n2 fun r_17 =>
  inode_Put page0 at1 r_17 fun r_18 r_21 =>
  carlingref21_Put page0 at1 n2 fun r_23 r_26 =>
  br (r_21 == (0 : Int))
  (inode_Get r_18 at1 σ_10 fun r_29 r_30 σ_31 =>
  carlinglaw21_theirs n2 fun r_34 =>
  br (!((r_29.Kind == r_34.Kind) && ((r_29.Mode == r_34.Mode) && ((r_29.Links == r_34.Links) && ((r_29.Size == r_34.Size) && ((r_29.Time == r_34.Time) && ((r_29.Attr == r_34.Attr) && ((r_29.Pages.toList == r_34.Pages.toList) && true))))))))
  (carlinglaw21_InodePages_K1 Q r_8.Kind r_8.Mode r_8.Links r_8.Size r_8.Time r_8.Attr r_8.Pages r_9 r_13.Kind r_13.Mode r_13.Links r_13.Size r_13.Time r_13.Attr r_13.Pages r_14 r_18 r_21 r_23 r_26 true σ_31)
  (carlinglaw21_InodePages_K1 Q r_8.Kind r_8.Mode r_8.Links r_8.Size r_8.Time r_8.Attr r_8.Pages r_9 r_13.Kind r_13.Mode r_13.Links r_13.Size r_13.Time r_13.Attr r_13.Pages r_14 r_18 r_21 r_23 r_26 (r_30 != (0 : Int)) σ_31))
  (carlinglaw21_InodePages_K2 Q r_8.Kind r_8.Mode r_8.Links r_8.Size r_8.Time r_8.Attr r_8.Pages r_9 r_13.Kind r_13.Mode r_13.Links r_13.Size r_13.Time r_13.Attr r_13.Pages r_14 r_18 r_21 r_23 r_26 σ_10))

theorem carlinglaw21_InodePages_r {ρ : Ids} {h : Hp} {A : List At} {page0 : List Int} {at1 : Int} {n2 : carlingref21_Inode} {a_page00 : Option Addr} {n_page00 c_page00 : Nat} {σ : St Obj} {Q' : Bool → St Obj → Prop} {Q : Bool → Hp → Prop} (I : Inv h (roS (rI .u8) a_page00 n_page00 c_page00 page0 :: hpA (obA ρ) σ :: A)) (H : carlinglaw21_InodePages page0 at1 n2 σ Q')
    (k : ∀ (r0 : Bool) (h' : Hp) (σ' : St Obj), Inv h' (hpA (obA ρ) σ' :: A) → Q' r0 σ' → Q r0 h') : Tx.carlinglaw21_InodePages ρ ⟨a_page00, n_page00, c_page00⟩ at1 n2.Kind n2.Mode n2.Links n2.Size n2.Time n2.Attr n2.Pages.toList h Q := by
  obtain rfl := ro_len I
  unfold Tx.carlinglaw21_InodePages
  unfold carlinglaw21_InodePages at H
  try simp only [nrm_v]
  refine al_r [.one (.int .i64 n2.Kind), .one (.int .i64 n2.Mode), .one (.int .i64 n2.Links), .one (.int .i64 n2.Size), .one (.int .i64 n2.Time), .one (.int .i64 n2.Attr), .vec .u8 32 n2.Pages] rfl I fun p_3 h I => ?_
  refine br_r H (fun hb H => ?_) (fun hb H => ?_)
  · replace I := I.pull2
    refine carlinglaw21_alive_r (σ := σ) I H fun r_5 h σ_6 I H => ?_
    replace I := I.pull1.drop1
    replace I := I.pull1.drop1
    exact k r_5 _ σ_6 I H
  · replace I := I.pull1.dupR
    replace I := I.pull3.pull1
    refine inode_Get_r (page0 := page0) (at1 := at1) (σ := σ) I H fun r_8 r_9 h σ_10 I H => ?_
    refine al_r [.one (.int .i64 (0 : Int)), .one (.int .i64 (0 : Int)), .one (.int .i64 (0 : Int)), .one (.int .i64 (0 : Int)), .one (.int .i64 (0 : Int)), .one (.int .i64 (0 : Int)), .vec .u8 32 (Vector.replicate 32 (0 : Int))] rfl I fun p_11 h I => ?_
    refine stA_r I 0 7 0 [.one (.int .i64 r_8.Kind), .one (.int .i64 r_8.Mode), .one (.int .i64 r_8.Links), .one (.int .i64 r_8.Size), .one (.int .i64 r_8.Time), .one (.int .i64 r_8.Attr), .vec .u8 32 r_8.Pages] rfl rfl rfl (by first | exact all_segs rfl | exact all_one (by simp [segs, Seg.cells, allOne, allOne_append, allOne_lump, Value.oneCell'])) fun h (I : Inv h (blk p_11 (ρ.T 8) [.one (.int .i64 r_8.Kind), .one (.int .i64 r_8.Mode), .one (.int .i64 r_8.Links), .one (.int .i64 r_8.Size), .one (.int .i64 r_8.Time), .one (.int .i64 r_8.Attr), .vec .u8 32 r_8.Pages] :: _)) => ?_
    replace I := I.pull2
    refine carlingref21_Get_r (page0 := page0) (at1 := at1) rd_ro I H fun r_13 r_14 h I H => ?_
    refine al_r [.one (.int .i64 (0 : Int)), .one (.int .i64 (0 : Int)), .one (.int .i64 (0 : Int)), .one (.int .i64 (0 : Int)), .one (.int .i64 (0 : Int)), .one (.int .i64 (0 : Int)), .vec .u8 32 (Vector.replicate 32 (0 : Int))] rfl I fun p_15 h I => ?_
    refine stA_r I 0 7 0 [.one (.int .i64 r_13.Kind), .one (.int .i64 r_13.Mode), .one (.int .i64 r_13.Links), .one (.int .i64 r_13.Size), .one (.int .i64 r_13.Time), .one (.int .i64 r_13.Attr), .vec .u8 32 r_13.Pages] rfl rfl rfl (by first | exact all_segs rfl | exact all_one (by simp [segs, Seg.cells, allOne, allOne_append, allOne_lump, Value.oneCell'])) fun h (I : Inv h (blk p_15 (ρ.T 9) [.one (.int .i64 r_13.Kind), .one (.int .i64 r_13.Mode), .one (.int .i64 r_13.Links), .one (.int .i64 r_13.Size), .one (.int .i64 r_13.Time), .one (.int .i64 r_13.Attr), .vec .u8 32 r_13.Pages] :: _)) => ?_
    refine ldI_r (I.pull4.cell 0 0 rfl) ?_
    refine ldI_r (I.pull4.cell 1 1 rfl) ?_
    refine ldI_r (I.pull4.cell 2 2 rfl) ?_
    refine ldI_r (I.pull4.cell 3 3 rfl) ?_
    refine ldI_r (I.pull4.cell 4 4 rfl) ?_
    refine ldI_r (I.pull4.cell 5 5 rfl) ?_
    refine ldL_r (I.pull4.lump 6 6 rfl) ?_
    try simp only [nrm_v]
    try simp only [nrm_v]
    refine carlinglaw21_theirs_r (n0 := n2) I H fun r_17 h I H => ?_
    replace I := I.pull1
    try simp only [nrm_v]
    refine inode_Put_r (page0 := page0) (at1 := at1) (n2 := r_17) rd_ro I H fun r_18 a_19 c_20 r_21 h I H => ?_
    refine ldI_r (I.pull5.cell 0 0 rfl) ?_
    refine ldI_r (I.pull5.cell 1 1 rfl) ?_
    refine ldI_r (I.pull5.cell 2 2 rfl) ?_
    refine ldI_r (I.pull5.cell 3 3 rfl) ?_
    refine ldI_r (I.pull5.cell 4 4 rfl) ?_
    refine ldI_r (I.pull5.cell 5 5 rfl) ?_
    refine ldL_r (I.pull5.lump 6 6 rfl) ?_
    try simp only [nrm_v]
    replace I := I.pull1
    try simp only [nrm_v]
    refine carlingref21_Put_r (page0 := page0) (at1 := at1) (n2 := n2) rd_ro I H fun r_23 a_24 c_25 r_26 h I H => ?_
    refine br_r H (fun hb H => ?_) (fun hb H => ?_)
    · replace I := I.pull2.freeze
      replace I := I.dupR
      replace I := I.pull6.pull1
      refine inode_Get_r (page0 := r_18) (at1 := at1) (σ := σ_10) I H fun r_29 r_30 h σ_31 I H => ?_
      refine al_r [.one (.int .i64 (0 : Int)), .one (.int .i64 (0 : Int)), .one (.int .i64 (0 : Int)), .one (.int .i64 (0 : Int)), .one (.int .i64 (0 : Int)), .one (.int .i64 (0 : Int)), .vec .u8 32 (Vector.replicate 32 (0 : Int))] rfl I fun p_32 h I => ?_
      refine stA_r I 0 7 0 [.one (.int .i64 r_29.Kind), .one (.int .i64 r_29.Mode), .one (.int .i64 r_29.Links), .one (.int .i64 r_29.Size), .one (.int .i64 r_29.Time), .one (.int .i64 r_29.Attr), .vec .u8 32 r_29.Pages] rfl rfl rfl (by first | exact all_segs rfl | exact all_one (by simp [segs, Seg.cells, allOne, allOne_append, allOne_lump, Value.oneCell'])) fun h (I : Inv h (blk p_32 (ρ.T 8) [.one (.int .i64 r_29.Kind), .one (.int .i64 r_29.Mode), .one (.int .i64 r_29.Links), .one (.int .i64 r_29.Size), .one (.int .i64 r_29.Time), .one (.int .i64 r_29.Attr), .vec .u8 32 r_29.Pages] :: _)) => ?_
      refine ldI_r (I.cell 0 0 rfl) ?_
      refine ldI_r (I.cell 1 1 rfl) ?_
      refine ldI_r (I.cell 2 2 rfl) ?_
      refine ldI_r (I.cell 3 3 rfl) ?_
      refine ldI_r (I.cell 4 4 rfl) ?_
      refine ldI_r (I.cell 5 5 rfl) ?_
      refine ldL_r (I.lump 6 6 rfl) ?_
      try simp only [nrm_v]
      refine ldI_r (I.pull7.cell 0 0 rfl) ?_
      refine ldI_r (I.pull7.cell 1 1 rfl) ?_
      refine ldI_r (I.pull7.cell 2 2 rfl) ?_
      refine ldI_r (I.pull7.cell 3 3 rfl) ?_
      refine ldI_r (I.pull7.cell 4 4 rfl) ?_
      refine ldI_r (I.pull7.cell 5 5 rfl) ?_
      refine ldL_r (I.pull7.lump 6 6 rfl) ?_
      try simp only [nrm_v]
      try simp only [nrm_v]
      refine carlinglaw21_theirs_r (n0 := n2) I H fun r_34 h I H => ?_
      refine ⟨⟨I.cell 0 0 rfl, I.cell 1 1 rfl, I.cell 2 2 rfl, I.cell 3 3 rfl, I.cell 4 4 rfl, I.cell 5 5 rfl, I.lump 6 6 rfl, trivial⟩, ?_⟩
      try simp only [nrm_v]
      refine br_r H (fun hb H => ?_) (fun hb H => ?_)
      · replace I := I.pull2.dupR
        replace I := I.pull1.drop1
        replace I := I.pull1.drop1
        replace I := I.pull3.drop1
        replace I := I.pull5.drop1
        replace I := I.pull1.pull2.pull2.pull3.pull4
        exact carlinglaw21_InodePages_K1_r (x7_0 := r_8.Kind) (x7_1 := r_8.Mode) (x7_2 := r_8.Links) (x7_3 := r_8.Size) (x7_4 := r_8.Time) (x7_5 := r_8.Attr) (x7_6 := r_8.Pages) (e8 := r_9) (y9_0 := r_13.Kind) (y9_1 := r_13.Mode) (y9_2 := r_13.Links) (y9_3 := r_13.Size) (y9_4 := r_13.Time) (y9_5 := r_13.Attr) (y9_6 := r_13.Pages) (f10 := r_14) (a11 := r_18) (g12 := r_21) (b13 := r_23) (h14 := r_26) (v63 := true) (σ := σ_31) I H k
      · replace I := I.pull2.dupR
        replace I := I.pull1.drop1
        replace I := I.pull1.drop1
        replace I := I.pull3.drop1
        replace I := I.pull5.drop1
        replace I := I.pull1.pull2.pull2.pull3.pull4
        exact carlinglaw21_InodePages_K1_r (x7_0 := r_8.Kind) (x7_1 := r_8.Mode) (x7_2 := r_8.Links) (x7_3 := r_8.Size) (x7_4 := r_8.Time) (x7_5 := r_8.Attr) (x7_6 := r_8.Pages) (e8 := r_9) (y9_0 := r_13.Kind) (y9_1 := r_13.Mode) (y9_2 := r_13.Links) (y9_3 := r_13.Size) (y9_4 := r_13.Time) (y9_5 := r_13.Attr) (y9_6 := r_13.Pages) (f10 := r_14) (a11 := r_18) (g12 := r_21) (b13 := r_23) (h14 := r_26) (v63 := (r_30 != (0 : Int))) (σ := σ_31) I H k
    · replace I := I.pull2.freeze
      replace I := I.dupR
      replace I := I.pull1.drop1
      replace I := I.pull2.drop1
      replace I := I.pull5.drop1
      replace I := I.pull4.pull2.pull2.pull3.pull4
      exact carlinglaw21_InodePages_K2_r (x7_0 := r_8.Kind) (x7_1 := r_8.Mode) (x7_2 := r_8.Links) (x7_3 := r_8.Size) (x7_4 := r_8.Time) (x7_5 := r_8.Attr) (x7_6 := r_8.Pages) (e8 := r_9) (y9_0 := r_13.Kind) (y9_1 := r_13.Mode) (y9_2 := r_13.Links) (y9_3 := r_13.Size) (y9_4 := r_13.Time) (y9_5 := r_13.Attr) (y9_6 := r_13.Pages) (f10 := r_14) (a11 := r_18) (g12 := r_21) (b13 := r_23) (h14 := r_26) (σ := σ_10) I H k

end Go.Pt
