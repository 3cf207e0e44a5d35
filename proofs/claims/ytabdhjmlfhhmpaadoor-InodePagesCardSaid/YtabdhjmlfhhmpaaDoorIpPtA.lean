import Derived.Test.YtabdhjmlfhhmpaaDoorIpTx
import Derived.Test.YtabdhjmlfhhmpaaDoorIpPu8
set_option linter.unusedVariables false
set_option linter.unusedSimpArgs false
set_option maxRecDepth 20000
namespace Go.Pt
open Go Go.Wc Go.Pu

structure pack_Reader where
  b : List Int
  e : Int
  deriving DecidableEq

structure inode_Inode where
  Kind : Int
  Mode : Int
  Links : Int
  Size : Int
  Time : Int
  Attr : Int
  Pages : Vector Int 32
  deriving DecidableEq

structure carlingref21_Inode where
  Kind : Int
  Mode : Int
  Links : Int
  Size : Int
  Time : Int
  Attr : Int
  Pages : Vector Int 32
  deriving DecidableEq

def R_carlingref21_Inode : Rp carlingref21_Inode where
  n := 38
  P := fun h M vs x => vs = ([.int .i64 x.Kind, .int .i64 x.Mode, .int .i64 x.Links, .int .i64 x.Size, .int .i64 x.Time, .int .i64 x.Attr] : List Value) ++ lumpV .u8 32 x.Pages.toList
  len := by
    rintro _ _ _ x rfl
    simp [lumpV_length]
  one := by
    rintro _ _ _ x rfl
    repeat (first | exact all_one rfl | exact all_one (allOne_lump _ _ _) | refine all_app ?_ ?_)
  mono := by
    rintro _ _ _ _ _ x hL rfl
    exact rfl
theorem ocarlingref21_Inode {h : Hp} {A : List At} {vs : List Value} {x : carlingref21_Inode} {G : Prop} (I : Inv h (repA R_carlingref21_Inode vs x :: A)) (k : vs = ([.int .i64 x.Kind, .int .i64 x.Mode, .int .i64 x.Links, .int .i64 x.Size, .int .i64 x.Time, .int .i64 x.Attr] : List Value) ++ lumpV .u8 32 x.Pages.toList → Inv h (A) → G) : G := by
  obtain ⟨F, M, ⟨hF, e⟩, hFM, hn, hlt, HH⟩ := I.turn
  exact k e (HH h [] [] (Keep.refl _ _) (by simp) (by simp) fun M' hL _ _ => trivial)
theorem ixcarlingref21_Inode {h : Hp} {A : List At} {a' : At} {a : Option Addr} {nl c : Nat} {l : List carlingref21_Inode} {i : Int} {K' : carlingref21_Inode → Prop} {K : Addr → Prop} (hX : Rd R_carlingref21_Inode a' a nl c l) (I : Inv h (a' :: A)) (H : ixP l i K')
    (k : ∀ p x, EAdr a 38 i p → (0 ≤ i ∧ i < l.length) → hcell h (p.add 0) = some (.int .i64 x.Kind) → hcell h (p.add 1) = some (.int .i64 x.Mode) → hcell h (p.add 2) = some (.int .i64 x.Links) → hcell h (p.add 3) = some (.int .i64 x.Size) → hcell h (p.add 4) = some (.int .i64 x.Time) → hcell h (p.add 5) = some (.int .i64 x.Attr) → lfact .u8 32 x.Pages.toList (p.add 6) h → Inv h (a' :: A) → K' x → K p) : ixW a nl i 38 K :=
  ix_r hX I (by decide) H fun p vs x he _ hc I hx => ocarlingref21_Inode I fun e I => k p x he (ixP_lt H) (hc 0 _ (by subst e; rfl)) (hc 1 _ (by subst e; rfl)) (hc 2 _ (by subst e; rfl)) (hc 3 _ (by subst e; rfl)) (hc 4 _ (by subst e; rfl)) (hc 5 _ (by subst e; rfl)) (lfact_of hc 6 (by subst e; exact drop_app _ _ (by simp [lumpV_length]))) I hx
theorem mcarlingref21_Inode {h : Hp} {A : List At} (x : carlingref21_Inode) (I : Inv h A) : Inv h (repA R_carlingref21_Inode (([.int .i64 x.Kind, .int .i64 x.Mode, .int .i64 x.Links, .int .i64 x.Size, .int .i64 x.Time, .int .i64 x.Attr] : List Value) ++ lumpV .u8 32 x.Pages.toList) x :: A) := I.addP fun M _ => ⟨rfl, rfl⟩
theorem zcarlingref21_Inode (h : Hp) (M : List Nat) : R_carlingref21_Inode.P h M (([(.int .i64 (0 : Int)), (.int .i64 (0 : Int)), (.int .i64 (0 : Int)), (.int .i64 (0 : Int)), (.int .i64 (0 : Int)), (.int .i64 (0 : Int))] : List Value) ++ lumpV .u8 32 (List.replicate 32 0)) (⟨(0 : Int), (0 : Int), (0 : Int), (0 : Int), (0 : Int), (0 : Int), (Vector.replicate 32 (0 : Int))⟩ : carlingref21_Inode) := rfl
theorem lkcarlingref21_Inode {κ : Type} [DecidableEq κ] {Kx : Ky κ} {h : Hp} {A : List At} {m : Option Nat} {o : Option (Array MapEntry × Nat)} {L : Option (List (κ × carlingref21_Inode))} {key : κ} {K : (Hp → Prop) → Int → Int → Int → Int → Int → Int → List Int → Bool → Prop}
    {K' : carlingref21_Inode → Bool → Prop} (I : Inv h (mapX Kx R_carlingref21_Inode true m o L :: A)) (H : lkP L key (⟨(0 : Int), (0 : Int), (0 : Int), (0 : Int), (0 : Int), (0 : Int), (Vector.replicate 32 (0 : Int))⟩ : carlingref21_Inode) K') (k : ∀ f x ok, (∀ {h' A'}, Inv h' (mapX Kx R_carlingref21_Inode true m o L :: A') → f h') → Inv h (mapX Kx R_carlingref21_Inode true m o L :: A) → K' x ok → K f x.Kind x.Mode x.Links x.Size x.Time x.Attr x.Pages.toList ok) :
    lkW Kx.kd h m (Kx.enc key) fun f ov => ∃ y0 : Int, ∃ y1 : Int, ∃ y2 : Int, ∃ y3 : Int, ∃ y4 : Int, ∃ y5 : Int, ∃ y6 : List Int, (ov.getD (.agg (([(.int .i64 (0 : Int)), (.int .i64 (0 : Int)), (.int .i64 (0 : Int)), (.int .i64 (0 : Int)), (.int .i64 (0 : Int)), (.int .i64 (0 : Int))] : List Value) ++ lumpV .u8 32 (List.replicate 32 0)).toArray) = .agg (([(.int .i64 y0), (.int .i64 y1), (.int .i64 y2), (.int .i64 y3), (.int .i64 y4), (.int .i64 y5)] : List Value) ++ lumpV .u8 32 y6).toArray) ∧ letB ov.isSome fun ok => K f y0 y1 y2 y3 y4 y5 y6 ok :=
  lk_r (zvs := (([(.int .i64 (0 : Int)), (.int .i64 (0 : Int)), (.int .i64 (0 : Int)), (.int .i64 (0 : Int)), (.int .i64 (0 : Int)), (.int .i64 (0 : Int))] : List Value) ++ lumpV .u8 32 (List.replicate 32 0))) (z0 := (⟨(0 : Int), (0 : Int), (0 : Int), (0 : Int), (0 : Int), (0 : Int), (Vector.replicate 32 (0 : Int))⟩ : carlingref21_Inode)) I rfl zcarlingref21_Inode fun f ov vs h1 h2 hf J => ocarlingref21_Inode J fun e J2 => by
    subst e
    refine ⟨_, _, _, _, _, _, _, h1, ?_⟩
    show K f _ _ _ _ _ _ _ ov.isSome
    rw [h2]; exact k f _ _ hf J2 H

inductive Obj where
  | pack_Reader (x : Pt.pack_Reader)

def ob_pack_Reader (ρ : Ids) (x : pack_Reader) (p : Addr) : At := exA fun a1 : Option Addr => exA fun c1 : Nat => bigA [blk p (ρ.T 10) [.one (.slice a1 x.b.length c1), .one (.int .i64 x.e)], roS (rI .u8) a1 x.b.length c1 x.b]

theorem op_pack_Reader {ρ : Ids} {x : pack_Reader} {p : Addr} {h : Hp} {A : List At} (I : Inv h (ob_pack_Reader ρ x p :: A)) : ∃ a1 : Option Addr, ∃ c1 : Nat, Inv h (blk p (ρ.T 10) [.one (.slice a1 x.b.length c1), .one (.int .i64 x.e)] :: roS (rI .u8) a1 x.b.length c1 x.b :: A) := by
  unfold ob_pack_Reader at I
  obtain ⟨a1, I⟩ := I.exE
  obtain ⟨c1, I⟩ := I.exE
  exact ⟨a1, c1, I.bigE⟩

abbrev at_pack_Reader (σ : St Obj) (p : Addr) (K : pack_Reader → Prop) : Prop := ∃ x, σ p = some (.pack_Reader x) ∧ K x

def obA (ρ : Ids) : Obj → Addr → At
  | .pack_Reader x, p => ob_pack_Reader ρ x p

theorem cl_pack_Reader {ρ : Ids} (x : pack_Reader) {p : Addr} {h : Hp} {A : List At} {a1 : Option Addr} {c1 : Nat} {n1 : Nat} (I : Inv h (blk p (ρ.T 10) [.one (.slice a1 n1 c1), .one (.int .i64 x.e)] :: roS (rI .u8) a1 n1 c1 x.b :: A)) : Inv h (obA ρ (.pack_Reader x) p :: A) := by
  obtain rfl := ro_len I.pull1
  exact (Inv.bigI (As := [blk p (ρ.T 10) [.one (.slice a1 x.b.length c1), .one (.int .i64 x.e)], roS (rI .u8) a1 x.b.length c1 x.b]) I).conv fun F M H => ⟨a1, c1, H⟩

instance obHeads (ρ : Ids) : Heads (obA ρ) where
  head := by
    intro o p h F M H
    cases o with
    | pack_Reader x =>
      obtain ⟨_, _, Fs, e, H⟩ := H
      match Fs, e, H with
      | [F0, F1], e, H => exact head_blk e H.1

def pack_Read (b0 : List Int) (σ : St Obj) (Q : (Option Addr) → St Obj → Prop) : Prop :=
  ∀ p_3 : Addr,
  (σ p_3 = none) →
  Q (some p_3) (sset σ p_3 (.pack_Reader (⟨b0, (0 : Int)⟩ : pack_Reader)))

theorem pack_Read_r {ρ : Ids} {h : Hp} {A : List At} {b0 : List Int} {a_b00 : Option Addr} {n_b00 c_b00 : Nat} {σ : St Obj} {Q' : (Option Addr) → St Obj → Prop} {Q : Option Addr → Hp → Prop} (I : Inv h (roS (rI .u8) a_b00 n_b00 c_b00 b0 :: hpA (obA ρ) σ :: A)) (H : pack_Read b0 σ Q')
    (k : ∀ (r0 : Option Addr) (h' : Hp) (σ' : St Obj), Inv h' (hpA (obA ρ) σ' :: A) → Q' r0 σ' → Q r0 h') : Tx.pack_Read ρ ⟨a_b00, n_b00, c_b00⟩ h Q := by
  obtain rfl := ro_len I
  unfold Tx.pack_Read
  unfold pack_Read at H
  refine al_r [.one (.slice a_b00 b0.length c_b00), .one (.int .i64 (0 : Int))] rfl I fun p_3 h I => ?_
  replace H := H p_3
  replace I := I.pull1.dupR
  replace I := I.pull3.pull1.pull3
  obtain ⟨e_6, I⟩ := (cl_pack_Reader (⟨b0, (0 : Int)⟩ : pack_Reader) I).new
  replace H := H e_6
  replace I := I.pull1.drop1
  exact k (some p_3) _ (sset σ p_3 (.pack_Reader (⟨b0, (0 : Int)⟩ : pack_Reader))) I H

def bytes_Clone (s0 : List Int) (Q : List Int → Prop) : Prop := cloneP s0 Q
theorem bytes_Clone_r {ρ : Ids} {h : Hp} {A : List At} {s0 : List Int} {a : Option Addr} {nl c : Nat} {X : At} {Q' : List Int → Prop} {Q : Sl → Hp → Prop} (hX : Rd (rI .u8) X a nl c s0) (I : Inv h (X :: A)) (H : bytes_Clone s0 Q')
    (k : ∀ (r : List Int) (ra : Option Addr) (rc : Nat) (h' : Hp), Inv h' (ownS (rI .u8) ra r.length rc r :: X :: A) → Q' r → Q ⟨ra, r.length, rc⟩ h') : Tx.bytes_Clone ρ ⟨a, nl, c⟩ h Q := by
  unfold Tx.bytes_Clone
  exact clone_r hX I (by decide) rfl (by decide) (by decide) H k

def pack_Reader_Err (r0 : Option Addr) (σ : St Obj) (Q : Int → St Obj → Prop) : Prop :=
  br (Option.isNone r0)
  (Q (2 : Int) σ)
  (nilW r0 fun p_2 =>
  at_pack_Reader σ p_2 fun x_4 =>
  Q x_4.e σ)

theorem pack_Reader_Err_r {ρ : Ids} {h : Hp} {A : List At} {r0 : Option Addr}  {σ : St Obj} {Q' : Int → St Obj → Prop} {Q : Int → Hp → Prop} (I : Inv h (hpA (obA ρ) σ :: A)) (H : pack_Reader_Err r0 σ Q')
    (k : ∀ (r0 : Int) (h' : Hp) (σ' : St Obj), Inv h' (hpA (obA ρ) σ' :: A) → Q' r0 σ' → Q r0 h') : Tx.pack_Reader_Err ρ r0 h Q := by
  unfold Tx.pack_Reader_Err
  unfold pack_Reader_Err at H
  refine br_r H (fun hb H => ?_) (fun hb H => ?_)
  · exact k (2 : Int) _ σ I H
  · refine nil_r H fun p_2 hp_3 H => ?_
    obtain ⟨x_4, hx_5, H⟩ := H
    obtain ⟨a1_6, c1_7, I⟩ := op_pack_Reader (I.take hx_5)
    refine ldI_r (I.cell 1 1 rfl) ?_
    replace I := I.pull1.dupR
    replace I := I.pull3.pull1.pull3
    replace I := (cl_pack_Reader x_4 I).putS hx_5
    replace I := I.pull1.drop1
    exact k x_4.e _ σ I H

def pack_Reader_fail (r0 : Option Addr) (e1 : Int) (σ : St Obj) (Q : St Obj → Prop) : Prop :=
  nilW r0 fun p_2 =>
  at_pack_Reader σ p_2 fun x_4 =>
  br (x_4.e == (0 : Int))
  (Q (sset σ p_2 (.pack_Reader (⟨x_4.b, e1⟩ : pack_Reader))))
  (Q σ)

theorem pack_Reader_fail_r {ρ : Ids} {h : Hp} {A : List At} {r0 : Option Addr} {e1 : Int}  {σ : St Obj} {Q' : St Obj → Prop} {Q : Hp → Prop} (I : Inv h (hpA (obA ρ) σ :: A)) (H : pack_Reader_fail r0 e1 σ Q')
    (k : ∀ (h' : Hp) (σ' : St Obj), Inv h' (hpA (obA ρ) σ' :: A) → Q' σ' → Q h') : Tx.pack_Reader_fail ρ r0 e1 h Q := by
  unfold Tx.pack_Reader_fail
  unfold pack_Reader_fail at H
  refine nil_r H fun p_2 hp_3 H => ?_
  obtain ⟨x_4, hx_5, H⟩ := H
  obtain ⟨a1_6, c1_7, I⟩ := op_pack_Reader (I.take hx_5)
  refine ldI_r (I.cell 1 1 rfl) ?_
  refine br_r H (fun hb H => ?_) (fun hb H => ?_)
  · refine nil_e hp_3 ?_
    refine st_r I 1 1 rfl fun h (I : Inv h (blk p_2 (ρ.T 10) [.one (.slice a1_6 x_4.b.length c1_7), .one (.int .i64 e1)] :: _)) => ?_
    replace I := I.pull1.dupR
    replace I := I.pull3.pull1.pull3
    replace I := (cl_pack_Reader (⟨x_4.b, e1⟩ : pack_Reader) I).putB
    replace I := I.pull1.drop1
    exact k _ (sset σ p_2 (.pack_Reader (⟨x_4.b, e1⟩ : pack_Reader))) I H
  · replace I := I.pull1.dupR
    replace I := I.pull3.pull1.pull3
    replace I := (cl_pack_Reader x_4 I).putS hx_5
    replace I := I.pull1.drop1
    exact k _ σ I H

def pack_Reader_Bytes (r0 : Option Addr) (n1 : Int) (σ : St Obj) (Q : (List Int) → St Obj → Prop) : Prop :=
  pack_Reader_Err r0 σ fun r_2 σ_3 =>
  br (r_2 != (0 : Int))
  (Q ([] : List Int) σ_3)
  (nilW r0 fun p_5 =>
  at_pack_Reader σ_3 p_5 fun x_7 =>
  br (decide ((x_7.b.length : Int) < (if (0 : Int) > n1 then (0 : Int) else n1)))
  (pack_Reader_fail r0 (4 : Int) σ_3 fun σ_15 =>
  Q ([] : List Int) σ_15)
  ((SlOk x_7.b (0 : Int) (if (0 : Int) > n1 then (0 : Int) else n1)) ∧
  (SlOk x_7.b (if (0 : Int) > n1 then (0 : Int) else n1) (x_7.b.length : Int)) ∧
  bytes_Clone (sub x_7.b (0 : Int) (if (0 : Int) > n1 then (0 : Int) else n1)) fun r_25 =>
  Q r_25 (sset σ_3 p_5 (.pack_Reader (⟨(sub x_7.b (if (0 : Int) > n1 then (0 : Int) else n1) (x_7.b.length : Int)), x_7.e⟩ : pack_Reader)))))

theorem pack_Reader_Bytes_r {ρ : Ids} {h : Hp} {A : List At} {r0 : Option Addr} {n1 : Int}  {σ : St Obj} {Q' : (List Int) → St Obj → Prop} {Q : Sl → Hp → Prop} (I : Inv h (hpA (obA ρ) σ :: A)) (H : pack_Reader_Bytes r0 n1 σ Q')
    (k : ∀ (r0 : List Int) (ra0 : Option Addr) (rc0 : Nat) (h' : Hp) (σ' : St Obj), Inv h' (ownS (rI .u8) ra0 r0.length rc0 r0 :: hpA (obA ρ) σ' :: A) → Q' r0 σ' → Q ⟨ra0, r0.length, rc0⟩ h') : Tx.pack_Reader_Bytes ρ r0 n1 h Q := by
  unfold Tx.pack_Reader_Bytes
  unfold pack_Reader_Bytes at H
  refine pack_Reader_Err_r (r0 := r0) (σ := σ) I H fun r_2 h σ_3 I H => ?_
  refine br_r H (fun hb H => ?_) (fun hb H => ?_)
  · replace I := I.nilO (rI .u8)
    replace I := I.pull1.pull1
    exact k ([] : List Int) none 0 _ σ_3 I H
  · refine nil_r H fun p_5 hp_6 H => ?_
    obtain ⟨x_7, hx_8, H⟩ := H
    obtain ⟨a1_9, c1_10, I⟩ := op_pack_Reader (I.take hx_8)
    refine ldS_r (I.cell 0 0 rfl) ?_
    replace I := I.pull1.dupR
    refine br_r H (fun hb H => ?_) (fun hb H => ?_)
    · replace I := I.pull1.dupR
      replace I := I.pull4.pull1.pull4
      replace I := (cl_pack_Reader x_7 I).putS hx_8
      refine pack_Reader_fail_r (r0 := r0) (e1 := (4 : Int)) (σ := σ_3) I H fun h σ_15 I H => ?_
      replace I := I.nilO (rI .u8)
      replace I := I.pull2.drop1
      replace I := I.pull2.drop1
      replace I := I.pull1.pull1
      exact k ([] : List Int) none 0 _ σ_15 I H
    · refine nil_e hp_6 ?_
      refine ldS_r (I.pull2.cell 0 0 rfl) ?_
      replace I := I.pull1.dupR
      replace I := I.dupR
      refine sl_ro I H.1 fun a_18 c_19 I => ?_
      replace H := H.2
      refine nil_e hp_6 ?_
      refine ldS_r (I.pull4.cell 0 0 rfl) ?_
      replace I := I.pull2.dupR
      replace I := I.dupR
      refine sl_ro I H.1 fun a_22 c_23 I => ?_
      replace H := H.2
      refine nil_e hp_6 ?_
      refine st_r I.pull6 0 0 rfl fun h (I : Inv h (blk p_5 (ρ.T 10) [.one (.slice a_22 (sub x_7.b (if (0 : Int) > n1 then (0 : Int) else n1) (x_7.b.length : Int)).length c_23), .one (.int .i64 x_7.e)] :: _)) => ?_
      replace I := I.pull4
      refine bytes_Clone_r (s0 := (sub x_7.b (0 : Int) (if (0 : Int) > n1 then (0 : Int) else n1))) rd_ro I H fun r_25 a_26 c_27 h I H => ?_
      replace I := I.pull3.dupR
      replace I := I.pull9.pull1.pull5
      replace I := (cl_pack_Reader (⟨(sub x_7.b (if (0 : Int) > n1 then (0 : Int) else n1) (x_7.b.length : Int)), x_7.e⟩ : pack_Reader) I).putB
      replace I := I.pull1.drop1
      replace I := I.pull2.drop1
      replace I := I.pull2.drop1
      replace I := I.pull2.drop1
      replace I := I.pull2.drop1
      replace I := I.pull2.drop1
      replace I := I.pull1
      exact k r_25 a_26 c_27 _ (sset σ_3 p_5 (.pack_Reader (⟨(sub x_7.b (if (0 : Int) > n1 then (0 : Int) else n1) (x_7.b.length : Int)), x_7.e⟩ : pack_Reader))) I H

def pack_sized (size0 : Int) (Q : Int → Prop) : Prop :=
  Q (if (8 : Int) < (if (1 : Int) > size0 then (1 : Int) else size0) then (8 : Int) else (if (1 : Int) > size0 then (1 : Int) else size0))

theorem pack_sized_r {ρ : Ids} {h : Hp} {A : List At} {size0 : Int}  {Q' : Int → Prop} {Q : Int → Hp → Prop} (I : Inv h (A)) (H : pack_sized size0 Q')
    (k : ∀ (r0 : Int) (h' : Hp), Inv h' (A) → Q' r0 → Q r0 h') : Tx.pack_sized ρ size0 h Q := by
  unfold Tx.pack_sized
  unfold pack_sized at H
  exact k (if (8 : Int) < (if (1 : Int) > size0 then (1 : Int) else size0) then (8 : Int) else (if (1 : Int) > size0 then (1 : Int) else size0)) _ I H

def pack_Reader_Num_K2 (Q : Int → St Obj → Prop) (r0 : Option Addr) (n7 : Int) (v35 : Bool) (σ : St Obj) : Prop :=
  br v35
  (pack_Reader_fail r0 (3 : Int) σ fun σ_19 =>
  Q (0 : Int) σ_19)
  (Q n7 σ)

theorem pack_Reader_Num_K2_r {ρ : Ids} {h : Hp} {A : List At}  {r0 : Option Addr} {n7 : Int} {v35 : Bool}  {σ : St Obj} {Q' : Int → St Obj → Prop} {Q : Int → Hp → Prop} (I : Inv h (hpA (obA ρ) σ :: A)) (H : pack_Reader_Num_K2 Q' r0 n7 v35 σ)
    (k : ∀ (r0 : Int) (h' : Hp) (σ' : St Obj), Inv h' (hpA (obA ρ) σ' :: A) → Q' r0 σ' → Q r0 h') : Tx.pack_Reader_Num_K2 ρ Q r0 n7 v35 h := by
  unfold Tx.pack_Reader_Num_K2
  unfold pack_Reader_Num_K2 at H
  refine br_r H (fun hb H => ?_) (fun hb H => ?_)
  · refine pack_Reader_fail_r (r0 := r0) (e1 := (3 : Int)) (σ := σ) I H fun h σ_19 I H => ?_
    exact k (0 : Int) _ σ_19 I H
  · exact k n7 _ σ I H

def pack_Reader_Num_B1 (S1 : (Option Addr) → Int → Int → (List Int) → Int → Int → St Obj → Prop) (Q : Int → St Obj → Prop) (r0 : Option Addr) (most2 : Int) (n7 : Int) (v13 : List Int) (v14 : Int) (v15 : Int) (σ : St Obj) : Prop :=
  br (decide (v15 < v14))
  (ixP v13 v15 fun x_10 =>
  (0 ≤ (IntKind.wrap .i64 ((8 : Int) * v15))) ∧
  S1 r0 most2 (IntKind.wrap .u64 (((BitVec.ofInt (IntKind.bits .u64) n7 ||| (BitVec.ofInt (IntKind.bits .u64) (IntKind.wrap .u64 ((IntKind.wrap .u64 x_10) * 2 ^ (min (Int.toNat (IntKind.wrap .i64 ((8 : Int) * v15))) (IntKind.bits .u64)))))).toNat : Int))) v13 v14 (IntKind.wrap .i64 (v15 + (1 : Int))) σ)
  (pack_Reader_Err r0 σ fun r_16 σ_17 =>
  br (r_16 == (0 : Int))
  (pack_Reader_Num_K2 Q r0 n7 (decide (n7 > most2)) σ_17)
  (pack_Reader_Num_K2 Q r0 n7 false σ_17))

def pack_Reader_Num_L1 (Q : Int → St Obj → Prop) (r0 : Option Addr) (most2 : Int) (n7 : Int) (v13 : List Int) (v14 : Int) (v15 : Int) (σ : St Obj) : Prop :=
  Lf (fun S (v : (Option Addr) × Int × Int × (List Int) × Int × Int × St Obj) => pack_Reader_Num_B1 (fun r0 most2 n7 v13 v14 v15 σ => S (r0, most2, n7, v13, v14, v15, σ)) Q v.1 v.2.1 v.2.2.1 v.2.2.2.1 v.2.2.2.2.1 v.2.2.2.2.2.1 v.2.2.2.2.2.2) (r0, most2, n7, v13, v14, v15, σ)

theorem pack_Reader_Num_L1_in (Q : Int → St Obj → Prop) (r0 : Option Addr) (most2 : Int) (n7 : Int) (v13 : List Int) (v14 : Int) (v15 : Int) (σ : St Obj) (H : pack_Reader_Num_B1 (pack_Reader_Num_L1 Q) Q r0 most2 n7 v13 v14 v15 σ) : pack_Reader_Num_L1 Q r0 most2 n7 v13 v14 v15 σ := Lf.fold H

theorem pack_Reader_Num_B1_r {ρ : Ids} {h : Hp} {A : List At}  {r0 : Option Addr} {most2 : Int} {n7 : Int} {v13 : List Int} {v14 : Int} {v15 : Int} {a_v130 : Option Addr} {n_v130 c_v130 : Nat} {σ : St Obj} {Q' : Int → St Obj → Prop} {Q : Int → Hp → Prop} {S1' : (Option Addr) → Int → Int → (List Int) → Int → Int → St Obj → Prop} {S1 : Option Addr → Int → Int → Sl → Int → Int → Hp → Prop} (I : Inv h (ownS (rI .u8) a_v130 n_v130 c_v130 v13 :: hpA (obA ρ) σ :: A)) (H : pack_Reader_Num_B1 S1' Q' r0 most2 n7 v13 v14 v15 σ) (kS1 : ∀ {r0 : Option Addr} {most2 : Int} {n7 : Int} {v13 : List Int} {v14 : Int} {v15 : Int} {a_v130 : Option Addr} {n_v130 c_v130 : Nat} {σ : St Obj} {h : Hp}, Inv h (ownS (rI .u8) a_v130 n_v130 c_v130 v13 :: hpA (obA ρ) σ :: A) → S1' r0 most2 n7 v13 v14 v15 σ → S1 r0 most2 n7 ⟨a_v130, n_v130, c_v130⟩ v14 v15 h)
    (k : ∀ (r0 : Int) (h' : Hp) (σ' : St Obj), Inv h' (hpA (obA ρ) σ' :: A) → Q' r0 σ' → Q r0 h') : Tx.pack_Reader_Num_B1 ρ S1 Q r0 most2 n7 ⟨a_v130, n_v130, c_v130⟩ v14 v15 h := by
  obtain rfl := own_len I
  unfold Tx.pack_Reader_Num_B1
  unfold pack_Reader_Num_B1 at H
  refine br_r H (fun hb H => ?_) (fun hb H => ?_)
  · refine ixI_a rd_own I (ixP_keep H) fun p_11 x_10 he_12 hb_13 hc_14 H => ?_
    obtain ⟨hg_15, H⟩ := H
    refine ldI_r hc_14 ?_
    refine and_r H fun H => ?_
    replace I := I.pull1.pull1
    exact kS1 (r0 := r0) (most2 := most2) (n7 := (IntKind.wrap .u64 (((BitVec.ofInt (IntKind.bits .u64) n7 ||| (BitVec.ofInt (IntKind.bits .u64) (IntKind.wrap .u64 ((IntKind.wrap .u64 x_10) * 2 ^ (min (Int.toNat (IntKind.wrap .i64 ((8 : Int) * v15))) (IntKind.bits .u64)))))).toNat : Int)))) (v13 := v13) (v14 := v14) (v15 := (IntKind.wrap .i64 (v15 + (1 : Int)))) (σ := σ) I H
  · replace I := I.pull1
    refine pack_Reader_Err_r (r0 := r0) (σ := σ) I H fun r_16 h σ_17 I H => ?_
    refine br_r H (fun hb H => ?_) (fun hb H => ?_)
    · replace I := I.pull1.drop1
      exact pack_Reader_Num_K2_r (r0 := r0) (n7 := n7) (v35 := (decide (n7 > most2))) (σ := σ_17) I H k
    · replace I := I.pull1.drop1
      exact pack_Reader_Num_K2_r (r0 := r0) (n7 := n7) (v35 := false) (σ := σ_17) I H k

theorem pack_Reader_Num_L1_r {ρ : Ids} {h : Hp} {A : List At}  {r0 : Option Addr} {most2 : Int} {n7 : Int} {v13 : List Int} {v14 : Int} {v15 : Int} {a_v130 : Option Addr} {n_v130 c_v130 : Nat} {σ : St Obj} {Q' : Int → St Obj → Prop} {Q : Int → Hp → Prop} (I : Inv h (ownS (rI .u8) a_v130 n_v130 c_v130 v13 :: hpA (obA ρ) σ :: A)) (H : pack_Reader_Num_L1 Q' r0 most2 n7 v13 v14 v15 σ)
    (k : ∀ (r0 : Int) (h' : Hp) (σ' : St Obj), Inv h' (hpA (obA ρ) σ' :: A) → Q' r0 σ' → Q r0 h') : Tx.pack_Reader_Num_L1 ρ Q r0 most2 n7 ⟨a_v130, n_v130, c_v130⟩ v14 v15 h := by
  refine Lf.ind H (fun v => ∀ (a_v130 : Option Addr) (n_v130 c_v130 : Nat) (h : Hp), Inv h (ownS (rI .u8) a_v130 n_v130 c_v130 v.2.2.2.1 :: hpA (obA ρ) v.2.2.2.2.2.2 :: A) → Tx.pack_Reader_Num_L1 ρ Q v.1 v.2.1 v.2.2.1 ⟨a_v130, n_v130, c_v130⟩ v.2.2.2.2.1 v.2.2.2.2.2.1 h) ?_ _ _ _ _  I
  rintro ⟨r0, most2, n7, v13, v14, v15, σ⟩ S hS HB a_v130 n_v130 c_v130 h I
  refine Tx.pack_Reader_Num_L1_in _ _ _ _ _ _ _ _ _ ?_
  try simp only [nrm_v]
  exact pack_Reader_Num_B1_r (r0 := r0) (most2 := most2) (n7 := n7) (v13 := v13) (v14 := v14) (v15 := v15) (σ := σ) I HB (fun {r0 most2 n7 v13 v14 v15 a_v130 n_v130 c_v130 σ h} I H => hS _ H a_v130 n_v130 c_v130 _ I) k

def pack_Reader_Num (r0 : Option Addr) (size1 : Int) (most2 : Int) (σ : St Obj) (Q : Int → St Obj → Prop) : Prop :=
  pack_sized size1 fun r_2 =>
  pack_Reader_Bytes r0 r_2 σ fun r_3 σ_7 =>
  pack_Reader_Num_L1 Q r0 most2 (0 : Int) r_3 (r_3.length : Int) (0 : Int) σ_7

theorem pack_Reader_Num_r {ρ : Ids} {h : Hp} {A : List At} {r0 : Option Addr} {size1 : Int} {most2 : Int}  {σ : St Obj} {Q' : Int → St Obj → Prop} {Q : Int → Hp → Prop} (I : Inv h (hpA (obA ρ) σ :: A)) (H : pack_Reader_Num r0 size1 most2 σ Q')
    (k : ∀ (r0 : Int) (h' : Hp) (σ' : St Obj), Inv h' (hpA (obA ρ) σ' :: A) → Q' r0 σ' → Q r0 h') : Tx.pack_Reader_Num ρ r0 size1 most2 h Q := by
  unfold Tx.pack_Reader_Num
  unfold pack_Reader_Num at H
  refine pack_sized_r (size0 := size1) I H fun r_2 h I H => ?_
  refine pack_Reader_Bytes_r (r0 := r0) (n1 := r_2) (σ := σ) I H fun r_3 a_4 c_5 h σ_7 I H => ?_
  replace I := I.pull1.pull1
  exact pack_Reader_Num_L1_r (r0 := r0) (most2 := most2) (n7 := (0 : Int)) (v13 := r_3) (v14 := (r_3.length : Int)) (v15 := (0 : Int)) (σ := σ_7) I H k

def bytes_trimLeftByte_K2 (S1 : (List Int) → Int → Prop) (Q : (List Int) → Prop) (s0 : List Int) (c1 : Int) (v14 : Bool) : Prop :=
  br v14
  ((SlOk s0 (1 : Int) (s0.length : Int)) ∧
  S1 (sub s0 (1 : Int) (s0.length : Int)) c1)
  (br ((s0.length : Int) == (0 : Int))
  (Q ([] : List Int))
  (Q s0))

theorem bytes_trimLeftByte_K2_r {ρ : Ids} {h : Hp} {A : List At}  {s0 : List Int} {c1 : Int} {v14 : Bool} {a_s00 : Option Addr} {n_s00 c_s00 : Nat} {Q' : (List Int) → Prop} {Q : Sl → Hp → Prop} {S1' : (List Int) → Int → Prop} {S1 : Sl → Int → Hp → Prop} (I : Inv h (roS (rI .u8) a_s00 n_s00 c_s00 s0 :: A)) (H : bytes_trimLeftByte_K2 S1' Q' s0 c1 v14) (kS1 : ∀ {s0 : List Int} {c1 : Int} {a_s00 : Option Addr} {n_s00 c_s00 : Nat} {h : Hp}, Inv h (roS (rI .u8) a_s00 n_s00 c_s00 s0 :: A) → S1' s0 c1 → S1 ⟨a_s00, n_s00, c_s00⟩ c1 h)
    (k : ∀ (r0 : List Int) (ra0 : Option Addr) (rc0 : Nat) (h' : Hp), Inv h' (roS (rI .u8) ra0 r0.length rc0 r0 :: A) → Q' r0 → Q ⟨ra0, r0.length, rc0⟩ h') : Tx.bytes_trimLeftByte_K2 ρ S1 Q ⟨a_s00, n_s00, c_s00⟩ c1 v14 h := by
  obtain rfl := ro_len I
  unfold Tx.bytes_trimLeftByte_K2
  unfold bytes_trimLeftByte_K2 at H
  refine br_r H (fun hb H => ?_) (fun hb H => ?_)
  · replace I := I.dupR
    refine sl_ro I H.1 fun a_13 c_14 I => ?_
    replace H := H.2
    replace I := I.dupR
    replace I := I.pull1.drop1
    replace I := I.pull1.drop1
    exact kS1 (s0 := (sub s0 (1 : Int) (s0.length : Int))) (c1 := c1) I H
  · refine br_r H (fun hb H => ?_) (fun hb H => ?_)
    · replace I := I.nilR (rI .u8)
      replace I := I.pull1.drop1
      exact k ([] : List Int) none 0 _ I H
    · replace I := I.dupR
      replace I := I.pull1.drop1
      exact k s0 a_s00 c_s00 _ I H

def bytes_trimLeftByte_B1 (S1 : (List Int) → Int → Prop) (Q : (List Int) → Prop) (s0 : List Int) (c1 : Int) : Prop :=
  br (decide ((s0.length : Int) > (0 : Int)))
  (ixP s0 (0 : Int) fun x_4 =>
  bytes_trimLeftByte_K2 S1 Q s0 c1 (x_4 == c1))
  (bytes_trimLeftByte_K2 S1 Q s0 c1 false)

def bytes_trimLeftByte_L1 (Q : (List Int) → Prop) (s0 : List Int) (c1 : Int) : Prop :=
  Lf (fun S (v : (List Int) × Int) => bytes_trimLeftByte_B1 (fun s0 c1 => S (s0, c1)) Q v.1 v.2) (s0, c1)

theorem bytes_trimLeftByte_L1_in (Q : (List Int) → Prop) (s0 : List Int) (c1 : Int) (H : bytes_trimLeftByte_B1 (bytes_trimLeftByte_L1 Q) Q s0 c1) : bytes_trimLeftByte_L1 Q s0 c1 := Lf.fold H

theorem bytes_trimLeftByte_B1_r {ρ : Ids} {h : Hp} {A : List At}  {s0 : List Int} {c1 : Int} {a_s00 : Option Addr} {n_s00 c_s00 : Nat} {Q' : (List Int) → Prop} {Q : Sl → Hp → Prop} {S1' : (List Int) → Int → Prop} {S1 : Sl → Int → Hp → Prop} (I : Inv h (roS (rI .u8) a_s00 n_s00 c_s00 s0 :: A)) (H : bytes_trimLeftByte_B1 S1' Q' s0 c1) (kS1 : ∀ {s0 : List Int} {c1 : Int} {a_s00 : Option Addr} {n_s00 c_s00 : Nat} {h : Hp}, Inv h (roS (rI .u8) a_s00 n_s00 c_s00 s0 :: A) → S1' s0 c1 → S1 ⟨a_s00, n_s00, c_s00⟩ c1 h)
    (k : ∀ (r0 : List Int) (ra0 : Option Addr) (rc0 : Nat) (h' : Hp), Inv h' (roS (rI .u8) ra0 r0.length rc0 r0 :: A) → Q' r0 → Q ⟨ra0, r0.length, rc0⟩ h') : Tx.bytes_trimLeftByte_B1 ρ S1 Q ⟨a_s00, n_s00, c_s00⟩ c1 h := by
  obtain rfl := ro_len I
  unfold Tx.bytes_trimLeftByte_B1
  unfold bytes_trimLeftByte_B1 at H
  refine br_r H (fun hb H => ?_) (fun hb H => ?_)
  · refine ixI_a rd_ro I (ixP_keep H) fun p_5 x_4 he_6 hb_7 hc_8 H => ?_
    obtain ⟨hg_9, H⟩ := H
    refine ldI_r hc_8 ?_
    replace I := I.dupR
    replace I := I.pull1.drop1
    exact bytes_trimLeftByte_K2_r (s0 := s0) (c1 := c1) (v14 := (x_4 == c1)) I H kS1 k
  · replace I := I.dupR
    replace I := I.pull1.drop1
    exact bytes_trimLeftByte_K2_r (s0 := s0) (c1 := c1) (v14 := false) I H kS1 k

theorem bytes_trimLeftByte_L1_r {ρ : Ids} {h : Hp} {A : List At}  {s0 : List Int} {c1 : Int} {a_s00 : Option Addr} {n_s00 c_s00 : Nat} {Q' : (List Int) → Prop} {Q : Sl → Hp → Prop} (I : Inv h (roS (rI .u8) a_s00 n_s00 c_s00 s0 :: A)) (H : bytes_trimLeftByte_L1 Q' s0 c1)
    (k : ∀ (r0 : List Int) (ra0 : Option Addr) (rc0 : Nat) (h' : Hp), Inv h' (roS (rI .u8) ra0 r0.length rc0 r0 :: A) → Q' r0 → Q ⟨ra0, r0.length, rc0⟩ h') : Tx.bytes_trimLeftByte_L1 ρ Q ⟨a_s00, n_s00, c_s00⟩ c1 h := by
  refine Lf.ind H (fun v => ∀ (a_s00 : Option Addr) (n_s00 c_s00 : Nat) (h : Hp), Inv h (roS (rI .u8) a_s00 n_s00 c_s00 v.1 :: A) → Tx.bytes_trimLeftByte_L1 ρ Q ⟨a_s00, n_s00, c_s00⟩ v.2 h) ?_ _ _ _ _  I
  rintro ⟨s0, c1⟩ S hS HB a_s00 n_s00 c_s00 h I
  refine Tx.bytes_trimLeftByte_L1_in _ _ _ _ _ ?_
  try simp only [nrm_v]
  exact bytes_trimLeftByte_B1_r (s0 := s0) (c1 := c1) I HB (fun {s0 c1 a_s00 n_s00 c_s00 h} I H => hS _ H a_s00 n_s00 c_s00 _ I) k

def bytes_trimLeftByte (s0 : List Int) (c1 : Int) (Q : (List Int) → Prop) : Prop :=
  bytes_trimLeftByte_L1 Q s0 c1

theorem bytes_trimLeftByte_r {ρ : Ids} {h : Hp} {A : List At} {s0 : List Int} {c1 : Int} {a_s00 : Option Addr} {n_s00 c_s00 : Nat} {Q' : (List Int) → Prop} {Q : Sl → Hp → Prop} (I : Inv h (roS (rI .u8) a_s00 n_s00 c_s00 s0 :: A)) (H : bytes_trimLeftByte s0 c1 Q')
    (k : ∀ (r0 : List Int) (ra0 : Option Addr) (rc0 : Nat) (h' : Hp), Inv h' (roS (rI .u8) ra0 r0.length rc0 r0 :: A) → Q' r0 → Q ⟨ra0, r0.length, rc0⟩ h') : Tx.bytes_trimLeftByte ρ ⟨a_s00, n_s00, c_s00⟩ c1 h Q := by
  obtain rfl := ro_len I
  unfold Tx.bytes_trimLeftByte
  unfold bytes_trimLeftByte at H
  replace I := I.dupR
  replace I := I.pull1.drop1
  exact bytes_trimLeftByte_L1_r (s0 := s0) (c1 := c1) I H k

def bytes_trimRightByte_K2 (S1 : (List Int) → Int → Prop) (Q : (List Int) → Prop) (s0 : List Int) (c1 : Int) (v17 : Bool) : Prop :=
  br v17
  ((SlOk s0 (0 : Int) (IntKind.wrap .i64 ((s0.length : Int) - (1 : Int)))) ∧
  S1 (sub s0 (0 : Int) (IntKind.wrap .i64 ((s0.length : Int) - (1 : Int)))) c1)
  (Q s0)

theorem bytes_trimRightByte_K2_r {ρ : Ids} {h : Hp} {A : List At}  {s0 : List Int} {c1 : Int} {v17 : Bool} {a_s00 : Option Addr} {n_s00 c_s00 : Nat} {Q' : (List Int) → Prop} {Q : Sl → Hp → Prop} {S1' : (List Int) → Int → Prop} {S1 : Sl → Int → Hp → Prop} (I : Inv h (roS (rI .u8) a_s00 n_s00 c_s00 s0 :: A)) (H : bytes_trimRightByte_K2 S1' Q' s0 c1 v17) (kS1 : ∀ {s0 : List Int} {c1 : Int} {a_s00 : Option Addr} {n_s00 c_s00 : Nat} {h : Hp}, Inv h (roS (rI .u8) a_s00 n_s00 c_s00 s0 :: A) → S1' s0 c1 → S1 ⟨a_s00, n_s00, c_s00⟩ c1 h)
    (k : ∀ (r0 : List Int) (ra0 : Option Addr) (rc0 : Nat) (h' : Hp), Inv h' (roS (rI .u8) ra0 r0.length rc0 r0 :: A) → Q' r0 → Q ⟨ra0, r0.length, rc0⟩ h') : Tx.bytes_trimRightByte_K2 ρ S1 Q ⟨a_s00, n_s00, c_s00⟩ c1 v17 h := by
  obtain rfl := ro_len I
  unfold Tx.bytes_trimRightByte_K2
  unfold bytes_trimRightByte_K2 at H
  refine br_r H (fun hb H => ?_) (fun hb H => ?_)
  · replace I := I.dupR
    refine sl_ro I H.1 fun a_13 c_14 I => ?_
    replace H := H.2
    replace I := I.dupR
    replace I := I.pull1.drop1
    replace I := I.pull1.drop1
    exact kS1 (s0 := (sub s0 (0 : Int) (IntKind.wrap .i64 ((s0.length : Int) - (1 : Int))))) (c1 := c1) I H
  · replace I := I.dupR
    replace I := I.pull1.drop1
    exact k s0 a_s00 c_s00 _ I H

def bytes_trimRightByte_B1 (S1 : (List Int) → Int → Prop) (Q : (List Int) → Prop) (s0 : List Int) (c1 : Int) : Prop :=
  br (decide ((s0.length : Int) > (0 : Int)))
  (ixP s0 (IntKind.wrap .i64 ((s0.length : Int) - (1 : Int))) fun x_4 =>
  bytes_trimRightByte_K2 S1 Q s0 c1 (x_4 == c1))
  (bytes_trimRightByte_K2 S1 Q s0 c1 false)

def bytes_trimRightByte_L1 (Q : (List Int) → Prop) (s0 : List Int) (c1 : Int) : Prop :=
  Lf (fun S (v : (List Int) × Int) => bytes_trimRightByte_B1 (fun s0 c1 => S (s0, c1)) Q v.1 v.2) (s0, c1)

theorem bytes_trimRightByte_L1_in (Q : (List Int) → Prop) (s0 : List Int) (c1 : Int) (H : bytes_trimRightByte_B1 (bytes_trimRightByte_L1 Q) Q s0 c1) : bytes_trimRightByte_L1 Q s0 c1 := Lf.fold H

theorem bytes_trimRightByte_B1_r {ρ : Ids} {h : Hp} {A : List At}  {s0 : List Int} {c1 : Int} {a_s00 : Option Addr} {n_s00 c_s00 : Nat} {Q' : (List Int) → Prop} {Q : Sl → Hp → Prop} {S1' : (List Int) → Int → Prop} {S1 : Sl → Int → Hp → Prop} (I : Inv h (roS (rI .u8) a_s00 n_s00 c_s00 s0 :: A)) (H : bytes_trimRightByte_B1 S1' Q' s0 c1) (kS1 : ∀ {s0 : List Int} {c1 : Int} {a_s00 : Option Addr} {n_s00 c_s00 : Nat} {h : Hp}, Inv h (roS (rI .u8) a_s00 n_s00 c_s00 s0 :: A) → S1' s0 c1 → S1 ⟨a_s00, n_s00, c_s00⟩ c1 h)
    (k : ∀ (r0 : List Int) (ra0 : Option Addr) (rc0 : Nat) (h' : Hp), Inv h' (roS (rI .u8) ra0 r0.length rc0 r0 :: A) → Q' r0 → Q ⟨ra0, r0.length, rc0⟩ h') : Tx.bytes_trimRightByte_B1 ρ S1 Q ⟨a_s00, n_s00, c_s00⟩ c1 h := by
  obtain rfl := ro_len I
  unfold Tx.bytes_trimRightByte_B1
  unfold bytes_trimRightByte_B1 at H
  refine br_r H (fun hb H => ?_) (fun hb H => ?_)
  · refine ixI_a rd_ro I (ixP_keep H) fun p_5 x_4 he_6 hb_7 hc_8 H => ?_
    obtain ⟨hg_9, H⟩ := H
    refine ldI_r hc_8 ?_
    replace I := I.dupR
    replace I := I.pull1.drop1
    exact bytes_trimRightByte_K2_r (s0 := s0) (c1 := c1) (v17 := (x_4 == c1)) I H kS1 k
  · replace I := I.dupR
    replace I := I.pull1.drop1
    exact bytes_trimRightByte_K2_r (s0 := s0) (c1 := c1) (v17 := false) I H kS1 k

theorem bytes_trimRightByte_L1_r {ρ : Ids} {h : Hp} {A : List At}  {s0 : List Int} {c1 : Int} {a_s00 : Option Addr} {n_s00 c_s00 : Nat} {Q' : (List Int) → Prop} {Q : Sl → Hp → Prop} (I : Inv h (roS (rI .u8) a_s00 n_s00 c_s00 s0 :: A)) (H : bytes_trimRightByte_L1 Q' s0 c1)
    (k : ∀ (r0 : List Int) (ra0 : Option Addr) (rc0 : Nat) (h' : Hp), Inv h' (roS (rI .u8) ra0 r0.length rc0 r0 :: A) → Q' r0 → Q ⟨ra0, r0.length, rc0⟩ h') : Tx.bytes_trimRightByte_L1 ρ Q ⟨a_s00, n_s00, c_s00⟩ c1 h := by
  refine Lf.ind H (fun v => ∀ (a_s00 : Option Addr) (n_s00 c_s00 : Nat) (h : Hp), Inv h (roS (rI .u8) a_s00 n_s00 c_s00 v.1 :: A) → Tx.bytes_trimRightByte_L1 ρ Q ⟨a_s00, n_s00, c_s00⟩ v.2 h) ?_ _ _ _ _  I
  rintro ⟨s0, c1⟩ S hS HB a_s00 n_s00 c_s00 h I
  refine Tx.bytes_trimRightByte_L1_in _ _ _ _ _ ?_
  try simp only [nrm_v]
  exact bytes_trimRightByte_B1_r (s0 := s0) (c1 := c1) I HB (fun {s0 c1 a_s00 n_s00 c_s00 h} I H => hS _ H a_s00 n_s00 c_s00 _ I) k

def bytes_trimRightByte (s0 : List Int) (c1 : Int) (Q : (List Int) → Prop) : Prop :=
  bytes_trimRightByte_L1 Q s0 c1

theorem bytes_trimRightByte_r {ρ : Ids} {h : Hp} {A : List At} {s0 : List Int} {c1 : Int} {a_s00 : Option Addr} {n_s00 c_s00 : Nat} {Q' : (List Int) → Prop} {Q : Sl → Hp → Prop} (I : Inv h (roS (rI .u8) a_s00 n_s00 c_s00 s0 :: A)) (H : bytes_trimRightByte s0 c1 Q')
    (k : ∀ (r0 : List Int) (ra0 : Option Addr) (rc0 : Nat) (h' : Hp), Inv h' (roS (rI .u8) ra0 r0.length rc0 r0 :: A) → Q' r0 → Q ⟨ra0, r0.length, rc0⟩ h') : Tx.bytes_trimRightByte ρ ⟨a_s00, n_s00, c_s00⟩ c1 h Q := by
  obtain rfl := ro_len I
  unfold Tx.bytes_trimRightByte
  unfold bytes_trimRightByte at H
  replace I := I.dupR
  replace I := I.pull1.drop1
  exact bytes_trimRightByte_L1_r (s0 := s0) (c1 := c1) I H k

def bytes_Trim_K1 (Q : (List Int) → Prop) (s0 : List Int) (cutset1 : ByteArray) (v20 : Bool) : Prop :=
  br v20
  ((0 ≤ (0 : Int) ∧ (0 : Int) < (cutset1.size : Int)) ∧
  (0 ≤ (0 : Int) ∧ (0 : Int) < (cutset1.size : Int)) ∧
  bytes_trimRightByte s0 ((cutset1.data.toList.getD (Int.toNat (0 : Int)) 0).toNat : Int) fun r_8 =>
  bytes_trimLeftByte r_8 ((cutset1.data.toList.getD (Int.toNat (0 : Int)) 0).toNat : Int) fun r_13 =>
  Q r_13)
  (False
  )

theorem bytes_Trim_K1_r {ρ : Ids} {h : Hp} {A : List At}  {s0 : List Int} {cutset1 : ByteArray} {v20 : Bool} {a_s00 : Option Addr} {n_s00 c_s00 : Nat} {Q' : (List Int) → Prop} {Q : Sl → Hp → Prop} (I : Inv h (roS (rI .u8) a_s00 n_s00 c_s00 s0 :: A)) (H : bytes_Trim_K1 Q' s0 cutset1 v20)
    (k : ∀ (r0 : List Int) (ra0 : Option Addr) (rc0 : Nat) (h' : Hp), Inv h' (roS (rI .u8) ra0 r0.length rc0 r0 :: A) → Q' r0 → Q ⟨ra0, r0.length, rc0⟩ h') : Tx.bytes_Trim_K1 ρ Q ⟨a_s00, n_s00, c_s00⟩ cutset1 v20 h := by
  obtain rfl := ro_len I
  unfold Tx.bytes_Trim_K1
  unfold bytes_Trim_K1 at H
  refine br_r H (fun hb H => ?_) (fun hb H => ?_)
  · refine and_r H fun H => ?_
    refine and_r H fun H => ?_
    replace I := I.dupR
    refine bytes_trimRightByte_r (s0 := s0) (c1 := ((cutset1.data.toList.getD (Int.toNat (0 : Int)) 0).toNat : Int)) I H fun r_8 a_9 c_10 h I H => ?_
    replace I := I.dupR
    refine bytes_trimLeftByte_r (s0 := r_8) (c1 := ((cutset1.data.toList.getD (Int.toNat (0 : Int)) 0).toNat : Int)) I H fun r_13 a_14 c_15 h I H => ?_
    replace I := I.dupR
    replace I := I.pull1.drop1
    replace I := I.pull1.drop1
    replace I := I.pull1.drop1
    exact k r_13 a_14 c_15 _ I H
  · exact H.elim

def bytes_Trim (s0 : List Int) (cutset1 : ByteArray) (Q : (List Int) → Prop) : Prop :=
  br ((s0.length : Int) == (0 : Int))
  (Q ([] : List Int))
  (br (cutset1.toList == (⟨#[]⟩ : ByteArray).toList)
  (Q s0)
  (br ((cutset1.size : Int) == (1 : Int))
  ((0 ≤ (0 : Int) ∧ (0 : Int) < (cutset1.size : Int)) ∧
  bytes_Trim_K1 Q s0 cutset1 (decide (((cutset1.data.toList.getD (Int.toNat (0 : Int)) 0).toNat : Int) < (128 : Int))))
  (bytes_Trim_K1 Q s0 cutset1 false)))

theorem bytes_Trim_r {ρ : Ids} {h : Hp} {A : List At} {s0 : List Int} {cutset1 : ByteArray} {a_s00 : Option Addr} {n_s00 c_s00 : Nat} {Q' : (List Int) → Prop} {Q : Sl → Hp → Prop} (I : Inv h (roS (rI .u8) a_s00 n_s00 c_s00 s0 :: A)) (H : bytes_Trim s0 cutset1 Q')
    (k : ∀ (r0 : List Int) (ra0 : Option Addr) (rc0 : Nat) (h' : Hp), Inv h' (roS (rI .u8) ra0 r0.length rc0 r0 :: A) → Q' r0 → Q ⟨ra0, r0.length, rc0⟩ h') : Tx.bytes_Trim ρ ⟨a_s00, n_s00, c_s00⟩ cutset1 h Q := by
  obtain rfl := ro_len I
  unfold Tx.bytes_Trim
  unfold bytes_Trim at H
  refine br_r H (fun hb H => ?_) (fun hb H => ?_)
  · replace I := I.nilR (rI .u8)
    replace I := I.pull1.drop1
    exact k ([] : List Int) none 0 _ I H
  · refine br_r H (fun hb H => ?_) (fun hb H => ?_)
    · replace I := I.dupR
      replace I := I.pull1.drop1
      exact k s0 a_s00 c_s00 _ I H
    · refine br_r H (fun hb H => ?_) (fun hb H => ?_)
      · refine and_r H fun H => ?_
        replace I := I.dupR
        replace I := I.pull1.drop1
        exact bytes_Trim_K1_r (s0 := s0) (cutset1 := cutset1) (v20 := (decide (((cutset1.data.toList.getD (Int.toNat (0 : Int)) 0).toNat : Int) < (128 : Int)))) I H k
      · replace I := I.dupR
        replace I := I.pull1.drop1
        exact bytes_Trim_K1_r (s0 := s0) (cutset1 := cutset1) (v20 := false) I H k

def pack_zero (b0 : List Int) (Q : Bool → Prop) : Prop :=
  bytes_Trim b0 (⟨#[0]⟩ : ByteArray) fun r_3 =>
  Q ((r_3.length : Int) == (0 : Int))

theorem pack_zero_r {ρ : Ids} {h : Hp} {A : List At} {b0 : List Int} {a_b00 : Option Addr} {n_b00 c_b00 : Nat} {Q' : Bool → Prop} {Q : Bool → Hp → Prop} (I : Inv h (roS (rI .u8) a_b00 n_b00 c_b00 b0 :: A)) (H : pack_zero b0 Q')
    (k : ∀ (r0 : Bool) (h' : Hp), Inv h' (A) → Q' r0 → Q r0 h') : Tx.pack_zero ρ ⟨a_b00, n_b00, c_b00⟩ h Q := by
  obtain rfl := ro_len I
  unfold Tx.pack_zero
  unfold pack_zero at H
  replace I := I.dupR
  refine bytes_Trim_r (s0 := b0) (cutset1 := (⟨#[0]⟩ : ByteArray)) I H fun r_3 a_4 c_5 h I H => ?_
  replace I := I.drop1
  replace I := I.drop1
  exact k ((r_3.length : Int) == (0 : Int)) _ I H

def pack_Reader_Rest_K2 (Q : Int → St Obj → Prop) (r0 : Option Addr) (σ : St Obj) : Prop :=
  pack_Reader_Err r0 σ fun r_19 σ_20 =>
  Q r_19 σ_20

theorem pack_Reader_Rest_K2_r {ρ : Ids} {h : Hp} {A : List At}  {r0 : Option Addr}  {σ : St Obj} {Q' : Int → St Obj → Prop} {Q : Int → Hp → Prop} (I : Inv h (hpA (obA ρ) σ :: A)) (H : pack_Reader_Rest_K2 Q' r0 σ)
    (k : ∀ (r0 : Int) (h' : Hp) (σ' : St Obj), Inv h' (hpA (obA ρ) σ' :: A) → Q' r0 σ' → Q r0 h') : Tx.pack_Reader_Rest_K2 ρ Q r0 h := by
  unfold Tx.pack_Reader_Rest_K2
  unfold pack_Reader_Rest_K2 at H
  refine pack_Reader_Err_r (r0 := r0) (σ := σ) I H fun r_19 h σ_20 I H => ?_
  exact k r_19 _ σ_20 I H

def pack_Reader_Rest_K1 (Q : Int → St Obj → Prop) (r0 : Option Addr) (v13 : Bool) (σ : St Obj) : Prop :=
  br v13
  (pack_Reader_fail r0 (3 : Int) σ fun σ_17 =>
  pack_Reader_Rest_K2 Q r0 σ_17)
  (pack_Reader_Rest_K2 Q r0 σ)

theorem pack_Reader_Rest_K1_r {ρ : Ids} {h : Hp} {A : List At}  {r0 : Option Addr} {v13 : Bool}  {σ : St Obj} {Q' : Int → St Obj → Prop} {Q : Int → Hp → Prop} (I : Inv h (hpA (obA ρ) σ :: A)) (H : pack_Reader_Rest_K1 Q' r0 v13 σ)
    (k : ∀ (r0 : Int) (h' : Hp) (σ' : St Obj), Inv h' (hpA (obA ρ) σ' :: A) → Q' r0 σ' → Q r0 h') : Tx.pack_Reader_Rest_K1 ρ Q r0 v13 h := by
  unfold Tx.pack_Reader_Rest_K1
  unfold pack_Reader_Rest_K1 at H
  refine br_r H (fun hb H => ?_) (fun hb H => ?_)
  · refine pack_Reader_fail_r (r0 := r0) (e1 := (3 : Int)) (σ := σ) I H fun h σ_17 I H => ?_
    exact pack_Reader_Rest_K2_r (r0 := r0) (σ := σ_17) I H k
  · exact pack_Reader_Rest_K2_r (r0 := r0) (σ := σ) I H k

def pack_Reader_Rest (r0 : Option Addr) (σ : St Obj) (Q : Int → St Obj → Prop) : Prop :=
  pack_Reader_Err r0 σ fun r_2 σ_3 =>
  br (r_2 == (0 : Int))
  (nilW r0 fun p_4 =>
  at_pack_Reader σ_3 p_4 fun x_6 =>
  pack_zero x_6.b fun r_14 =>
  pack_Reader_Rest_K1 Q r0 (!r_14) σ_3)
  (pack_Reader_Rest_K1 Q r0 false σ_3)

theorem pack_Reader_Rest_r {ρ : Ids} {h : Hp} {A : List At} {r0 : Option Addr}  {σ : St Obj} {Q' : Int → St Obj → Prop} {Q : Int → Hp → Prop} (I : Inv h (hpA (obA ρ) σ :: A)) (H : pack_Reader_Rest r0 σ Q')
    (k : ∀ (r0 : Int) (h' : Hp) (σ' : St Obj), Inv h' (hpA (obA ρ) σ' :: A) → Q' r0 σ' → Q r0 h') : Tx.pack_Reader_Rest ρ r0 h Q := by
  unfold Tx.pack_Reader_Rest
  unfold pack_Reader_Rest at H
  refine pack_Reader_Err_r (r0 := r0) (σ := σ) I H fun r_2 h σ_3 I H => ?_
  refine br_r H (fun hb H => ?_) (fun hb H => ?_)
  · refine nil_r H fun p_4 hp_5 H => ?_
    obtain ⟨x_6, hx_7, H⟩ := H
    obtain ⟨a1_8, c1_9, I⟩ := op_pack_Reader (I.take hx_7)
    refine ldS_r (I.cell 0 0 rfl) ?_
    replace I := I.pull1.dupR
    replace I := I.dupR
    refine pack_zero_r (b0 := x_6.b) I H fun r_14 h I H => ?_
    replace I := I.pull1.dupR
    replace I := I.pull4.pull1.pull4
    replace I := (cl_pack_Reader x_6 I).putS hx_7
    replace I := I.pull1.drop1
    replace I := I.pull1.drop1
    exact pack_Reader_Rest_K1_r (r0 := r0) (v13 := (!r_14)) (σ := σ_3) I H k
  · exact pack_Reader_Rest_K1_r (r0 := r0) (v13 := false) (σ := σ_3) I H k

def slices_IndexFunc_int_int_B1 {Z : Type} (φ : Int → Z → (Bool → Z → Prop) → Prop) (S1 : (List Int) → Int → Int → Z → Prop) (Q : Int → Z → Prop) (s0 : List Int) (v7 : Int) (v8 : Int) (z : Z) : Prop :=
  br (decide (v8 < v7))
  (ixP s0 v8 fun x_5 =>
  φ x_5 z fun y_11 z_12 =>
  br y_11
  (Q v8 z_12)
  (S1 s0 v7 (IntKind.wrap .i64 (v8 + (1 : Int))) z_12))
  (Q (-1 : Int) z)

def slices_IndexFunc_int_int_L1 {Z : Type} (φ : Int → Z → (Bool → Z → Prop) → Prop) (Q : Int → Z → Prop) (s0 : List Int) (v7 : Int) (v8 : Int) (z : Z) : Prop :=
  Lf (fun S (v : (List Int) × Int × Int × Z) => slices_IndexFunc_int_int_B1 φ (fun s0 v7 v8 z => S (s0, v7, v8, z)) Q v.1 v.2.1 v.2.2.1 v.2.2.2) (s0, v7, v8, z)

theorem slices_IndexFunc_int_int_L1_in {Z : Type} (φ : Int → Z → (Bool → Z → Prop) → Prop) (Q : Int → Z → Prop) (s0 : List Int) (v7 : Int) (v8 : Int) (z : Z) (H : slices_IndexFunc_int_int_B1 φ (slices_IndexFunc_int_int_L1 φ Q) Q s0 v7 v8 z) : slices_IndexFunc_int_int_L1 φ Q s0 v7 v8 z := Lf.fold H

theorem slices_IndexFunc_int_int_B1_r {ρ : Ids} {h : Hp} {A : List At} {Z : Type} {C : Z → At} {φ' : Int → Z → (Bool → Z → Prop) → Prop} {φ : Value → List Value → Hp → (Value → Hp → Prop) → Prop} {X_s0 : At} {f1 : Value} {s0 : List Int} {v7 : Int} {v8 : Int} {a_s0 : Option Addr} {n_s0 c_s0 : Nat} {z : Z} {Q' : Int → Z → Prop} {Q : Int → Hp → Prop} {S1' : (List Int) → Int → Int → Z → Prop} {S1 : Sl → Value → Int → Int → Hp → Prop} (hφ : ∀ {x0 : Int} {z : Z} {h : Hp} {A : List At} {K' : Bool → Z → Prop} {K : Bool → Hp → Prop}, Inv h (C z :: A) → φ' x0 z K' → (∀ (y : Bool) (h' : Hp) (z' : Z), Inv h' (C z' :: A) → K' y z' → K y h') → φ f1 [(.int .i64 x0)] h (fun v h' => isB v fun y => K y h')) (hX_s0 : Rd (rI .i64) X_s0 a_s0 n_s0 c_s0 s0) (I : Inv h (X_s0 :: C z :: A)) (H : slices_IndexFunc_int_int_B1 φ' S1' Q' s0 v7 v8 z) (kS1 : ∀ {s0 : List Int} {v7 : Int} {v8 : Int} {a_s0 : Option Addr} {n_s0 c_s0 : Nat} {z : Z} {h : Hp} (hX_s0 : Rd (rI .i64) X_s0 a_s0 n_s0 c_s0 s0), Inv h (X_s0 :: C z :: A) → S1' s0 v7 v8 z → S1 ⟨a_s0, n_s0, c_s0⟩ f1 v7 v8 h)
    (k : ∀ (r0 : Int) (h' : Hp) (z' : Z), Inv h' (X_s0 :: C z' :: A) → Q' r0 z' → Q r0 h') : Tx.slices_IndexFunc_int_int_B1 ρ φ S1 Q ⟨a_s0, n_s0, c_s0⟩ f1 v7 v8 h := by
  obtain rfl := rd_len hX_s0 I
  unfold Tx.slices_IndexFunc_int_int_B1
  unfold slices_IndexFunc_int_int_B1 at H
  refine br_r H (fun hb H => ?_) (fun hb H => ?_)
  · refine ixI_a hX_s0 I (ixP_keep H) fun p_6 x_5 he_7 hb_8 hc_9 H => ?_
    obtain ⟨hg_10, H⟩ := H
    refine ldI_r hc_9 ?_
    replace I := I.pull1
    refine hφ (x0 := x_5) (z := z) I H fun y_11 h z_12 I H => ?_
    refine br_r H (fun hb H => ?_) (fun hb H => ?_)
    · replace I := I.pull1
      exact k v8 _ z_12 I H
    · replace I := I.pull1
      exact kS1 (s0 := s0) (v7 := v7) (v8 := (IntKind.wrap .i64 (v8 + (1 : Int)))) (z := z_12) hX_s0 I H
  · replace I := I.pull1.pull1
    exact k (-1 : Int) _ z I H

theorem slices_IndexFunc_int_int_L1_r {ρ : Ids} {h : Hp} {A : List At} {Z : Type} {C : Z → At} {φ' : Int → Z → (Bool → Z → Prop) → Prop} {φ : Value → List Value → Hp → (Value → Hp → Prop) → Prop} {X_s0 : At} {f1 : Value} {s0 : List Int} {v7 : Int} {v8 : Int} {a_s0 : Option Addr} {n_s0 c_s0 : Nat} {z : Z} {Q' : Int → Z → Prop} {Q : Int → Hp → Prop} (hφ : ∀ {x0 : Int} {z : Z} {h : Hp} {A : List At} {K' : Bool → Z → Prop} {K : Bool → Hp → Prop}, Inv h (C z :: A) → φ' x0 z K' → (∀ (y : Bool) (h' : Hp) (z' : Z), Inv h' (C z' :: A) → K' y z' → K y h') → φ f1 [(.int .i64 x0)] h (fun v h' => isB v fun y => K y h')) (hX_s0 : Rd (rI .i64) X_s0 a_s0 n_s0 c_s0 s0) (I : Inv h (X_s0 :: C z :: A)) (H : slices_IndexFunc_int_int_L1 φ' Q' s0 v7 v8 z)
    (k : ∀ (r0 : Int) (h' : Hp) (z' : Z), Inv h' (X_s0 :: C z' :: A) → Q' r0 z' → Q r0 h') : Tx.slices_IndexFunc_int_int_L1 ρ φ Q ⟨a_s0, n_s0, c_s0⟩ f1 v7 v8 h := by
  refine Lf.ind H (fun v => ∀ (a_s0 : Option Addr) (n_s0 c_s0 : Nat) (h : Hp) (hX_s0 : Rd (rI .i64) X_s0 a_s0 n_s0 c_s0 v.1), Inv h (X_s0 :: C v.2.2.2 :: A) → Tx.slices_IndexFunc_int_int_L1 ρ φ Q ⟨a_s0, n_s0, c_s0⟩ f1 v.2.1 v.2.2.1 h) ?_ _ _ _ _ hX_s0 I
  rintro ⟨s0, v7, v8, z⟩ S hS HB a_s0 n_s0 c_s0 h hX_s0 I
  refine Tx.slices_IndexFunc_int_int_L1_in _ _ _ _ _ _ _ _ ?_
  try simp only [nrm_v]
  exact slices_IndexFunc_int_int_B1_r (s0 := s0) (v7 := v7) (v8 := v8) (z := z) hφ hX_s0 I HB (fun {s0 v7 v8 a_s0 n_s0 c_s0 z h} hX_s0 I H => hS _ H a_s0 n_s0 c_s0 _ hX_s0 I) k

def slices_IndexFunc_int_int {Z : Type} (φ : Int → Z → (Bool → Z → Prop) → Prop) (s0 : List Int) (z : Z) (Q : Int → Z → Prop) : Prop :=
  slices_IndexFunc_int_int_L1 φ Q s0 (s0.length : Int) (0 : Int) z

theorem slices_IndexFunc_int_int_r {ρ : Ids} {h : Hp} {A : List At} {Z : Type} {C : Z → At} {φ' : Int → Z → (Bool → Z → Prop) → Prop} {φ : Value → List Value → Hp → (Value → Hp → Prop) → Prop} {s0 : List Int} {a_s00 : Option Addr} {n_s00 c_s00 : Nat} {X_s0 : At} {f1 : Value} {z : Z} {Q' : Int → Z → Prop} {Q : Int → Hp → Prop} (hφ : ∀ {x0 : Int} {z : Z} {h : Hp} {A : List At} {K' : Bool → Z → Prop} {K : Bool → Hp → Prop}, Inv h (C z :: A) → φ' x0 z K' → (∀ (y : Bool) (h' : Hp) (z' : Z), Inv h' (C z' :: A) → K' y z' → K y h') → φ f1 [(.int .i64 x0)] h (fun v h' => isB v fun y => K y h')) (hX_s0 : Rd (rI .i64) X_s0 a_s00 n_s00 c_s00 s0) (I : Inv h (X_s0 :: C z :: A)) (H : slices_IndexFunc_int_int φ' s0 z Q')
    (k : ∀ (r0 : Int) (h' : Hp) (z' : Z), Inv h' (X_s0 :: C z' :: A) → Q' r0 z' → Q r0 h') : Tx.slices_IndexFunc_int_int ρ φ ⟨a_s00, n_s00, c_s00⟩ f1 h Q := by
  obtain rfl := rd_len hX_s0 I
  unfold Tx.slices_IndexFunc_int_int
  unfold slices_IndexFunc_int_int at H
  replace I := I.pull1.pull1
  exact slices_IndexFunc_int_int_L1_r (s0 := s0) (v7 := (s0.length : Int)) (v8 := (0 : Int)) (z := z) hφ hX_s0 I H k

def slices_DeleteFunc_int_int {Z : Type} (φ : Int → Z → (Bool → Z → Prop) → Prop) (s0 : List Int) (z : Z) (Q : List Int → Z → Prop) : Prop := Bnd s0.length ∧ delP φ s0 [] z Q
theorem slices_DeleteFunc_int_int_lp {ρ : Ids} {h : Hp} {A : List At} {Z : Type} {C : Z → At} {φ' : Int → Z → (Bool → Z → Prop) → Prop} {φ : Value → List Value → Hp → (Value → Hp → Prop) → Prop} {f1 : Value} {a : Option Addr} {nl c : Nat} {Q' : List Int → Z → Prop} {Q : Sl → Hp → Prop} (hφ : ∀ {x0 : Int} {z : Z} {h : Hp} {A : List At} {K' : Bool → Z → Prop} {K : Bool → Hp → Prop}, Inv h (C z :: A) → φ' x0 z K' → (∀ (y : Bool) (h' : Hp) (z' : Z), Inv h' (C z' :: A) → K' y z' → K y h') → φ f1 [(.int .i64 x0)] h (fun v h' => isB v fun y => K y h')) (hB : Bnd nl) (k : ∀ (r : List Int) (ra : Option Addr) (rc : Nat) (h' : Hp) (z' : Z), Inv h' (ownS (rI .i64) ra r.length rc r :: C z' :: A) → Q' r z' → Q ⟨ra, r.length, rc⟩ h') : ∀ (rest acc mid : List Int) (z : Z) (h : Hp), Inv h (ownS (rI .i64) a nl c (acc ++ (mid ++ rest)) :: C z :: A) → delP φ' rest acc z Q' → Tx.slices_DeleteFunc_int_int_L1 ρ φ Q ⟨a, nl, c⟩ f1 (acc.length : Int) ((acc.length + mid.length : Nat) : Int) h := by
  intro rest
  unfold Bnd at hB
  induction rest with
  | nil =>
    intro acc mid z h I H
    have hn := own_len I
    simp only [List.length_append, List.length_nil] at hn
    refine Tx.slices_DeleteFunc_int_int_L1_in _ _ _ _ _ _ _ _ ?_
    unfold Tx.slices_DeleteFunc_int_int_B1
    have e : decide (((acc.length + mid.length : Nat) : Int) < ((⟨a, nl, c⟩ : Sl).len : Int)) = false := by rw [decide_eq_false_iff_not]; simp only; omega
    rw [e, br_false]
    rw [List.append_nil] at I
    exact clear_cut (E := rI .i64) (z0 := (0 : Int)) I (fun _ _ => rfl) fun a1 c1 h' I => k _ _ _ _ _ I H
  | cons x rest ih =>
    intro acc mid z h I H
    have hn := own_len I
    simp only [List.length_append, List.length_cons] at hn
    refine Tx.slices_DeleteFunc_int_int_L1_in _ _ _ _ _ _ _ _ ?_
    unfold Tx.slices_DeleteFunc_int_int_B1
    have e : decide (((acc.length + mid.length : Nat) : Int) < ((⟨a, nl, c⟩ : Sl).len : Int)) = true := by rw [decide_eq_true_iff]; simp only; omega
    rw [e, br_true]
    refine ixI_a (K' := fun y => y = x) rd_own I ⟨by omega, x, by rw [Int.toNat_natCast, ← List.append_assoc, List.getElem?_append_right (by simp)]; simp, rfl⟩ fun p y he hb hc e => ?_
    subst e
    refine ldI_r hc ?_
    replace I := I.pull1
    refine hφ I H fun b h z I H => ?_
    replace I := I.pull1
    have w : IntKind.wrap .i64 (((acc.length + mid.length : Nat) : Int) + 1) = ((acc.length + mid.length + 1 : Nat) : Int) := by rw [wrap64 (by omega) (by omega)]; omega
    cases b with
    | true =>
      rw [Bool.not_true, br_false]
      unfold Tx.slices_DeleteFunc_int_int_K2
      rw [w]
      have := ih acc (mid ++ [y]) z h (by simpa using I) H
      simpa [Nat.add_assoc] using this
    | false =>
      rw [Bool.not_false, br_true]
      have hne : 0 ≤ (acc.length : Int) ∧ (acc.length : Int) < ((acc ++ (mid ++ y :: rest)).length : Int) := by simp only [List.length_append, List.length_cons]; omega
      obtain ⟨y0, hy0⟩ : ∃ y0, (acc ++ (mid ++ y :: rest))[acc.length]? = some y0 := ⟨_, List.getElem?_eq_getElem (by omega)⟩
      refine ixI_a (K' := fun _ => True) rd_own I ⟨by omega, y0, by rw [Int.toNat_natCast]; exact hy0, trivial⟩ fun p y1 he hb hc _ => ?_
      replace I := Inv.rep (E := rI .i64) (vs := [.int .i64 y]) (x := y) I fun _ _ => rfl
      refine st1_r I he hb fun h I => ?_
      unfold Tx.slices_DeleteFunc_int_int_K2
      have w2 : IntKind.wrap .i64 ((acc.length : Int) + 1) = (((acc ++ [y]).length : Nat) : Int) := by rw [wrap64 (by omega) (by omega)]; simp
      rw [w, w2]
      rw [Int.toNat_natCast] at I
      cases mid with
      | nil =>
        have e3 : (acc ++ ([] ++ y :: rest)).set acc.length y = (acc ++ [y]) ++ ([] ++ rest) := by simp
        rw [e3] at I
        have := ih (acc ++ [y]) [] z h I H
        simpa using this
      | cons m mid =>
        have e3 : (acc ++ (m :: mid ++ y :: rest)).set acc.length y = (acc ++ [y]) ++ ((mid ++ [y]) ++ rest) := by simp
        rw [e3] at I
        have := ih (acc ++ [y]) (mid ++ [y]) z h I H
        have e4 : (acc ++ [y]).length + (mid ++ [y]).length = acc.length + (m :: mid).length + 1 := by simp; omega
        rw [e4] at this
        exact this
theorem slices_DeleteFunc_int_int_r {ρ : Ids} {h : Hp} {A : List At} {Z : Type} {C : Z → At} {φ' : Int → Z → (Bool → Z → Prop) → Prop} {φ : Value → List Value → Hp → (Value → Hp → Prop) → Prop} {f1 : Value} {a : Option Addr} {nl c : Nat} {Q' : List Int → Z → Prop} {Q : Sl → Hp → Prop} {s0 : List Int} {z : Z} (hφ : ∀ {x0 : Int} {z : Z} {h : Hp} {A : List At} {K' : Bool → Z → Prop} {K : Bool → Hp → Prop}, Inv h (C z :: A) → φ' x0 z K' → (∀ (y : Bool) (h' : Hp) (z' : Z), Inv h' (C z' :: A) → K' y z' → K y h') → φ f1 [(.int .i64 x0)] h (fun v h' => isB v fun y => K y h')) (I : Inv h (ownS (rI .i64) a nl c s0 :: C z :: A)) (H : slices_DeleteFunc_int_int φ' s0 z Q')
    (k : ∀ (r : List Int) (ra : Option Addr) (rc : Nat) (h' : Hp) (z' : Z), Inv h' (ownS (rI .i64) ra r.length rc r :: C z' :: A) → Q' r z' → Q ⟨ra, r.length, rc⟩ h') : Tx.slices_DeleteFunc_int_int ρ φ ⟨a, nl, c⟩ f1 h Q := by
  obtain ⟨hB, H⟩ := H
  rw [← own_len I] at hB
  have hB' := hB
  unfold Bnd at hB'
  unfold Tx.slices_DeleteFunc_int_int Tx.slices_IndexFunc_int_int
  have key : ∀ (rest acc : List Int) (z : Z) (h : Hp), Inv h (ownS (rI .i64) a nl c (acc ++ rest) :: C z :: A) → delP φ' rest acc z Q' → Tx.slices_IndexFunc_int_int_L1 ρ φ (fun r_1 h_2 => br (r_1 == (-1 : Int)) (Q ⟨a, nl, c⟩ h_2) (Tx.slices_DeleteFunc_int_int_L1 ρ φ Q ⟨a, nl, c⟩ f1 r_1 (IntKind.wrap .i64 (r_1 + (1 : Int))) h_2)) ⟨a, nl, c⟩ f1 (nl : Int) (acc.length : Int) h := by
    intro rest
    induction rest with
    | nil =>
      intro acc z h I H
      have hn := own_len I
      rw [List.append_nil] at hn I
      refine Tx.slices_IndexFunc_int_int_L1_in _ _ _ _ _ _ _ _ ?_
      unfold Tx.slices_IndexFunc_int_int_B1
      have e : decide ((acc.length : Int) < (nl : Int)) = false := by rw [decide_eq_false_iff_not]; omega
      rw [e, br_false]
      show br true _ _
      rw [br_true]
      subst hn
      exact k _ _ _ _ _ I H
    | cons x rest ih =>
      intro acc z h I H
      have hn := own_len I
      simp only [List.length_append, List.length_cons] at hn
      refine Tx.slices_IndexFunc_int_int_L1_in _ _ _ _ _ _ _ _ ?_
      unfold Tx.slices_IndexFunc_int_int_B1
      have e : decide ((acc.length : Int) < (nl : Int)) = true := by rw [decide_eq_true_iff]; omega
      rw [e, br_true]
      refine ixI_a (K' := fun y => y = x) rd_own I ⟨by omega, x, by rw [Int.toNat_natCast, List.getElem?_append_right (by omega)]; simp, rfl⟩ fun p y he hb hc e => ?_
      subst e
      refine ldI_r hc ?_
      replace I := I.pull1
      refine hφ I H fun b h z I H => ?_
      replace I := I.pull1
      have w : IntKind.wrap .i64 ((acc.length : Int) + 1) = ((acc.length + 1 : Nat) : Int) := by rw [wrap64 (by omega) (by omega)]; omega
      cases b with
      | true =>
        rw [br_true]
        have e2 : ((acc.length : Int) == (-1 : Int)) = false := by rw [beq_eq_false_iff_ne]; omega
        show br ((acc.length : Int) == (-1 : Int)) _ _
        rw [e2, br_false, w]
        exact slices_DeleteFunc_int_int_lp (h := h) hφ hB k rest acc [y] z h I H
      | false =>
        rw [br_false, w]
        have := ih (acc ++ [y]) z h (by simpa using I) H
        simpa using this
  exact key s0 [] z h I H

def inode_Inode_all_1 (p0 : Int) (Q : Bool → Prop) : Prop :=
  Q (p0 == (0 : Int))

theorem inode_Inode_all_1_r {ρ : Ids} {h : Hp} {A : List At} {p0 : Int}  {Q' : Bool → Prop} {Q : Bool → Hp → Prop} (I : Inv h (A)) (H : inode_Inode_all_1 p0 Q')
    (k : ∀ (r0 : Bool) (h' : Hp), Inv h' (A) → Q' r0 → Q r0 h') : Tx.inode_Inode_all_1 ρ p0 h Q := by
  unfold Tx.inode_Inode_all_1
  unfold inode_Inode_all_1 at H
  exact k (p0 == (0 : Int)) _ I H

def inode_Inode_all_B1 (S1 : (List Int) → (Vector Int 32) → Int → Prop) (Q : (List Int) → Prop) (l3 : List Int) (v10_0 : Vector Int 32) (v11 : Int) : Prop :=
  br (decide (v11 < (32 : Int)))
  ((0 ≤ v11 ∧ v11 < ((32 : Nat) : Int)) ∧
  (Bnd (l3.length + ([(IntKind.wrap .i64 (v10_0.toList.getD (Int.toNat v11) 0))]).length)) ∧
  S1 (l3 ++ [(IntKind.wrap .i64 (v10_0.toList.getD (Int.toNat v11) 0))]) v10_0 (IntKind.wrap .i64 (v11 + (1 : Int))))
  (slices_DeleteFunc_int_int (fun x0 _ K => inode_Inode_all_1 x0 (fun r => K r ())) l3 () fun r_18 z_22 =>
  Q r_18)

def inode_Inode_all_L1 (Q : (List Int) → Prop) (l3 : List Int) (v10_0 : Vector Int 32) (v11 : Int) : Prop :=
  Lf (fun S (v : (List Int) × (Vector Int 32) × Int) => inode_Inode_all_B1 (fun l3 v10_0 v11 => S (l3, v10_0, v11)) Q v.1 v.2.1 v.2.2) (l3, v10_0, v11)

theorem inode_Inode_all_L1_in (Q : (List Int) → Prop) (l3 : List Int) (v10_0 : Vector Int 32) (v11 : Int) (H : inode_Inode_all_B1 (inode_Inode_all_L1 Q) Q l3 v10_0 v11) : inode_Inode_all_L1 Q l3 v10_0 v11 := Lf.fold H

theorem inode_Inode_all_B1_r {ρ : Ids} {h : Hp} {A : List At}  {l3 : List Int} {v10_0 : Vector Int 32} {v11 : Int} {a_l30 : Option Addr} {n_l30 c_l30 : Nat} {Q' : (List Int) → Prop} {Q : Sl → Hp → Prop} {S1' : (List Int) → (Vector Int 32) → Int → Prop} {S1 : Sl → List Int → Int → Hp → Prop} (I : Inv h (ownS (rI .i64) a_l30 n_l30 c_l30 l3 :: A)) (H : inode_Inode_all_B1 S1' Q' l3 v10_0 v11) (kS1 : ∀ {l3 : List Int} {v10_0 : Vector Int 32} {v11 : Int} {a_l30 : Option Addr} {n_l30 c_l30 : Nat} {h : Hp}, Inv h (ownS (rI .i64) a_l30 n_l30 c_l30 l3 :: A) → S1' l3 v10_0 v11 → S1 ⟨a_l30, n_l30, c_l30⟩ v10_0.toList v11 h)
    (k : ∀ (r0 : List Int) (ra0 : Option Addr) (rc0 : Nat) (h' : Hp), Inv h' (ownS (rI .i64) ra0 r0.length rc0 r0 :: A) → Q' r0 → Q ⟨ra0, r0.length, rc0⟩ h') : Tx.inode_Inode_all_B1 ρ S1 Q ⟨a_l30, n_l30, c_l30⟩ v10_0.toList v11 h := by
  obtain rfl := own_len I
  unfold Tx.inode_Inode_all_B1
  unfold inode_Inode_all_B1 at H
  try simp only [nrm_v]
  refine br_r H (fun hb H => ?_) (fun hb H => ?_)
  · refine and_r H fun H => ?_
    refine al_r [.one (.int .i64 (IntKind.wrap .i64 (v10_0.toList.getD (Int.toNat v11) 0)))] rfl I fun p_9 h I => ?_
    replace I := I.litN (rI .i64)
    replace I := I.repI (k := .i64) (IntKind.wrap .i64 (v10_0.toList.getD (Int.toNat v11) 0))
    replace I := I.pull1.pull1
    replace I := I.litC
    replace I := I.pull1.pull1
    replace I := Inv.litL (l := [(IntKind.wrap .i64 (v10_0.toList.getD (Int.toNat v11) 0))]) I rfl rfl
    refine ap_r rd_own I.pull1 rfl (by decide) (by decide) H.1 fun a_14 c_15 h I => ?_
    replace H := H.2
    replace I := I.pull1.drop1
    try simp only [nrm_v]
    exact kS1 (l3 := (l3 ++ [(IntKind.wrap .i64 (v10_0.toList.getD (Int.toNat v11) 0))])) (v10_0 := v10_0) (v11 := (IntKind.wrap .i64 (v11 + (1 : Int)))) I H
  · replace I := Inv.bigI (As := []) I
    replace I := I.pull1
    refine slices_DeleteFunc_int_int_r (s0 := l3) (C := (fun _ => bigA [])) (φ' := (fun x0 _ K => inode_Inode_all_1 x0 (fun r => K r ()))) (z := ()) (by
        intro _ z h A K' K I H k
        replace I := I.bigE
        refine phi_one ?_
        unfold Tx.inode_Inode_all_1_S
        dsimp only [List.cons_append, List.nil_append, tI, tA, tN, tS, tB, tT, tP, tM, tV, tL, cnd, sameKind]
        refine inode_Inode_all_1_r  I H fun r h I H => ?_
        exact ⟨_, rfl, k _ _ () (Inv.bigI (As := []) I) H⟩) I H fun r_18 a_19 c_20 h z_22 I H => ?_
    replace I := I.pull1.bigE
    exact k r_18 a_19 c_20 _ I H

theorem inode_Inode_all_L1_r {ρ : Ids} {h : Hp} {A : List At}  {l3 : List Int} {v10_0 : Vector Int 32} {v11 : Int} {a_l30 : Option Addr} {n_l30 c_l30 : Nat} {Q' : (List Int) → Prop} {Q : Sl → Hp → Prop} (I : Inv h (ownS (rI .i64) a_l30 n_l30 c_l30 l3 :: A)) (H : inode_Inode_all_L1 Q' l3 v10_0 v11)
    (k : ∀ (r0 : List Int) (ra0 : Option Addr) (rc0 : Nat) (h' : Hp), Inv h' (ownS (rI .i64) ra0 r0.length rc0 r0 :: A) → Q' r0 → Q ⟨ra0, r0.length, rc0⟩ h') : Tx.inode_Inode_all_L1 ρ Q ⟨a_l30, n_l30, c_l30⟩ v10_0.toList v11 h := by
  refine Lf.ind H (fun v => ∀ (a_l30 : Option Addr) (n_l30 c_l30 : Nat) (h : Hp), Inv h (ownS (rI .i64) a_l30 n_l30 c_l30 v.1 :: A) → Tx.inode_Inode_all_L1 ρ Q ⟨a_l30, n_l30, c_l30⟩ v.2.1.toList v.2.2 h) ?_ _ _ _ _  I
  rintro ⟨l3, v10_0, v11⟩ S hS HB a_l30 n_l30 c_l30 h I
  refine Tx.inode_Inode_all_L1_in _ _ _ _ _ _ ?_
  try simp only [nrm_v]
  exact inode_Inode_all_B1_r (l3 := l3) (v10_0 := v10_0) (v11 := v11) I HB (fun {l3 v10_0 v11 a_l30 n_l30 c_l30 h} I H => hS _ H a_l30 n_l30 c_l30 _ I) k

def inode_Inode_all (n0 : inode_Inode) (Q : (List Int) → Prop) : Prop :=
  inode_Inode_all_L1 Q ([n0.Attr]) n0.Pages (0 : Int)

theorem inode_Inode_all_r {ρ : Ids} {h : Hp} {A : List At} {n0 : inode_Inode}  {Q' : (List Int) → Prop} {Q : Sl → Hp → Prop} (I : Inv h (A)) (H : inode_Inode_all n0 Q')
    (k : ∀ (r0 : List Int) (ra0 : Option Addr) (rc0 : Nat) (h' : Hp), Inv h' (ownS (rI .i64) ra0 r0.length rc0 r0 :: A) → Q' r0 → Q ⟨ra0, r0.length, rc0⟩ h') : Tx.inode_Inode_all ρ n0.Kind n0.Mode n0.Links n0.Size n0.Time n0.Attr n0.Pages.toList h Q := by
  unfold Tx.inode_Inode_all
  unfold inode_Inode_all at H
  try simp only [nrm_v]
  refine al_r [.one (.int .i64 n0.Kind), .one (.int .i64 n0.Mode), .one (.int .i64 n0.Links), .one (.int .i64 n0.Size), .one (.int .i64 n0.Time), .one (.int .i64 n0.Attr), .vec .u8 32 n0.Pages] rfl I fun p_1 h I => ?_
  refine ldI_r (I.cell 5 5 rfl) ?_
  refine al_r [.one (.int .i64 n0.Attr)] rfl I fun p_3 h I => ?_
  replace I := I.litN (rI .i64)
  replace I := I.repI (k := .i64) n0.Attr
  replace I := I.pull1.pull1
  replace I := I.litC
  replace I := I.pull1.pull1
  replace I := Inv.litL (l := [n0.Attr]) I rfl rfl
  refine ldL_r (I.pull1.lump 6 6 rfl) ?_
  try simp only [nrm_v]
  replace I := I.pull1.drop1
  try simp only [nrm_v]
  exact inode_Inode_all_L1_r (l3 := [n0.Attr]) (v10_0 := n0.Pages) (v11 := (0 : Int)) I H k

def slices_Compact_int_int (s0 : List Int) (Q : List Int → Prop) : Prop := compactP s0 Q

theorem slices_Compact_int_int_in {ρ : Ids} {A : List At} {a : Option Addr} {nl c : Nat} {S1 : Sl → Int → Hp → Prop} {Q' : List Int → Prop} {Q : Sl → Hp → Prop} (hB : Bnd nl) (k0 : Nat)
    (k : ∀ (r : List Int) (ra : Option Addr) (rc : Nat) (h' : Hp), Inv h' (ownS (rI .i64) ra r.length rc r :: A) → Q' r → Q ⟨ra, r.length, rc⟩ h') :
    ∀ (rest acc mid : List Int) (y : Int) (h : Hp), k0 ≤ acc.length → Inv h (ownS (rI .i64) a nl c (acc ++ (mid ++ y :: rest)) :: A) → Q' (acc ++ dedT y rest) →
      Tx.slices_Compact_int_int_L2 ρ S1 Q ⟨a, nl, c⟩ (acc.length : Int) ⟨resl a c 1 (k0 : Int), nl - k0, c - (k0 : Int).toNat⟩ ((acc.length + mid.length + 1 - k0 : Nat) : Int) h := by
  intro rest
  unfold Bnd at hB
  induction rest with
  | nil =>
    intro acc mid y h hk I H
    have hn := own_len I
    simp only [List.length_append, List.length_cons, List.length_nil] at hn
    refine Tx.slices_Compact_int_int_L2_in _ _ _ _ _ _ _ _ ?_
    unfold Tx.slices_Compact_int_int_B2
    have e : decide (((acc.length + mid.length + 1 - k0 : Nat) : Int) < ((nl - k0 : Nat) : Int)) = false := by rw [decide_eq_false_iff_not]; omega
    dsimp only
    rw [e, br_false]
    exact clear_cut (E := rI .i64) (z0 := (0 : Int)) I (fun _ _ => rfl) fun a1 c1 h' I => k _ _ _ _ I (by simpa [dedT] using H)
  | cons x rest ih =>
    intro acc mid y h hk I H
    have hn := own_len I
    simp only [List.length_append, List.length_cons] at hn
    have hS : SlOk (acc ++ (mid ++ y :: x :: rest)) (k0 : Int) (nl : Int) := ⟨by omega, by omega, by simp only [List.length_append, List.length_cons]; omega⟩
    have es : sub (acc ++ (mid ++ y :: x :: rest)) (k0 : Int) (nl : Int) = (acc ++ (mid ++ y :: x :: rest)).drop k0 := by
      have hn2 : nl = (acc ++ (mid ++ y :: x :: rest)).length := by simp only [List.length_append, List.length_cons]; omega
      rw [hn2, sub_drop]; rfl
    have hX : Rd (rI .i64) (ownS (rI .i64) a nl c (acc ++ (mid ++ y :: x :: rest))) (resl a c 1 (k0 : Int)) (nl - k0) (c - (k0 : Int).toNat) (sub (acc ++ (mid ++ y :: x :: rest)) (k0 : Int) (nl : Int)) := rd_sub (n2 := nl - k0) (rd_own (E := rI .i64) (a := a) (n := nl) (c := c)) hS (by rw [es, List.length_drop]; simp only [List.length_append, List.length_cons]; omega)
    rw [es] at hX
    have gx : ((acc ++ (mid ++ y :: x :: rest)).drop k0)[acc.length + mid.length + 1 - k0]? = some x := by
      rw [List.getElem?_drop, show k0 + (acc.length + mid.length + 1 - k0) = acc.length + (mid.length + 1) by omega, List.getElem?_append_right (by omega), show acc.length + (mid.length + 1) - acc.length = mid.length + 1 by omega, List.getElem?_append_right (by omega)]
      simp
    have gy : ((acc ++ (mid ++ y :: x :: rest)).drop k0)[acc.length + mid.length - k0]? = some y := by
      rw [List.getElem?_drop, show k0 + (acc.length + mid.length - k0) = acc.length + mid.length by omega, List.getElem?_append_right (by omega), show acc.length + mid.length - acc.length = mid.length by omega, List.getElem?_append_right (by omega)]
      simp
    refine Tx.slices_Compact_int_int_L2_in _ _ _ _ _ _ _ _ ?_
    unfold Tx.slices_Compact_int_int_B2 Tx.slices_Compact_int_int_K3
    have e : decide (((acc.length + mid.length + 1 - k0 : Nat) : Int) < ((nl - k0 : Nat) : Int)) = true := by rw [decide_eq_true_iff]; omega
    dsimp only
    rw [e, br_true]
    refine ixI_a (K' := fun z => z = x) hX I ⟨by omega, x, by rw [Int.toNat_natCast]; exact gx, rfl⟩ fun p z he hb hc e => ?_
    subst e
    refine ldI_r hc ?_
    have e2 : IntKind.wrap .i64 (((acc.length + mid.length + 1 - k0 : Nat) : Int) - 1) = ((acc.length + mid.length - k0 : Nat) : Int) := by rw [wrap64 (by omega) (by omega)]; omega
    rw [e2]
    refine ixI_a (K' := fun w => w = y) hX I ⟨by omega, y, by rw [Int.toNat_natCast]; exact gy, rfl⟩ fun p w he hb hc2 e => ?_
    subst e
    refine ldI_r hc2 ?_
    have e3 : IntKind.wrap .i64 (((acc.length + mid.length + 1 - k0 : Nat) : Int) + 1) = ((acc.length + (mid.length + 1) + 1 - k0 : Nat) : Int) := by rw [wrap64 (by omega) (by omega)]; omega
    rw [br_iff]
    constructor
    · intro hne
      have hne : z ≠ w := by simpa using hne
      refine ixI_a (K' := fun z' => z' = z) hX I ⟨by omega, z, by rw [Int.toNat_natCast]; exact gx, rfl⟩ fun p z' he hb hc3 e => ?_
      subst e
      refine ldI_r hc3 ?_
      have hne2 : 0 ≤ (acc.length : Int) ∧ (acc.length : Int) < ((acc ++ (mid ++ w :: z' :: rest)).length : Int) := by simp only [List.length_append, List.length_cons]; omega
      obtain ⟨y0, hy0⟩ : ∃ y0, (acc ++ (mid ++ w :: z' :: rest))[acc.length]? = some y0 := ⟨_, List.getElem?_eq_getElem (by omega)⟩
      refine ixI_a (K' := fun _ => True) rd_own I ⟨by omega, y0, by rw [Int.toNat_natCast]; exact hy0, trivial⟩ fun p y1 he hb hc _ => ?_
      replace I := Inv.rep (E := rI .i64) (vs := [.int .i64 z']) (x := z') I fun _ _ => rfl
      refine st1_r I he hb fun h I => ?_
      have w2 : IntKind.wrap .i64 ((acc.length : Int) + 1) = (((acc ++ [z']).length : Nat) : Int) := by rw [wrap64 (by omega) (by omega)]; simp
      rw [e3, w2]
      rw [Int.toNat_natCast] at I
      have H' : Q' (acc ++ [z'] ++ dedT z' rest) := by simpa [dedT, hne] using H
      cases mid with
      | nil =>
        have e3 : (acc ++ ([] ++ w :: z' :: rest)).set acc.length z' = (acc ++ [z']) ++ ([] ++ z' :: rest) := by simp
        rw [e3] at I
        have := ih (acc ++ [z']) [] z' h (by simp only [List.length_append]; omega) I H'
        simpa using this
      | cons m mid =>
        have e3 : (acc ++ (m :: mid ++ w :: z' :: rest)).set acc.length z' = (acc ++ [z']) ++ ((mid ++ [w]) ++ z' :: rest) := by simp
        rw [e3] at I
        have := ih (acc ++ [z']) (mid ++ [w]) z' h (by simp only [List.length_append]; omega) I H'
        have e4 : (acc ++ [z']).length + (mid ++ [w]).length + 1 - k0 = acc.length + ((m :: mid).length + 1) + 1 - k0 := by simp; omega
        rw [e4] at this
        exact this
    · intro heq
      have heq : z = w := by simpa using heq
      subst heq
      rw [e3]
      have := ih acc (mid ++ [z]) z h hk (by simpa using I) (by simpa [dedT] using H)
      have e4 : acc.length + (mid ++ [z]).length + 1 - k0 = acc.length + (mid.length + 1) + 1 - k0 := by simp
      rw [e4] at this
      exact this

theorem slices_Compact_int_int_r {ρ : Ids} {h : Hp} {A : List At} {s0 : List Int} {a : Option Addr} {nl c : Nat} {Q' : List Int → Prop} {Q : Sl → Hp → Prop} (I : Inv h (ownS (rI .i64) a nl c s0 :: A)) (H : slices_Compact_int_int s0 Q')
    (k : ∀ (r : List Int) (ra : Option Addr) (rc : Nat) (h' : Hp), Inv h' (ownS (rI .i64) ra r.length rc r :: A) → Q' r → Q ⟨ra, r.length, rc⟩ h') : Tx.slices_Compact_int_int ρ ⟨a, nl, c⟩ h Q := by
  obtain ⟨hB, H⟩ := H
  have hn := own_len I
  rw [← hn] at hB
  have hB' := hB
  unfold Bnd at hB'
  unfold Tx.slices_Compact_int_int
  rw [br_iff]
  constructor
  · intro hs
    have hs : nl < 2 := by simp at hs; omega
    have e : dedA s0 = s0 := by
      match s0, hn with
      | [], _ => rfl
      | [x], _ => rfl
      | x :: y :: l, hn => simp at hn; omega
    rw [e] at H
    rw [hn] at I ⊢
    exact k _ _ _ _ I H
  · intro hs
    have hs : 2 ≤ nl := by simp at hs; omega
    have key : ∀ (rest acc : List Int) (y : Int), s0 = acc ++ y :: rest → (∀ r, Q' (acc ++ y :: dedT y r) ↔ Q' (acc ++ y :: dedT y r)) → dedA s0 = acc ++ y :: dedT y rest →
        Tx.slices_Compact_int_int_L1 ρ Q ⟨a, nl, c⟩ ((acc.length + 1 : Nat) : Int) h := by
      intro rest
      induction rest with
      | nil =>
        intro acc y e _ ed
        refine Tx.slices_Compact_int_int_L1_in _ _ _ _ _ ?_
        unfold Tx.slices_Compact_int_int_B1
        have hl : nl = acc.length + 1 := by rw [hn, e]; simp
        have e1 : decide (((acc.length + 1 : Nat) : Int) < (nl : Int)) = false := by rw [decide_eq_false_iff_not]; omega
        dsimp only
        rw [e1, br_false]
        rw [ed] at H
        have e2 : acc ++ y :: dedT y [] = s0 := by rw [e]; rfl
        rw [e2] at H
        rw [hn] at I ⊢
        exact k _ _ _ _ I H
      | cons x rest ih =>
        intro acc y e _ ed
        have hl : nl = acc.length + (rest.length + 2) := by rw [hn, e]; simp
        have gx : s0[acc.length + 1]? = some x := by rw [e, List.getElem?_append_right (by omega)]; simp
        have gy : s0[acc.length]? = some y := by rw [e, List.getElem?_append_right (by omega)]; simp
        refine Tx.slices_Compact_int_int_L1_in _ _ _ _ _ ?_
        unfold Tx.slices_Compact_int_int_B1
        have e1 : decide (((acc.length + 1 : Nat) : Int) < (nl : Int)) = true := by rw [decide_eq_true_iff]; omega
        dsimp only
        rw [e1, br_true]
        refine ixI_a (K' := fun z => z = x) rd_own I ⟨by omega, x, by rw [Int.toNat_natCast]; exact gx, rfl⟩ fun p z he hb hc e => ?_
        subst e
        refine ldI_r hc ?_
        have e2 : IntKind.wrap .i64 (((acc.length + 1 : Nat) : Int) - 1) = (acc.length : Int) := by rw [wrap64 (by omega) (by omega)]; omega
        rw [e2]
        refine ixI_a (K' := fun w => w = y) rd_own I ⟨by omega, y, by rw [Int.toNat_natCast]; exact gy, rfl⟩ fun p w he hb hc2 e => ?_
        subst e
        refine ldI_r hc2 ?_
        rw [br_iff]
        constructor
        · intro heq
          have heq : z = w := by simpa using heq
          subst heq
          have hS : SlOk s0 ((acc.length + 1 : Nat) : Int) (nl : Int) := ⟨by omega, by omega, by omega⟩
          refine slw_own I hS ?_
          rw [sub_length hS]
          have e5 : ((nl : Int).toNat - (((acc.length + 1 : Nat) : Int)).toNat) = nl - (acc.length + 1) := by omega
          rw [e5]
          have I2 : Inv h (ownS (rI .i64) a nl c ((acc ++ [z]) ++ ([] ++ z :: rest)) :: A) := by
            have : s0 = (acc ++ [z]) ++ ([] ++ z :: rest) := by rw [e]; simp
            rw [this] at I; exact I
          have H2 : Q' ((acc ++ [z]) ++ dedT z rest) := by
            rw [ed] at H
            simpa [dedT] using H
          have := slices_Compact_int_int_in (ρ := ρ) (S1 := Tx.slices_Compact_int_int_L1 ρ Q) hB (acc.length + 1) k rest (acc ++ [z]) [] z h (by simp) I2 H2
          have e6 : (acc ++ [z]).length + ([] : List Int).length + 1 - (acc.length + 1) = 1 := by simp
          rw [e6] at this
          have e7 : (((acc ++ [z]).length : Nat) : Int) = ((acc.length + 1 : Nat) : Int) := by simp
          rw [e7] at this
          exact this
        · intro hne
          have hne : z ≠ w := by simpa using hne
          have e8 : IntKind.wrap .i64 (((acc.length + 1 : Nat) : Int) + 1) = (((acc ++ [w]).length + 1 : Nat) : Int) := by rw [wrap64 (by omega) (by omega)]; simp
          rw [e8]
          exact ih (acc ++ [w]) z (by rw [e]; simp) (fun _ => Iff.rfl) (by rw [ed]; simp [dedT, hne])
    match s0, hn, H with
    | [], hn, _ => simp at hn; omega
    | y :: rest, hn, H =>
      exact key rest [] y rfl (fun _ => Iff.rfl) rfl

def inode_in (n0 : Int) (least1 : Int) (most2 : Int) (Q : Bool → Prop) : Prop :=
  br (decide (least1 ≤ n0))
  (Q (decide (n0 ≤ most2)))
  (Q false)

theorem inode_in_r {ρ : Ids} {h : Hp} {A : List At} {n0 : Int} {least1 : Int} {most2 : Int}  {Q' : Bool → Prop} {Q : Bool → Hp → Prop} (I : Inv h (A)) (H : inode_in n0 least1 most2 Q')
    (k : ∀ (r0 : Bool) (h' : Hp), Inv h' (A) → Q' r0 → Q r0 h') : Tx.inode_in ρ n0 least1 most2 h Q := by
  unfold Tx.inode_in
  unfold inode_in at H
  refine br_r H (fun hb H => ?_) (fun hb H => ?_)
  · exact k (decide (n0 ≤ most2)) _ I H
  · exact k false _ I H

def inode_Used_1 (p0 : Int) (Q : Bool → Prop) : Prop :=
  inode_in p0 (1 : Int) (255 : Int) fun r_1 =>
  Q (!r_1)

theorem inode_Used_1_r {ρ : Ids} {h : Hp} {A : List At} {p0 : Int}  {Q' : Bool → Prop} {Q : Bool → Hp → Prop} (I : Inv h (A)) (H : inode_Used_1 p0 Q')
    (k : ∀ (r0 : Bool) (h' : Hp), Inv h' (A) → Q' r0 → Q r0 h') : Tx.inode_Used_1 ρ p0 h Q := by
  unfold Tx.inode_Used_1
  unfold inode_Used_1 at H
  refine inode_in_r (n0 := p0) (least1 := (1 : Int)) (most2 := (255 : Int)) I H fun r_1 h I H => ?_
  exact k (!r_1) _ I H

def slices_Sort_int_int (s0 : List Int) (Q : List Int → Prop) : Prop := sortP s0 Q
theorem slices_Sort_int_int_r {ρ : Ids} {h : Hp} {A : List At} {s0 : List Int} {a : Option Addr} {nl c : Nat} {Q' : List Int → Prop} {Q : Hp → Prop} (I : Inv h (ownS (rI .i64) a nl c s0 :: A)) (H : slices_Sort_int_int s0 Q')
    (k : ∀ r h', Inv h' (ownS (rI .i64) a nl c r :: A) → Q' r → Q h') : Tx.slices_Sort_int_int ρ ⟨a, nl, c⟩ h Q := sort_r I H k

def inode_Used (n0 : inode_Inode) (Q : (List Int) → Prop) : Prop :=
  inode_Inode_all n0 fun r_3 =>
  slices_Sort_int_int r_3 fun l_7 =>
  slices_Compact_int_int l_7 fun r_8 =>
  slices_DeleteFunc_int_int (fun x0 _ K => inode_Used_1 x0 (fun r => K r ())) r_8 () fun r_13 z_17 =>
  Q r_13

theorem inode_Used_r {ρ : Ids} {h : Hp} {A : List At} {n0 : inode_Inode}  {Q' : (List Int) → Prop} {Q : Sl → Hp → Prop} (I : Inv h (A)) (H : inode_Used n0 Q')
    (k : ∀ (r0 : List Int) (ra0 : Option Addr) (rc0 : Nat) (h' : Hp), Inv h' (ownS (rI .i64) ra0 r0.length rc0 r0 :: A) → Q' r0 → Q ⟨ra0, r0.length, rc0⟩ h') : Tx.inode_Used ρ n0.Kind n0.Mode n0.Links n0.Size n0.Time n0.Attr n0.Pages.toList h Q := by
  unfold Tx.inode_Used
  unfold inode_Used at H
  try simp only [nrm_v]
  refine al_r [.one (.int .i64 n0.Kind), .one (.int .i64 n0.Mode), .one (.int .i64 n0.Links), .one (.int .i64 n0.Size), .one (.int .i64 n0.Time), .one (.int .i64 n0.Attr), .vec .u8 32 n0.Pages] rfl I fun p_1 h I => ?_
  refine ldI_r (I.cell 0 0 rfl) ?_
  refine ldI_r (I.cell 1 1 rfl) ?_
  refine ldI_r (I.cell 2 2 rfl) ?_
  refine ldI_r (I.cell 3 3 rfl) ?_
  refine ldI_r (I.cell 4 4 rfl) ?_
  refine ldI_r (I.cell 5 5 rfl) ?_
  refine ldL_r (I.lump 6 6 rfl) ?_
  try simp only [nrm_v]
  try simp only [nrm_v]
  refine inode_Inode_all_r (n0 := n0) I H fun r_3 a_4 c_5 h I H => ?_
  refine slices_Sort_int_int_r (s0 := r_3) I H fun l_7 h I H => ?_
  refine slices_Compact_int_int_r (s0 := l_7) I H fun r_8 a_9 c_10 h I H => ?_
  replace I := Inv.bigI (As := []) I
  replace I := I.pull1
  refine slices_DeleteFunc_int_int_r (s0 := r_8) (C := (fun _ => bigA [])) (φ' := (fun x0 _ K => inode_Used_1 x0 (fun r => K r ()))) (z := ()) (by
        intro _ z h A K' K I H k
        replace I := I.bigE
        refine phi_one ?_
        unfold Tx.inode_Used_1_S
        dsimp only [List.cons_append, List.nil_append, tI, tA, tN, tS, tB, tT, tP, tM, tV, tL, cnd, sameKind]
        refine inode_Used_1_r  I H fun r h I H => ?_
        exact ⟨_, rfl, k _ _ () (Inv.bigI (As := []) I) H⟩) I H fun r_13 a_14 c_15 h z_17 I H => ?_
  replace I := I.pull1.bigE
  replace I := I.pull1.drop1
  exact k r_13 a_14 c_15 _ I H

def inode_May_K4 (S3 : Int → Int → Int → Int → Int → Int → (Vector Int 32) → (Vector Int 32) → Int → Prop) (Q : Bool → Prop) (n1_0 : Int) (n1_1 : Int) (n1_2 : Int) (n1_3 : Int) (n1_4 : Int) (n1_5 : Int) (n1_6 : Vector Int 32) (v46_0 : Vector Int 32) (v47 : Int) (v66 : Bool) : Prop :=
  br v66
  (Q false)
  (S3 n1_0 n1_1 n1_2 n1_3 n1_4 n1_5 n1_6 v46_0 (IntKind.wrap .i64 (v47 + (1 : Int))))

theorem inode_May_K4_r {ρ : Ids} {h : Hp} {A : List At}  {n1_0 : Int} {n1_1 : Int} {n1_2 : Int} {n1_3 : Int} {n1_4 : Int} {n1_5 : Int} {n1_6 : Vector Int 32} {v46_0 : Vector Int 32} {v47 : Int} {v66 : Bool} {p_n1 : Addr} {Q' : Bool → Prop} {Q : Bool → Hp → Prop} {S3' : Int → Int → Int → Int → Int → Int → (Vector Int 32) → (Vector Int 32) → Int → Prop} {S3 : Addr → List Int → Int → Hp → Prop} (I : Inv h (blk p_n1 (ρ.T 8) [.one (.int .i64 n1_0), .one (.int .i64 n1_1), .one (.int .i64 n1_2), .one (.int .i64 n1_3), .one (.int .i64 n1_4), .one (.int .i64 n1_5), .vec .u8 32 n1_6] :: A)) (H : inode_May_K4 S3' Q' n1_0 n1_1 n1_2 n1_3 n1_4 n1_5 n1_6 v46_0 v47 v66) (kS3 : ∀ {n1_0 : Int} {n1_1 : Int} {n1_2 : Int} {n1_3 : Int} {n1_4 : Int} {n1_5 : Int} {n1_6 : Vector Int 32} {v46_0 : Vector Int 32} {v47 : Int} {p_n1 : Addr} {h : Hp}, Inv h (blk p_n1 (ρ.T 8) [.one (.int .i64 n1_0), .one (.int .i64 n1_1), .one (.int .i64 n1_2), .one (.int .i64 n1_3), .one (.int .i64 n1_4), .one (.int .i64 n1_5), .vec .u8 32 n1_6] :: A) → S3' n1_0 n1_1 n1_2 n1_3 n1_4 n1_5 n1_6 v46_0 v47 → S3 p_n1 v46_0.toList v47 h)
    (k : ∀ (r0 : Bool) (h' : Hp), Inv h' (A) → Q' r0 → Q r0 h') : Tx.inode_May_K4 ρ S3 Q p_n1 v46_0.toList v47 v66 h := by
  unfold Tx.inode_May_K4
  unfold inode_May_K4 at H
  try simp only [nrm_v]
  refine br_r H (fun hb H => ?_) (fun hb H => ?_)
  · replace I := I.drop1
    exact k false _ I H
  · try simp only [nrm_v]
    exact kS3 (n1_0 := n1_0) (n1_1 := n1_1) (n1_2 := n1_2) (n1_3 := n1_3) (n1_4 := n1_4) (n1_5 := n1_5) (n1_6 := n1_6) (v46_0 := v46_0) (v47 := (IntKind.wrap .i64 (v47 + (1 : Int)))) I H

def inode_May_B3 (S3 : Int → Int → Int → Int → Int → Int → (Vector Int 32) → (Vector Int 32) → Int → Prop) (Q : Bool → Prop) (n1_0 : Int) (n1_1 : Int) (n1_2 : Int) (n1_3 : Int) (n1_4 : Int) (n1_5 : Int) (n1_6 : Vector Int 32) (v46_0 : Vector Int 32) (v47 : Int) : Prop :=
  br (decide (v47 < (32 : Int)))
  ((0 ≤ v47 ∧ v47 < ((32 : Nat) : Int)) ∧
  br (decide ((IntKind.wrap .i64 (v46_0.toList.getD (Int.toNat v47) 0)) ≥ (216 : Int)))
  (inode_May_K4 S3 Q n1_0 n1_1 n1_2 n1_3 n1_4 n1_5 n1_6 v46_0 v47 true)
  (br ((v46_0.toList.getD (Int.toNat v47) 0) != (0 : Int))
  (inode_May_K4 S3 Q n1_0 n1_1 n1_2 n1_3 n1_4 n1_5 n1_6 v46_0 v47 (decide (v47 ≥ (IntKind.wrap .i64 (Int.tdiv (IntKind.wrap .i64 ((IntKind.wrap .i64 (n1_3 + (256 : Int))) - (1 : Int))) (256 : Int))))))
  (inode_May_K4 S3 Q n1_0 n1_1 n1_2 n1_3 n1_4 n1_5 n1_6 v46_0 v47 false)))
  (inode_Used (⟨n1_0, n1_1, n1_2, n1_3, n1_4, n1_5, n1_6⟩ : inode_Inode) fun r_11 =>
  inode_Inode_all (⟨n1_0, n1_1, n1_2, n1_3, n1_4, n1_5, n1_6⟩ : inode_Inode) fun r_15 =>
  Q ((r_11.length : Int) == (r_15.length : Int)))

def inode_May_L3 (Q : Bool → Prop) (n1_0 : Int) (n1_1 : Int) (n1_2 : Int) (n1_3 : Int) (n1_4 : Int) (n1_5 : Int) (n1_6 : Vector Int 32) (v46_0 : Vector Int 32) (v47 : Int) : Prop :=
  Lf (fun S (v : Int × Int × Int × Int × Int × Int × (Vector Int 32) × (Vector Int 32) × Int) => inode_May_B3 (fun n1_0 n1_1 n1_2 n1_3 n1_4 n1_5 n1_6 v46_0 v47 => S (n1_0, n1_1, n1_2, n1_3, n1_4, n1_5, n1_6, v46_0, v47)) Q v.1 v.2.1 v.2.2.1 v.2.2.2.1 v.2.2.2.2.1 v.2.2.2.2.2.1 v.2.2.2.2.2.2.1 v.2.2.2.2.2.2.2.1 v.2.2.2.2.2.2.2.2) (n1_0, n1_1, n1_2, n1_3, n1_4, n1_5, n1_6, v46_0, v47)

theorem inode_May_L3_in (Q : Bool → Prop) (n1_0 : Int) (n1_1 : Int) (n1_2 : Int) (n1_3 : Int) (n1_4 : Int) (n1_5 : Int) (n1_6 : Vector Int 32) (v46_0 : Vector Int 32) (v47 : Int) (H : inode_May_B3 (inode_May_L3 Q) Q n1_0 n1_1 n1_2 n1_3 n1_4 n1_5 n1_6 v46_0 v47) : inode_May_L3 Q n1_0 n1_1 n1_2 n1_3 n1_4 n1_5 n1_6 v46_0 v47 := Lf.fold H

theorem inode_May_B3_r {ρ : Ids} {h : Hp} {A : List At}  {n1_0 : Int} {n1_1 : Int} {n1_2 : Int} {n1_3 : Int} {n1_4 : Int} {n1_5 : Int} {n1_6 : Vector Int 32} {v46_0 : Vector Int 32} {v47 : Int} {p_n1 : Addr} {Q' : Bool → Prop} {Q : Bool → Hp → Prop} {S3' : Int → Int → Int → Int → Int → Int → (Vector Int 32) → (Vector Int 32) → Int → Prop} {S3 : Addr → List Int → Int → Hp → Prop} (I : Inv h (blk p_n1 (ρ.T 8) [.one (.int .i64 n1_0), .one (.int .i64 n1_1), .one (.int .i64 n1_2), .one (.int .i64 n1_3), .one (.int .i64 n1_4), .one (.int .i64 n1_5), .vec .u8 32 n1_6] :: A)) (H : inode_May_B3 S3' Q' n1_0 n1_1 n1_2 n1_3 n1_4 n1_5 n1_6 v46_0 v47) (kS3 : ∀ {n1_0 : Int} {n1_1 : Int} {n1_2 : Int} {n1_3 : Int} {n1_4 : Int} {n1_5 : Int} {n1_6 : Vector Int 32} {v46_0 : Vector Int 32} {v47 : Int} {p_n1 : Addr} {h : Hp}, Inv h (blk p_n1 (ρ.T 8) [.one (.int .i64 n1_0), .one (.int .i64 n1_1), .one (.int .i64 n1_2), .one (.int .i64 n1_3), .one (.int .i64 n1_4), .one (.int .i64 n1_5), .vec .u8 32 n1_6] :: A) → S3' n1_0 n1_1 n1_2 n1_3 n1_4 n1_5 n1_6 v46_0 v47 → S3 p_n1 v46_0.toList v47 h)
    (k : ∀ (r0 : Bool) (h' : Hp), Inv h' (A) → Q' r0 → Q r0 h') : Tx.inode_May_B3 ρ S3 Q p_n1 v46_0.toList v47 h := by
  unfold Tx.inode_May_B3
  unfold inode_May_B3 at H
  try simp only [nrm_v]
  refine br_r H (fun hb H => ?_) (fun hb H => ?_)
  · refine and_r H fun H => ?_
    refine br_r H (fun hb H => ?_) (fun hb H => ?_)
    · try simp only [nrm_v]
      exact inode_May_K4_r (n1_0 := n1_0) (n1_1 := n1_1) (n1_2 := n1_2) (n1_3 := n1_3) (n1_4 := n1_4) (n1_5 := n1_5) (n1_6 := n1_6) (v46_0 := v46_0) (v47 := v47) (v66 := true) I H kS3 k
    · refine br_r H (fun hb H => ?_) (fun hb H => ?_)
      · refine ldI_r (I.cell 3 3 rfl) ?_
        refine ⟨by decide, ?_⟩
        try simp only [nrm_v]
        exact inode_May_K4_r (n1_0 := n1_0) (n1_1 := n1_1) (n1_2 := n1_2) (n1_3 := n1_3) (n1_4 := n1_4) (n1_5 := n1_5) (n1_6 := n1_6) (v46_0 := v46_0) (v47 := v47) (v66 := (decide (v47 ≥ (IntKind.wrap .i64 (Int.tdiv (IntKind.wrap .i64 ((IntKind.wrap .i64 (n1_3 + (256 : Int))) - (1 : Int))) (256 : Int)))))) I H kS3 k
      · try simp only [nrm_v]
        exact inode_May_K4_r (n1_0 := n1_0) (n1_1 := n1_1) (n1_2 := n1_2) (n1_3 := n1_3) (n1_4 := n1_4) (n1_5 := n1_5) (n1_6 := n1_6) (v46_0 := v46_0) (v47 := v47) (v66 := false) I H kS3 k
  · refine ldI_r (I.cell 0 0 rfl) ?_
    refine ldI_r (I.cell 1 1 rfl) ?_
    refine ldI_r (I.cell 2 2 rfl) ?_
    refine ldI_r (I.cell 3 3 rfl) ?_
    refine ldI_r (I.cell 4 4 rfl) ?_
    refine ldI_r (I.cell 5 5 rfl) ?_
    refine ldL_r (I.lump 6 6 rfl) ?_
    try simp only [nrm_v]
    refine ldI_r (I.cell 0 0 rfl) ?_
    refine ldI_r (I.cell 1 1 rfl) ?_
    refine ldI_r (I.cell 2 2 rfl) ?_
    refine ldI_r (I.cell 3 3 rfl) ?_
    refine ldI_r (I.cell 4 4 rfl) ?_
    refine ldI_r (I.cell 5 5 rfl) ?_
    refine ldL_r (I.lump 6 6 rfl) ?_
    try simp only [nrm_v]
    try simp only [nrm_v]
    refine inode_Used_r (n0 := (⟨n1_0, n1_1, n1_2, n1_3, n1_4, n1_5, n1_6⟩ : inode_Inode)) I H fun r_11 a_12 c_13 h I H => ?_
    refine ⟨⟨I.pull1.cell 0 0 rfl, I.pull1.cell 1 1 rfl, I.pull1.cell 2 2 rfl, I.pull1.cell 3 3 rfl, I.pull1.cell 4 4 rfl, I.pull1.cell 5 5 rfl, I.pull1.lump 6 6 rfl, trivial⟩, ?_⟩
    try simp only [nrm_v]
    refine inode_Inode_all_r (n0 := (⟨n1_0, n1_1, n1_2, n1_3, n1_4, n1_5, n1_6⟩ : inode_Inode)) I H fun r_15 a_16 c_17 h I H => ?_
    refine ⟨trivial, ?_⟩
    replace I := I.drop1
    replace I := I.drop1
    replace I := I.drop1
    exact k ((r_11.length : Int) == (r_15.length : Int)) _ I H

theorem inode_May_L3_r {ρ : Ids} {h : Hp} {A : List At}  {n1_0 : Int} {n1_1 : Int} {n1_2 : Int} {n1_3 : Int} {n1_4 : Int} {n1_5 : Int} {n1_6 : Vector Int 32} {v46_0 : Vector Int 32} {v47 : Int} {p_n1 : Addr} {Q' : Bool → Prop} {Q : Bool → Hp → Prop} (I : Inv h (blk p_n1 (ρ.T 8) [.one (.int .i64 n1_0), .one (.int .i64 n1_1), .one (.int .i64 n1_2), .one (.int .i64 n1_3), .one (.int .i64 n1_4), .one (.int .i64 n1_5), .vec .u8 32 n1_6] :: A)) (H : inode_May_L3 Q' n1_0 n1_1 n1_2 n1_3 n1_4 n1_5 n1_6 v46_0 v47)
    (k : ∀ (r0 : Bool) (h' : Hp), Inv h' (A) → Q' r0 → Q r0 h') : Tx.inode_May_L3 ρ Q p_n1 v46_0.toList v47 h := by
  refine Lf.ind H (fun v => ∀ (p_n1 : Addr) (h : Hp), Inv h (blk p_n1 (ρ.T 8) [.one (.int .i64 v.1), .one (.int .i64 v.2.1), .one (.int .i64 v.2.2.1), .one (.int .i64 v.2.2.2.1), .one (.int .i64 v.2.2.2.2.1), .one (.int .i64 v.2.2.2.2.2.1), .vec .u8 32 v.2.2.2.2.2.2.1] :: A) → Tx.inode_May_L3 ρ Q p_n1 v.2.2.2.2.2.2.2.1.toList v.2.2.2.2.2.2.2.2 h) ?_ _ _  I
  rintro ⟨n1_0, n1_1, n1_2, n1_3, n1_4, n1_5, n1_6, v46_0, v47⟩ S hS HB p_n1 h I
  refine Tx.inode_May_L3_in _ _ _ _ _ _ ?_
  try simp only [nrm_v]
  exact inode_May_B3_r (n1_0 := n1_0) (n1_1 := n1_1) (n1_2 := n1_2) (n1_3 := n1_3) (n1_4 := n1_4) (n1_5 := n1_5) (n1_6 := n1_6) (v46_0 := v46_0) (v47 := v47) I HB (fun {n1_0 n1_1 n1_2 n1_3 n1_4 n1_5 n1_6 v46_0 v47 p_n1 h} I H => hS _ H p_n1 _ I) k

def inode_May_K1 (Q : Bool → Prop) (n1_0 : Int) (n1_1 : Int) (n1_2 : Int) (n1_3 : Int) (n1_4 : Int) (n1_5 : Int) (n1_6 : Vector Int 32) (v22 : Bool) : Prop :=
  br v22
  (Q false)
  (br (n1_0 == (0 : Int))
  (Q ((n1_0 == (0 : Int)) && ((n1_1 == (0 : Int)) && ((n1_2 == (0 : Int)) && ((n1_3 == (0 : Int)) && ((n1_4 == (0 : Int)) && ((n1_5 == (0 : Int)) && ((n1_6.toList == (Vector.replicate 32 (0 : Int)).toList) && true))))))))
  (inode_May_L3 Q n1_0 n1_1 n1_2 n1_3 n1_4 n1_5 n1_6 n1_6 (0 : Int)))

theorem inode_May_K1_r {ρ : Ids} {h : Hp} {A : List At}  {n1_0 : Int} {n1_1 : Int} {n1_2 : Int} {n1_3 : Int} {n1_4 : Int} {n1_5 : Int} {n1_6 : Vector Int 32} {v22 : Bool} {p_n1 : Addr} {Q' : Bool → Prop} {Q : Bool → Hp → Prop} (I : Inv h (blk p_n1 (ρ.T 8) [.one (.int .i64 n1_0), .one (.int .i64 n1_1), .one (.int .i64 n1_2), .one (.int .i64 n1_3), .one (.int .i64 n1_4), .one (.int .i64 n1_5), .vec .u8 32 n1_6] :: A)) (H : inode_May_K1 Q' n1_0 n1_1 n1_2 n1_3 n1_4 n1_5 n1_6 v22)
    (k : ∀ (r0 : Bool) (h' : Hp), Inv h' (A) → Q' r0 → Q r0 h') : Tx.inode_May_K1 ρ Q p_n1 v22 h := by
  unfold Tx.inode_May_K1
  unfold inode_May_K1 at H
  refine br_r H (fun hb H => ?_) (fun hb H => ?_)
  · replace I := I.drop1
    exact k false _ I H
  · refine ldI_r (I.cell 0 0 rfl) ?_
    refine br_r H (fun hb H => ?_) (fun hb H => ?_)
    · refine ldI_r (I.cell 0 0 rfl) ?_
      refine ldI_r (I.cell 1 1 rfl) ?_
      refine ldI_r (I.cell 2 2 rfl) ?_
      refine ldI_r (I.cell 3 3 rfl) ?_
      refine ldI_r (I.cell 4 4 rfl) ?_
      refine ldI_r (I.cell 5 5 rfl) ?_
      refine ldL_r (I.lump 6 6 rfl) ?_
      try simp only [nrm_v]
      try simp only [nrm_v]
      replace I := I.drop1
      exact k ((n1_0 == (0 : Int)) && ((n1_1 == (0 : Int)) && ((n1_2 == (0 : Int)) && ((n1_3 == (0 : Int)) && ((n1_4 == (0 : Int)) && ((n1_5 == (0 : Int)) && ((n1_6.toList == (Vector.replicate 32 (0 : Int)).toList) && true))))))) _ I H
    · refine ldL_r (I.lump 6 6 rfl) ?_
      try simp only [nrm_v]
      try simp only [nrm_v]
      exact inode_May_L3_r (n1_0 := n1_0) (n1_1 := n1_1) (n1_2 := n1_2) (n1_3 := n1_3) (n1_4 := n1_4) (n1_5 := n1_5) (n1_6 := n1_6) (v46_0 := n1_6) (v47 := (0 : Int)) I H k

def inode_May_K2 (Q : Bool → Prop) (n1_0 : Int) (n1_1 : Int) (n1_2 : Int) (n1_3 : Int) (n1_4 : Int) (n1_5 : Int) (n1_6 : Vector Int 32) (v5 : Bool) : Prop :=
  br v5
  (Q false)
  (inode_in n1_3 (0 : Int) (8192 : Int) fun r_8 =>
  br (!r_8)
  (inode_May_K1 Q n1_0 n1_1 n1_2 n1_3 n1_4 n1_5 n1_6 true)
  (br (decide (n1_4 < (0 : Int)))
  (inode_May_K1 Q n1_0 n1_1 n1_2 n1_3 n1_4 n1_5 n1_6 true)
  (inode_in n1_5 (0 : Int) (215 : Int) fun r_9 =>
  inode_May_K1 Q n1_0 n1_1 n1_2 n1_3 n1_4 n1_5 n1_6 (!r_9))))

theorem inode_May_K2_r {ρ : Ids} {h : Hp} {A : List At}  {n1_0 : Int} {n1_1 : Int} {n1_2 : Int} {n1_3 : Int} {n1_4 : Int} {n1_5 : Int} {n1_6 : Vector Int 32} {v5 : Bool} {p_n1 : Addr} {Q' : Bool → Prop} {Q : Bool → Hp → Prop} (I : Inv h (blk p_n1 (ρ.T 8) [.one (.int .i64 n1_0), .one (.int .i64 n1_1), .one (.int .i64 n1_2), .one (.int .i64 n1_3), .one (.int .i64 n1_4), .one (.int .i64 n1_5), .vec .u8 32 n1_6] :: A)) (H : inode_May_K2 Q' n1_0 n1_1 n1_2 n1_3 n1_4 n1_5 n1_6 v5)
    (k : ∀ (r0 : Bool) (h' : Hp), Inv h' (A) → Q' r0 → Q r0 h') : Tx.inode_May_K2 ρ Q p_n1 v5 h := by
  unfold Tx.inode_May_K2
  unfold inode_May_K2 at H
  refine br_r H (fun hb H => ?_) (fun hb H => ?_)
  · replace I := I.drop1
    exact k false _ I H
  · refine ldI_r (I.cell 3 3 rfl) ?_
    refine inode_in_r (n0 := n1_3) (least1 := (0 : Int)) (most2 := (8192 : Int)) I H fun r_8 h I H => ?_
    refine br_r H (fun hb H => ?_) (fun hb H => ?_)
    · exact inode_May_K1_r (n1_0 := n1_0) (n1_1 := n1_1) (n1_2 := n1_2) (n1_3 := n1_3) (n1_4 := n1_4) (n1_5 := n1_5) (n1_6 := n1_6) (v22 := true) I H k
    · refine ldI_r (I.cell 4 4 rfl) ?_
      refine br_r H (fun hb H => ?_) (fun hb H => ?_)
      · exact inode_May_K1_r (n1_0 := n1_0) (n1_1 := n1_1) (n1_2 := n1_2) (n1_3 := n1_3) (n1_4 := n1_4) (n1_5 := n1_5) (n1_6 := n1_6) (v22 := true) I H k
      · refine ldI_r (I.cell 5 5 rfl) ?_
        refine inode_in_r (n0 := n1_5) (least1 := (0 : Int)) (most2 := (215 : Int)) I H fun r_9 h I H => ?_
        exact inode_May_K1_r (n1_0 := n1_0) (n1_1 := n1_1) (n1_2 := n1_2) (n1_3 := n1_3) (n1_4 := n1_4) (n1_5 := n1_5) (n1_6 := n1_6) (v22 := (!r_9)) I H k

def inode_May (n0 : inode_Inode) (Q : Bool → Prop) : Prop :=
  inode_in n0.Kind (0 : Int) (3 : Int) fun r_3 =>
  br (!r_3)
  (inode_May_K2 Q n0.Kind n0.Mode n0.Links n0.Size n0.Time n0.Attr n0.Pages true)
  (inode_in n0.Mode (0 : Int) (7 : Int) fun r_4 =>
  br (!r_4)
  (inode_May_K2 Q n0.Kind n0.Mode n0.Links n0.Size n0.Time n0.Attr n0.Pages true)
  (inode_in n0.Links (0 : Int) (65535 : Int) fun r_5 =>
  inode_May_K2 Q n0.Kind n0.Mode n0.Links n0.Size n0.Time n0.Attr n0.Pages (!r_5)))

theorem inode_May_r {ρ : Ids} {h : Hp} {A : List At} {n0 : inode_Inode}  {Q' : Bool → Prop} {Q : Bool → Hp → Prop} (I : Inv h (A)) (H : inode_May n0 Q')
    (k : ∀ (r0 : Bool) (h' : Hp), Inv h' (A) → Q' r0 → Q r0 h') : Tx.inode_May ρ n0.Kind n0.Mode n0.Links n0.Size n0.Time n0.Attr n0.Pages.toList h Q := by
  unfold Tx.inode_May
  unfold inode_May at H
  try simp only [nrm_v]
  refine al_r [.one (.int .i64 n0.Kind), .one (.int .i64 n0.Mode), .one (.int .i64 n0.Links), .one (.int .i64 n0.Size), .one (.int .i64 n0.Time), .one (.int .i64 n0.Attr), .vec .u8 32 n0.Pages] rfl I fun p_1 h I => ?_
  refine ldI_r (I.cell 0 0 rfl) ?_
  refine inode_in_r (n0 := n0.Kind) (least1 := (0 : Int)) (most2 := (3 : Int)) I H fun r_3 h I H => ?_
  refine br_r H (fun hb H => ?_) (fun hb H => ?_)
  · exact inode_May_K2_r (n1_0 := n0.Kind) (n1_1 := n0.Mode) (n1_2 := n0.Links) (n1_3 := n0.Size) (n1_4 := n0.Time) (n1_5 := n0.Attr) (n1_6 := n0.Pages) (v5 := true) I H k
  · refine ldI_r (I.cell 1 1 rfl) ?_
    refine inode_in_r (n0 := n0.Mode) (least1 := (0 : Int)) (most2 := (7 : Int)) I H fun r_4 h I H => ?_
    refine br_r H (fun hb H => ?_) (fun hb H => ?_)
    · exact inode_May_K2_r (n1_0 := n0.Kind) (n1_1 := n0.Mode) (n1_2 := n0.Links) (n1_3 := n0.Size) (n1_4 := n0.Time) (n1_5 := n0.Attr) (n1_6 := n0.Pages) (v5 := true) I H k
    · refine ldI_r (I.cell 2 2 rfl) ?_
      refine inode_in_r (n0 := n0.Links) (least1 := (0 : Int)) (most2 := (65535 : Int)) I H fun r_5 h I H => ?_
      exact inode_May_K2_r (n1_0 := n0.Kind) (n1_1 := n0.Mode) (n1_2 := n0.Links) (n1_3 := n0.Size) (n1_4 := n0.Time) (n1_5 := n0.Attr) (n1_6 := n0.Pages) (v5 := (!r_5)) I H k

def inode_Parse_K1 (Q : inode_Inode → Int → St Obj → Prop) (v2_0 : Int) (v2_1 : Int) (v2_2 : Int) (v2_3 : Int) (v2_4 : Int) (v2_5 : Int) (v2_6 : Vector Int 32) (n5_0 : Int) (n5_1 : Int) (n5_2 : Int) (n5_3 : Int) (n5_4 : Int) (n5_5 : Int) (n5_6 : Vector Int 32) (v43 : Bool) (σ : St Obj) : Prop :=
  br v43
  (Q (⟨(0 : Int), (0 : Int), (0 : Int), (0 : Int), (0 : Int), (0 : Int), (Vector.replicate 32 (0 : Int))⟩ : inode_Inode) (9 : Int) σ)
  (Q (⟨n5_0, n5_1, n5_2, n5_3, n5_4, n5_5, n5_6⟩ : inode_Inode) (0 : Int) σ)

theorem inode_Parse_K1_r {ρ : Ids} {h : Hp} {A : List At}  {v2_0 : Int} {v2_1 : Int} {v2_2 : Int} {v2_3 : Int} {v2_4 : Int} {v2_5 : Int} {v2_6 : Vector Int 32} {n5_0 : Int} {n5_1 : Int} {n5_2 : Int} {n5_3 : Int} {n5_4 : Int} {n5_5 : Int} {n5_6 : Vector Int 32} {v43 : Bool} {p_v2 : Addr} {p_n5 : Addr} {σ : St Obj} {Q' : inode_Inode → Int → St Obj → Prop} {Q : Int → Int → Int → Int → Int → Int → List Int → Int → Hp → Prop} (I : Inv h (blk p_v2 (ρ.T 8) [.one (.int .i64 v2_0), .one (.int .i64 v2_1), .one (.int .i64 v2_2), .one (.int .i64 v2_3), .one (.int .i64 v2_4), .one (.int .i64 v2_5), .vec .u8 32 v2_6] :: blk p_n5 (ρ.T 8) [.one (.int .i64 n5_0), .one (.int .i64 n5_1), .one (.int .i64 n5_2), .one (.int .i64 n5_3), .one (.int .i64 n5_4), .one (.int .i64 n5_5), .vec .u8 32 n5_6] :: hpA (obA ρ) σ :: A)) (H : inode_Parse_K1 Q' v2_0 v2_1 v2_2 v2_3 v2_4 v2_5 v2_6 n5_0 n5_1 n5_2 n5_3 n5_4 n5_5 n5_6 v43 σ)
    (k : ∀ (r0 : inode_Inode) (r1 : Int) (h' : Hp) (σ' : St Obj), Inv h' (hpA (obA ρ) σ' :: A) → Q' r0 r1 σ' → Q r0.Kind r0.Mode r0.Links r0.Size r0.Time r0.Attr r0.Pages.toList r1 h') : Tx.inode_Parse_K1 ρ Q p_v2 p_n5 v43 h := by
  unfold Tx.inode_Parse_K1
  unfold inode_Parse_K1 at H
  refine br_r H (fun hb H => ?_) (fun hb H => ?_)
  · refine stA_r I 0 7 0 [.one (.int .i64 (0 : Int)), .one (.int .i64 (0 : Int)), .one (.int .i64 (0 : Int)), .one (.int .i64 (0 : Int)), .one (.int .i64 (0 : Int)), .one (.int .i64 (0 : Int)), .vec .u8 32 (Vector.replicate 32 (0 : Int))] rfl rfl rfl (by first | exact all_segs rfl | exact all_one (by simp [segs, Seg.cells, allOne, allOne_append, allOne_lump, Value.oneCell'])) fun h (I : Inv h (blk p_v2 (ρ.T 8) [.one (.int .i64 (0 : Int)), .one (.int .i64 (0 : Int)), .one (.int .i64 (0 : Int)), .one (.int .i64 (0 : Int)), .one (.int .i64 (0 : Int)), .one (.int .i64 (0 : Int)), .vec .u8 32 (Vector.replicate 32 (0 : Int))] :: _)) => ?_
    refine ldI_r (I.cell 0 0 rfl) ?_
    refine ldI_r (I.cell 1 1 rfl) ?_
    refine ldI_r (I.cell 2 2 rfl) ?_
    refine ldI_r (I.cell 3 3 rfl) ?_
    refine ldI_r (I.cell 4 4 rfl) ?_
    refine ldI_r (I.cell 5 5 rfl) ?_
    refine ldL_r (I.lump 6 6 rfl) ?_
    try simp only [nrm_v]
    replace I := I.drop1
    replace I := I.drop1
    exact k (⟨(0 : Int), (0 : Int), (0 : Int), (0 : Int), (0 : Int), (0 : Int), (Vector.replicate 32 (0 : Int))⟩ : inode_Inode) (9 : Int) _ σ I H
  · refine ldI_r (I.pull1.cell 0 0 rfl) ?_
    refine ldI_r (I.pull1.cell 1 1 rfl) ?_
    refine ldI_r (I.pull1.cell 2 2 rfl) ?_
    refine ldI_r (I.pull1.cell 3 3 rfl) ?_
    refine ldI_r (I.pull1.cell 4 4 rfl) ?_
    refine ldI_r (I.pull1.cell 5 5 rfl) ?_
    refine ldL_r (I.pull1.lump 6 6 rfl) ?_
    try simp only [nrm_v]
    refine stA_r I 0 7 0 [.one (.int .i64 n5_0), .one (.int .i64 n5_1), .one (.int .i64 n5_2), .one (.int .i64 n5_3), .one (.int .i64 n5_4), .one (.int .i64 n5_5), .vec .u8 32 n5_6] rfl rfl rfl (by first | exact all_segs rfl | exact all_one (by simp [segs, Seg.cells, allOne, allOne_append, allOne_lump, Value.oneCell'])) fun h (I : Inv h (blk p_v2 (ρ.T 8) [.one (.int .i64 n5_0), .one (.int .i64 n5_1), .one (.int .i64 n5_2), .one (.int .i64 n5_3), .one (.int .i64 n5_4), .one (.int .i64 n5_5), .vec .u8 32 n5_6] :: _)) => ?_
    refine ldI_r (I.cell 0 0 rfl) ?_
    refine ldI_r (I.cell 1 1 rfl) ?_
    refine ldI_r (I.cell 2 2 rfl) ?_
    refine ldI_r (I.cell 3 3 rfl) ?_
    refine ldI_r (I.cell 4 4 rfl) ?_
    refine ldI_r (I.cell 5 5 rfl) ?_
    refine ldL_r (I.lump 6 6 rfl) ?_
    try simp only [nrm_v]
    replace I := I.drop1
    replace I := I.drop1
    exact k (⟨n5_0, n5_1, n5_2, n5_3, n5_4, n5_5, n5_6⟩ : inode_Inode) (0 : Int) _ σ I H

def inode_Parse (b0 : List Int) (σ : St Obj) (Q : inode_Inode → Int → St Obj → Prop) : Prop :=
  br ((b0.length : Int) != (64 : Int))
  (Q (⟨(0 : Int), (0 : Int), (0 : Int), (0 : Int), (0 : Int), (0 : Int), (Vector.replicate 32 (0 : Int))⟩ : inode_Inode) (1 : Int) σ)
  (pack_Read b0 σ fun r_6 σ_7 =>
  pack_Reader_Num r_6 (1 : Int) (3 : Int) σ_7 fun r_8 σ_9 =>
  pack_Reader_Num r_6 (1 : Int) (7 : Int) σ_9 fun r_10 σ_11 =>
  pack_Reader_Num r_6 (2 : Int) (65535 : Int) σ_11 fun r_12 σ_13 =>
  pack_Reader_Num r_6 (4 : Int) (8192 : Int) σ_13 fun r_14 σ_15 =>
  pack_Reader_Num r_6 (8 : Int) (9223372036854775807 : Int) σ_15 fun r_16 σ_17 =>
  pack_Reader_Num r_6 (1 : Int) (255 : Int) σ_17 fun r_18 σ_19 =>
  pack_Reader_Bytes r_6 (32 : Int) σ_19 fun r_22 σ_26 =>
  pack_Reader_Rest r_6 σ_26 fun r_27 σ_28 =>
  br (r_27 != (0 : Int))
  (inode_Parse_K1 Q (0 : Int) (0 : Int) (0 : Int) (0 : Int) (0 : Int) (0 : Int) (Vector.replicate 32 (0 : Int)) (IntKind.wrap .i64 r_8) (IntKind.wrap .i64 r_10) (IntKind.wrap .i64 r_12) (IntKind.wrap .i64 r_14) (IntKind.wrap .i64 r_16) (IntKind.wrap .i64 r_18) (cpV (Vector.replicate 32 (0 : Int)) (Int.toNat (0 : Int)) r_22) true σ_28)
  (inode_May (⟨(IntKind.wrap .i64 r_8), (IntKind.wrap .i64 r_10), (IntKind.wrap .i64 r_12), (IntKind.wrap .i64 r_14), (IntKind.wrap .i64 r_16), (IntKind.wrap .i64 r_18), (cpV (Vector.replicate 32 (0 : Int)) (Int.toNat (0 : Int)) r_22)⟩ : inode_Inode) fun r_29 =>
  inode_Parse_K1 Q (0 : Int) (0 : Int) (0 : Int) (0 : Int) (0 : Int) (0 : Int) (Vector.replicate 32 (0 : Int)) (IntKind.wrap .i64 r_8) (IntKind.wrap .i64 r_10) (IntKind.wrap .i64 r_12) (IntKind.wrap .i64 r_14) (IntKind.wrap .i64 r_16) (IntKind.wrap .i64 r_18) (cpV (Vector.replicate 32 (0 : Int)) (Int.toNat (0 : Int)) r_22) (!r_29) σ_28))

theorem inode_Parse_r {ρ : Ids} {h : Hp} {A : List At} {b0 : List Int} {a_b00 : Option Addr} {n_b00 c_b00 : Nat} {σ : St Obj} {Q' : inode_Inode → Int → St Obj → Prop} {Q : Int → Int → Int → Int → Int → Int → List Int → Int → Hp → Prop} (I : Inv h (roS (rI .u8) a_b00 n_b00 c_b00 b0 :: hpA (obA ρ) σ :: A)) (H : inode_Parse b0 σ Q')
    (k : ∀ (r0 : inode_Inode) (r1 : Int) (h' : Hp) (σ' : St Obj), Inv h' (hpA (obA ρ) σ' :: A) → Q' r0 r1 σ' → Q r0.Kind r0.Mode r0.Links r0.Size r0.Time r0.Attr r0.Pages.toList r1 h') : Tx.inode_Parse ρ ⟨a_b00, n_b00, c_b00⟩ h Q := by
  obtain rfl := ro_len I
  unfold Tx.inode_Parse
  unfold inode_Parse at H
  refine al_r [.one (.int .i64 (0 : Int)), .one (.int .i64 (0 : Int)), .one (.int .i64 (0 : Int)), .one (.int .i64 (0 : Int)), .one (.int .i64 (0 : Int)), .one (.int .i64 (0 : Int)), .vec .u8 32 (Vector.replicate 32 (0 : Int))] rfl I fun p_3 h I => ?_
  refine br_r H (fun hb H => ?_) (fun hb H => ?_)
  · refine stA_r I 0 7 0 [.one (.int .i64 (0 : Int)), .one (.int .i64 (0 : Int)), .one (.int .i64 (0 : Int)), .one (.int .i64 (0 : Int)), .one (.int .i64 (0 : Int)), .one (.int .i64 (0 : Int)), .vec .u8 32 (Vector.replicate 32 (0 : Int))] rfl rfl rfl (by first | exact all_segs rfl | exact all_one (by simp [segs, Seg.cells, allOne, allOne_append, allOne_lump, Value.oneCell'])) fun h (I : Inv h (blk p_3 (ρ.T 8) [.one (.int .i64 (0 : Int)), .one (.int .i64 (0 : Int)), .one (.int .i64 (0 : Int)), .one (.int .i64 (0 : Int)), .one (.int .i64 (0 : Int)), .one (.int .i64 (0 : Int)), .vec .u8 32 (Vector.replicate 32 (0 : Int))] :: _)) => ?_
    refine ldI_r (I.cell 0 0 rfl) ?_
    refine ldI_r (I.cell 1 1 rfl) ?_
    refine ldI_r (I.cell 2 2 rfl) ?_
    refine ldI_r (I.cell 3 3 rfl) ?_
    refine ldI_r (I.cell 4 4 rfl) ?_
    refine ldI_r (I.cell 5 5 rfl) ?_
    refine ldL_r (I.lump 6 6 rfl) ?_
    try simp only [nrm_v]
    replace I := I.drop1
    replace I := I.drop1
    exact k (⟨(0 : Int), (0 : Int), (0 : Int), (0 : Int), (0 : Int), (0 : Int), (Vector.replicate 32 (0 : Int))⟩ : inode_Inode) (1 : Int) _ σ I H
  · replace I := I.pull1.dupR
    replace I := I.pull3.pull1
    refine pack_Read_r (b0 := b0) (σ := σ) I H fun r_6 h σ_7 I H => ?_
    refine pack_Reader_Num_r (r0 := r_6) (size1 := (1 : Int)) (most2 := (3 : Int)) (σ := σ_7) I H fun r_8 h σ_9 I H => ?_
    refine pack_Reader_Num_r (r0 := r_6) (size1 := (1 : Int)) (most2 := (7 : Int)) (σ := σ_9) I H fun r_10 h σ_11 I H => ?_
    refine pack_Reader_Num_r (r0 := r_6) (size1 := (2 : Int)) (most2 := (65535 : Int)) (σ := σ_11) I H fun r_12 h σ_13 I H => ?_
    refine pack_Reader_Num_r (r0 := r_6) (size1 := (4 : Int)) (most2 := (8192 : Int)) (σ := σ_13) I H fun r_14 h σ_15 I H => ?_
    refine pack_Reader_Num_r (r0 := r_6) (size1 := (8 : Int)) (most2 := (9223372036854775807 : Int)) (σ := σ_15) I H fun r_16 h σ_17 I H => ?_
    refine pack_Reader_Num_r (r0 := r_6) (size1 := (1 : Int)) (most2 := (255 : Int)) (σ := σ_17) I H fun r_18 h σ_19 I H => ?_
    refine al_r [.one (.int .i64 (0 : Int)), .one (.int .i64 (0 : Int)), .one (.int .i64 (0 : Int)), .one (.int .i64 (0 : Int)), .one (.int .i64 (0 : Int)), .one (.int .i64 (0 : Int)), .vec .u8 32 (Vector.replicate 32 (0 : Int))] rfl I fun p_20 h I => ?_
    refine stA_r I 0 7 0 [.one (.int .i64 (IntKind.wrap .i64 r_8)), .one (.int .i64 (IntKind.wrap .i64 r_10)), .one (.int .i64 (IntKind.wrap .i64 r_12)), .one (.int .i64 (IntKind.wrap .i64 r_14)), .one (.int .i64 (IntKind.wrap .i64 r_16)), .one (.int .i64 (IntKind.wrap .i64 r_18)), .vec .u8 32 (Vector.replicate 32 (0 : Int))] rfl rfl rfl (by first | exact all_segs rfl | exact all_one (by simp [segs, Seg.cells, allOne, allOne_append, allOne_lump, Value.oneCell'])) fun h (I : Inv h (blk p_20 (ρ.T 8) [.one (.int .i64 (IntKind.wrap .i64 r_8)), .one (.int .i64 (IntKind.wrap .i64 r_10)), .one (.int .i64 (IntKind.wrap .i64 r_12)), .one (.int .i64 (IntKind.wrap .i64 r_14)), .one (.int .i64 (IntKind.wrap .i64 r_16)), .one (.int .i64 (IntKind.wrap .i64 r_18)), .vec .u8 32 (Vector.replicate 32 (0 : Int))] :: _)) => ?_
    refine sl_full ?_
    replace I := I.pull1
    refine pack_Reader_Bytes_r (r0 := r_6) (n1 := (32 : Int)) (σ := σ_19) I H fun r_22 a_23 c_24 h σ_26 I H => ?_
    refine cp_vec (v := (Vector.replicate 32 (0 : Int))) (j := 6) (off := 6) (lo := (0 : Int)) rfl vsl_full ⟨by decide, by decide⟩ rfl rd_own I.pull2 fun h I => ?_
    replace I := I.pull2
    refine pack_Reader_Rest_r (r0 := r_6) (σ := σ_26) I H fun r_27 h σ_28 I H => ?_
    refine br_r H (fun hb H => ?_) (fun hb H => ?_)
    · replace I := I.pull2.drop1
      replace I := I.pull2.drop1
      replace I := I.pull1.pull2
      exact inode_Parse_K1_r (v2_0 := (0 : Int)) (v2_1 := (0 : Int)) (v2_2 := (0 : Int)) (v2_3 := (0 : Int)) (v2_4 := (0 : Int)) (v2_5 := (0 : Int)) (v2_6 := (Vector.replicate 32 (0 : Int))) (n5_0 := (IntKind.wrap .i64 r_8)) (n5_1 := (IntKind.wrap .i64 r_10)) (n5_2 := (IntKind.wrap .i64 r_12)) (n5_3 := (IntKind.wrap .i64 r_14)) (n5_4 := (IntKind.wrap .i64 r_16)) (n5_5 := (IntKind.wrap .i64 r_18)) (n5_6 := (cpV (Vector.replicate 32 (0 : Int)) (Int.toNat (0 : Int)) r_22)) (v43 := true) (σ := σ_28) I H k
    · refine ldI_r (I.pull1.cell 0 0 rfl) ?_
      refine ldI_r (I.pull1.cell 1 1 rfl) ?_
      refine ldI_r (I.pull1.cell 2 2 rfl) ?_
      refine ldI_r (I.pull1.cell 3 3 rfl) ?_
      refine ldI_r (I.pull1.cell 4 4 rfl) ?_
      refine ldI_r (I.pull1.cell 5 5 rfl) ?_
      refine ldL_r (I.pull1.lump 6 6 rfl) ?_
      try simp only [nrm_v]
      try simp only [nrm_v]
      refine inode_May_r (n0 := (⟨(IntKind.wrap .i64 r_8), (IntKind.wrap .i64 r_10), (IntKind.wrap .i64 r_12), (IntKind.wrap .i64 r_14), (IntKind.wrap .i64 r_16), (IntKind.wrap .i64 r_18), (cpV (Vector.replicate 32 (0 : Int)) (Int.toNat (0 : Int)) r_22)⟩ : inode_Inode)) I H fun r_29 h I H => ?_
      replace I := I.pull2.drop1
      replace I := I.pull2.drop1
      replace I := I.pull1.pull2
      exact inode_Parse_K1_r (v2_0 := (0 : Int)) (v2_1 := (0 : Int)) (v2_2 := (0 : Int)) (v2_3 := (0 : Int)) (v2_4 := (0 : Int)) (v2_5 := (0 : Int)) (v2_6 := (Vector.replicate 32 (0 : Int))) (n5_0 := (IntKind.wrap .i64 r_8)) (n5_1 := (IntKind.wrap .i64 r_10)) (n5_2 := (IntKind.wrap .i64 r_12)) (n5_3 := (IntKind.wrap .i64 r_14)) (n5_4 := (IntKind.wrap .i64 r_16)) (n5_5 := (IntKind.wrap .i64 r_18)) (n5_6 := (cpV (Vector.replicate 32 (0 : Int)) (Int.toNat (0 : Int)) r_22)) (v43 := (!r_29)) (σ := σ_28) I H k

def carlingref21_num_B1 (S1 : (List Int) → Int → Int → Prop) (Q : Int → Prop) (b0 : List Int) (n3 : Int) (i4 : Int) : Prop :=
  br (decide (i4 ≥ (0 : Int)))
  (ixP b0 i4 fun x_3 =>
  S1 b0 (IntKind.wrap .u64 ((IntKind.wrap .u64 ((256 : Int) * n3)) + (IntKind.wrap .u64 x_3))) (IntKind.wrap .i64 (i4 - (1 : Int))))
  (Q n3)

def carlingref21_num_L1 (Q : Int → Prop) (b0 : List Int) (n3 : Int) (i4 : Int) : Prop :=
  Lf (fun S (v : (List Int) × Int × Int) => carlingref21_num_B1 (fun b0 n3 i4 => S (b0, n3, i4)) Q v.1 v.2.1 v.2.2) (b0, n3, i4)

theorem carlingref21_num_L1_in (Q : Int → Prop) (b0 : List Int) (n3 : Int) (i4 : Int) (H : carlingref21_num_B1 (carlingref21_num_L1 Q) Q b0 n3 i4) : carlingref21_num_L1 Q b0 n3 i4 := Lf.fold H

theorem carlingref21_num_B1_r {ρ : Ids} {h : Hp} {A : List At} {X_b0 : At} {b0 : List Int} {n3 : Int} {i4 : Int} {a_b0 : Option Addr} {n_b0 c_b0 : Nat} {Q' : Int → Prop} {Q : Int → Hp → Prop} {S1' : (List Int) → Int → Int → Prop} {S1 : Sl → Int → Int → Hp → Prop} (hX_b0 : Rd (rI .u8) X_b0 a_b0 n_b0 c_b0 b0) (I : Inv h (X_b0 :: A)) (H : carlingref21_num_B1 S1' Q' b0 n3 i4) (kS1 : ∀ {b0 : List Int} {n3 : Int} {i4 : Int} {a_b0 : Option Addr} {n_b0 c_b0 : Nat} {h : Hp} (hX_b0 : Rd (rI .u8) X_b0 a_b0 n_b0 c_b0 b0), Inv h (X_b0 :: A) → S1' b0 n3 i4 → S1 ⟨a_b0, n_b0, c_b0⟩ n3 i4 h)
    (k : ∀ (r0 : Int) (h' : Hp), Inv h' (X_b0 :: A) → Q' r0 → Q r0 h') : Tx.carlingref21_num_B1 ρ S1 Q ⟨a_b0, n_b0, c_b0⟩ n3 i4 h := by
  obtain rfl := rd_len hX_b0 I
  unfold Tx.carlingref21_num_B1
  unfold carlingref21_num_B1 at H
  refine br_r H (fun hb H => ?_) (fun hb H => ?_)
  · refine ixI_a hX_b0 I (ixP_keep H) fun p_4 x_3 he_5 hb_6 hc_7 H => ?_
    obtain ⟨hg_8, H⟩ := H
    refine ldI_r hc_7 ?_
    exact kS1 (b0 := b0) (n3 := (IntKind.wrap .u64 ((IntKind.wrap .u64 ((256 : Int) * n3)) + (IntKind.wrap .u64 x_3)))) (i4 := (IntKind.wrap .i64 (i4 - (1 : Int)))) hX_b0 I H
  · exact k n3 _ I H

theorem carlingref21_num_L1_r {ρ : Ids} {h : Hp} {A : List At} {X_b0 : At} {b0 : List Int} {n3 : Int} {i4 : Int} {a_b0 : Option Addr} {n_b0 c_b0 : Nat} {Q' : Int → Prop} {Q : Int → Hp → Prop} (hX_b0 : Rd (rI .u8) X_b0 a_b0 n_b0 c_b0 b0) (I : Inv h (X_b0 :: A)) (H : carlingref21_num_L1 Q' b0 n3 i4)
    (k : ∀ (r0 : Int) (h' : Hp), Inv h' (X_b0 :: A) → Q' r0 → Q r0 h') : Tx.carlingref21_num_L1 ρ Q ⟨a_b0, n_b0, c_b0⟩ n3 i4 h := by
  refine Lf.ind H (fun v => ∀ (a_b0 : Option Addr) (n_b0 c_b0 : Nat) (h : Hp) (hX_b0 : Rd (rI .u8) X_b0 a_b0 n_b0 c_b0 v.1), Inv h (X_b0 :: A) → Tx.carlingref21_num_L1 ρ Q ⟨a_b0, n_b0, c_b0⟩ v.2.1 v.2.2 h) ?_ _ _ _ _ hX_b0 I
  rintro ⟨b0, n3, i4⟩ S hS HB a_b0 n_b0 c_b0 h hX_b0 I
  refine Tx.carlingref21_num_L1_in _ _ _ _ _ _ ?_
  try simp only [nrm_v]
  exact carlingref21_num_B1_r (b0 := b0) (n3 := n3) (i4 := i4) hX_b0 I HB (fun {b0 n3 i4 a_b0 n_b0 c_b0 h} hX_b0 I H => hS _ H a_b0 n_b0 c_b0 _ hX_b0 I) k

def carlingref21_num (b0 : List Int) (Q : Int → Prop) : Prop :=
  carlingref21_num_L1 Q b0 (0 : Int) (IntKind.wrap .i64 ((b0.length : Int) - (1 : Int)))

theorem carlingref21_num_r {ρ : Ids} {h : Hp} {A : List At} {b0 : List Int} {a_b00 : Option Addr} {n_b00 c_b00 : Nat} {X_b0 : At} {Q' : Int → Prop} {Q : Int → Hp → Prop} (hX_b0 : Rd (rI .u8) X_b0 a_b00 n_b00 c_b00 b0) (I : Inv h (X_b0 :: A)) (H : carlingref21_num b0 Q')
    (k : ∀ (r0 : Int) (h' : Hp), Inv h' (X_b0 :: A) → Q' r0 → Q r0 h') : Tx.carlingref21_num ρ ⟨a_b00, n_b00, c_b00⟩ h Q := by
  obtain rfl := rd_len hX_b0 I
  unfold Tx.carlingref21_num
  unfold carlingref21_num at H
  exact carlingref21_num_L1_r (b0 := b0) (n3 := (0 : Int)) (i4 := (IntKind.wrap .i64 ((b0.length : Int) - (1 : Int)))) hX_b0 I H k

def carlingref21_Used_K3 (S1 : Int → Int → Int → Int → Int → Int → (Vector Int 32) → (List Int) → Int → Prop) (S2 : Int → Int → Int → Int → Int → Int → (Vector Int 32) → (List Int) → Int → Bool → Int → Prop) (Q : (List Int) → Prop) (n1_0 : Int) (n1_1 : Int) (n1_2 : Int) (n1_3 : Int) (n1_4 : Int) (n1_5 : Int) (n1_6 : Vector Int 32) (out3 : List Int) (p4 : Int) (is5 : Bool) (i6 : Int) : Prop :=
  S2 n1_0 n1_1 n1_2 n1_3 n1_4 n1_5 n1_6 out3 p4 is5 (IntKind.wrap .i64 (i6 + (1 : Int)))

theorem carlingref21_Used_K3_r {ρ : Ids} {h : Hp} {A : List At}  {n1_0 : Int} {n1_1 : Int} {n1_2 : Int} {n1_3 : Int} {n1_4 : Int} {n1_5 : Int} {n1_6 : Vector Int 32} {out3 : List Int} {p4 : Int} {is5 : Bool} {i6 : Int} {p_n1 : Addr} {a_out31 : Option Addr} {n_out31 c_out31 : Nat} {Q' : (List Int) → Prop} {Q : Sl → Hp → Prop} {S1' : Int → Int → Int → Int → Int → Int → (Vector Int 32) → (List Int) → Int → Prop} {S1 : Addr → Sl → Int → Hp → Prop} {S2' : Int → Int → Int → Int → Int → Int → (Vector Int 32) → (List Int) → Int → Bool → Int → Prop} {S2 : Addr → Sl → Int → Bool → Int → Hp → Prop} (I : Inv h (blk p_n1 (ρ.T 9) [.one (.int .i64 n1_0), .one (.int .i64 n1_1), .one (.int .i64 n1_2), .one (.int .i64 n1_3), .one (.int .i64 n1_4), .one (.int .i64 n1_5), .vec .u8 32 n1_6] :: ownS (rI .i64) a_out31 n_out31 c_out31 out3 :: A)) (H : carlingref21_Used_K3 S1' S2' Q' n1_0 n1_1 n1_2 n1_3 n1_4 n1_5 n1_6 out3 p4 is5 i6) (kS1 : ∀ {n1_0 : Int} {n1_1 : Int} {n1_2 : Int} {n1_3 : Int} {n1_4 : Int} {n1_5 : Int} {n1_6 : Vector Int 32} {out3 : List Int} {p4 : Int} {p_n1 : Addr} {a_out31 : Option Addr} {n_out31 c_out31 : Nat} {h : Hp}, Inv h (blk p_n1 (ρ.T 9) [.one (.int .i64 n1_0), .one (.int .i64 n1_1), .one (.int .i64 n1_2), .one (.int .i64 n1_3), .one (.int .i64 n1_4), .one (.int .i64 n1_5), .vec .u8 32 n1_6] :: ownS (rI .i64) a_out31 n_out31 c_out31 out3 :: A) → S1' n1_0 n1_1 n1_2 n1_3 n1_4 n1_5 n1_6 out3 p4 → S1 p_n1 ⟨a_out31, n_out31, c_out31⟩ p4 h) (kS2 : ∀ {n1_0 : Int} {n1_1 : Int} {n1_2 : Int} {n1_3 : Int} {n1_4 : Int} {n1_5 : Int} {n1_6 : Vector Int 32} {out3 : List Int} {p4 : Int} {is5 : Bool} {i6 : Int} {p_n1 : Addr} {a_out31 : Option Addr} {n_out31 c_out31 : Nat} {h : Hp}, Inv h (blk p_n1 (ρ.T 9) [.one (.int .i64 n1_0), .one (.int .i64 n1_1), .one (.int .i64 n1_2), .one (.int .i64 n1_3), .one (.int .i64 n1_4), .one (.int .i64 n1_5), .vec .u8 32 n1_6] :: ownS (rI .i64) a_out31 n_out31 c_out31 out3 :: A) → S2' n1_0 n1_1 n1_2 n1_3 n1_4 n1_5 n1_6 out3 p4 is5 i6 → S2 p_n1 ⟨a_out31, n_out31, c_out31⟩ p4 is5 i6 h)
    (k : ∀ (r0 : List Int) (ra0 : Option Addr) (rc0 : Nat) (h' : Hp), Inv h' (ownS (rI .i64) ra0 r0.length rc0 r0 :: A) → Q' r0 → Q ⟨ra0, r0.length, rc0⟩ h') : Tx.carlingref21_Used_K3 ρ S1 S2 Q p_n1 ⟨a_out31, n_out31, c_out31⟩ p4 is5 i6 h := by
  obtain rfl := own_len I.pull1
  unfold Tx.carlingref21_Used_K3
  unfold carlingref21_Used_K3 at H
  replace I := I.pull1.pull1
  exact kS2 (n1_0 := n1_0) (n1_1 := n1_1) (n1_2 := n1_2) (n1_3 := n1_3) (n1_4 := n1_4) (n1_5 := n1_5) (n1_6 := n1_6) (out3 := out3) (p4 := p4) (is5 := is5) (i6 := (IntKind.wrap .i64 (i6 + (1 : Int)))) I H

def carlingref21_Used_K4 (S1 : Int → Int → Int → Int → Int → Int → (Vector Int 32) → (List Int) → Int → Prop) (Q : (List Int) → Prop) (n1_0 : Int) (n1_1 : Int) (n1_2 : Int) (n1_3 : Int) (n1_4 : Int) (n1_5 : Int) (n1_6 : Vector Int 32) (out3 : List Int) (p4 : Int) : Prop :=
  S1 n1_0 n1_1 n1_2 n1_3 n1_4 n1_5 n1_6 out3 (IntKind.wrap .i64 (p4 + (1 : Int)))

theorem carlingref21_Used_K4_r {ρ : Ids} {h : Hp} {A : List At}  {n1_0 : Int} {n1_1 : Int} {n1_2 : Int} {n1_3 : Int} {n1_4 : Int} {n1_5 : Int} {n1_6 : Vector Int 32} {out3 : List Int} {p4 : Int} {p_n1 : Addr} {a_out31 : Option Addr} {n_out31 c_out31 : Nat} {Q' : (List Int) → Prop} {Q : Sl → Hp → Prop} {S1' : Int → Int → Int → Int → Int → Int → (Vector Int 32) → (List Int) → Int → Prop} {S1 : Addr → Sl → Int → Hp → Prop} (I : Inv h (blk p_n1 (ρ.T 9) [.one (.int .i64 n1_0), .one (.int .i64 n1_1), .one (.int .i64 n1_2), .one (.int .i64 n1_3), .one (.int .i64 n1_4), .one (.int .i64 n1_5), .vec .u8 32 n1_6] :: ownS (rI .i64) a_out31 n_out31 c_out31 out3 :: A)) (H : carlingref21_Used_K4 S1' Q' n1_0 n1_1 n1_2 n1_3 n1_4 n1_5 n1_6 out3 p4) (kS1 : ∀ {n1_0 : Int} {n1_1 : Int} {n1_2 : Int} {n1_3 : Int} {n1_4 : Int} {n1_5 : Int} {n1_6 : Vector Int 32} {out3 : List Int} {p4 : Int} {p_n1 : Addr} {a_out31 : Option Addr} {n_out31 c_out31 : Nat} {h : Hp}, Inv h (blk p_n1 (ρ.T 9) [.one (.int .i64 n1_0), .one (.int .i64 n1_1), .one (.int .i64 n1_2), .one (.int .i64 n1_3), .one (.int .i64 n1_4), .one (.int .i64 n1_5), .vec .u8 32 n1_6] :: ownS (rI .i64) a_out31 n_out31 c_out31 out3 :: A) → S1' n1_0 n1_1 n1_2 n1_3 n1_4 n1_5 n1_6 out3 p4 → S1 p_n1 ⟨a_out31, n_out31, c_out31⟩ p4 h)
    (k : ∀ (r0 : List Int) (ra0 : Option Addr) (rc0 : Nat) (h' : Hp), Inv h' (ownS (rI .i64) ra0 r0.length rc0 r0 :: A) → Q' r0 → Q ⟨ra0, r0.length, rc0⟩ h') : Tx.carlingref21_Used_K4 ρ S1 Q p_n1 ⟨a_out31, n_out31, c_out31⟩ p4 h := by
  obtain rfl := own_len I.pull1
  unfold Tx.carlingref21_Used_K4
  unfold carlingref21_Used_K4 at H
  replace I := I.pull1.pull1
  exact kS1 (n1_0 := n1_0) (n1_1 := n1_1) (n1_2 := n1_2) (n1_3 := n1_3) (n1_4 := n1_4) (n1_5 := n1_5) (n1_6 := n1_6) (out3 := out3) (p4 := (IntKind.wrap .i64 (p4 + (1 : Int)))) I H

def carlingref21_Used_B2 (S1 : Int → Int → Int → Int → Int → Int → (Vector Int 32) → (List Int) → Int → Prop) (S2 : Int → Int → Int → Int → Int → Int → (Vector Int 32) → (List Int) → Int → Bool → Int → Prop) (Q : (List Int) → Prop) (n1_0 : Int) (n1_1 : Int) (n1_2 : Int) (n1_3 : Int) (n1_4 : Int) (n1_5 : Int) (n1_6 : Vector Int 32) (out3 : List Int) (p4 : Int) (is5 : Bool) (i6 : Int) : Prop :=
  br (decide (i6 < (32 : Int)))
  (br is5
  (carlingref21_Used_K3 S1 S2 Q n1_0 n1_1 n1_2 n1_3 n1_4 n1_5 n1_6 out3 p4 true i6)
  (ixP n1_6.toList i6 fun x_9 =>
  carlingref21_Used_K3 S1 S2 Q n1_0 n1_1 n1_2 n1_3 n1_4 n1_5 n1_6 out3 p4 ((IntKind.wrap .i64 x_9) == p4) i6))
  (br is5
  ((Bnd (out3.length + ([p4]).length)) ∧
  carlingref21_Used_K4 S1 Q n1_0 n1_1 n1_2 n1_3 n1_4 n1_5 n1_6 (out3 ++ [p4]) p4)
  (carlingref21_Used_K4 S1 Q n1_0 n1_1 n1_2 n1_3 n1_4 n1_5 n1_6 out3 p4))

def carlingref21_Used_L2 (S1 : Int → Int → Int → Int → Int → Int → (Vector Int 32) → (List Int) → Int → Prop) (Q : (List Int) → Prop) (n1_0 : Int) (n1_1 : Int) (n1_2 : Int) (n1_3 : Int) (n1_4 : Int) (n1_5 : Int) (n1_6 : Vector Int 32) (out3 : List Int) (p4 : Int) (is5 : Bool) (i6 : Int) : Prop :=
  Lf (fun S (v : Int × Int × Int × Int × Int × Int × (Vector Int 32) × (List Int) × Int × Bool × Int) => carlingref21_Used_B2 S1 (fun n1_0 n1_1 n1_2 n1_3 n1_4 n1_5 n1_6 out3 p4 is5 i6 => S (n1_0, n1_1, n1_2, n1_3, n1_4, n1_5, n1_6, out3, p4, is5, i6)) Q v.1 v.2.1 v.2.2.1 v.2.2.2.1 v.2.2.2.2.1 v.2.2.2.2.2.1 v.2.2.2.2.2.2.1 v.2.2.2.2.2.2.2.1 v.2.2.2.2.2.2.2.2.1 v.2.2.2.2.2.2.2.2.2.1 v.2.2.2.2.2.2.2.2.2.2) (n1_0, n1_1, n1_2, n1_3, n1_4, n1_5, n1_6, out3, p4, is5, i6)

theorem carlingref21_Used_L2_in (S1 : Int → Int → Int → Int → Int → Int → (Vector Int 32) → (List Int) → Int → Prop) (Q : (List Int) → Prop) (n1_0 : Int) (n1_1 : Int) (n1_2 : Int) (n1_3 : Int) (n1_4 : Int) (n1_5 : Int) (n1_6 : Vector Int 32) (out3 : List Int) (p4 : Int) (is5 : Bool) (i6 : Int) (H : carlingref21_Used_B2 S1 (carlingref21_Used_L2 S1 Q) Q n1_0 n1_1 n1_2 n1_3 n1_4 n1_5 n1_6 out3 p4 is5 i6) : carlingref21_Used_L2 S1 Q n1_0 n1_1 n1_2 n1_3 n1_4 n1_5 n1_6 out3 p4 is5 i6 := Lf.fold H

theorem carlingref21_Used_B2_r {ρ : Ids} {h : Hp} {A : List At}  {n1_0 : Int} {n1_1 : Int} {n1_2 : Int} {n1_3 : Int} {n1_4 : Int} {n1_5 : Int} {n1_6 : Vector Int 32} {out3 : List Int} {p4 : Int} {is5 : Bool} {i6 : Int} {p_n1 : Addr} {a_out31 : Option Addr} {n_out31 c_out31 : Nat} {Q' : (List Int) → Prop} {Q : Sl → Hp → Prop} {S1' : Int → Int → Int → Int → Int → Int → (Vector Int 32) → (List Int) → Int → Prop} {S1 : Addr → Sl → Int → Hp → Prop} {S2' : Int → Int → Int → Int → Int → Int → (Vector Int 32) → (List Int) → Int → Bool → Int → Prop} {S2 : Addr → Sl → Int → Bool → Int → Hp → Prop} (I : Inv h (blk p_n1 (ρ.T 9) [.one (.int .i64 n1_0), .one (.int .i64 n1_1), .one (.int .i64 n1_2), .one (.int .i64 n1_3), .one (.int .i64 n1_4), .one (.int .i64 n1_5), .vec .u8 32 n1_6] :: ownS (rI .i64) a_out31 n_out31 c_out31 out3 :: A)) (H : carlingref21_Used_B2 S1' S2' Q' n1_0 n1_1 n1_2 n1_3 n1_4 n1_5 n1_6 out3 p4 is5 i6) (kS1 : ∀ {n1_0 : Int} {n1_1 : Int} {n1_2 : Int} {n1_3 : Int} {n1_4 : Int} {n1_5 : Int} {n1_6 : Vector Int 32} {out3 : List Int} {p4 : Int} {p_n1 : Addr} {a_out31 : Option Addr} {n_out31 c_out31 : Nat} {h : Hp}, Inv h (blk p_n1 (ρ.T 9) [.one (.int .i64 n1_0), .one (.int .i64 n1_1), .one (.int .i64 n1_2), .one (.int .i64 n1_3), .one (.int .i64 n1_4), .one (.int .i64 n1_5), .vec .u8 32 n1_6] :: ownS (rI .i64) a_out31 n_out31 c_out31 out3 :: A) → S1' n1_0 n1_1 n1_2 n1_3 n1_4 n1_5 n1_6 out3 p4 → S1 p_n1 ⟨a_out31, n_out31, c_out31⟩ p4 h) (kS2 : ∀ {n1_0 : Int} {n1_1 : Int} {n1_2 : Int} {n1_3 : Int} {n1_4 : Int} {n1_5 : Int} {n1_6 : Vector Int 32} {out3 : List Int} {p4 : Int} {is5 : Bool} {i6 : Int} {p_n1 : Addr} {a_out31 : Option Addr} {n_out31 c_out31 : Nat} {h : Hp}, Inv h (blk p_n1 (ρ.T 9) [.one (.int .i64 n1_0), .one (.int .i64 n1_1), .one (.int .i64 n1_2), .one (.int .i64 n1_3), .one (.int .i64 n1_4), .one (.int .i64 n1_5), .vec .u8 32 n1_6] :: ownS (rI .i64) a_out31 n_out31 c_out31 out3 :: A) → S2' n1_0 n1_1 n1_2 n1_3 n1_4 n1_5 n1_6 out3 p4 is5 i6 → S2 p_n1 ⟨a_out31, n_out31, c_out31⟩ p4 is5 i6 h)
    (k : ∀ (r0 : List Int) (ra0 : Option Addr) (rc0 : Nat) (h' : Hp), Inv h' (ownS (rI .i64) ra0 r0.length rc0 r0 :: A) → Q' r0 → Q ⟨ra0, r0.length, rc0⟩ h') : Tx.carlingref21_Used_B2 ρ S1 S2 Q p_n1 ⟨a_out31, n_out31, c_out31⟩ p4 is5 i6 h := by
  obtain rfl := own_len I.pull1
  unfold Tx.carlingref21_Used_B2
  unfold carlingref21_Used_B2 at H
  refine br_r H (fun hb H => ?_) (fun hb H => ?_)
  · refine br_r H (fun hb H => ?_) (fun hb H => ?_)
    · replace I := I.pull1.pull1
      exact carlingref21_Used_K3_r (n1_0 := n1_0) (n1_1 := n1_1) (n1_2 := n1_2) (n1_3 := n1_3) (n1_4 := n1_4) (n1_5 := n1_5) (n1_6 := n1_6) (out3 := out3) (p4 := p4) (is5 := true) (i6 := i6) I H kS1 kS2 k
    · refine ix_vec I (j := 6) (off := 6) rfl H fun q_8 x_9 hq_10 hb_11 hc_12 H => ?_
      refine ldI_r hc_12 ?_
      replace I := I.pull1.pull1
      exact carlingref21_Used_K3_r (n1_0 := n1_0) (n1_1 := n1_1) (n1_2 := n1_2) (n1_3 := n1_3) (n1_4 := n1_4) (n1_5 := n1_5) (n1_6 := n1_6) (out3 := out3) (p4 := p4) (is5 := ((IntKind.wrap .i64 x_9) == p4)) (i6 := i6) I H kS1 kS2 k
  · refine br_r H (fun hb H => ?_) (fun hb H => ?_)
    · refine al_r [.one (.int .i64 p4)] rfl I fun p_13 h I => ?_
      replace I := I.litN (rI .i64)
      replace I := I.repI (k := .i64) p4
      replace I := I.pull1.pull1
      replace I := I.litC
      replace I := I.pull1.pull1
      replace I := Inv.litL (l := [p4]) I rfl rfl
      refine ap_r rd_own I.pull2 rfl (by decide) (by decide) H.1 fun a_18 c_19 h I => ?_
      replace H := H.2
      replace I := I.pull1.drop1
      replace I := I.pull1
      exact carlingref21_Used_K4_r (n1_0 := n1_0) (n1_1 := n1_1) (n1_2 := n1_2) (n1_3 := n1_3) (n1_4 := n1_4) (n1_5 := n1_5) (n1_6 := n1_6) (out3 := (out3 ++ [p4])) (p4 := p4) I H kS1 k
    · replace I := I.pull1.pull1
      exact carlingref21_Used_K4_r (n1_0 := n1_0) (n1_1 := n1_1) (n1_2 := n1_2) (n1_3 := n1_3) (n1_4 := n1_4) (n1_5 := n1_5) (n1_6 := n1_6) (out3 := out3) (p4 := p4) I H kS1 k

theorem carlingref21_Used_L2_r {ρ : Ids} {h : Hp} {A : List At}  {n1_0 : Int} {n1_1 : Int} {n1_2 : Int} {n1_3 : Int} {n1_4 : Int} {n1_5 : Int} {n1_6 : Vector Int 32} {out3 : List Int} {p4 : Int} {is5 : Bool} {i6 : Int} {p_n1 : Addr} {a_out31 : Option Addr} {n_out31 c_out31 : Nat} {Q' : (List Int) → Prop} {Q : Sl → Hp → Prop} {S1' : Int → Int → Int → Int → Int → Int → (Vector Int 32) → (List Int) → Int → Prop} {S1 : Addr → Sl → Int → Hp → Prop} (I : Inv h (blk p_n1 (ρ.T 9) [.one (.int .i64 n1_0), .one (.int .i64 n1_1), .one (.int .i64 n1_2), .one (.int .i64 n1_3), .one (.int .i64 n1_4), .one (.int .i64 n1_5), .vec .u8 32 n1_6] :: ownS (rI .i64) a_out31 n_out31 c_out31 out3 :: A)) (H : carlingref21_Used_L2 S1' Q' n1_0 n1_1 n1_2 n1_3 n1_4 n1_5 n1_6 out3 p4 is5 i6) (kS1 : ∀ {n1_0 : Int} {n1_1 : Int} {n1_2 : Int} {n1_3 : Int} {n1_4 : Int} {n1_5 : Int} {n1_6 : Vector Int 32} {out3 : List Int} {p4 : Int} {p_n1 : Addr} {a_out31 : Option Addr} {n_out31 c_out31 : Nat} {h : Hp}, Inv h (blk p_n1 (ρ.T 9) [.one (.int .i64 n1_0), .one (.int .i64 n1_1), .one (.int .i64 n1_2), .one (.int .i64 n1_3), .one (.int .i64 n1_4), .one (.int .i64 n1_5), .vec .u8 32 n1_6] :: ownS (rI .i64) a_out31 n_out31 c_out31 out3 :: A) → S1' n1_0 n1_1 n1_2 n1_3 n1_4 n1_5 n1_6 out3 p4 → S1 p_n1 ⟨a_out31, n_out31, c_out31⟩ p4 h)
    (k : ∀ (r0 : List Int) (ra0 : Option Addr) (rc0 : Nat) (h' : Hp), Inv h' (ownS (rI .i64) ra0 r0.length rc0 r0 :: A) → Q' r0 → Q ⟨ra0, r0.length, rc0⟩ h') : Tx.carlingref21_Used_L2 ρ S1 Q p_n1 ⟨a_out31, n_out31, c_out31⟩ p4 is5 i6 h := by
  refine Lf.ind H (fun v => ∀ (p_n1 : Addr) (a_out31 : Option Addr) (n_out31 c_out31 : Nat) (h : Hp), Inv h (blk p_n1 (ρ.T 9) [.one (.int .i64 v.1), .one (.int .i64 v.2.1), .one (.int .i64 v.2.2.1), .one (.int .i64 v.2.2.2.1), .one (.int .i64 v.2.2.2.2.1), .one (.int .i64 v.2.2.2.2.2.1), .vec .u8 32 v.2.2.2.2.2.2.1] :: ownS (rI .i64) a_out31 n_out31 c_out31 v.2.2.2.2.2.2.2.1 :: A) → Tx.carlingref21_Used_L2 ρ S1 Q p_n1 ⟨a_out31, n_out31, c_out31⟩ v.2.2.2.2.2.2.2.2.1 v.2.2.2.2.2.2.2.2.2.1 v.2.2.2.2.2.2.2.2.2.2 h) ?_ _ _ _ _ _  I
  rintro ⟨n1_0, n1_1, n1_2, n1_3, n1_4, n1_5, n1_6, out3, p4, is5, i6⟩ S hS HB p_n1 a_out31 n_out31 c_out31 h I
  refine Tx.carlingref21_Used_L2_in _ _ _ _ _ _ _ _ _ ?_
  try simp only [nrm_v]
  exact carlingref21_Used_B2_r (n1_0 := n1_0) (n1_1 := n1_1) (n1_2 := n1_2) (n1_3 := n1_3) (n1_4 := n1_4) (n1_5 := n1_5) (n1_6 := n1_6) (out3 := out3) (p4 := p4) (is5 := is5) (i6 := i6) I HB kS1 (fun {n1_0 n1_1 n1_2 n1_3 n1_4 n1_5 n1_6 out3 p4 is5 i6 p_n1 a_out31 n_out31 c_out31 h} I H => hS _ H p_n1 a_out31 n_out31 c_out31 _ I) k

def carlingref21_Used_B1 (S1 : Int → Int → Int → Int → Int → Int → (Vector Int 32) → (List Int) → Int → Prop) (Q : (List Int) → Prop) (n1_0 : Int) (n1_1 : Int) (n1_2 : Int) (n1_3 : Int) (n1_4 : Int) (n1_5 : Int) (n1_6 : Vector Int 32) (out3 : List Int) (p4 : Int) : Prop :=
  br (decide (p4 < (256 : Int)))
  (carlingref21_Used_L2 S1 Q n1_0 n1_1 n1_2 n1_3 n1_4 n1_5 n1_6 out3 p4 (n1_5 == p4) (0 : Int))
  (Q out3)

def carlingref21_Used_L1 (Q : (List Int) → Prop) (n1_0 : Int) (n1_1 : Int) (n1_2 : Int) (n1_3 : Int) (n1_4 : Int) (n1_5 : Int) (n1_6 : Vector Int 32) (out3 : List Int) (p4 : Int) : Prop :=
  Lf (fun S (v : Int × Int × Int × Int × Int × Int × (Vector Int 32) × (List Int) × Int) => carlingref21_Used_B1 (fun n1_0 n1_1 n1_2 n1_3 n1_4 n1_5 n1_6 out3 p4 => S (n1_0, n1_1, n1_2, n1_3, n1_4, n1_5, n1_6, out3, p4)) Q v.1 v.2.1 v.2.2.1 v.2.2.2.1 v.2.2.2.2.1 v.2.2.2.2.2.1 v.2.2.2.2.2.2.1 v.2.2.2.2.2.2.2.1 v.2.2.2.2.2.2.2.2) (n1_0, n1_1, n1_2, n1_3, n1_4, n1_5, n1_6, out3, p4)

theorem carlingref21_Used_L1_in (Q : (List Int) → Prop) (n1_0 : Int) (n1_1 : Int) (n1_2 : Int) (n1_3 : Int) (n1_4 : Int) (n1_5 : Int) (n1_6 : Vector Int 32) (out3 : List Int) (p4 : Int) (H : carlingref21_Used_B1 (carlingref21_Used_L1 Q) Q n1_0 n1_1 n1_2 n1_3 n1_4 n1_5 n1_6 out3 p4) : carlingref21_Used_L1 Q n1_0 n1_1 n1_2 n1_3 n1_4 n1_5 n1_6 out3 p4 := Lf.fold H

theorem carlingref21_Used_B1_r {ρ : Ids} {h : Hp} {A : List At}  {n1_0 : Int} {n1_1 : Int} {n1_2 : Int} {n1_3 : Int} {n1_4 : Int} {n1_5 : Int} {n1_6 : Vector Int 32} {out3 : List Int} {p4 : Int} {p_n1 : Addr} {a_out31 : Option Addr} {n_out31 c_out31 : Nat} {Q' : (List Int) → Prop} {Q : Sl → Hp → Prop} {S1' : Int → Int → Int → Int → Int → Int → (Vector Int 32) → (List Int) → Int → Prop} {S1 : Addr → Sl → Int → Hp → Prop} (I : Inv h (blk p_n1 (ρ.T 9) [.one (.int .i64 n1_0), .one (.int .i64 n1_1), .one (.int .i64 n1_2), .one (.int .i64 n1_3), .one (.int .i64 n1_4), .one (.int .i64 n1_5), .vec .u8 32 n1_6] :: ownS (rI .i64) a_out31 n_out31 c_out31 out3 :: A)) (H : carlingref21_Used_B1 S1' Q' n1_0 n1_1 n1_2 n1_3 n1_4 n1_5 n1_6 out3 p4) (kS1 : ∀ {n1_0 : Int} {n1_1 : Int} {n1_2 : Int} {n1_3 : Int} {n1_4 : Int} {n1_5 : Int} {n1_6 : Vector Int 32} {out3 : List Int} {p4 : Int} {p_n1 : Addr} {a_out31 : Option Addr} {n_out31 c_out31 : Nat} {h : Hp}, Inv h (blk p_n1 (ρ.T 9) [.one (.int .i64 n1_0), .one (.int .i64 n1_1), .one (.int .i64 n1_2), .one (.int .i64 n1_3), .one (.int .i64 n1_4), .one (.int .i64 n1_5), .vec .u8 32 n1_6] :: ownS (rI .i64) a_out31 n_out31 c_out31 out3 :: A) → S1' n1_0 n1_1 n1_2 n1_3 n1_4 n1_5 n1_6 out3 p4 → S1 p_n1 ⟨a_out31, n_out31, c_out31⟩ p4 h)
    (k : ∀ (r0 : List Int) (ra0 : Option Addr) (rc0 : Nat) (h' : Hp), Inv h' (ownS (rI .i64) ra0 r0.length rc0 r0 :: A) → Q' r0 → Q ⟨ra0, r0.length, rc0⟩ h') : Tx.carlingref21_Used_B1 ρ S1 Q p_n1 ⟨a_out31, n_out31, c_out31⟩ p4 h := by
  obtain rfl := own_len I.pull1
  unfold Tx.carlingref21_Used_B1
  unfold carlingref21_Used_B1 at H
  refine br_r H (fun hb H => ?_) (fun hb H => ?_)
  · refine ldI_r (I.cell 5 5 rfl) ?_
    replace I := I.pull1.pull1
    exact carlingref21_Used_L2_r (n1_0 := n1_0) (n1_1 := n1_1) (n1_2 := n1_2) (n1_3 := n1_3) (n1_4 := n1_4) (n1_5 := n1_5) (n1_6 := n1_6) (out3 := out3) (p4 := p4) (is5 := (n1_5 == p4)) (i6 := (0 : Int)) I H kS1 k
  · replace I := I.drop1
    exact k out3 a_out31 c_out31 _ I H

theorem carlingref21_Used_L1_r {ρ : Ids} {h : Hp} {A : List At}  {n1_0 : Int} {n1_1 : Int} {n1_2 : Int} {n1_3 : Int} {n1_4 : Int} {n1_5 : Int} {n1_6 : Vector Int 32} {out3 : List Int} {p4 : Int} {p_n1 : Addr} {a_out31 : Option Addr} {n_out31 c_out31 : Nat} {Q' : (List Int) → Prop} {Q : Sl → Hp → Prop} (I : Inv h (blk p_n1 (ρ.T 9) [.one (.int .i64 n1_0), .one (.int .i64 n1_1), .one (.int .i64 n1_2), .one (.int .i64 n1_3), .one (.int .i64 n1_4), .one (.int .i64 n1_5), .vec .u8 32 n1_6] :: ownS (rI .i64) a_out31 n_out31 c_out31 out3 :: A)) (H : carlingref21_Used_L1 Q' n1_0 n1_1 n1_2 n1_3 n1_4 n1_5 n1_6 out3 p4)
    (k : ∀ (r0 : List Int) (ra0 : Option Addr) (rc0 : Nat) (h' : Hp), Inv h' (ownS (rI .i64) ra0 r0.length rc0 r0 :: A) → Q' r0 → Q ⟨ra0, r0.length, rc0⟩ h') : Tx.carlingref21_Used_L1 ρ Q p_n1 ⟨a_out31, n_out31, c_out31⟩ p4 h := by
  refine Lf.ind H (fun v => ∀ (p_n1 : Addr) (a_out31 : Option Addr) (n_out31 c_out31 : Nat) (h : Hp), Inv h (blk p_n1 (ρ.T 9) [.one (.int .i64 v.1), .one (.int .i64 v.2.1), .one (.int .i64 v.2.2.1), .one (.int .i64 v.2.2.2.1), .one (.int .i64 v.2.2.2.2.1), .one (.int .i64 v.2.2.2.2.2.1), .vec .u8 32 v.2.2.2.2.2.2.1] :: ownS (rI .i64) a_out31 n_out31 c_out31 v.2.2.2.2.2.2.2.1 :: A) → Tx.carlingref21_Used_L1 ρ Q p_n1 ⟨a_out31, n_out31, c_out31⟩ v.2.2.2.2.2.2.2.2 h) ?_ _ _ _ _ _  I
  rintro ⟨n1_0, n1_1, n1_2, n1_3, n1_4, n1_5, n1_6, out3, p4⟩ S hS HB p_n1 a_out31 n_out31 c_out31 h I
  refine Tx.carlingref21_Used_L1_in _ _ _ _ _ _ ?_
  try simp only [nrm_v]
  exact carlingref21_Used_B1_r (n1_0 := n1_0) (n1_1 := n1_1) (n1_2 := n1_2) (n1_3 := n1_3) (n1_4 := n1_4) (n1_5 := n1_5) (n1_6 := n1_6) (out3 := out3) (p4 := p4) I HB (fun {n1_0 n1_1 n1_2 n1_3 n1_4 n1_5 n1_6 out3 p4 p_n1 a_out31 n_out31 c_out31 h} I H => hS _ H p_n1 a_out31 n_out31 c_out31 _ I) k

def carlingref21_Used (n0 : carlingref21_Inode) (Q : (List Int) → Prop) : Prop :=
  carlingref21_Used_L1 Q n0.Kind n0.Mode n0.Links n0.Size n0.Time n0.Attr n0.Pages ([] : List Int) (1 : Int)

theorem carlingref21_Used_r {ρ : Ids} {h : Hp} {A : List At} {n0 : carlingref21_Inode}  {Q' : (List Int) → Prop} {Q : Sl → Hp → Prop} (I : Inv h (A)) (H : carlingref21_Used n0 Q')
    (k : ∀ (r0 : List Int) (ra0 : Option Addr) (rc0 : Nat) (h' : Hp), Inv h' (ownS (rI .i64) ra0 r0.length rc0 r0 :: A) → Q' r0 → Q ⟨ra0, r0.length, rc0⟩ h') : Tx.carlingref21_Used ρ n0.Kind n0.Mode n0.Links n0.Size n0.Time n0.Attr n0.Pages.toList h Q := by
  unfold Tx.carlingref21_Used
  unfold carlingref21_Used at H
  try simp only [nrm_v]
  refine al_r [.one (.int .i64 n0.Kind), .one (.int .i64 n0.Mode), .one (.int .i64 n0.Links), .one (.int .i64 n0.Size), .one (.int .i64 n0.Time), .one (.int .i64 n0.Attr), .vec .u8 32 n0.Pages] rfl I fun p_1 h I => ?_
  replace I := I.nilO (rI .i64)
  replace I := I.pull1
  exact carlingref21_Used_L1_r (n1_0 := n0.Kind) (n1_1 := n0.Mode) (n1_2 := n0.Links) (n1_3 := n0.Size) (n1_4 := n0.Time) (n1_5 := n0.Attr) (n1_6 := n0.Pages) (out3 := ([] : List Int)) (p4 := (1 : Int)) I H k

def carlingref21_May_K4 (S2 : Int → Int → Int → Int → Int → Int → (Vector Int 32) → Int → Int → Prop) (Q : Bool → Prop) (n1_0 : Int) (n1_1 : Int) (n1_2 : Int) (n1_3 : Int) (n1_4 : Int) (n1_5 : Int) (n1_6 : Vector Int 32) (many3 : Int) (i4 : Int) : Prop :=
  S2 n1_0 n1_1 n1_2 n1_3 n1_4 n1_5 n1_6 many3 (IntKind.wrap .i64 (i4 + (1 : Int)))

theorem carlingref21_May_K4_r {ρ : Ids} {h : Hp} {A : List At}  {n1_0 : Int} {n1_1 : Int} {n1_2 : Int} {n1_3 : Int} {n1_4 : Int} {n1_5 : Int} {n1_6 : Vector Int 32} {many3 : Int} {i4 : Int} {p_n1 : Addr} {Q' : Bool → Prop} {Q : Bool → Hp → Prop} {S2' : Int → Int → Int → Int → Int → Int → (Vector Int 32) → Int → Int → Prop} {S2 : Addr → Int → Int → Hp → Prop} (I : Inv h (blk p_n1 (ρ.T 9) [.one (.int .i64 n1_0), .one (.int .i64 n1_1), .one (.int .i64 n1_2), .one (.int .i64 n1_3), .one (.int .i64 n1_4), .one (.int .i64 n1_5), .vec .u8 32 n1_6] :: A)) (H : carlingref21_May_K4 S2' Q' n1_0 n1_1 n1_2 n1_3 n1_4 n1_5 n1_6 many3 i4) (kS2 : ∀ {n1_0 : Int} {n1_1 : Int} {n1_2 : Int} {n1_3 : Int} {n1_4 : Int} {n1_5 : Int} {n1_6 : Vector Int 32} {many3 : Int} {i4 : Int} {p_n1 : Addr} {h : Hp}, Inv h (blk p_n1 (ρ.T 9) [.one (.int .i64 n1_0), .one (.int .i64 n1_1), .one (.int .i64 n1_2), .one (.int .i64 n1_3), .one (.int .i64 n1_4), .one (.int .i64 n1_5), .vec .u8 32 n1_6] :: A) → S2' n1_0 n1_1 n1_2 n1_3 n1_4 n1_5 n1_6 many3 i4 → S2 p_n1 many3 i4 h)
    (k : ∀ (r0 : Bool) (h' : Hp), Inv h' (A) → Q' r0 → Q r0 h') : Tx.carlingref21_May_K4 ρ S2 Q p_n1 many3 i4 h := by
  unfold Tx.carlingref21_May_K4
  unfold carlingref21_May_K4 at H
  exact kS2 (n1_0 := n1_0) (n1_1 := n1_1) (n1_2 := n1_2) (n1_3 := n1_3) (n1_4 := n1_4) (n1_5 := n1_5) (n1_6 := n1_6) (many3 := many3) (i4 := (IntKind.wrap .i64 (i4 + (1 : Int)))) I H

def carlingref21_May_K3 (S2 : Int → Int → Int → Int → Int → Int → (Vector Int 32) → Int → Int → Prop) (Q : Bool → Prop) (n1_0 : Int) (n1_1 : Int) (n1_2 : Int) (n1_3 : Int) (n1_4 : Int) (n1_5 : Int) (n1_6 : Vector Int 32) (many3 : Int) (i4 : Int) (v91 : Bool) : Prop :=
  br v91
  (Q false)
  (carlingref21_May_K4 S2 Q n1_0 n1_1 n1_2 n1_3 n1_4 n1_5 n1_6 many3 i4)

theorem carlingref21_May_K3_r {ρ : Ids} {h : Hp} {A : List At}  {n1_0 : Int} {n1_1 : Int} {n1_2 : Int} {n1_3 : Int} {n1_4 : Int} {n1_5 : Int} {n1_6 : Vector Int 32} {many3 : Int} {i4 : Int} {v91 : Bool} {p_n1 : Addr} {Q' : Bool → Prop} {Q : Bool → Hp → Prop} {S2' : Int → Int → Int → Int → Int → Int → (Vector Int 32) → Int → Int → Prop} {S2 : Addr → Int → Int → Hp → Prop} (I : Inv h (blk p_n1 (ρ.T 9) [.one (.int .i64 n1_0), .one (.int .i64 n1_1), .one (.int .i64 n1_2), .one (.int .i64 n1_3), .one (.int .i64 n1_4), .one (.int .i64 n1_5), .vec .u8 32 n1_6] :: A)) (H : carlingref21_May_K3 S2' Q' n1_0 n1_1 n1_2 n1_3 n1_4 n1_5 n1_6 many3 i4 v91) (kS2 : ∀ {n1_0 : Int} {n1_1 : Int} {n1_2 : Int} {n1_3 : Int} {n1_4 : Int} {n1_5 : Int} {n1_6 : Vector Int 32} {many3 : Int} {i4 : Int} {p_n1 : Addr} {h : Hp}, Inv h (blk p_n1 (ρ.T 9) [.one (.int .i64 n1_0), .one (.int .i64 n1_1), .one (.int .i64 n1_2), .one (.int .i64 n1_3), .one (.int .i64 n1_4), .one (.int .i64 n1_5), .vec .u8 32 n1_6] :: A) → S2' n1_0 n1_1 n1_2 n1_3 n1_4 n1_5 n1_6 many3 i4 → S2 p_n1 many3 i4 h)
    (k : ∀ (r0 : Bool) (h' : Hp), Inv h' (A) → Q' r0 → Q r0 h') : Tx.carlingref21_May_K3 ρ S2 Q p_n1 many3 i4 v91 h := by
  unfold Tx.carlingref21_May_K3
  unfold carlingref21_May_K3 at H
  refine br_r H (fun hb H => ?_) (fun hb H => ?_)
  · replace I := I.drop1
    exact k false _ I H
  · exact carlingref21_May_K4_r (n1_0 := n1_0) (n1_1 := n1_1) (n1_2 := n1_2) (n1_3 := n1_3) (n1_4 := n1_4) (n1_5 := n1_5) (n1_6 := n1_6) (many3 := many3) (i4 := i4) I H kS2 k

def carlingref21_May_B2 (S2 : Int → Int → Int → Int → Int → Int → (Vector Int 32) → Int → Int → Prop) (Q : Bool → Prop) (n1_0 : Int) (n1_1 : Int) (n1_2 : Int) (n1_3 : Int) (n1_4 : Int) (n1_5 : Int) (n1_6 : Vector Int 32) (many3 : Int) (i4 : Int) : Prop :=
  br (decide (i4 < (32 : Int)))
  (ixP n1_6.toList i4 fun x_6 =>
  br (x_6 == (0 : Int))
  (carlingref21_May_K4 S2 Q n1_0 n1_1 n1_2 n1_3 n1_4 n1_5 n1_6 many3 i4)
  (ixP n1_6.toList i4 fun x_11 =>
  br (decide ((IntKind.wrap .i64 x_11) ≥ (216 : Int)))
  (carlingref21_May_K3 S2 Q n1_0 n1_1 n1_2 n1_3 n1_4 n1_5 n1_6 (IntKind.wrap .i64 (many3 + (1 : Int))) i4 true)
  (carlingref21_May_K3 S2 Q n1_0 n1_1 n1_2 n1_3 n1_4 n1_5 n1_6 (IntKind.wrap .i64 (many3 + (1 : Int))) i4 (decide (i4 ≥ (IntKind.wrap .i64 (Int.tdiv (IntKind.wrap .i64 (n1_3 + (255 : Int))) (256 : Int))))))))
  (carlingref21_Used (⟨n1_0, n1_1, n1_2, n1_3, n1_4, n1_5, n1_6⟩ : carlingref21_Inode) fun r_15 =>
  Q ((r_15.length : Int) == many3))

def carlingref21_May_L2 (Q : Bool → Prop) (n1_0 : Int) (n1_1 : Int) (n1_2 : Int) (n1_3 : Int) (n1_4 : Int) (n1_5 : Int) (n1_6 : Vector Int 32) (many3 : Int) (i4 : Int) : Prop :=
  Lf (fun S (v : Int × Int × Int × Int × Int × Int × (Vector Int 32) × Int × Int) => carlingref21_May_B2 (fun n1_0 n1_1 n1_2 n1_3 n1_4 n1_5 n1_6 many3 i4 => S (n1_0, n1_1, n1_2, n1_3, n1_4, n1_5, n1_6, many3, i4)) Q v.1 v.2.1 v.2.2.1 v.2.2.2.1 v.2.2.2.2.1 v.2.2.2.2.2.1 v.2.2.2.2.2.2.1 v.2.2.2.2.2.2.2.1 v.2.2.2.2.2.2.2.2) (n1_0, n1_1, n1_2, n1_3, n1_4, n1_5, n1_6, many3, i4)

theorem carlingref21_May_L2_in (Q : Bool → Prop) (n1_0 : Int) (n1_1 : Int) (n1_2 : Int) (n1_3 : Int) (n1_4 : Int) (n1_5 : Int) (n1_6 : Vector Int 32) (many3 : Int) (i4 : Int) (H : carlingref21_May_B2 (carlingref21_May_L2 Q) Q n1_0 n1_1 n1_2 n1_3 n1_4 n1_5 n1_6 many3 i4) : carlingref21_May_L2 Q n1_0 n1_1 n1_2 n1_3 n1_4 n1_5 n1_6 many3 i4 := Lf.fold H

theorem carlingref21_May_B2_r {ρ : Ids} {h : Hp} {A : List At}  {n1_0 : Int} {n1_1 : Int} {n1_2 : Int} {n1_3 : Int} {n1_4 : Int} {n1_5 : Int} {n1_6 : Vector Int 32} {many3 : Int} {i4 : Int} {p_n1 : Addr} {Q' : Bool → Prop} {Q : Bool → Hp → Prop} {S2' : Int → Int → Int → Int → Int → Int → (Vector Int 32) → Int → Int → Prop} {S2 : Addr → Int → Int → Hp → Prop} (I : Inv h (blk p_n1 (ρ.T 9) [.one (.int .i64 n1_0), .one (.int .i64 n1_1), .one (.int .i64 n1_2), .one (.int .i64 n1_3), .one (.int .i64 n1_4), .one (.int .i64 n1_5), .vec .u8 32 n1_6] :: A)) (H : carlingref21_May_B2 S2' Q' n1_0 n1_1 n1_2 n1_3 n1_4 n1_5 n1_6 many3 i4) (kS2 : ∀ {n1_0 : Int} {n1_1 : Int} {n1_2 : Int} {n1_3 : Int} {n1_4 : Int} {n1_5 : Int} {n1_6 : Vector Int 32} {many3 : Int} {i4 : Int} {p_n1 : Addr} {h : Hp}, Inv h (blk p_n1 (ρ.T 9) [.one (.int .i64 n1_0), .one (.int .i64 n1_1), .one (.int .i64 n1_2), .one (.int .i64 n1_3), .one (.int .i64 n1_4), .one (.int .i64 n1_5), .vec .u8 32 n1_6] :: A) → S2' n1_0 n1_1 n1_2 n1_3 n1_4 n1_5 n1_6 many3 i4 → S2 p_n1 many3 i4 h)
    (k : ∀ (r0 : Bool) (h' : Hp), Inv h' (A) → Q' r0 → Q r0 h') : Tx.carlingref21_May_B2 ρ S2 Q p_n1 many3 i4 h := by
  unfold Tx.carlingref21_May_B2
  unfold carlingref21_May_B2 at H
  refine br_r H (fun hb H => ?_) (fun hb H => ?_)
  · refine ix_vec I (j := 6) (off := 6) rfl H fun q_5 x_6 hq_7 hb_8 hc_9 H => ?_
    refine ldI_r hc_9 ?_
    refine br_r H (fun hb H => ?_) (fun hb H => ?_)
    · exact carlingref21_May_K4_r (n1_0 := n1_0) (n1_1 := n1_1) (n1_2 := n1_2) (n1_3 := n1_3) (n1_4 := n1_4) (n1_5 := n1_5) (n1_6 := n1_6) (many3 := many3) (i4 := i4) I H kS2 k
    · refine ix_vec I (j := 6) (off := 6) rfl H fun q_10 x_11 hq_12 hb_13 hc_14 H => ?_
      refine ldI_r hc_14 ?_
      refine br_r H (fun hb H => ?_) (fun hb H => ?_)
      · exact carlingref21_May_K3_r (n1_0 := n1_0) (n1_1 := n1_1) (n1_2 := n1_2) (n1_3 := n1_3) (n1_4 := n1_4) (n1_5 := n1_5) (n1_6 := n1_6) (many3 := (IntKind.wrap .i64 (many3 + (1 : Int)))) (i4 := i4) (v91 := true) I H kS2 k
      · refine ldI_r (I.cell 3 3 rfl) ?_
        refine ⟨by decide, ?_⟩
        exact carlingref21_May_K3_r (n1_0 := n1_0) (n1_1 := n1_1) (n1_2 := n1_2) (n1_3 := n1_3) (n1_4 := n1_4) (n1_5 := n1_5) (n1_6 := n1_6) (many3 := (IntKind.wrap .i64 (many3 + (1 : Int)))) (i4 := i4) (v91 := (decide (i4 ≥ (IntKind.wrap .i64 (Int.tdiv (IntKind.wrap .i64 (n1_3 + (255 : Int))) (256 : Int)))))) I H kS2 k
  · refine ldI_r (I.cell 0 0 rfl) ?_
    refine ldI_r (I.cell 1 1 rfl) ?_
    refine ldI_r (I.cell 2 2 rfl) ?_
    refine ldI_r (I.cell 3 3 rfl) ?_
    refine ldI_r (I.cell 4 4 rfl) ?_
    refine ldI_r (I.cell 5 5 rfl) ?_
    refine ldL_r (I.lump 6 6 rfl) ?_
    try simp only [nrm_v]
    try simp only [nrm_v]
    refine carlingref21_Used_r (n0 := (⟨n1_0, n1_1, n1_2, n1_3, n1_4, n1_5, n1_6⟩ : carlingref21_Inode)) I H fun r_15 a_16 c_17 h I H => ?_
    replace I := I.drop1
    replace I := I.drop1
    exact k ((r_15.length : Int) == many3) _ I H

theorem carlingref21_May_L2_r {ρ : Ids} {h : Hp} {A : List At}  {n1_0 : Int} {n1_1 : Int} {n1_2 : Int} {n1_3 : Int} {n1_4 : Int} {n1_5 : Int} {n1_6 : Vector Int 32} {many3 : Int} {i4 : Int} {p_n1 : Addr} {Q' : Bool → Prop} {Q : Bool → Hp → Prop} (I : Inv h (blk p_n1 (ρ.T 9) [.one (.int .i64 n1_0), .one (.int .i64 n1_1), .one (.int .i64 n1_2), .one (.int .i64 n1_3), .one (.int .i64 n1_4), .one (.int .i64 n1_5), .vec .u8 32 n1_6] :: A)) (H : carlingref21_May_L2 Q' n1_0 n1_1 n1_2 n1_3 n1_4 n1_5 n1_6 many3 i4)
    (k : ∀ (r0 : Bool) (h' : Hp), Inv h' (A) → Q' r0 → Q r0 h') : Tx.carlingref21_May_L2 ρ Q p_n1 many3 i4 h := by
  refine Lf.ind H (fun v => ∀ (p_n1 : Addr) (h : Hp), Inv h (blk p_n1 (ρ.T 9) [.one (.int .i64 v.1), .one (.int .i64 v.2.1), .one (.int .i64 v.2.2.1), .one (.int .i64 v.2.2.2.1), .one (.int .i64 v.2.2.2.2.1), .one (.int .i64 v.2.2.2.2.2.1), .vec .u8 32 v.2.2.2.2.2.2.1] :: A) → Tx.carlingref21_May_L2 ρ Q p_n1 v.2.2.2.2.2.2.2.1 v.2.2.2.2.2.2.2.2 h) ?_ _ _  I
  rintro ⟨n1_0, n1_1, n1_2, n1_3, n1_4, n1_5, n1_6, many3, i4⟩ S hS HB p_n1 h I
  refine Tx.carlingref21_May_L2_in _ _ _ _ _ _ ?_
  try simp only [nrm_v]
  exact carlingref21_May_B2_r (n1_0 := n1_0) (n1_1 := n1_1) (n1_2 := n1_2) (n1_3 := n1_3) (n1_4 := n1_4) (n1_5 := n1_5) (n1_6 := n1_6) (many3 := many3) (i4 := i4) I HB (fun {n1_0 n1_1 n1_2 n1_3 n1_4 n1_5 n1_6 many3 i4 p_n1 h} I H => hS _ H p_n1 _ I) k

def carlingref21_May_K5 (Q : Bool → Prop) (n1_0 : Int) (n1_1 : Int) (n1_2 : Int) (n1_3 : Int) (n1_4 : Int) (n1_5 : Int) (n1_6 : Vector Int 32) (many3 : Int) : Prop :=
  carlingref21_May_L2 Q n1_0 n1_1 n1_2 n1_3 n1_4 n1_5 n1_6 many3 (0 : Int)

theorem carlingref21_May_K5_r {ρ : Ids} {h : Hp} {A : List At}  {n1_0 : Int} {n1_1 : Int} {n1_2 : Int} {n1_3 : Int} {n1_4 : Int} {n1_5 : Int} {n1_6 : Vector Int 32} {many3 : Int} {p_n1 : Addr} {Q' : Bool → Prop} {Q : Bool → Hp → Prop} (I : Inv h (blk p_n1 (ρ.T 9) [.one (.int .i64 n1_0), .one (.int .i64 n1_1), .one (.int .i64 n1_2), .one (.int .i64 n1_3), .one (.int .i64 n1_4), .one (.int .i64 n1_5), .vec .u8 32 n1_6] :: A)) (H : carlingref21_May_K5 Q' n1_0 n1_1 n1_2 n1_3 n1_4 n1_5 n1_6 many3)
    (k : ∀ (r0 : Bool) (h' : Hp), Inv h' (A) → Q' r0 → Q r0 h') : Tx.carlingref21_May_K5 ρ Q p_n1 many3 h := by
  unfold Tx.carlingref21_May_K5
  unfold carlingref21_May_K5 at H
  exact carlingref21_May_L2_r (n1_0 := n1_0) (n1_1 := n1_1) (n1_2 := n1_2) (n1_3 := n1_3) (n1_4 := n1_4) (n1_5 := n1_5) (n1_6 := n1_6) (many3 := many3) (i4 := (0 : Int)) I H k

def carlingref21_May_K1 (Q : Bool → Prop) (n1_0 : Int) (n1_1 : Int) (n1_2 : Int) (n1_3 : Int) (n1_4 : Int) (n1_5 : Int) (n1_6 : Vector Int 32) (v57 : Bool) : Prop :=
  br v57
  (Q false)
  (br (n1_0 == (0 : Int))
  (Q ((n1_0 == (0 : Int)) && ((n1_1 == (0 : Int)) && ((n1_2 == (0 : Int)) && ((n1_3 == (0 : Int)) && ((n1_4 == (0 : Int)) && ((n1_5 == (0 : Int)) && ((n1_6.toList == (Vector.replicate 32 (0 : Int)).toList) && true))))))))
  (br (decide (n1_5 > (0 : Int)))
  (carlingref21_May_K5 Q n1_0 n1_1 n1_2 n1_3 n1_4 n1_5 n1_6 (1 : Int))
  (carlingref21_May_K5 Q n1_0 n1_1 n1_2 n1_3 n1_4 n1_5 n1_6 (0 : Int))))

theorem carlingref21_May_K1_r {ρ : Ids} {h : Hp} {A : List At}  {n1_0 : Int} {n1_1 : Int} {n1_2 : Int} {n1_3 : Int} {n1_4 : Int} {n1_5 : Int} {n1_6 : Vector Int 32} {v57 : Bool} {p_n1 : Addr} {Q' : Bool → Prop} {Q : Bool → Hp → Prop} (I : Inv h (blk p_n1 (ρ.T 9) [.one (.int .i64 n1_0), .one (.int .i64 n1_1), .one (.int .i64 n1_2), .one (.int .i64 n1_3), .one (.int .i64 n1_4), .one (.int .i64 n1_5), .vec .u8 32 n1_6] :: A)) (H : carlingref21_May_K1 Q' n1_0 n1_1 n1_2 n1_3 n1_4 n1_5 n1_6 v57)
    (k : ∀ (r0 : Bool) (h' : Hp), Inv h' (A) → Q' r0 → Q r0 h') : Tx.carlingref21_May_K1 ρ Q p_n1 v57 h := by
  unfold Tx.carlingref21_May_K1
  unfold carlingref21_May_K1 at H
  refine br_r H (fun hb H => ?_) (fun hb H => ?_)
  · replace I := I.drop1
    exact k false _ I H
  · refine ldI_r (I.cell 0 0 rfl) ?_
    refine br_r H (fun hb H => ?_) (fun hb H => ?_)
    · refine ldI_r (I.cell 0 0 rfl) ?_
      refine ldI_r (I.cell 1 1 rfl) ?_
      refine ldI_r (I.cell 2 2 rfl) ?_
      refine ldI_r (I.cell 3 3 rfl) ?_
      refine ldI_r (I.cell 4 4 rfl) ?_
      refine ldI_r (I.cell 5 5 rfl) ?_
      refine ldL_r (I.lump 6 6 rfl) ?_
      try simp only [nrm_v]
      try simp only [nrm_v]
      replace I := I.drop1
      exact k ((n1_0 == (0 : Int)) && ((n1_1 == (0 : Int)) && ((n1_2 == (0 : Int)) && ((n1_3 == (0 : Int)) && ((n1_4 == (0 : Int)) && ((n1_5 == (0 : Int)) && ((n1_6.toList == (Vector.replicate 32 (0 : Int)).toList) && true))))))) _ I H
    · refine ldI_r (I.cell 5 5 rfl) ?_
      refine br_r H (fun hb H => ?_) (fun hb H => ?_)
      · exact carlingref21_May_K5_r (n1_0 := n1_0) (n1_1 := n1_1) (n1_2 := n1_2) (n1_3 := n1_3) (n1_4 := n1_4) (n1_5 := n1_5) (n1_6 := n1_6) (many3 := (1 : Int)) I H k
      · exact carlingref21_May_K5_r (n1_0 := n1_0) (n1_1 := n1_1) (n1_2 := n1_2) (n1_3 := n1_3) (n1_4 := n1_4) (n1_5 := n1_5) (n1_6 := n1_6) (many3 := (0 : Int)) I H k

def carlingref21_May (n0 : carlingref21_Inode) (Q : Bool → Prop) : Prop :=
  br (decide (n0.Kind < (0 : Int)))
  (carlingref21_May_K1 Q n0.Kind n0.Mode n0.Links n0.Size n0.Time n0.Attr n0.Pages true)
  (br (decide (n0.Kind > (3 : Int)))
  (carlingref21_May_K1 Q n0.Kind n0.Mode n0.Links n0.Size n0.Time n0.Attr n0.Pages true)
  (br (decide (n0.Mode < (0 : Int)))
  (carlingref21_May_K1 Q n0.Kind n0.Mode n0.Links n0.Size n0.Time n0.Attr n0.Pages true)
  (br (decide (n0.Mode > (7 : Int)))
  (carlingref21_May_K1 Q n0.Kind n0.Mode n0.Links n0.Size n0.Time n0.Attr n0.Pages true)
  (br (decide (n0.Links < (0 : Int)))
  (carlingref21_May_K1 Q n0.Kind n0.Mode n0.Links n0.Size n0.Time n0.Attr n0.Pages true)
  (br (decide (n0.Links > (65535 : Int)))
  (carlingref21_May_K1 Q n0.Kind n0.Mode n0.Links n0.Size n0.Time n0.Attr n0.Pages true)
  (br (decide (n0.Size < (0 : Int)))
  (carlingref21_May_K1 Q n0.Kind n0.Mode n0.Links n0.Size n0.Time n0.Attr n0.Pages true)
  (br (decide (n0.Size > (8192 : Int)))
  (carlingref21_May_K1 Q n0.Kind n0.Mode n0.Links n0.Size n0.Time n0.Attr n0.Pages true)
  (br (decide (n0.Time < (0 : Int)))
  (carlingref21_May_K1 Q n0.Kind n0.Mode n0.Links n0.Size n0.Time n0.Attr n0.Pages true)
  (br (decide (n0.Attr < (0 : Int)))
  (carlingref21_May_K1 Q n0.Kind n0.Mode n0.Links n0.Size n0.Time n0.Attr n0.Pages true)
  (carlingref21_May_K1 Q n0.Kind n0.Mode n0.Links n0.Size n0.Time n0.Attr n0.Pages (decide (n0.Attr ≥ (216 : Int)))))))))))))

theorem carlingref21_May_r {ρ : Ids} {h : Hp} {A : List At} {n0 : carlingref21_Inode}  {Q' : Bool → Prop} {Q : Bool → Hp → Prop} (I : Inv h (A)) (H : carlingref21_May n0 Q')
    (k : ∀ (r0 : Bool) (h' : Hp), Inv h' (A) → Q' r0 → Q r0 h') : Tx.carlingref21_May ρ n0.Kind n0.Mode n0.Links n0.Size n0.Time n0.Attr n0.Pages.toList h Q := by
  unfold Tx.carlingref21_May
  unfold carlingref21_May at H
  try simp only [nrm_v]
  refine al_r [.one (.int .i64 n0.Kind), .one (.int .i64 n0.Mode), .one (.int .i64 n0.Links), .one (.int .i64 n0.Size), .one (.int .i64 n0.Time), .one (.int .i64 n0.Attr), .vec .u8 32 n0.Pages] rfl I fun p_1 h I => ?_
  refine ldI_r (I.cell 0 0 rfl) ?_
  refine br_r H (fun hb H => ?_) (fun hb H => ?_)
  · exact carlingref21_May_K1_r (n1_0 := n0.Kind) (n1_1 := n0.Mode) (n1_2 := n0.Links) (n1_3 := n0.Size) (n1_4 := n0.Time) (n1_5 := n0.Attr) (n1_6 := n0.Pages) (v57 := true) I H k
  · refine ldI_r (I.cell 0 0 rfl) ?_
    refine br_r H (fun hb H => ?_) (fun hb H => ?_)
    · exact carlingref21_May_K1_r (n1_0 := n0.Kind) (n1_1 := n0.Mode) (n1_2 := n0.Links) (n1_3 := n0.Size) (n1_4 := n0.Time) (n1_5 := n0.Attr) (n1_6 := n0.Pages) (v57 := true) I H k
    · refine ldI_r (I.cell 1 1 rfl) ?_
      refine br_r H (fun hb H => ?_) (fun hb H => ?_)
      · exact carlingref21_May_K1_r (n1_0 := n0.Kind) (n1_1 := n0.Mode) (n1_2 := n0.Links) (n1_3 := n0.Size) (n1_4 := n0.Time) (n1_5 := n0.Attr) (n1_6 := n0.Pages) (v57 := true) I H k
      · refine ldI_r (I.cell 1 1 rfl) ?_
        refine br_r H (fun hb H => ?_) (fun hb H => ?_)
        · exact carlingref21_May_K1_r (n1_0 := n0.Kind) (n1_1 := n0.Mode) (n1_2 := n0.Links) (n1_3 := n0.Size) (n1_4 := n0.Time) (n1_5 := n0.Attr) (n1_6 := n0.Pages) (v57 := true) I H k
        · refine ldI_r (I.cell 2 2 rfl) ?_
          refine br_r H (fun hb H => ?_) (fun hb H => ?_)
          · exact carlingref21_May_K1_r (n1_0 := n0.Kind) (n1_1 := n0.Mode) (n1_2 := n0.Links) (n1_3 := n0.Size) (n1_4 := n0.Time) (n1_5 := n0.Attr) (n1_6 := n0.Pages) (v57 := true) I H k
          · refine ldI_r (I.cell 2 2 rfl) ?_
            refine br_r H (fun hb H => ?_) (fun hb H => ?_)
            · exact carlingref21_May_K1_r (n1_0 := n0.Kind) (n1_1 := n0.Mode) (n1_2 := n0.Links) (n1_3 := n0.Size) (n1_4 := n0.Time) (n1_5 := n0.Attr) (n1_6 := n0.Pages) (v57 := true) I H k
            · refine ldI_r (I.cell 3 3 rfl) ?_
              refine br_r H (fun hb H => ?_) (fun hb H => ?_)
              · exact carlingref21_May_K1_r (n1_0 := n0.Kind) (n1_1 := n0.Mode) (n1_2 := n0.Links) (n1_3 := n0.Size) (n1_4 := n0.Time) (n1_5 := n0.Attr) (n1_6 := n0.Pages) (v57 := true) I H k
              · refine ldI_r (I.cell 3 3 rfl) ?_
                refine br_r H (fun hb H => ?_) (fun hb H => ?_)
                · exact carlingref21_May_K1_r (n1_0 := n0.Kind) (n1_1 := n0.Mode) (n1_2 := n0.Links) (n1_3 := n0.Size) (n1_4 := n0.Time) (n1_5 := n0.Attr) (n1_6 := n0.Pages) (v57 := true) I H k
                · refine ldI_r (I.cell 4 4 rfl) ?_
                  refine br_r H (fun hb H => ?_) (fun hb H => ?_)
                  · exact carlingref21_May_K1_r (n1_0 := n0.Kind) (n1_1 := n0.Mode) (n1_2 := n0.Links) (n1_3 := n0.Size) (n1_4 := n0.Time) (n1_5 := n0.Attr) (n1_6 := n0.Pages) (v57 := true) I H k
                  · refine ldI_r (I.cell 5 5 rfl) ?_
                    refine br_r H (fun hb H => ?_) (fun hb H => ?_)
                    · exact carlingref21_May_K1_r (n1_0 := n0.Kind) (n1_1 := n0.Mode) (n1_2 := n0.Links) (n1_3 := n0.Size) (n1_4 := n0.Time) (n1_5 := n0.Attr) (n1_6 := n0.Pages) (v57 := true) I H k
                    · refine ldI_r (I.cell 5 5 rfl) ?_
                      exact carlingref21_May_K1_r (n1_0 := n0.Kind) (n1_1 := n0.Mode) (n1_2 := n0.Links) (n1_3 := n0.Size) (n1_4 := n0.Time) (n1_5 := n0.Attr) (n1_6 := n0.Pages) (v57 := (decide (n0.Attr ≥ (216 : Int)))) I H k

def carlingref21_low_B1 (S1 : Int → Int → (List Int) → Int → Prop) (Q : (List Int) → Prop) (n0 : Int) (size1 : Int) (out5 : List Int) (i6 : Int) : Prop :=
  br (decide (i6 < size1))
  ((0 ≤ (IntKind.wrap .i64 ((8 : Int) * i6))) ∧
  (Bnd (out5.length + ([(IntKind.wrap .u8 (Int.fdiv n0 (2 ^ (min (Int.toNat (IntKind.wrap .i64 ((8 : Int) * i6))) (IntKind.bits .u64)))))]).length)) ∧
  S1 n0 size1 (out5 ++ [(IntKind.wrap .u8 (Int.fdiv n0 (2 ^ (min (Int.toNat (IntKind.wrap .i64 ((8 : Int) * i6))) (IntKind.bits .u64)))))]) (IntKind.wrap .i64 (i6 + (1 : Int))))
  (Q out5)

def carlingref21_low_L1 (Q : (List Int) → Prop) (n0 : Int) (size1 : Int) (out5 : List Int) (i6 : Int) : Prop :=
  Lf (fun S (v : Int × Int × (List Int) × Int) => carlingref21_low_B1 (fun n0 size1 out5 i6 => S (n0, size1, out5, i6)) Q v.1 v.2.1 v.2.2.1 v.2.2.2) (n0, size1, out5, i6)

theorem carlingref21_low_L1_in (Q : (List Int) → Prop) (n0 : Int) (size1 : Int) (out5 : List Int) (i6 : Int) (H : carlingref21_low_B1 (carlingref21_low_L1 Q) Q n0 size1 out5 i6) : carlingref21_low_L1 Q n0 size1 out5 i6 := Lf.fold H

theorem carlingref21_low_B1_r {ρ : Ids} {h : Hp} {A : List At}  {n0 : Int} {size1 : Int} {out5 : List Int} {i6 : Int} {a_out50 : Option Addr} {n_out50 c_out50 : Nat} {Q' : (List Int) → Prop} {Q : Sl → Hp → Prop} {S1' : Int → Int → (List Int) → Int → Prop} {S1 : Int → Int → Sl → Int → Hp → Prop} (I : Inv h (ownS (rI .u8) a_out50 n_out50 c_out50 out5 :: A)) (H : carlingref21_low_B1 S1' Q' n0 size1 out5 i6) (kS1 : ∀ {n0 : Int} {size1 : Int} {out5 : List Int} {i6 : Int} {a_out50 : Option Addr} {n_out50 c_out50 : Nat} {h : Hp}, Inv h (ownS (rI .u8) a_out50 n_out50 c_out50 out5 :: A) → S1' n0 size1 out5 i6 → S1 n0 size1 ⟨a_out50, n_out50, c_out50⟩ i6 h)
    (k : ∀ (r0 : List Int) (ra0 : Option Addr) (rc0 : Nat) (h' : Hp), Inv h' (ownS (rI .u8) ra0 r0.length rc0 r0 :: A) → Q' r0 → Q ⟨ra0, r0.length, rc0⟩ h') : Tx.carlingref21_low_B1 ρ S1 Q n0 size1 ⟨a_out50, n_out50, c_out50⟩ i6 h := by
  obtain rfl := own_len I
  unfold Tx.carlingref21_low_B1
  unfold carlingref21_low_B1 at H
  refine br_r H (fun hb H => ?_) (fun hb H => ?_)
  · refine and_r H fun H => ?_
    refine al_r [.one (.int .u8 (IntKind.wrap .u8 (Int.fdiv n0 (2 ^ (min (Int.toNat (IntKind.wrap .i64 ((8 : Int) * i6))) (IntKind.bits .u64))))))] rfl I fun p_3 h I => ?_
    replace I := I.litN (rI .u8)
    replace I := I.repI (k := .u8) (IntKind.wrap .u8 (Int.fdiv n0 (2 ^ (min (Int.toNat (IntKind.wrap .i64 ((8 : Int) * i6))) (IntKind.bits .u64)))))
    replace I := I.pull1.pull1
    replace I := I.litC
    replace I := I.pull1.pull1
    replace I := Inv.litL (l := [(IntKind.wrap .u8 (Int.fdiv n0 (2 ^ (min (Int.toNat (IntKind.wrap .i64 ((8 : Int) * i6))) (IntKind.bits .u64)))))]) I rfl rfl
    refine ap_r rd_own I.pull1 rfl (by decide) (by decide) H.1 fun a_8 c_9 h I => ?_
    replace H := H.2
    replace I := I.pull1.drop1
    exact kS1 (n0 := n0) (size1 := size1) (out5 := (out5 ++ [(IntKind.wrap .u8 (Int.fdiv n0 (2 ^ (min (Int.toNat (IntKind.wrap .i64 ((8 : Int) * i6))) (IntKind.bits .u64)))))])) (i6 := (IntKind.wrap .i64 (i6 + (1 : Int)))) I H
  · exact k out5 a_out50 c_out50 _ I H

theorem carlingref21_low_L1_r {ρ : Ids} {h : Hp} {A : List At}  {n0 : Int} {size1 : Int} {out5 : List Int} {i6 : Int} {a_out50 : Option Addr} {n_out50 c_out50 : Nat} {Q' : (List Int) → Prop} {Q : Sl → Hp → Prop} (I : Inv h (ownS (rI .u8) a_out50 n_out50 c_out50 out5 :: A)) (H : carlingref21_low_L1 Q' n0 size1 out5 i6)
    (k : ∀ (r0 : List Int) (ra0 : Option Addr) (rc0 : Nat) (h' : Hp), Inv h' (ownS (rI .u8) ra0 r0.length rc0 r0 :: A) → Q' r0 → Q ⟨ra0, r0.length, rc0⟩ h') : Tx.carlingref21_low_L1 ρ Q n0 size1 ⟨a_out50, n_out50, c_out50⟩ i6 h := by
  refine Lf.ind H (fun v => ∀ (a_out50 : Option Addr) (n_out50 c_out50 : Nat) (h : Hp), Inv h (ownS (rI .u8) a_out50 n_out50 c_out50 v.2.2.1 :: A) → Tx.carlingref21_low_L1 ρ Q v.1 v.2.1 ⟨a_out50, n_out50, c_out50⟩ v.2.2.2 h) ?_ _ _ _ _  I
  rintro ⟨n0, size1, out5, i6⟩ S hS HB a_out50 n_out50 c_out50 h I
  refine Tx.carlingref21_low_L1_in _ _ _ _ _ _ _ ?_
  try simp only [nrm_v]
  exact carlingref21_low_B1_r (n0 := n0) (size1 := size1) (out5 := out5) (i6 := i6) I HB (fun {n0 size1 out5 i6 a_out50 n_out50 c_out50 h} I H => hS _ H a_out50 n_out50 c_out50 _ I) k

def carlingref21_low (n0 : Int) (size1 : Int) (Q : (List Int) → Prop) : Prop :=
  carlingref21_low_L1 Q n0 size1 ([] : List Int) (0 : Int)

theorem carlingref21_low_r {ρ : Ids} {h : Hp} {A : List At} {n0 : Int} {size1 : Int}  {Q' : (List Int) → Prop} {Q : Sl → Hp → Prop} (I : Inv h (A)) (H : carlingref21_low n0 size1 Q')
    (k : ∀ (r0 : List Int) (ra0 : Option Addr) (rc0 : Nat) (h' : Hp), Inv h' (ownS (rI .u8) ra0 r0.length rc0 r0 :: A) → Q' r0 → Q ⟨ra0, r0.length, rc0⟩ h') : Tx.carlingref21_low ρ n0 size1 h Q := by
  unfold Tx.carlingref21_low
  unfold carlingref21_low at H
  replace I := I.nilO (rI .u8)
  exact carlingref21_low_L1_r (n0 := n0) (size1 := size1) (out5 := ([] : List Int)) (i6 := (0 : Int)) I H k

def carlingref21_Lay_B1 (S1 : (List Int) → Prop) (Q : (List Int) → Int → Prop) (b4 : List Int) : Prop :=
  br (decide ((b4.length : Int) < (64 : Int)))
  ((Bnd (b4.length + ([(0 : Int)]).length)) ∧
  S1 (b4 ++ [(0 : Int)]))
  (Q b4 (0 : Int))

def carlingref21_Lay_L1 (Q : (List Int) → Int → Prop) (b4 : List Int) : Prop :=
  Lf (fun S (v : (List Int)) => carlingref21_Lay_B1 (fun b4 => S (b4)) Q v) (b4)

theorem carlingref21_Lay_L1_in (Q : (List Int) → Int → Prop) (b4 : List Int) (H : carlingref21_Lay_B1 (carlingref21_Lay_L1 Q) Q b4) : carlingref21_Lay_L1 Q b4 := Lf.fold H

theorem carlingref21_Lay_B1_r {ρ : Ids} {h : Hp} {A : List At}  {b4 : List Int} {a_b40 : Option Addr} {n_b40 c_b40 : Nat} {Q' : (List Int) → Int → Prop} {Q : Sl → Int → Hp → Prop} {S1' : (List Int) → Prop} {S1 : Sl → Hp → Prop} (I : Inv h (ownS (rI .u8) a_b40 n_b40 c_b40 b4 :: A)) (H : carlingref21_Lay_B1 S1' Q' b4) (kS1 : ∀ {b4 : List Int} {a_b40 : Option Addr} {n_b40 c_b40 : Nat} {h : Hp}, Inv h (ownS (rI .u8) a_b40 n_b40 c_b40 b4 :: A) → S1' b4 → S1 ⟨a_b40, n_b40, c_b40⟩ h)
    (k : ∀ (r0 : List Int) (ra0 : Option Addr) (rc0 : Nat) (r1 : Int) (h' : Hp), Inv h' (ownS (rI .u8) ra0 r0.length rc0 r0 :: A) → Q' r0 r1 → Q ⟨ra0, r0.length, rc0⟩ r1 h') : Tx.carlingref21_Lay_B1 ρ S1 Q ⟨a_b40, n_b40, c_b40⟩ h := by
  obtain rfl := own_len I
  unfold Tx.carlingref21_Lay_B1
  unfold carlingref21_Lay_B1 at H
  refine br_r H (fun hb H => ?_) (fun hb H => ?_)
  · refine al_r [.one (.int .u8 (0 : Int))] rfl I fun p_82 h I => ?_
    replace I := I.litN (rI .u8)
    replace I := I.repI (k := .u8) (0 : Int)
    replace I := I.pull1.pull1
    replace I := I.litC
    replace I := I.pull1.pull1
    replace I := Inv.litL (l := [(0 : Int)]) I rfl rfl
    refine ap_r rd_own I.pull1 rfl (by decide) (by decide) H.1 fun a_87 c_88 h I => ?_
    replace H := H.2
    replace I := I.pull1.drop1
    exact kS1 (b4 := (b4 ++ [(0 : Int)])) I H
  · exact k b4 a_b40 c_b40 (0 : Int) _ I H

theorem carlingref21_Lay_L1_r {ρ : Ids} {h : Hp} {A : List At}  {b4 : List Int} {a_b40 : Option Addr} {n_b40 c_b40 : Nat} {Q' : (List Int) → Int → Prop} {Q : Sl → Int → Hp → Prop} (I : Inv h (ownS (rI .u8) a_b40 n_b40 c_b40 b4 :: A)) (H : carlingref21_Lay_L1 Q' b4)
    (k : ∀ (r0 : List Int) (ra0 : Option Addr) (rc0 : Nat) (r1 : Int) (h' : Hp), Inv h' (ownS (rI .u8) ra0 r0.length rc0 r0 :: A) → Q' r0 r1 → Q ⟨ra0, r0.length, rc0⟩ r1 h') : Tx.carlingref21_Lay_L1 ρ Q ⟨a_b40, n_b40, c_b40⟩ h := by
  refine Lf.ind H (fun v => ∀ (a_b40 : Option Addr) (n_b40 c_b40 : Nat) (h : Hp), Inv h (ownS (rI .u8) a_b40 n_b40 c_b40 v :: A) → Tx.carlingref21_Lay_L1 ρ Q ⟨a_b40, n_b40, c_b40⟩ h) ?_ _ _ _ _  I
  rintro b4 S hS HB a_b40 n_b40 c_b40 h I
  refine Tx.carlingref21_Lay_L1_in _ _ _ _ ?_
  try simp only [nrm_v]
  exact carlingref21_Lay_B1_r (b4 := b4) I HB (fun {b4 a_b40 n_b40 c_b40 h} I H => hS _ H a_b40 n_b40 c_b40 _ I) k

def carlingref21_Lay (n0 : carlingref21_Inode) (Q : (List Int) → Int → Prop) : Prop :=
  carlingref21_May n0 fun r_3 =>
  br (!r_3)
  (Q ([] : List Int) (1 : Int))
  ((carlingref21_low (IntKind.wrap .u64 n0.Links) (2 : Int) fun r_11 =>
  (Bnd (([(IntKind.wrap .u8 n0.Kind), (IntKind.wrap .u8 n0.Mode)]).length + r_11.length)) ∧
  carlingref21_low (IntKind.wrap .u64 n0.Size) (4 : Int) fun r_18 =>
  (Bnd (([(IntKind.wrap .u8 n0.Kind), (IntKind.wrap .u8 n0.Mode)] ++ r_11).length + r_18.length)) ∧
  carlingref21_low (IntKind.wrap .u64 n0.Time) (8 : Int) fun r_25 =>
  (Bnd ((([(IntKind.wrap .u8 n0.Kind), (IntKind.wrap .u8 n0.Mode)] ++ r_11) ++ r_18).length + r_25.length)) ∧
  (Bnd (((([(IntKind.wrap .u8 n0.Kind), (IntKind.wrap .u8 n0.Mode)] ++ r_11) ++ r_18) ++ r_25).length + ([(IntKind.wrap .u8 n0.Attr)]).length)) ∧
  (Bnd ((((([(IntKind.wrap .u8 n0.Kind), (IntKind.wrap .u8 n0.Mode)] ++ r_11) ++ r_18) ++ r_25) ++ [(IntKind.wrap .u8 n0.Attr)]).length + n0.Pages.toList.length)) ∧
  carlingref21_Lay_L1 Q ((((([(IntKind.wrap .u8 n0.Kind), (IntKind.wrap .u8 n0.Mode)] ++ r_11) ++ r_18) ++ r_25) ++ [(IntKind.wrap .u8 n0.Attr)]) ++ n0.Pages.toList)) ∧
  (carlingref21_low (IntKind.wrap .u64 n0.Links) (2 : Int) fun r_43 =>
  (Bnd (([(IntKind.wrap .u8 n0.Kind), (IntKind.wrap .u8 n0.Mode)]).length + r_43.length)) ∧
  carlingref21_low (IntKind.wrap .u64 n0.Size) (4 : Int) fun r_56 =>
  (Bnd (([(IntKind.wrap .u8 n0.Kind), (IntKind.wrap .u8 n0.Mode)] ++ r_43).length + r_56.length)) ∧
  carlingref21_low (IntKind.wrap .u64 n0.Time) (8 : Int) fun r_63 =>
  (Bnd ((([(IntKind.wrap .u8 n0.Kind), (IntKind.wrap .u8 n0.Mode)] ++ r_43) ++ r_56).length + r_63.length)) ∧
  (Bnd (((([(IntKind.wrap .u8 n0.Kind), (IntKind.wrap .u8 n0.Mode)] ++ r_43) ++ r_56) ++ r_63).length + ([(IntKind.wrap .u8 n0.Attr)]).length)) ∧
  (Bnd ((((([(IntKind.wrap .u8 n0.Kind), (IntKind.wrap .u8 n0.Mode)] ++ r_43) ++ r_56) ++ r_63) ++ [(IntKind.wrap .u8 n0.Attr)]).length + n0.Pages.toList.length)) ∧
  carlingref21_Lay_L1 Q ((((([(IntKind.wrap .u8 n0.Kind), (IntKind.wrap .u8 n0.Mode)] ++ r_43) ++ r_56) ++ r_63) ++ [(IntKind.wrap .u8 n0.Attr)]) ++ n0.Pages.toList)))

theorem carlingref21_Lay_r {ρ : Ids} {h : Hp} {A : List At} {n0 : carlingref21_Inode}  {Q' : (List Int) → Int → Prop} {Q : Sl → Int → Hp → Prop} (I : Inv h (A)) (H : carlingref21_Lay n0 Q')
    (k : ∀ (r0 : List Int) (ra0 : Option Addr) (rc0 : Nat) (r1 : Int) (h' : Hp), Inv h' (ownS (rI .u8) ra0 r0.length rc0 r0 :: A) → Q' r0 r1 → Q ⟨ra0, r0.length, rc0⟩ r1 h') : Tx.carlingref21_Lay ρ n0.Kind n0.Mode n0.Links n0.Size n0.Time n0.Attr n0.Pages.toList h Q := by
  unfold Tx.carlingref21_Lay
  unfold carlingref21_Lay at H
  try simp only [nrm_v]
  refine al_r [.one (.int .i64 n0.Kind), .one (.int .i64 n0.Mode), .one (.int .i64 n0.Links), .one (.int .i64 n0.Size), .one (.int .i64 n0.Time), .one (.int .i64 n0.Attr), .vec .u8 32 n0.Pages] rfl I fun p_1 h I => ?_
  refine ldI_r (I.cell 0 0 rfl) ?_
  refine ldI_r (I.cell 1 1 rfl) ?_
  refine ldI_r (I.cell 2 2 rfl) ?_
  refine ldI_r (I.cell 3 3 rfl) ?_
  refine ldI_r (I.cell 4 4 rfl) ?_
  refine ldI_r (I.cell 5 5 rfl) ?_
  refine ldL_r (I.lump 6 6 rfl) ?_
  try simp only [nrm_v]
  try simp only [nrm_v]
  refine carlingref21_May_r (n0 := n0) I H fun r_3 h I H => ?_
  refine br_r H (fun hb H => ?_) (fun hb H => ?_)
  · replace I := I.nilO (rI .u8)
    replace I := I.pull1.drop1
    exact k ([] : List Int) none 0 (1 : Int) _ I H
  · refine ldI_r (I.cell 0 0 rfl) ?_
    refine ldI_r (I.cell 1 1 rfl) ?_
    refine ldI_r (I.cell 2 2 rfl) ?_
    refine and2_r H (fun H => ?_) (fun H => ?_)
    · refine al_r [.one (.int .u8 (IntKind.wrap .u8 n0.Kind)), .one (.int .u8 (IntKind.wrap .u8 n0.Mode))] rfl I fun p_5 h I => ?_
      replace I := I.litN (rI .u8)
      replace I := I.repI (k := .u8) (IntKind.wrap .u8 n0.Mode)
      replace I := I.pull1.pull1
      replace I := I.litC
      replace I := I.repI (k := .u8) (IntKind.wrap .u8 n0.Kind)
      replace I := I.pull1.pull1
      replace I := I.litC
      replace I := I.pull1.pull1
      replace I := Inv.litL (l := [(IntKind.wrap .u8 n0.Kind), (IntKind.wrap .u8 n0.Mode)]) I rfl rfl
      refine ⟨trivial, ?_⟩
      refine ⟨I.pull1.cell 2 2 rfl, ?_⟩
      refine carlingref21_low_r (n0 := (IntKind.wrap .u64 n0.Links)) (size1 := (2 : Int)) I H fun r_11 a_12 c_13 h I H => ?_
      refine ap_r rd_own I.pull1 rfl (by decide) (by decide) H.1 fun a_15 c_16 h I => ?_
      replace H := H.2
      refine ldI_r (I.pull2.cell 3 3 rfl) ?_
      refine ldI_r (I.pull2.cell 4 4 rfl) ?_
      refine carlingref21_low_r (n0 := (IntKind.wrap .u64 n0.Size)) (size1 := (4 : Int)) I H fun r_18 a_19 c_20 h I H => ?_
      refine ⟨trivial, ?_⟩
      refine ⟨I.pull3.cell 4 4 rfl, ?_⟩
      refine ap_r rd_own I.pull1 rfl (by decide) (by decide) H.1 fun a_22 c_23 h I => ?_
      replace H := H.2
      refine ⟨trivial, ?_⟩
      refine ⟨I.pull3.cell 4 4 rfl, ?_⟩
      refine carlingref21_low_r (n0 := (IntKind.wrap .u64 n0.Time)) (size1 := (8 : Int)) I H fun r_25 a_26 c_27 h I H => ?_
      refine ap_r rd_own I.pull1 rfl (by decide) (by decide) H.1 fun a_29 c_30 h I => ?_
      replace H := H.2
      refine ldI_r (I.pull4.cell 5 5 rfl) ?_
      refine sl_full ?_
      refine al_r [.one (.int .u8 (IntKind.wrap .u8 n0.Attr))] rfl I fun p_32 h I => ?_
      replace I := I.litN (rI .u8)
      replace I := I.repI (k := .u8) (IntKind.wrap .u8 n0.Attr)
      replace I := I.pull1.pull1
      replace I := I.litC
      replace I := I.pull1.pull1
      replace I := Inv.litL (l := [(IntKind.wrap .u8 n0.Attr)]) I rfl rfl
      refine ap_r rd_own I.pull1 rfl (by decide) (by decide) H.1 fun a_37 c_38 h I => ?_
      replace H := H.2
      replace I := I.pull1.drop1
      refine ap_r (rd_vec (j := 6) (off := 6) rfl) I.pull4.pull1 rfl (by decide) (by decide) H.1 fun a_40 c_41 h I => ?_
      replace H := H.2
      replace I := I.pull1.drop1
      replace I := I.pull1.drop1
      replace I := I.pull1.drop1
      replace I := I.pull1.drop1
      exact carlingref21_Lay_L1_r (b4 := ((((([(IntKind.wrap .u8 n0.Kind), (IntKind.wrap .u8 n0.Mode)] ++ r_11) ++ r_18) ++ r_25) ++ [(IntKind.wrap .u8 n0.Attr)]) ++ n0.Pages.toList)) I H k
    · refine carlingref21_low_r (n0 := (IntKind.wrap .u64 n0.Links)) (size1 := (2 : Int)) I H fun r_43 a_44 c_45 h I H => ?_
      refine ⟨trivial, ?_⟩
      refine ⟨I.pull1.cell 1 1 rfl, ?_⟩
      refine ⟨trivial, ?_⟩
      refine ⟨I.pull1.cell 0 0 rfl, ?_⟩
      refine al_r [.one (.int .u8 (IntKind.wrap .u8 n0.Kind)), .one (.int .u8 (IntKind.wrap .u8 n0.Mode))] rfl I fun p_47 h I => ?_
      replace I := I.litN (rI .u8)
      replace I := I.repI (k := .u8) (IntKind.wrap .u8 n0.Mode)
      replace I := I.pull1.pull1
      replace I := I.litC
      replace I := I.repI (k := .u8) (IntKind.wrap .u8 n0.Kind)
      replace I := I.pull1.pull1
      replace I := I.litC
      replace I := I.pull1.pull1
      replace I := Inv.litL (l := [(IntKind.wrap .u8 n0.Kind), (IntKind.wrap .u8 n0.Mode)]) I rfl rfl
      refine ap_r rd_own I.pull1.pull1 rfl (by decide) (by decide) H.1 fun a_53 c_54 h I => ?_
      replace H := H.2
      refine ldI_r (I.pull2.cell 3 3 rfl) ?_
      refine ldI_r (I.pull2.cell 4 4 rfl) ?_
      refine carlingref21_low_r (n0 := (IntKind.wrap .u64 n0.Size)) (size1 := (4 : Int)) I H fun r_56 a_57 c_58 h I H => ?_
      refine ⟨trivial, ?_⟩
      refine ⟨I.pull3.cell 4 4 rfl, ?_⟩
      refine ap_r rd_own I.pull1 rfl (by decide) (by decide) H.1 fun a_60 c_61 h I => ?_
      replace H := H.2
      refine ⟨trivial, ?_⟩
      refine ⟨I.pull3.cell 4 4 rfl, ?_⟩
      refine carlingref21_low_r (n0 := (IntKind.wrap .u64 n0.Time)) (size1 := (8 : Int)) I H fun r_63 a_64 c_65 h I H => ?_
      refine ap_r rd_own I.pull1 rfl (by decide) (by decide) H.1 fun a_67 c_68 h I => ?_
      replace H := H.2
      refine ldI_r (I.pull4.cell 5 5 rfl) ?_
      refine sl_full ?_
      refine al_r [.one (.int .u8 (IntKind.wrap .u8 n0.Attr))] rfl I fun p_70 h I => ?_
      replace I := I.litN (rI .u8)
      replace I := I.repI (k := .u8) (IntKind.wrap .u8 n0.Attr)
      replace I := I.pull1.pull1
      replace I := I.litC
      replace I := I.pull1.pull1
      replace I := Inv.litL (l := [(IntKind.wrap .u8 n0.Attr)]) I rfl rfl
      refine ap_r rd_own I.pull1 rfl (by decide) (by decide) H.1 fun a_75 c_76 h I => ?_
      replace H := H.2
      replace I := I.pull1.drop1
      refine ap_r (rd_vec (j := 6) (off := 6) rfl) I.pull4.pull1 rfl (by decide) (by decide) H.1 fun a_78 c_79 h I => ?_
      replace H := H.2
      replace I := I.pull1.drop1
      replace I := I.pull1.drop1
      replace I := I.pull1.drop1
      replace I := I.pull1.drop1
      exact carlingref21_Lay_L1_r (b4 := ((((([(IntKind.wrap .u8 n0.Kind), (IntKind.wrap .u8 n0.Mode)] ++ r_43) ++ r_56) ++ r_63) ++ [(IntKind.wrap .u8 n0.Attr)]) ++ n0.Pages.toList)) I H k

def carlingref21_Parse_K4 (S2 : (List Int) → Int → Int → Int → Int → Int → Int → (Vector Int 32) → Int → Int → Int → Int → Int → Int → (Vector Int 32) → (List Int) → Int → Int → Prop) (Q : carlingref21_Inode → Int → Prop) (b0 : List Int) (v2_0 : Int) (v2_1 : Int) (v2_2 : Int) (v2_3 : Int) (v2_4 : Int) (v2_5 : Int) (v2_6 : Vector Int 32) (n4_0 : Int) (n4_1 : Int) (n4_2 : Int) (n4_3 : Int) (n4_4 : Int) (n4_5 : Int) (n4_6 : Vector Int 32) (x6 : List Int) (e7 : Int) (i8 : Int) : Prop :=
  S2 b0 v2_0 v2_1 v2_2 v2_3 v2_4 v2_5 v2_6 n4_0 n4_1 n4_2 n4_3 n4_4 n4_5 n4_6 x6 e7 (IntKind.wrap .i64 (i8 + (1 : Int)))

theorem carlingref21_Parse_K4_r {ρ : Ids} {h : Hp} {A : List At} {X_b0 : At} {b0 : List Int} {v2_0 : Int} {v2_1 : Int} {v2_2 : Int} {v2_3 : Int} {v2_4 : Int} {v2_5 : Int} {v2_6 : Vector Int 32} {n4_0 : Int} {n4_1 : Int} {n4_2 : Int} {n4_3 : Int} {n4_4 : Int} {n4_5 : Int} {n4_6 : Vector Int 32} {x6 : List Int} {e7 : Int} {i8 : Int} {a_b0 : Option Addr} {n_b0 c_b0 : Nat} {p_v2 : Addr} {p_n4 : Addr} {a_x63 : Option Addr} {n_x63 c_x63 : Nat} {Q' : carlingref21_Inode → Int → Prop} {Q : Int → Int → Int → Int → Int → Int → List Int → Int → Hp → Prop} {S2' : (List Int) → Int → Int → Int → Int → Int → Int → (Vector Int 32) → Int → Int → Int → Int → Int → Int → (Vector Int 32) → (List Int) → Int → Int → Prop} {S2 : Sl → Addr → Addr → Sl → Int → Int → Hp → Prop} (hX_b0 : Rd (rI .u8) X_b0 a_b0 n_b0 c_b0 b0) (I : Inv h (X_b0 :: blk p_v2 (ρ.T 9) [.one (.int .i64 v2_0), .one (.int .i64 v2_1), .one (.int .i64 v2_2), .one (.int .i64 v2_3), .one (.int .i64 v2_4), .one (.int .i64 v2_5), .vec .u8 32 v2_6] :: blk p_n4 (ρ.T 9) [.one (.int .i64 n4_0), .one (.int .i64 n4_1), .one (.int .i64 n4_2), .one (.int .i64 n4_3), .one (.int .i64 n4_4), .one (.int .i64 n4_5), .vec .u8 32 n4_6] :: ownS (rI .u8) a_x63 n_x63 c_x63 x6 :: A)) (H : carlingref21_Parse_K4 S2' Q' b0 v2_0 v2_1 v2_2 v2_3 v2_4 v2_5 v2_6 n4_0 n4_1 n4_2 n4_3 n4_4 n4_5 n4_6 x6 e7 i8) (kS2 : ∀ {b0 : List Int} {v2_0 : Int} {v2_1 : Int} {v2_2 : Int} {v2_3 : Int} {v2_4 : Int} {v2_5 : Int} {v2_6 : Vector Int 32} {n4_0 : Int} {n4_1 : Int} {n4_2 : Int} {n4_3 : Int} {n4_4 : Int} {n4_5 : Int} {n4_6 : Vector Int 32} {x6 : List Int} {e7 : Int} {i8 : Int} {a_b0 : Option Addr} {n_b0 c_b0 : Nat} {p_v2 : Addr} {p_n4 : Addr} {a_x63 : Option Addr} {n_x63 c_x63 : Nat} {h : Hp} (hX_b0 : Rd (rI .u8) X_b0 a_b0 n_b0 c_b0 b0), Inv h (X_b0 :: blk p_v2 (ρ.T 9) [.one (.int .i64 v2_0), .one (.int .i64 v2_1), .one (.int .i64 v2_2), .one (.int .i64 v2_3), .one (.int .i64 v2_4), .one (.int .i64 v2_5), .vec .u8 32 v2_6] :: blk p_n4 (ρ.T 9) [.one (.int .i64 n4_0), .one (.int .i64 n4_1), .one (.int .i64 n4_2), .one (.int .i64 n4_3), .one (.int .i64 n4_4), .one (.int .i64 n4_5), .vec .u8 32 n4_6] :: ownS (rI .u8) a_x63 n_x63 c_x63 x6 :: A) → S2' b0 v2_0 v2_1 v2_2 v2_3 v2_4 v2_5 v2_6 n4_0 n4_1 n4_2 n4_3 n4_4 n4_5 n4_6 x6 e7 i8 → S2 ⟨a_b0, n_b0, c_b0⟩ p_v2 p_n4 ⟨a_x63, n_x63, c_x63⟩ e7 i8 h)
    (k : ∀ (r0 : carlingref21_Inode) (r1 : Int) (h' : Hp), Inv h' (X_b0 :: A) → Q' r0 r1 → Q r0.Kind r0.Mode r0.Links r0.Size r0.Time r0.Attr r0.Pages.toList r1 h') : Tx.carlingref21_Parse_K4 ρ S2 Q ⟨a_b0, n_b0, c_b0⟩ p_v2 p_n4 ⟨a_x63, n_x63, c_x63⟩ e7 i8 h := by
  obtain rfl := rd_len hX_b0 I
  obtain rfl := own_len I.pull3
  unfold Tx.carlingref21_Parse_K4
  unfold carlingref21_Parse_K4 at H
  replace I := I.pull3.pull3.pull3.pull3
  exact kS2 (b0 := b0) (v2_0 := v2_0) (v2_1 := v2_1) (v2_2 := v2_2) (v2_3 := v2_3) (v2_4 := v2_4) (v2_5 := v2_5) (v2_6 := v2_6) (n4_0 := n4_0) (n4_1 := n4_1) (n4_2 := n4_2) (n4_3 := n4_3) (n4_4 := n4_4) (n4_5 := n4_5) (n4_6 := n4_6) (x6 := x6) (e7 := e7) (i8 := (IntKind.wrap .i64 (i8 + (1 : Int)))) hX_b0 I H

def carlingref21_Parse_K3 (S2 : (List Int) → Int → Int → Int → Int → Int → Int → (Vector Int 32) → Int → Int → Int → Int → Int → Int → (Vector Int 32) → (List Int) → Int → Int → Prop) (Q : carlingref21_Inode → Int → Prop) (b0 : List Int) (v2_0 : Int) (v2_1 : Int) (v2_2 : Int) (v2_3 : Int) (v2_4 : Int) (v2_5 : Int) (v2_6 : Vector Int 32) (n4_0 : Int) (n4_1 : Int) (n4_2 : Int) (n4_3 : Int) (n4_4 : Int) (n4_5 : Int) (n4_6 : Vector Int 32) (x6 : List Int) (e7 : Int) (i8 : Int) (v60 : Bool) : Prop :=
  br v60
  (ixP x6 i8 fun x_76 =>
  ixP b0 i8 fun x_82 =>
  br (x_76 != x_82)
  (carlingref21_Parse_K4 S2 Q b0 v2_0 v2_1 v2_2 v2_3 v2_4 v2_5 v2_6 n4_0 n4_1 n4_2 n4_3 n4_4 n4_5 n4_6 x6 (9 : Int) i8)
  (carlingref21_Parse_K4 S2 Q b0 v2_0 v2_1 v2_2 v2_3 v2_4 v2_5 v2_6 n4_0 n4_1 n4_2 n4_3 n4_4 n4_5 n4_6 x6 e7 i8))
  (br (e7 != (0 : Int))
  (Q (⟨(0 : Int), (0 : Int), (0 : Int), (0 : Int), (0 : Int), (0 : Int), (Vector.replicate 32 (0 : Int))⟩ : carlingref21_Inode) (9 : Int))
  (Q (⟨n4_0, n4_1, n4_2, n4_3, n4_4, n4_5, n4_6⟩ : carlingref21_Inode) (0 : Int)))

theorem carlingref21_Parse_K3_r {ρ : Ids} {h : Hp} {A : List At} {X_b0 : At} {b0 : List Int} {v2_0 : Int} {v2_1 : Int} {v2_2 : Int} {v2_3 : Int} {v2_4 : Int} {v2_5 : Int} {v2_6 : Vector Int 32} {n4_0 : Int} {n4_1 : Int} {n4_2 : Int} {n4_3 : Int} {n4_4 : Int} {n4_5 : Int} {n4_6 : Vector Int 32} {x6 : List Int} {e7 : Int} {i8 : Int} {v60 : Bool} {a_b0 : Option Addr} {n_b0 c_b0 : Nat} {p_v2 : Addr} {p_n4 : Addr} {a_x63 : Option Addr} {n_x63 c_x63 : Nat} {Q' : carlingref21_Inode → Int → Prop} {Q : Int → Int → Int → Int → Int → Int → List Int → Int → Hp → Prop} {S2' : (List Int) → Int → Int → Int → Int → Int → Int → (Vector Int 32) → Int → Int → Int → Int → Int → Int → (Vector Int 32) → (List Int) → Int → Int → Prop} {S2 : Sl → Addr → Addr → Sl → Int → Int → Hp → Prop} (hX_b0 : Rd (rI .u8) X_b0 a_b0 n_b0 c_b0 b0) (I : Inv h (X_b0 :: blk p_v2 (ρ.T 9) [.one (.int .i64 v2_0), .one (.int .i64 v2_1), .one (.int .i64 v2_2), .one (.int .i64 v2_3), .one (.int .i64 v2_4), .one (.int .i64 v2_5), .vec .u8 32 v2_6] :: blk p_n4 (ρ.T 9) [.one (.int .i64 n4_0), .one (.int .i64 n4_1), .one (.int .i64 n4_2), .one (.int .i64 n4_3), .one (.int .i64 n4_4), .one (.int .i64 n4_5), .vec .u8 32 n4_6] :: ownS (rI .u8) a_x63 n_x63 c_x63 x6 :: A)) (H : carlingref21_Parse_K3 S2' Q' b0 v2_0 v2_1 v2_2 v2_3 v2_4 v2_5 v2_6 n4_0 n4_1 n4_2 n4_3 n4_4 n4_5 n4_6 x6 e7 i8 v60) (kS2 : ∀ {b0 : List Int} {v2_0 : Int} {v2_1 : Int} {v2_2 : Int} {v2_3 : Int} {v2_4 : Int} {v2_5 : Int} {v2_6 : Vector Int 32} {n4_0 : Int} {n4_1 : Int} {n4_2 : Int} {n4_3 : Int} {n4_4 : Int} {n4_5 : Int} {n4_6 : Vector Int 32} {x6 : List Int} {e7 : Int} {i8 : Int} {a_b0 : Option Addr} {n_b0 c_b0 : Nat} {p_v2 : Addr} {p_n4 : Addr} {a_x63 : Option Addr} {n_x63 c_x63 : Nat} {h : Hp} (hX_b0 : Rd (rI .u8) X_b0 a_b0 n_b0 c_b0 b0), Inv h (X_b0 :: blk p_v2 (ρ.T 9) [.one (.int .i64 v2_0), .one (.int .i64 v2_1), .one (.int .i64 v2_2), .one (.int .i64 v2_3), .one (.int .i64 v2_4), .one (.int .i64 v2_5), .vec .u8 32 v2_6] :: blk p_n4 (ρ.T 9) [.one (.int .i64 n4_0), .one (.int .i64 n4_1), .one (.int .i64 n4_2), .one (.int .i64 n4_3), .one (.int .i64 n4_4), .one (.int .i64 n4_5), .vec .u8 32 n4_6] :: ownS (rI .u8) a_x63 n_x63 c_x63 x6 :: A) → S2' b0 v2_0 v2_1 v2_2 v2_3 v2_4 v2_5 v2_6 n4_0 n4_1 n4_2 n4_3 n4_4 n4_5 n4_6 x6 e7 i8 → S2 ⟨a_b0, n_b0, c_b0⟩ p_v2 p_n4 ⟨a_x63, n_x63, c_x63⟩ e7 i8 h)
    (k : ∀ (r0 : carlingref21_Inode) (r1 : Int) (h' : Hp), Inv h' (X_b0 :: A) → Q' r0 r1 → Q r0.Kind r0.Mode r0.Links r0.Size r0.Time r0.Attr r0.Pages.toList r1 h') : Tx.carlingref21_Parse_K3 ρ S2 Q ⟨a_b0, n_b0, c_b0⟩ p_v2 p_n4 ⟨a_x63, n_x63, c_x63⟩ e7 i8 v60 h := by
  obtain rfl := rd_len hX_b0 I
  obtain rfl := own_len I.pull3
  unfold Tx.carlingref21_Parse_K3
  unfold carlingref21_Parse_K3 at H
  refine br_r H (fun hb H => ?_) (fun hb H => ?_)
  · refine ixI_a rd_own I.pull3 (ixP_keep H) fun p_77 x_76 he_78 hb_79 hc_80 H => ?_
    obtain ⟨hg_81, H⟩ := H
    refine ldI_r hc_80 ?_
    refine ixI_a hX_b0 I (ixP_keep H) fun p_83 x_82 he_84 hb_85 hc_86 H => ?_
    obtain ⟨hg_87, H⟩ := H
    refine ldI_r hc_86 ?_
    refine br_r H (fun hb H => ?_) (fun hb H => ?_)
    · replace I := I.pull3.pull3.pull3.pull3
      exact carlingref21_Parse_K4_r (b0 := b0) (v2_0 := v2_0) (v2_1 := v2_1) (v2_2 := v2_2) (v2_3 := v2_3) (v2_4 := v2_4) (v2_5 := v2_5) (v2_6 := v2_6) (n4_0 := n4_0) (n4_1 := n4_1) (n4_2 := n4_2) (n4_3 := n4_3) (n4_4 := n4_4) (n4_5 := n4_5) (n4_6 := n4_6) (x6 := x6) (e7 := (9 : Int)) (i8 := i8) hX_b0 I H kS2 k
    · replace I := I.pull3.pull3.pull3.pull3
      exact carlingref21_Parse_K4_r (b0 := b0) (v2_0 := v2_0) (v2_1 := v2_1) (v2_2 := v2_2) (v2_3 := v2_3) (v2_4 := v2_4) (v2_5 := v2_5) (v2_6 := v2_6) (n4_0 := n4_0) (n4_1 := n4_1) (n4_2 := n4_2) (n4_3 := n4_3) (n4_4 := n4_4) (n4_5 := n4_5) (n4_6 := n4_6) (x6 := x6) (e7 := e7) (i8 := i8) hX_b0 I H kS2 k
  · refine br_r H (fun hb H => ?_) (fun hb H => ?_)
    · refine stA_r I.pull1 0 7 0 [.one (.int .i64 (0 : Int)), .one (.int .i64 (0 : Int)), .one (.int .i64 (0 : Int)), .one (.int .i64 (0 : Int)), .one (.int .i64 (0 : Int)), .one (.int .i64 (0 : Int)), .vec .u8 32 (Vector.replicate 32 (0 : Int))] rfl rfl rfl (by first | exact all_segs rfl | exact all_one (by simp [segs, Seg.cells, allOne, allOne_append, allOne_lump, Value.oneCell'])) fun h (I : Inv h (blk p_v2 (ρ.T 9) [.one (.int .i64 (0 : Int)), .one (.int .i64 (0 : Int)), .one (.int .i64 (0 : Int)), .one (.int .i64 (0 : Int)), .one (.int .i64 (0 : Int)), .one (.int .i64 (0 : Int)), .vec .u8 32 (Vector.replicate 32 (0 : Int))] :: _)) => ?_
      refine ldI_r (I.cell 0 0 rfl) ?_
      refine ldI_r (I.cell 1 1 rfl) ?_
      refine ldI_r (I.cell 2 2 rfl) ?_
      refine ldI_r (I.cell 3 3 rfl) ?_
      refine ldI_r (I.cell 4 4 rfl) ?_
      refine ldI_r (I.cell 5 5 rfl) ?_
      refine ldL_r (I.lump 6 6 rfl) ?_
      try simp only [nrm_v]
      replace I := I.drop1
      replace I := I.pull1.drop1
      replace I := I.pull1.drop1
      exact k (⟨(0 : Int), (0 : Int), (0 : Int), (0 : Int), (0 : Int), (0 : Int), (Vector.replicate 32 (0 : Int))⟩ : carlingref21_Inode) (9 : Int) _ I H
    · refine ldI_r (I.pull2.cell 0 0 rfl) ?_
      refine ldI_r (I.pull2.cell 1 1 rfl) ?_
      refine ldI_r (I.pull2.cell 2 2 rfl) ?_
      refine ldI_r (I.pull2.cell 3 3 rfl) ?_
      refine ldI_r (I.pull2.cell 4 4 rfl) ?_
      refine ldI_r (I.pull2.cell 5 5 rfl) ?_
      refine ldL_r (I.pull2.lump 6 6 rfl) ?_
      try simp only [nrm_v]
      refine stA_r I.pull1 0 7 0 [.one (.int .i64 n4_0), .one (.int .i64 n4_1), .one (.int .i64 n4_2), .one (.int .i64 n4_3), .one (.int .i64 n4_4), .one (.int .i64 n4_5), .vec .u8 32 n4_6] rfl rfl rfl (by first | exact all_segs rfl | exact all_one (by simp [segs, Seg.cells, allOne, allOne_append, allOne_lump, Value.oneCell'])) fun h (I : Inv h (blk p_v2 (ρ.T 9) [.one (.int .i64 n4_0), .one (.int .i64 n4_1), .one (.int .i64 n4_2), .one (.int .i64 n4_3), .one (.int .i64 n4_4), .one (.int .i64 n4_5), .vec .u8 32 n4_6] :: _)) => ?_
      refine ldI_r (I.cell 0 0 rfl) ?_
      refine ldI_r (I.cell 1 1 rfl) ?_
      refine ldI_r (I.cell 2 2 rfl) ?_
      refine ldI_r (I.cell 3 3 rfl) ?_
      refine ldI_r (I.cell 4 4 rfl) ?_
      refine ldI_r (I.cell 5 5 rfl) ?_
      refine ldL_r (I.lump 6 6 rfl) ?_
      try simp only [nrm_v]
      replace I := I.drop1
      replace I := I.pull1.drop1
      replace I := I.pull1.drop1
      exact k (⟨n4_0, n4_1, n4_2, n4_3, n4_4, n4_5, n4_6⟩ : carlingref21_Inode) (0 : Int) _ I H

def carlingref21_Parse_B2 (S2 : (List Int) → Int → Int → Int → Int → Int → Int → (Vector Int 32) → Int → Int → Int → Int → Int → Int → (Vector Int 32) → (List Int) → Int → Int → Prop) (Q : carlingref21_Inode → Int → Prop) (b0 : List Int) (v2_0 : Int) (v2_1 : Int) (v2_2 : Int) (v2_3 : Int) (v2_4 : Int) (v2_5 : Int) (v2_6 : Vector Int 32) (n4_0 : Int) (n4_1 : Int) (n4_2 : Int) (n4_3 : Int) (n4_4 : Int) (n4_5 : Int) (n4_6 : Vector Int 32) (x6 : List Int) (e7 : Int) (i8 : Int) : Prop :=
  br (e7 == (0 : Int))
  (carlingref21_Parse_K3 S2 Q b0 v2_0 v2_1 v2_2 v2_3 v2_4 v2_5 v2_6 n4_0 n4_1 n4_2 n4_3 n4_4 n4_5 n4_6 x6 e7 i8 (decide (i8 < (64 : Int))))
  (carlingref21_Parse_K3 S2 Q b0 v2_0 v2_1 v2_2 v2_3 v2_4 v2_5 v2_6 n4_0 n4_1 n4_2 n4_3 n4_4 n4_5 n4_6 x6 e7 i8 false)

def carlingref21_Parse_L2 (Q : carlingref21_Inode → Int → Prop) (b0 : List Int) (v2_0 : Int) (v2_1 : Int) (v2_2 : Int) (v2_3 : Int) (v2_4 : Int) (v2_5 : Int) (v2_6 : Vector Int 32) (n4_0 : Int) (n4_1 : Int) (n4_2 : Int) (n4_3 : Int) (n4_4 : Int) (n4_5 : Int) (n4_6 : Vector Int 32) (x6 : List Int) (e7 : Int) (i8 : Int) : Prop :=
  Lf (fun S (v : (List Int) × Int × Int × Int × Int × Int × Int × (Vector Int 32) × Int × Int × Int × Int × Int × Int × (Vector Int 32) × (List Int) × Int × Int) => carlingref21_Parse_B2 (fun b0 v2_0 v2_1 v2_2 v2_3 v2_4 v2_5 v2_6 n4_0 n4_1 n4_2 n4_3 n4_4 n4_5 n4_6 x6 e7 i8 => S (b0, v2_0, v2_1, v2_2, v2_3, v2_4, v2_5, v2_6, n4_0, n4_1, n4_2, n4_3, n4_4, n4_5, n4_6, x6, e7, i8)) Q v.1 v.2.1 v.2.2.1 v.2.2.2.1 v.2.2.2.2.1 v.2.2.2.2.2.1 v.2.2.2.2.2.2.1 v.2.2.2.2.2.2.2.1 v.2.2.2.2.2.2.2.2.1 v.2.2.2.2.2.2.2.2.2.1 v.2.2.2.2.2.2.2.2.2.2.1 v.2.2.2.2.2.2.2.2.2.2.2.1 v.2.2.2.2.2.2.2.2.2.2.2.2.1 v.2.2.2.2.2.2.2.2.2.2.2.2.2.1 v.2.2.2.2.2.2.2.2.2.2.2.2.2.2.1 v.2.2.2.2.2.2.2.2.2.2.2.2.2.2.2.1 v.2.2.2.2.2.2.2.2.2.2.2.2.2.2.2.2.1 v.2.2.2.2.2.2.2.2.2.2.2.2.2.2.2.2.2) (b0, v2_0, v2_1, v2_2, v2_3, v2_4, v2_5, v2_6, n4_0, n4_1, n4_2, n4_3, n4_4, n4_5, n4_6, x6, e7, i8)

theorem carlingref21_Parse_L2_in (Q : carlingref21_Inode → Int → Prop) (b0 : List Int) (v2_0 : Int) (v2_1 : Int) (v2_2 : Int) (v2_3 : Int) (v2_4 : Int) (v2_5 : Int) (v2_6 : Vector Int 32) (n4_0 : Int) (n4_1 : Int) (n4_2 : Int) (n4_3 : Int) (n4_4 : Int) (n4_5 : Int) (n4_6 : Vector Int 32) (x6 : List Int) (e7 : Int) (i8 : Int) (H : carlingref21_Parse_B2 (carlingref21_Parse_L2 Q) Q b0 v2_0 v2_1 v2_2 v2_3 v2_4 v2_5 v2_6 n4_0 n4_1 n4_2 n4_3 n4_4 n4_5 n4_6 x6 e7 i8) : carlingref21_Parse_L2 Q b0 v2_0 v2_1 v2_2 v2_3 v2_4 v2_5 v2_6 n4_0 n4_1 n4_2 n4_3 n4_4 n4_5 n4_6 x6 e7 i8 := Lf.fold H

theorem carlingref21_Parse_B2_r {ρ : Ids} {h : Hp} {A : List At} {X_b0 : At} {b0 : List Int} {v2_0 : Int} {v2_1 : Int} {v2_2 : Int} {v2_3 : Int} {v2_4 : Int} {v2_5 : Int} {v2_6 : Vector Int 32} {n4_0 : Int} {n4_1 : Int} {n4_2 : Int} {n4_3 : Int} {n4_4 : Int} {n4_5 : Int} {n4_6 : Vector Int 32} {x6 : List Int} {e7 : Int} {i8 : Int} {a_b0 : Option Addr} {n_b0 c_b0 : Nat} {p_v2 : Addr} {p_n4 : Addr} {a_x63 : Option Addr} {n_x63 c_x63 : Nat} {Q' : carlingref21_Inode → Int → Prop} {Q : Int → Int → Int → Int → Int → Int → List Int → Int → Hp → Prop} {S2' : (List Int) → Int → Int → Int → Int → Int → Int → (Vector Int 32) → Int → Int → Int → Int → Int → Int → (Vector Int 32) → (List Int) → Int → Int → Prop} {S2 : Sl → Addr → Addr → Sl → Int → Int → Hp → Prop} (hX_b0 : Rd (rI .u8) X_b0 a_b0 n_b0 c_b0 b0) (I : Inv h (X_b0 :: blk p_v2 (ρ.T 9) [.one (.int .i64 v2_0), .one (.int .i64 v2_1), .one (.int .i64 v2_2), .one (.int .i64 v2_3), .one (.int .i64 v2_4), .one (.int .i64 v2_5), .vec .u8 32 v2_6] :: blk p_n4 (ρ.T 9) [.one (.int .i64 n4_0), .one (.int .i64 n4_1), .one (.int .i64 n4_2), .one (.int .i64 n4_3), .one (.int .i64 n4_4), .one (.int .i64 n4_5), .vec .u8 32 n4_6] :: ownS (rI .u8) a_x63 n_x63 c_x63 x6 :: A)) (H : carlingref21_Parse_B2 S2' Q' b0 v2_0 v2_1 v2_2 v2_3 v2_4 v2_5 v2_6 n4_0 n4_1 n4_2 n4_3 n4_4 n4_5 n4_6 x6 e7 i8) (kS2 : ∀ {b0 : List Int} {v2_0 : Int} {v2_1 : Int} {v2_2 : Int} {v2_3 : Int} {v2_4 : Int} {v2_5 : Int} {v2_6 : Vector Int 32} {n4_0 : Int} {n4_1 : Int} {n4_2 : Int} {n4_3 : Int} {n4_4 : Int} {n4_5 : Int} {n4_6 : Vector Int 32} {x6 : List Int} {e7 : Int} {i8 : Int} {a_b0 : Option Addr} {n_b0 c_b0 : Nat} {p_v2 : Addr} {p_n4 : Addr} {a_x63 : Option Addr} {n_x63 c_x63 : Nat} {h : Hp} (hX_b0 : Rd (rI .u8) X_b0 a_b0 n_b0 c_b0 b0), Inv h (X_b0 :: blk p_v2 (ρ.T 9) [.one (.int .i64 v2_0), .one (.int .i64 v2_1), .one (.int .i64 v2_2), .one (.int .i64 v2_3), .one (.int .i64 v2_4), .one (.int .i64 v2_5), .vec .u8 32 v2_6] :: blk p_n4 (ρ.T 9) [.one (.int .i64 n4_0), .one (.int .i64 n4_1), .one (.int .i64 n4_2), .one (.int .i64 n4_3), .one (.int .i64 n4_4), .one (.int .i64 n4_5), .vec .u8 32 n4_6] :: ownS (rI .u8) a_x63 n_x63 c_x63 x6 :: A) → S2' b0 v2_0 v2_1 v2_2 v2_3 v2_4 v2_5 v2_6 n4_0 n4_1 n4_2 n4_3 n4_4 n4_5 n4_6 x6 e7 i8 → S2 ⟨a_b0, n_b0, c_b0⟩ p_v2 p_n4 ⟨a_x63, n_x63, c_x63⟩ e7 i8 h)
    (k : ∀ (r0 : carlingref21_Inode) (r1 : Int) (h' : Hp), Inv h' (X_b0 :: A) → Q' r0 r1 → Q r0.Kind r0.Mode r0.Links r0.Size r0.Time r0.Attr r0.Pages.toList r1 h') : Tx.carlingref21_Parse_B2 ρ S2 Q ⟨a_b0, n_b0, c_b0⟩ p_v2 p_n4 ⟨a_x63, n_x63, c_x63⟩ e7 i8 h := by
  obtain rfl := rd_len hX_b0 I
  obtain rfl := own_len I.pull3
  unfold Tx.carlingref21_Parse_B2
  unfold carlingref21_Parse_B2 at H
  refine br_r H (fun hb H => ?_) (fun hb H => ?_)
  · replace I := I.pull3.pull3.pull3.pull3
    exact carlingref21_Parse_K3_r (b0 := b0) (v2_0 := v2_0) (v2_1 := v2_1) (v2_2 := v2_2) (v2_3 := v2_3) (v2_4 := v2_4) (v2_5 := v2_5) (v2_6 := v2_6) (n4_0 := n4_0) (n4_1 := n4_1) (n4_2 := n4_2) (n4_3 := n4_3) (n4_4 := n4_4) (n4_5 := n4_5) (n4_6 := n4_6) (x6 := x6) (e7 := e7) (i8 := i8) (v60 := (decide (i8 < (64 : Int)))) hX_b0 I H kS2 k
  · replace I := I.pull3.pull3.pull3.pull3
    exact carlingref21_Parse_K3_r (b0 := b0) (v2_0 := v2_0) (v2_1 := v2_1) (v2_2 := v2_2) (v2_3 := v2_3) (v2_4 := v2_4) (v2_5 := v2_5) (v2_6 := v2_6) (n4_0 := n4_0) (n4_1 := n4_1) (n4_2 := n4_2) (n4_3 := n4_3) (n4_4 := n4_4) (n4_5 := n4_5) (n4_6 := n4_6) (x6 := x6) (e7 := e7) (i8 := i8) (v60 := false) hX_b0 I H kS2 k

theorem carlingref21_Parse_L2_r {ρ : Ids} {h : Hp} {A : List At} {X_b0 : At} {b0 : List Int} {v2_0 : Int} {v2_1 : Int} {v2_2 : Int} {v2_3 : Int} {v2_4 : Int} {v2_5 : Int} {v2_6 : Vector Int 32} {n4_0 : Int} {n4_1 : Int} {n4_2 : Int} {n4_3 : Int} {n4_4 : Int} {n4_5 : Int} {n4_6 : Vector Int 32} {x6 : List Int} {e7 : Int} {i8 : Int} {a_b0 : Option Addr} {n_b0 c_b0 : Nat} {p_v2 : Addr} {p_n4 : Addr} {a_x63 : Option Addr} {n_x63 c_x63 : Nat} {Q' : carlingref21_Inode → Int → Prop} {Q : Int → Int → Int → Int → Int → Int → List Int → Int → Hp → Prop} (hX_b0 : Rd (rI .u8) X_b0 a_b0 n_b0 c_b0 b0) (I : Inv h (X_b0 :: blk p_v2 (ρ.T 9) [.one (.int .i64 v2_0), .one (.int .i64 v2_1), .one (.int .i64 v2_2), .one (.int .i64 v2_3), .one (.int .i64 v2_4), .one (.int .i64 v2_5), .vec .u8 32 v2_6] :: blk p_n4 (ρ.T 9) [.one (.int .i64 n4_0), .one (.int .i64 n4_1), .one (.int .i64 n4_2), .one (.int .i64 n4_3), .one (.int .i64 n4_4), .one (.int .i64 n4_5), .vec .u8 32 n4_6] :: ownS (rI .u8) a_x63 n_x63 c_x63 x6 :: A)) (H : carlingref21_Parse_L2 Q' b0 v2_0 v2_1 v2_2 v2_3 v2_4 v2_5 v2_6 n4_0 n4_1 n4_2 n4_3 n4_4 n4_5 n4_6 x6 e7 i8)
    (k : ∀ (r0 : carlingref21_Inode) (r1 : Int) (h' : Hp), Inv h' (X_b0 :: A) → Q' r0 r1 → Q r0.Kind r0.Mode r0.Links r0.Size r0.Time r0.Attr r0.Pages.toList r1 h') : Tx.carlingref21_Parse_L2 ρ Q ⟨a_b0, n_b0, c_b0⟩ p_v2 p_n4 ⟨a_x63, n_x63, c_x63⟩ e7 i8 h := by
  refine Lf.ind H (fun v => ∀ (a_b0 : Option Addr) (n_b0 c_b0 : Nat) (p_v2 : Addr) (p_n4 : Addr) (a_x63 : Option Addr) (n_x63 c_x63 : Nat) (h : Hp) (hX_b0 : Rd (rI .u8) X_b0 a_b0 n_b0 c_b0 v.1), Inv h (X_b0 :: blk p_v2 (ρ.T 9) [.one (.int .i64 v.2.1), .one (.int .i64 v.2.2.1), .one (.int .i64 v.2.2.2.1), .one (.int .i64 v.2.2.2.2.1), .one (.int .i64 v.2.2.2.2.2.1), .one (.int .i64 v.2.2.2.2.2.2.1), .vec .u8 32 v.2.2.2.2.2.2.2.1] :: blk p_n4 (ρ.T 9) [.one (.int .i64 v.2.2.2.2.2.2.2.2.1), .one (.int .i64 v.2.2.2.2.2.2.2.2.2.1), .one (.int .i64 v.2.2.2.2.2.2.2.2.2.2.1), .one (.int .i64 v.2.2.2.2.2.2.2.2.2.2.2.1), .one (.int .i64 v.2.2.2.2.2.2.2.2.2.2.2.2.1), .one (.int .i64 v.2.2.2.2.2.2.2.2.2.2.2.2.2.1), .vec .u8 32 v.2.2.2.2.2.2.2.2.2.2.2.2.2.2.1] :: ownS (rI .u8) a_x63 n_x63 c_x63 v.2.2.2.2.2.2.2.2.2.2.2.2.2.2.2.1 :: A) → Tx.carlingref21_Parse_L2 ρ Q ⟨a_b0, n_b0, c_b0⟩ p_v2 p_n4 ⟨a_x63, n_x63, c_x63⟩ v.2.2.2.2.2.2.2.2.2.2.2.2.2.2.2.2.1 v.2.2.2.2.2.2.2.2.2.2.2.2.2.2.2.2.2 h) ?_ _ _ _ _ _ _ _ _ _ hX_b0 I
  rintro ⟨b0, v2_0, v2_1, v2_2, v2_3, v2_4, v2_5, v2_6, n4_0, n4_1, n4_2, n4_3, n4_4, n4_5, n4_6, x6, e7, i8⟩ S hS HB a_b0 n_b0 c_b0 p_v2 p_n4 a_x63 n_x63 c_x63 h hX_b0 I
  refine Tx.carlingref21_Parse_L2_in _ _ _ _ _ _ _ _ _ ?_
  try simp only [nrm_v]
  exact carlingref21_Parse_B2_r (b0 := b0) (v2_0 := v2_0) (v2_1 := v2_1) (v2_2 := v2_2) (v2_3 := v2_3) (v2_4 := v2_4) (v2_5 := v2_5) (v2_6 := v2_6) (n4_0 := n4_0) (n4_1 := n4_1) (n4_2 := n4_2) (n4_3 := n4_3) (n4_4 := n4_4) (n4_5 := n4_5) (n4_6 := n4_6) (x6 := x6) (e7 := e7) (i8 := i8) hX_b0 I HB (fun {b0 v2_0 v2_1 v2_2 v2_3 v2_4 v2_5 v2_6 n4_0 n4_1 n4_2 n4_3 n4_4 n4_5 n4_6 x6 e7 i8 a_b0 n_b0 c_b0 p_v2 p_n4 a_x63 n_x63 c_x63 h} hX_b0 I H => hS _ H a_b0 n_b0 c_b0 p_v2 p_n4 a_x63 n_x63 c_x63 _ hX_b0 I) k

def carlingref21_Parse_B1 (S1 : (List Int) → Int → Int → Int → Int → Int → Int → (Vector Int 32) → Int → Int → Int → Int → Int → Int → (Vector Int 32) → Int → Prop) (Q : carlingref21_Inode → Int → Prop) (b0 : List Int) (v2_0 : Int) (v2_1 : Int) (v2_2 : Int) (v2_3 : Int) (v2_4 : Int) (v2_5 : Int) (v2_6 : Vector Int 32) (n4_0 : Int) (n4_1 : Int) (n4_2 : Int) (n4_3 : Int) (n4_4 : Int) (n4_5 : Int) (n4_6 : Vector Int 32) (i5 : Int) : Prop :=
  br (decide (i5 < (32 : Int)))
  (ixP b0 (IntKind.wrap .i64 ((17 : Int) + i5)) fun x_51 =>
  ixP n4_6.toList i5 fun x_58 =>
  S1 b0 v2_0 v2_1 v2_2 v2_3 v2_4 v2_5 v2_6 n4_0 n4_1 n4_2 n4_3 n4_4 n4_5 (n4_6.setIfInBounds (Int.toNat i5) x_51) (IntKind.wrap .i64 (i5 + (1 : Int))))
  (carlingref21_Lay (⟨n4_0, n4_1, n4_2, n4_3, n4_4, n4_5, n4_6⟩ : carlingref21_Inode) fun r_63 r_66 =>
  carlingref21_Parse_L2 Q b0 v2_0 v2_1 v2_2 v2_3 v2_4 v2_5 v2_6 n4_0 n4_1 n4_2 n4_3 n4_4 n4_5 n4_6 r_63 r_66 (0 : Int))

def carlingref21_Parse_L1 (Q : carlingref21_Inode → Int → Prop) (b0 : List Int) (v2_0 : Int) (v2_1 : Int) (v2_2 : Int) (v2_3 : Int) (v2_4 : Int) (v2_5 : Int) (v2_6 : Vector Int 32) (n4_0 : Int) (n4_1 : Int) (n4_2 : Int) (n4_3 : Int) (n4_4 : Int) (n4_5 : Int) (n4_6 : Vector Int 32) (i5 : Int) : Prop :=
  Lf (fun S (v : (List Int) × Int × Int × Int × Int × Int × Int × (Vector Int 32) × Int × Int × Int × Int × Int × Int × (Vector Int 32) × Int) => carlingref21_Parse_B1 (fun b0 v2_0 v2_1 v2_2 v2_3 v2_4 v2_5 v2_6 n4_0 n4_1 n4_2 n4_3 n4_4 n4_5 n4_6 i5 => S (b0, v2_0, v2_1, v2_2, v2_3, v2_4, v2_5, v2_6, n4_0, n4_1, n4_2, n4_3, n4_4, n4_5, n4_6, i5)) Q v.1 v.2.1 v.2.2.1 v.2.2.2.1 v.2.2.2.2.1 v.2.2.2.2.2.1 v.2.2.2.2.2.2.1 v.2.2.2.2.2.2.2.1 v.2.2.2.2.2.2.2.2.1 v.2.2.2.2.2.2.2.2.2.1 v.2.2.2.2.2.2.2.2.2.2.1 v.2.2.2.2.2.2.2.2.2.2.2.1 v.2.2.2.2.2.2.2.2.2.2.2.2.1 v.2.2.2.2.2.2.2.2.2.2.2.2.2.1 v.2.2.2.2.2.2.2.2.2.2.2.2.2.2.1 v.2.2.2.2.2.2.2.2.2.2.2.2.2.2.2) (b0, v2_0, v2_1, v2_2, v2_3, v2_4, v2_5, v2_6, n4_0, n4_1, n4_2, n4_3, n4_4, n4_5, n4_6, i5)

theorem carlingref21_Parse_L1_in (Q : carlingref21_Inode → Int → Prop) (b0 : List Int) (v2_0 : Int) (v2_1 : Int) (v2_2 : Int) (v2_3 : Int) (v2_4 : Int) (v2_5 : Int) (v2_6 : Vector Int 32) (n4_0 : Int) (n4_1 : Int) (n4_2 : Int) (n4_3 : Int) (n4_4 : Int) (n4_5 : Int) (n4_6 : Vector Int 32) (i5 : Int) (H : carlingref21_Parse_B1 (carlingref21_Parse_L1 Q) Q b0 v2_0 v2_1 v2_2 v2_3 v2_4 v2_5 v2_6 n4_0 n4_1 n4_2 n4_3 n4_4 n4_5 n4_6 i5) : carlingref21_Parse_L1 Q b0 v2_0 v2_1 v2_2 v2_3 v2_4 v2_5 v2_6 n4_0 n4_1 n4_2 n4_3 n4_4 n4_5 n4_6 i5 := Lf.fold H

theorem carlingref21_Parse_B1_r {ρ : Ids} {h : Hp} {A : List At} {X_b0 : At} {b0 : List Int} {v2_0 : Int} {v2_1 : Int} {v2_2 : Int} {v2_3 : Int} {v2_4 : Int} {v2_5 : Int} {v2_6 : Vector Int 32} {n4_0 : Int} {n4_1 : Int} {n4_2 : Int} {n4_3 : Int} {n4_4 : Int} {n4_5 : Int} {n4_6 : Vector Int 32} {i5 : Int} {a_b0 : Option Addr} {n_b0 c_b0 : Nat} {p_v2 : Addr} {p_n4 : Addr} {Q' : carlingref21_Inode → Int → Prop} {Q : Int → Int → Int → Int → Int → Int → List Int → Int → Hp → Prop} {S1' : (List Int) → Int → Int → Int → Int → Int → Int → (Vector Int 32) → Int → Int → Int → Int → Int → Int → (Vector Int 32) → Int → Prop} {S1 : Sl → Addr → Addr → Int → Hp → Prop} (hX_b0 : Rd (rI .u8) X_b0 a_b0 n_b0 c_b0 b0) (I : Inv h (X_b0 :: blk p_v2 (ρ.T 9) [.one (.int .i64 v2_0), .one (.int .i64 v2_1), .one (.int .i64 v2_2), .one (.int .i64 v2_3), .one (.int .i64 v2_4), .one (.int .i64 v2_5), .vec .u8 32 v2_6] :: blk p_n4 (ρ.T 9) [.one (.int .i64 n4_0), .one (.int .i64 n4_1), .one (.int .i64 n4_2), .one (.int .i64 n4_3), .one (.int .i64 n4_4), .one (.int .i64 n4_5), .vec .u8 32 n4_6] :: A)) (H : carlingref21_Parse_B1 S1' Q' b0 v2_0 v2_1 v2_2 v2_3 v2_4 v2_5 v2_6 n4_0 n4_1 n4_2 n4_3 n4_4 n4_5 n4_6 i5) (kS1 : ∀ {b0 : List Int} {v2_0 : Int} {v2_1 : Int} {v2_2 : Int} {v2_3 : Int} {v2_4 : Int} {v2_5 : Int} {v2_6 : Vector Int 32} {n4_0 : Int} {n4_1 : Int} {n4_2 : Int} {n4_3 : Int} {n4_4 : Int} {n4_5 : Int} {n4_6 : Vector Int 32} {i5 : Int} {a_b0 : Option Addr} {n_b0 c_b0 : Nat} {p_v2 : Addr} {p_n4 : Addr} {h : Hp} (hX_b0 : Rd (rI .u8) X_b0 a_b0 n_b0 c_b0 b0), Inv h (X_b0 :: blk p_v2 (ρ.T 9) [.one (.int .i64 v2_0), .one (.int .i64 v2_1), .one (.int .i64 v2_2), .one (.int .i64 v2_3), .one (.int .i64 v2_4), .one (.int .i64 v2_5), .vec .u8 32 v2_6] :: blk p_n4 (ρ.T 9) [.one (.int .i64 n4_0), .one (.int .i64 n4_1), .one (.int .i64 n4_2), .one (.int .i64 n4_3), .one (.int .i64 n4_4), .one (.int .i64 n4_5), .vec .u8 32 n4_6] :: A) → S1' b0 v2_0 v2_1 v2_2 v2_3 v2_4 v2_5 v2_6 n4_0 n4_1 n4_2 n4_3 n4_4 n4_5 n4_6 i5 → S1 ⟨a_b0, n_b0, c_b0⟩ p_v2 p_n4 i5 h)
    (k : ∀ (r0 : carlingref21_Inode) (r1 : Int) (h' : Hp), Inv h' (X_b0 :: A) → Q' r0 r1 → Q r0.Kind r0.Mode r0.Links r0.Size r0.Time r0.Attr r0.Pages.toList r1 h') : Tx.carlingref21_Parse_B1 ρ S1 Q ⟨a_b0, n_b0, c_b0⟩ p_v2 p_n4 i5 h := by
  obtain rfl := rd_len hX_b0 I
  unfold Tx.carlingref21_Parse_B1
  unfold carlingref21_Parse_B1 at H
  refine br_r H (fun hb H => ?_) (fun hb H => ?_)
  · refine ixI_a hX_b0 I (ixP_keep H) fun p_52 x_51 he_53 hb_54 hc_55 H => ?_
    obtain ⟨hg_56, H⟩ := H
    refine ldI_r hc_55 ?_
    refine ix_vec I.pull2 (j := 6) (off := 6) rfl H fun q_57 x_58 hq_59 hb_60 hc_61 H => ?_
    refine st_vec (I.pull2) (j := 6) (off := 6) rfl hq_59 hb_60 fun h I => ?_
    replace I := I.pull2.pull2
    exact kS1 (b0 := b0) (v2_0 := v2_0) (v2_1 := v2_1) (v2_2 := v2_2) (v2_3 := v2_3) (v2_4 := v2_4) (v2_5 := v2_5) (v2_6 := v2_6) (n4_0 := n4_0) (n4_1 := n4_1) (n4_2 := n4_2) (n4_3 := n4_3) (n4_4 := n4_4) (n4_5 := n4_5) (n4_6 := (n4_6.setIfInBounds (Int.toNat i5) x_51)) (i5 := (IntKind.wrap .i64 (i5 + (1 : Int)))) hX_b0 I H
  · refine ldI_r (I.pull2.cell 0 0 rfl) ?_
    refine ldI_r (I.pull2.cell 1 1 rfl) ?_
    refine ldI_r (I.pull2.cell 2 2 rfl) ?_
    refine ldI_r (I.pull2.cell 3 3 rfl) ?_
    refine ldI_r (I.pull2.cell 4 4 rfl) ?_
    refine ldI_r (I.pull2.cell 5 5 rfl) ?_
    refine ldL_r (I.pull2.lump 6 6 rfl) ?_
    try simp only [nrm_v]
    try simp only [nrm_v]
    refine carlingref21_Lay_r (n0 := (⟨n4_0, n4_1, n4_2, n4_3, n4_4, n4_5, n4_6⟩ : carlingref21_Inode)) I H fun r_63 a_64 c_65 r_66 h I H => ?_
    replace I := I.pull3.pull3.pull3
    exact carlingref21_Parse_L2_r (b0 := b0) (v2_0 := v2_0) (v2_1 := v2_1) (v2_2 := v2_2) (v2_3 := v2_3) (v2_4 := v2_4) (v2_5 := v2_5) (v2_6 := v2_6) (n4_0 := n4_0) (n4_1 := n4_1) (n4_2 := n4_2) (n4_3 := n4_3) (n4_4 := n4_4) (n4_5 := n4_5) (n4_6 := n4_6) (x6 := r_63) (e7 := r_66) (i8 := (0 : Int)) hX_b0 I H k

theorem carlingref21_Parse_L1_r {ρ : Ids} {h : Hp} {A : List At} {X_b0 : At} {b0 : List Int} {v2_0 : Int} {v2_1 : Int} {v2_2 : Int} {v2_3 : Int} {v2_4 : Int} {v2_5 : Int} {v2_6 : Vector Int 32} {n4_0 : Int} {n4_1 : Int} {n4_2 : Int} {n4_3 : Int} {n4_4 : Int} {n4_5 : Int} {n4_6 : Vector Int 32} {i5 : Int} {a_b0 : Option Addr} {n_b0 c_b0 : Nat} {p_v2 : Addr} {p_n4 : Addr} {Q' : carlingref21_Inode → Int → Prop} {Q : Int → Int → Int → Int → Int → Int → List Int → Int → Hp → Prop} (hX_b0 : Rd (rI .u8) X_b0 a_b0 n_b0 c_b0 b0) (I : Inv h (X_b0 :: blk p_v2 (ρ.T 9) [.one (.int .i64 v2_0), .one (.int .i64 v2_1), .one (.int .i64 v2_2), .one (.int .i64 v2_3), .one (.int .i64 v2_4), .one (.int .i64 v2_5), .vec .u8 32 v2_6] :: blk p_n4 (ρ.T 9) [.one (.int .i64 n4_0), .one (.int .i64 n4_1), .one (.int .i64 n4_2), .one (.int .i64 n4_3), .one (.int .i64 n4_4), .one (.int .i64 n4_5), .vec .u8 32 n4_6] :: A)) (H : carlingref21_Parse_L1 Q' b0 v2_0 v2_1 v2_2 v2_3 v2_4 v2_5 v2_6 n4_0 n4_1 n4_2 n4_3 n4_4 n4_5 n4_6 i5)
    (k : ∀ (r0 : carlingref21_Inode) (r1 : Int) (h' : Hp), Inv h' (X_b0 :: A) → Q' r0 r1 → Q r0.Kind r0.Mode r0.Links r0.Size r0.Time r0.Attr r0.Pages.toList r1 h') : Tx.carlingref21_Parse_L1 ρ Q ⟨a_b0, n_b0, c_b0⟩ p_v2 p_n4 i5 h := by
  refine Lf.ind H (fun v => ∀ (a_b0 : Option Addr) (n_b0 c_b0 : Nat) (p_v2 : Addr) (p_n4 : Addr) (h : Hp) (hX_b0 : Rd (rI .u8) X_b0 a_b0 n_b0 c_b0 v.1), Inv h (X_b0 :: blk p_v2 (ρ.T 9) [.one (.int .i64 v.2.1), .one (.int .i64 v.2.2.1), .one (.int .i64 v.2.2.2.1), .one (.int .i64 v.2.2.2.2.1), .one (.int .i64 v.2.2.2.2.2.1), .one (.int .i64 v.2.2.2.2.2.2.1), .vec .u8 32 v.2.2.2.2.2.2.2.1] :: blk p_n4 (ρ.T 9) [.one (.int .i64 v.2.2.2.2.2.2.2.2.1), .one (.int .i64 v.2.2.2.2.2.2.2.2.2.1), .one (.int .i64 v.2.2.2.2.2.2.2.2.2.2.1), .one (.int .i64 v.2.2.2.2.2.2.2.2.2.2.2.1), .one (.int .i64 v.2.2.2.2.2.2.2.2.2.2.2.2.1), .one (.int .i64 v.2.2.2.2.2.2.2.2.2.2.2.2.2.1), .vec .u8 32 v.2.2.2.2.2.2.2.2.2.2.2.2.2.2.1] :: A) → Tx.carlingref21_Parse_L1 ρ Q ⟨a_b0, n_b0, c_b0⟩ p_v2 p_n4 v.2.2.2.2.2.2.2.2.2.2.2.2.2.2.2 h) ?_ _ _ _ _ _ _ hX_b0 I
  rintro ⟨b0, v2_0, v2_1, v2_2, v2_3, v2_4, v2_5, v2_6, n4_0, n4_1, n4_2, n4_3, n4_4, n4_5, n4_6, i5⟩ S hS HB a_b0 n_b0 c_b0 p_v2 p_n4 h hX_b0 I
  refine Tx.carlingref21_Parse_L1_in _ _ _ _ _ _ _ ?_
  try simp only [nrm_v]
  exact carlingref21_Parse_B1_r (b0 := b0) (v2_0 := v2_0) (v2_1 := v2_1) (v2_2 := v2_2) (v2_3 := v2_3) (v2_4 := v2_4) (v2_5 := v2_5) (v2_6 := v2_6) (n4_0 := n4_0) (n4_1 := n4_1) (n4_2 := n4_2) (n4_3 := n4_3) (n4_4 := n4_4) (n4_5 := n4_5) (n4_6 := n4_6) (i5 := i5) hX_b0 I HB (fun {b0 v2_0 v2_1 v2_2 v2_3 v2_4 v2_5 v2_6 n4_0 n4_1 n4_2 n4_3 n4_4 n4_5 n4_6 i5 a_b0 n_b0 c_b0 p_v2 p_n4 h} hX_b0 I H => hS _ H a_b0 n_b0 c_b0 p_v2 p_n4 _ hX_b0 I) k

def carlingref21_Parse (b0 : List Int) (Q : carlingref21_Inode → Int → Prop) : Prop :=
  br ((b0.length : Int) != (64 : Int))
  (Q (⟨(0 : Int), (0 : Int), (0 : Int), (0 : Int), (0 : Int), (0 : Int), (Vector.replicate 32 (0 : Int))⟩ : carlingref21_Inode) (1 : Int))
  (ixP b0 (0 : Int) fun x_4 =>
  ixP b0 (1 : Int) fun x_10 =>
  (SlOk b0 (2 : Int) (4 : Int)) ∧
  (SlOk b0 (4 : Int) (8 : Int)) ∧
  (SlOk b0 (8 : Int) (16 : Int)) ∧
  ixP b0 (16 : Int) fun x_25 =>
  (carlingref21_num (sub b0 (2 : Int) (4 : Int)) fun r_31 =>
  (carlingref21_num (sub b0 (4 : Int) (8 : Int)) fun r_32 =>
  (carlingref21_num (sub b0 (8 : Int) (16 : Int)) fun r_33 =>
  carlingref21_Parse_L1 Q b0 (0 : Int) (0 : Int) (0 : Int) (0 : Int) (0 : Int) (0 : Int) (Vector.replicate 32 (0 : Int)) (IntKind.wrap .i64 x_4) (IntKind.wrap .i64 x_10) (IntKind.wrap .i64 r_31) (IntKind.wrap .i64 r_32) (IntKind.wrap .i64 r_33) (IntKind.wrap .i64 x_25) (Vector.replicate 32 (0 : Int)) (0 : Int)) ∧
  (carlingref21_num (sub b0 (8 : Int) (16 : Int)) fun r_38 =>
  carlingref21_Parse_L1 Q b0 (0 : Int) (0 : Int) (0 : Int) (0 : Int) (0 : Int) (0 : Int) (Vector.replicate 32 (0 : Int)) (IntKind.wrap .i64 x_4) (IntKind.wrap .i64 x_10) (IntKind.wrap .i64 r_31) (IntKind.wrap .i64 r_32) (IntKind.wrap .i64 r_38) (IntKind.wrap .i64 x_25) (Vector.replicate 32 (0 : Int)) (0 : Int))) ∧
  (carlingref21_num (sub b0 (4 : Int) (8 : Int)) fun r_41 =>
  carlingref21_num (sub b0 (8 : Int) (16 : Int)) fun r_42 =>
  carlingref21_Parse_L1 Q b0 (0 : Int) (0 : Int) (0 : Int) (0 : Int) (0 : Int) (0 : Int) (Vector.replicate 32 (0 : Int)) (IntKind.wrap .i64 x_4) (IntKind.wrap .i64 x_10) (IntKind.wrap .i64 r_31) (IntKind.wrap .i64 r_41) (IntKind.wrap .i64 r_42) (IntKind.wrap .i64 x_25) (Vector.replicate 32 (0 : Int)) (0 : Int))) ∧
  (carlingref21_num (sub b0 (2 : Int) (4 : Int)) fun r_45 =>
  carlingref21_num (sub b0 (4 : Int) (8 : Int)) fun r_46 =>
  carlingref21_num (sub b0 (8 : Int) (16 : Int)) fun r_47 =>
  carlingref21_Parse_L1 Q b0 (0 : Int) (0 : Int) (0 : Int) (0 : Int) (0 : Int) (0 : Int) (Vector.replicate 32 (0 : Int)) (IntKind.wrap .i64 x_4) (IntKind.wrap .i64 x_10) (IntKind.wrap .i64 r_45) (IntKind.wrap .i64 r_46) (IntKind.wrap .i64 r_47) (IntKind.wrap .i64 x_25) (Vector.replicate 32 (0 : Int)) (0 : Int)))

theorem carlingref21_Parse_r {ρ : Ids} {h : Hp} {A : List At} {b0 : List Int} {a_b00 : Option Addr} {n_b00 c_b00 : Nat} {X_b0 : At} {Q' : carlingref21_Inode → Int → Prop} {Q : Int → Int → Int → Int → Int → Int → List Int → Int → Hp → Prop} (hX_b0 : Rd (rI .u8) X_b0 a_b00 n_b00 c_b00 b0) (I : Inv h (X_b0 :: A)) (H : carlingref21_Parse b0 Q')
    (k : ∀ (r0 : carlingref21_Inode) (r1 : Int) (h' : Hp), Inv h' (X_b0 :: A) → Q' r0 r1 → Q r0.Kind r0.Mode r0.Links r0.Size r0.Time r0.Attr r0.Pages.toList r1 h') : Tx.carlingref21_Parse ρ ⟨a_b00, n_b00, c_b00⟩ h Q := by
  obtain rfl := rd_len hX_b0 I
  unfold Tx.carlingref21_Parse
  unfold carlingref21_Parse at H
  refine al_r [.one (.int .i64 (0 : Int)), .one (.int .i64 (0 : Int)), .one (.int .i64 (0 : Int)), .one (.int .i64 (0 : Int)), .one (.int .i64 (0 : Int)), .one (.int .i64 (0 : Int)), .vec .u8 32 (Vector.replicate 32 (0 : Int))] rfl I fun p_2 h I => ?_
  refine br_r H (fun hb H => ?_) (fun hb H => ?_)
  · refine stA_r I 0 7 0 [.one (.int .i64 (0 : Int)), .one (.int .i64 (0 : Int)), .one (.int .i64 (0 : Int)), .one (.int .i64 (0 : Int)), .one (.int .i64 (0 : Int)), .one (.int .i64 (0 : Int)), .vec .u8 32 (Vector.replicate 32 (0 : Int))] rfl rfl rfl (by first | exact all_segs rfl | exact all_one (by simp [segs, Seg.cells, allOne, allOne_append, allOne_lump, Value.oneCell'])) fun h (I : Inv h (blk p_2 (ρ.T 9) [.one (.int .i64 (0 : Int)), .one (.int .i64 (0 : Int)), .one (.int .i64 (0 : Int)), .one (.int .i64 (0 : Int)), .one (.int .i64 (0 : Int)), .one (.int .i64 (0 : Int)), .vec .u8 32 (Vector.replicate 32 (0 : Int))] :: _)) => ?_
    refine ldI_r (I.cell 0 0 rfl) ?_
    refine ldI_r (I.cell 1 1 rfl) ?_
    refine ldI_r (I.cell 2 2 rfl) ?_
    refine ldI_r (I.cell 3 3 rfl) ?_
    refine ldI_r (I.cell 4 4 rfl) ?_
    refine ldI_r (I.cell 5 5 rfl) ?_
    refine ldL_r (I.lump 6 6 rfl) ?_
    try simp only [nrm_v]
    replace I := I.drop1
    exact k (⟨(0 : Int), (0 : Int), (0 : Int), (0 : Int), (0 : Int), (0 : Int), (Vector.replicate 32 (0 : Int))⟩ : carlingref21_Inode) (1 : Int) _ I H
  · refine ixI_a hX_b0 I.pull1 (ixP_keep H) fun p_5 x_4 he_6 hb_7 hc_8 H => ?_
    obtain ⟨hg_9, H⟩ := H
    refine ldI_r hc_8 ?_
    refine ixI_a hX_b0 I.pull1 (ixP_keep H) fun p_11 x_10 he_12 hb_13 hc_14 H => ?_
    obtain ⟨hg_15, H⟩ := H
    refine ldI_r hc_14 ?_
    refine sl_rd hX_b0 I.pull1 H.1 fun a_16 c_17 hr_18 => ?_
    replace H := H.2
    refine sl_rd hX_b0 I.pull1 H.1 fun a_19 c_20 hr_21 => ?_
    replace H := H.2
    refine sl_rd hX_b0 I.pull1 H.1 fun a_22 c_23 hr_24 => ?_
    replace H := H.2
    refine ixI_a hX_b0 I.pull1 (ixP_keep H) fun p_26 x_25 he_27 hb_28 hc_29 H => ?_
    obtain ⟨hg_30, H⟩ := H
    refine ldI_r hc_29 ?_
    refine and2_r H (fun H => ?_) (fun H => ?_)
    · replace I := I.pull1
      refine carlingref21_num_r (b0 := (sub b0 (2 : Int) (4 : Int))) hr_18 I H fun r_31 h I H => ?_
      refine ⟨trivial, ?_⟩
      refine ⟨(el_keep hX_b0 I rfl he_27 hb_28 hg_30 (fun _ _ e => e)), ?_⟩
      refine ⟨trivial, ?_⟩
      refine ⟨(el_keep hX_b0 I rfl he_12 hb_13 hg_15 (fun _ _ e => e)), ?_⟩
      refine ⟨trivial, ?_⟩
      refine ⟨(el_keep hX_b0 I rfl he_6 hb_7 hg_9 (fun _ _ e => e)), ?_⟩
      refine and2_r H (fun H => ?_) (fun H => ?_)
      · refine carlingref21_num_r (b0 := (sub b0 (4 : Int) (8 : Int))) hr_21 I H fun r_32 h I H => ?_
        refine ⟨trivial, ?_⟩
        refine ⟨trivial, ?_⟩
        refine ⟨(el_keep hX_b0 I rfl he_27 hb_28 hg_30 (fun _ _ e => e)), ?_⟩
        refine ⟨trivial, ?_⟩
        refine ⟨(el_keep hX_b0 I rfl he_12 hb_13 hg_15 (fun _ _ e => e)), ?_⟩
        refine ⟨trivial, ?_⟩
        refine ⟨(el_keep hX_b0 I rfl he_6 hb_7 hg_9 (fun _ _ e => e)), ?_⟩
        refine and2_r H (fun H => ?_) (fun H => ?_)
        · refine carlingref21_num_r (b0 := (sub b0 (8 : Int) (16 : Int))) hr_24 I H fun r_33 h I H => ?_
          refine ⟨trivial, ?_⟩
          refine ⟨trivial, ?_⟩
          refine ⟨trivial, ?_⟩
          refine ⟨(el_keep hX_b0 I rfl he_27 hb_28 hg_30 (fun _ _ e => e)), ?_⟩
          refine ⟨trivial, ?_⟩
          refine ⟨(el_keep hX_b0 I rfl he_12 hb_13 hg_15 (fun _ _ e => e)), ?_⟩
          refine ⟨trivial, ?_⟩
          refine ⟨(el_keep hX_b0 I rfl he_6 hb_7 hg_9 (fun _ _ e => e)), ?_⟩
          refine al_r [.one (.int .i64 (0 : Int)), .one (.int .i64 (0 : Int)), .one (.int .i64 (0 : Int)), .one (.int .i64 (0 : Int)), .one (.int .i64 (0 : Int)), .one (.int .i64 (0 : Int)), .vec .u8 32 (Vector.replicate 32 (0 : Int))] rfl I fun p_34 h I => ?_
          refine ⟨trivial, ?_⟩
          refine ⟨trivial, ?_⟩
          refine ⟨trivial, ?_⟩
          refine ⟨trivial, ?_⟩
          refine ⟨(el_keep hX_b0 I.pull1 rfl he_27 hb_28 hg_30 (fun _ _ e => e)), ?_⟩
          refine ⟨trivial, ?_⟩
          refine ⟨(el_keep hX_b0 I.pull1 rfl he_12 hb_13 hg_15 (fun _ _ e => e)), ?_⟩
          refine ⟨trivial, ?_⟩
          refine ⟨(el_keep hX_b0 I.pull1 rfl he_6 hb_7 hg_9 (fun _ _ e => e)), ?_⟩
          refine stA_r I 0 7 0 [.one (.int .i64 (IntKind.wrap .i64 x_4)), .one (.int .i64 (IntKind.wrap .i64 x_10)), .one (.int .i64 (IntKind.wrap .i64 r_31)), .one (.int .i64 (IntKind.wrap .i64 r_32)), .one (.int .i64 (IntKind.wrap .i64 r_33)), .one (.int .i64 (IntKind.wrap .i64 x_25)), .vec .u8 32 (Vector.replicate 32 (0 : Int))] rfl rfl rfl (by first | exact all_segs rfl | exact all_one (by simp [segs, Seg.cells, allOne, allOne_append, allOne_lump, Value.oneCell'])) fun h (I : Inv h (blk p_34 (ρ.T 9) [.one (.int .i64 (IntKind.wrap .i64 x_4)), .one (.int .i64 (IntKind.wrap .i64 x_10)), .one (.int .i64 (IntKind.wrap .i64 r_31)), .one (.int .i64 (IntKind.wrap .i64 r_32)), .one (.int .i64 (IntKind.wrap .i64 r_33)), .one (.int .i64 (IntKind.wrap .i64 x_25)), .vec .u8 32 (Vector.replicate 32 (0 : Int))] :: _)) => ?_
          replace I := I.pull2.pull2
          exact carlingref21_Parse_L1_r (b0 := b0) (v2_0 := (0 : Int)) (v2_1 := (0 : Int)) (v2_2 := (0 : Int)) (v2_3 := (0 : Int)) (v2_4 := (0 : Int)) (v2_5 := (0 : Int)) (v2_6 := (Vector.replicate 32 (0 : Int))) (n4_0 := (IntKind.wrap .i64 x_4)) (n4_1 := (IntKind.wrap .i64 x_10)) (n4_2 := (IntKind.wrap .i64 r_31)) (n4_3 := (IntKind.wrap .i64 r_32)) (n4_4 := (IntKind.wrap .i64 r_33)) (n4_5 := (IntKind.wrap .i64 x_25)) (n4_6 := (Vector.replicate 32 (0 : Int))) (i5 := (0 : Int)) hX_b0 I H k
        · refine al_r [.one (.int .i64 (0 : Int)), .one (.int .i64 (0 : Int)), .one (.int .i64 (0 : Int)), .one (.int .i64 (0 : Int)), .one (.int .i64 (0 : Int)), .one (.int .i64 (0 : Int)), .vec .u8 32 (Vector.replicate 32 (0 : Int))] rfl I fun p_36 h I => ?_
          refine ⟨trivial, ?_⟩
          refine ⟨trivial, ?_⟩
          refine ⟨trivial, ?_⟩
          refine ⟨(el_keep hX_b0 I.pull1 rfl he_27 hb_28 hg_30 (fun _ _ e => e)), ?_⟩
          refine ⟨trivial, ?_⟩
          refine ⟨(el_keep hX_b0 I.pull1 rfl he_12 hb_13 hg_15 (fun _ _ e => e)), ?_⟩
          refine ⟨trivial, ?_⟩
          refine ⟨(el_keep hX_b0 I.pull1 rfl he_6 hb_7 hg_9 (fun _ _ e => e)), ?_⟩
          replace I := I.pull1
          refine carlingref21_num_r (b0 := (sub b0 (8 : Int) (16 : Int))) hr_24 I H fun r_38 h I H => ?_
          refine ⟨trivial, ?_⟩
          refine ⟨trivial, ?_⟩
          refine ⟨trivial, ?_⟩
          refine ⟨(el_keep hX_b0 I rfl he_27 hb_28 hg_30 (fun _ _ e => e)), ?_⟩
          refine ⟨trivial, ?_⟩
          refine ⟨(el_keep hX_b0 I rfl he_12 hb_13 hg_15 (fun _ _ e => e)), ?_⟩
          refine ⟨trivial, ?_⟩
          refine ⟨(el_keep hX_b0 I rfl he_6 hb_7 hg_9 (fun _ _ e => e)), ?_⟩
          refine stA_r I.pull1 0 7 0 [.one (.int .i64 (IntKind.wrap .i64 x_4)), .one (.int .i64 (IntKind.wrap .i64 x_10)), .one (.int .i64 (IntKind.wrap .i64 r_31)), .one (.int .i64 (IntKind.wrap .i64 r_32)), .one (.int .i64 (IntKind.wrap .i64 r_38)), .one (.int .i64 (IntKind.wrap .i64 x_25)), .vec .u8 32 (Vector.replicate 32 (0 : Int))] rfl rfl rfl (by first | exact all_segs rfl | exact all_one (by simp [segs, Seg.cells, allOne, allOne_append, allOne_lump, Value.oneCell'])) fun h (I : Inv h (blk p_36 (ρ.T 9) [.one (.int .i64 (IntKind.wrap .i64 x_4)), .one (.int .i64 (IntKind.wrap .i64 x_10)), .one (.int .i64 (IntKind.wrap .i64 r_31)), .one (.int .i64 (IntKind.wrap .i64 r_32)), .one (.int .i64 (IntKind.wrap .i64 r_38)), .one (.int .i64 (IntKind.wrap .i64 x_25)), .vec .u8 32 (Vector.replicate 32 (0 : Int))] :: _)) => ?_
          replace I := I.pull2.pull2
          exact carlingref21_Parse_L1_r (b0 := b0) (v2_0 := (0 : Int)) (v2_1 := (0 : Int)) (v2_2 := (0 : Int)) (v2_3 := (0 : Int)) (v2_4 := (0 : Int)) (v2_5 := (0 : Int)) (v2_6 := (Vector.replicate 32 (0 : Int))) (n4_0 := (IntKind.wrap .i64 x_4)) (n4_1 := (IntKind.wrap .i64 x_10)) (n4_2 := (IntKind.wrap .i64 r_31)) (n4_3 := (IntKind.wrap .i64 r_32)) (n4_4 := (IntKind.wrap .i64 r_38)) (n4_5 := (IntKind.wrap .i64 x_25)) (n4_6 := (Vector.replicate 32 (0 : Int))) (i5 := (0 : Int)) hX_b0 I H k
      · refine al_r [.one (.int .i64 (0 : Int)), .one (.int .i64 (0 : Int)), .one (.int .i64 (0 : Int)), .one (.int .i64 (0 : Int)), .one (.int .i64 (0 : Int)), .one (.int .i64 (0 : Int)), .vec .u8 32 (Vector.replicate 32 (0 : Int))] rfl I fun p_39 h I => ?_
        refine ⟨trivial, ?_⟩
        refine ⟨trivial, ?_⟩
        refine ⟨(el_keep hX_b0 I.pull1 rfl he_27 hb_28 hg_30 (fun _ _ e => e)), ?_⟩
        refine ⟨trivial, ?_⟩
        refine ⟨(el_keep hX_b0 I.pull1 rfl he_12 hb_13 hg_15 (fun _ _ e => e)), ?_⟩
        refine ⟨trivial, ?_⟩
        refine ⟨(el_keep hX_b0 I.pull1 rfl he_6 hb_7 hg_9 (fun _ _ e => e)), ?_⟩
        replace I := I.pull1
        refine carlingref21_num_r (b0 := (sub b0 (4 : Int) (8 : Int))) hr_21 I H fun r_41 h I H => ?_
        refine ⟨trivial, ?_⟩
        refine ⟨trivial, ?_⟩
        refine ⟨(el_keep hX_b0 I rfl he_27 hb_28 hg_30 (fun _ _ e => e)), ?_⟩
        refine ⟨trivial, ?_⟩
        refine ⟨(el_keep hX_b0 I rfl he_12 hb_13 hg_15 (fun _ _ e => e)), ?_⟩
        refine ⟨trivial, ?_⟩
        refine ⟨(el_keep hX_b0 I rfl he_6 hb_7 hg_9 (fun _ _ e => e)), ?_⟩
        refine carlingref21_num_r (b0 := (sub b0 (8 : Int) (16 : Int))) hr_24 I H fun r_42 h I H => ?_
        refine ⟨trivial, ?_⟩
        refine ⟨trivial, ?_⟩
        refine ⟨trivial, ?_⟩
        refine ⟨(el_keep hX_b0 I rfl he_27 hb_28 hg_30 (fun _ _ e => e)), ?_⟩
        refine ⟨trivial, ?_⟩
        refine ⟨(el_keep hX_b0 I rfl he_12 hb_13 hg_15 (fun _ _ e => e)), ?_⟩
        refine ⟨trivial, ?_⟩
        refine ⟨(el_keep hX_b0 I rfl he_6 hb_7 hg_9 (fun _ _ e => e)), ?_⟩
        refine stA_r I.pull1 0 7 0 [.one (.int .i64 (IntKind.wrap .i64 x_4)), .one (.int .i64 (IntKind.wrap .i64 x_10)), .one (.int .i64 (IntKind.wrap .i64 r_31)), .one (.int .i64 (IntKind.wrap .i64 r_41)), .one (.int .i64 (IntKind.wrap .i64 r_42)), .one (.int .i64 (IntKind.wrap .i64 x_25)), .vec .u8 32 (Vector.replicate 32 (0 : Int))] rfl rfl rfl (by first | exact all_segs rfl | exact all_one (by simp [segs, Seg.cells, allOne, allOne_append, allOne_lump, Value.oneCell'])) fun h (I : Inv h (blk p_39 (ρ.T 9) [.one (.int .i64 (IntKind.wrap .i64 x_4)), .one (.int .i64 (IntKind.wrap .i64 x_10)), .one (.int .i64 (IntKind.wrap .i64 r_31)), .one (.int .i64 (IntKind.wrap .i64 r_41)), .one (.int .i64 (IntKind.wrap .i64 r_42)), .one (.int .i64 (IntKind.wrap .i64 x_25)), .vec .u8 32 (Vector.replicate 32 (0 : Int))] :: _)) => ?_
        replace I := I.pull2.pull2
        exact carlingref21_Parse_L1_r (b0 := b0) (v2_0 := (0 : Int)) (v2_1 := (0 : Int)) (v2_2 := (0 : Int)) (v2_3 := (0 : Int)) (v2_4 := (0 : Int)) (v2_5 := (0 : Int)) (v2_6 := (Vector.replicate 32 (0 : Int))) (n4_0 := (IntKind.wrap .i64 x_4)) (n4_1 := (IntKind.wrap .i64 x_10)) (n4_2 := (IntKind.wrap .i64 r_31)) (n4_3 := (IntKind.wrap .i64 r_41)) (n4_4 := (IntKind.wrap .i64 r_42)) (n4_5 := (IntKind.wrap .i64 x_25)) (n4_6 := (Vector.replicate 32 (0 : Int))) (i5 := (0 : Int)) hX_b0 I H k
    · refine al_r [.one (.int .i64 (0 : Int)), .one (.int .i64 (0 : Int)), .one (.int .i64 (0 : Int)), .one (.int .i64 (0 : Int)), .one (.int .i64 (0 : Int)), .one (.int .i64 (0 : Int)), .vec .u8 32 (Vector.replicate 32 (0 : Int))] rfl I fun p_43 h I => ?_
      refine ⟨trivial, ?_⟩
      refine ⟨(el_keep hX_b0 I.pull2 rfl he_27 hb_28 hg_30 (fun _ _ e => e)), ?_⟩
      refine ⟨trivial, ?_⟩
      refine ⟨(el_keep hX_b0 I.pull2 rfl he_12 hb_13 hg_15 (fun _ _ e => e)), ?_⟩
      refine ⟨trivial, ?_⟩
      refine ⟨(el_keep hX_b0 I.pull2 rfl he_6 hb_7 hg_9 (fun _ _ e => e)), ?_⟩
      replace I := I.pull2
      refine carlingref21_num_r (b0 := (sub b0 (2 : Int) (4 : Int))) hr_18 I H fun r_45 h I H => ?_
      refine ⟨trivial, ?_⟩
      refine ⟨(el_keep hX_b0 I rfl he_27 hb_28 hg_30 (fun _ _ e => e)), ?_⟩
      refine ⟨trivial, ?_⟩
      refine ⟨(el_keep hX_b0 I rfl he_12 hb_13 hg_15 (fun _ _ e => e)), ?_⟩
      refine ⟨trivial, ?_⟩
      refine ⟨(el_keep hX_b0 I rfl he_6 hb_7 hg_9 (fun _ _ e => e)), ?_⟩
      refine carlingref21_num_r (b0 := (sub b0 (4 : Int) (8 : Int))) hr_21 I H fun r_46 h I H => ?_
      refine ⟨trivial, ?_⟩
      refine ⟨trivial, ?_⟩
      refine ⟨(el_keep hX_b0 I rfl he_27 hb_28 hg_30 (fun _ _ e => e)), ?_⟩
      refine ⟨trivial, ?_⟩
      refine ⟨(el_keep hX_b0 I rfl he_12 hb_13 hg_15 (fun _ _ e => e)), ?_⟩
      refine ⟨trivial, ?_⟩
      refine ⟨(el_keep hX_b0 I rfl he_6 hb_7 hg_9 (fun _ _ e => e)), ?_⟩
      refine carlingref21_num_r (b0 := (sub b0 (8 : Int) (16 : Int))) hr_24 I H fun r_47 h I H => ?_
      refine ⟨trivial, ?_⟩
      refine ⟨trivial, ?_⟩
      refine ⟨trivial, ?_⟩
      refine ⟨(el_keep hX_b0 I rfl he_27 hb_28 hg_30 (fun _ _ e => e)), ?_⟩
      refine ⟨trivial, ?_⟩
      refine ⟨(el_keep hX_b0 I rfl he_12 hb_13 hg_15 (fun _ _ e => e)), ?_⟩
      refine ⟨trivial, ?_⟩
      refine ⟨(el_keep hX_b0 I rfl he_6 hb_7 hg_9 (fun _ _ e => e)), ?_⟩
      refine stA_r I.pull1 0 7 0 [.one (.int .i64 (IntKind.wrap .i64 x_4)), .one (.int .i64 (IntKind.wrap .i64 x_10)), .one (.int .i64 (IntKind.wrap .i64 r_45)), .one (.int .i64 (IntKind.wrap .i64 r_46)), .one (.int .i64 (IntKind.wrap .i64 r_47)), .one (.int .i64 (IntKind.wrap .i64 x_25)), .vec .u8 32 (Vector.replicate 32 (0 : Int))] rfl rfl rfl (by first | exact all_segs rfl | exact all_one (by simp [segs, Seg.cells, allOne, allOne_append, allOne_lump, Value.oneCell'])) fun h (I : Inv h (blk p_43 (ρ.T 9) [.one (.int .i64 (IntKind.wrap .i64 x_4)), .one (.int .i64 (IntKind.wrap .i64 x_10)), .one (.int .i64 (IntKind.wrap .i64 r_45)), .one (.int .i64 (IntKind.wrap .i64 r_46)), .one (.int .i64 (IntKind.wrap .i64 r_47)), .one (.int .i64 (IntKind.wrap .i64 x_25)), .vec .u8 32 (Vector.replicate 32 (0 : Int))] :: _)) => ?_
      replace I := I.pull2.pull2
      exact carlingref21_Parse_L1_r (b0 := b0) (v2_0 := (0 : Int)) (v2_1 := (0 : Int)) (v2_2 := (0 : Int)) (v2_3 := (0 : Int)) (v2_4 := (0 : Int)) (v2_5 := (0 : Int)) (v2_6 := (Vector.replicate 32 (0 : Int))) (n4_0 := (IntKind.wrap .i64 x_4)) (n4_1 := (IntKind.wrap .i64 x_10)) (n4_2 := (IntKind.wrap .i64 r_45)) (n4_3 := (IntKind.wrap .i64 r_46)) (n4_4 := (IntKind.wrap .i64 r_47)) (n4_5 := (IntKind.wrap .i64 x_25)) (n4_6 := (Vector.replicate 32 (0 : Int))) (i5 := (0 : Int)) hX_b0 I H k

def carlinglaw21_ours (n0 : inode_Inode) (Q : carlingref21_Inode → Prop) : Prop :=
  Q (⟨n0.Kind, n0.Mode, n0.Links, n0.Size, n0.Time, n0.Attr, n0.Pages⟩ : carlingref21_Inode)

theorem carlinglaw21_ours_r {ρ : Ids} {h : Hp} {A : List At} {n0 : inode_Inode}  {Q' : carlingref21_Inode → Prop} {Q : Int → Int → Int → Int → Int → Int → List Int → Hp → Prop} (I : Inv h (A)) (H : carlinglaw21_ours n0 Q')
    (k : ∀ (r0 : carlingref21_Inode) (h' : Hp), Inv h' (A) → Q' r0 → Q r0.Kind r0.Mode r0.Links r0.Size r0.Time r0.Attr r0.Pages.toList h') : Tx.carlinglaw21_ours ρ n0.Kind n0.Mode n0.Links n0.Size n0.Time n0.Attr n0.Pages.toList h Q := by
  unfold Tx.carlinglaw21_ours
  unfold carlinglaw21_ours at H
  try simp only [nrm_v]
  refine al_r [.one (.int .i64 n0.Kind), .one (.int .i64 n0.Mode), .one (.int .i64 n0.Links), .one (.int .i64 n0.Size), .one (.int .i64 n0.Time), .one (.int .i64 n0.Attr), .vec .u8 32 n0.Pages] rfl I fun p_1 h I => ?_
  refine al_r [.one (.int .i64 (0 : Int)), .one (.int .i64 (0 : Int)), .one (.int .i64 (0 : Int)), .one (.int .i64 (0 : Int)), .one (.int .i64 (0 : Int)), .one (.int .i64 (0 : Int)), .vec .u8 32 (Vector.replicate 32 (0 : Int))] rfl I fun p_3 h I => ?_
  refine ldI_r (I.pull1.cell 0 0 rfl) ?_
  refine ldI_r (I.pull1.cell 1 1 rfl) ?_
  refine ldI_r (I.pull1.cell 2 2 rfl) ?_
  refine ldI_r (I.pull1.cell 3 3 rfl) ?_
  refine ldI_r (I.pull1.cell 4 4 rfl) ?_
  refine ldI_r (I.pull1.cell 5 5 rfl) ?_
  refine ldL_r (I.pull1.lump 6 6 rfl) ?_
  try simp only [nrm_v]
  refine stA_r I 0 7 0 [.one (.int .i64 n0.Kind), .one (.int .i64 n0.Mode), .one (.int .i64 n0.Links), .one (.int .i64 n0.Size), .one (.int .i64 n0.Time), .one (.int .i64 n0.Attr), .vec .u8 32 n0.Pages] rfl rfl rfl (by first | exact all_segs rfl | exact all_one (by simp [segs, Seg.cells, allOne, allOne_append, allOne_lump, Value.oneCell'])) fun h (I : Inv h (blk p_3 (ρ.T 9) [.one (.int .i64 n0.Kind), .one (.int .i64 n0.Mode), .one (.int .i64 n0.Links), .one (.int .i64 n0.Size), .one (.int .i64 n0.Time), .one (.int .i64 n0.Attr), .vec .u8 32 n0.Pages] :: _)) => ?_
  refine ldI_r (I.cell 0 0 rfl) ?_
  refine ldI_r (I.cell 1 1 rfl) ?_
  refine ldI_r (I.cell 2 2 rfl) ?_
  refine ldI_r (I.cell 3 3 rfl) ?_
  refine ldI_r (I.cell 4 4 rfl) ?_
  refine ldI_r (I.cell 5 5 rfl) ?_
  refine ldL_r (I.lump 6 6 rfl) ?_
  try simp only [nrm_v]
  replace I := I.drop1
  replace I := I.drop1
  exact k (⟨n0.Kind, n0.Mode, n0.Links, n0.Size, n0.Time, n0.Attr, n0.Pages⟩ : carlingref21_Inode) _ I H

def pack_Num_K7 (Q : (List Int) → Prop) (n1 : Int) (out7 : List Int) : Prop :=
  (Bnd (out7.length + ([(IntKind.wrap .u8 n1)]).length)) ∧
  Q (out7 ++ [(IntKind.wrap .u8 n1)])

theorem pack_Num_K7_r {ρ : Ids} {h : Hp} {A : List At} {X_b0 : At} {n1 : Int} {out7 : List Int} {a_out71 : Option Addr} {n_out71 c_out71 : Nat} {Q' : (List Int) → Prop} {Q : Sl → Hp → Prop} (I : Inv h (X_b0 :: ownS (rI .u8) a_out71 n_out71 c_out71 out7 :: A)) (H : pack_Num_K7 Q' n1 out7)
    (k : ∀ (r0 : List Int) (ra0 : Option Addr) (rc0 : Nat) (h' : Hp), Inv h' (ownS (rI .u8) ra0 r0.length rc0 r0 :: X_b0 :: A) → Q' r0 → Q ⟨ra0, r0.length, rc0⟩ h') : Tx.pack_Num_K7 ρ Q n1 ⟨a_out71, n_out71, c_out71⟩ h := by
  obtain rfl := own_len I.pull1
  unfold Tx.pack_Num_K7
  unfold pack_Num_K7 at H
  refine al_r [.one (.int .u8 (IntKind.wrap .u8 n1))] rfl I fun p_77 h I => ?_
  replace I := I.litN (rI .u8)
  replace I := I.repI (k := .u8) (IntKind.wrap .u8 n1)
  replace I := I.pull1.pull1
  replace I := I.litC
  replace I := I.pull1.pull1
  replace I := Inv.litL (l := [(IntKind.wrap .u8 n1)]) I rfl rfl
  refine ap_r rd_own I.pull2 rfl (by decide) (by decide) H.1 fun a_82 c_83 h I => ?_
  replace H := H.2
  replace I := I.pull1.drop1
  replace I := I.pull1.pull1
  exact k (out7 ++ [(IntKind.wrap .u8 n1)]) a_82 c_83 _ I H

def pack_Num_K6 (Q : (List Int) → Prop) (n1 : Int) (out7 : List Int) : Prop :=
  (Bnd (out7.length + ([(IntKind.wrap .u8 n1)]).length)) ∧
  pack_Num_K7 Q (Int.fdiv n1 (2 ^ (min (Int.toNat (8 : Int)) (IntKind.bits .u64)))) (out7 ++ [(IntKind.wrap .u8 n1)])

theorem pack_Num_K6_r {ρ : Ids} {h : Hp} {A : List At} {X_b0 : At} {n1 : Int} {out7 : List Int} {a_out71 : Option Addr} {n_out71 c_out71 : Nat} {Q' : (List Int) → Prop} {Q : Sl → Hp → Prop} (I : Inv h (X_b0 :: ownS (rI .u8) a_out71 n_out71 c_out71 out7 :: A)) (H : pack_Num_K6 Q' n1 out7)
    (k : ∀ (r0 : List Int) (ra0 : Option Addr) (rc0 : Nat) (h' : Hp), Inv h' (ownS (rI .u8) ra0 r0.length rc0 r0 :: X_b0 :: A) → Q' r0 → Q ⟨ra0, r0.length, rc0⟩ h') : Tx.pack_Num_K6 ρ Q n1 ⟨a_out71, n_out71, c_out71⟩ h := by
  obtain rfl := own_len I.pull1
  unfold Tx.pack_Num_K6
  unfold pack_Num_K6 at H
  refine al_r [.one (.int .u8 (IntKind.wrap .u8 n1))] rfl I fun p_67 h I => ?_
  replace I := I.litN (rI .u8)
  replace I := I.repI (k := .u8) (IntKind.wrap .u8 n1)
  replace I := I.pull1.pull1
  replace I := I.litC
  replace I := I.pull1.pull1
  replace I := Inv.litL (l := [(IntKind.wrap .u8 n1)]) I rfl rfl
  refine ap_r rd_own I.pull2 rfl (by decide) (by decide) H.1 fun a_72 c_73 h I => ?_
  replace H := H.2
  replace I := I.pull1.drop1
  refine ⟨by decide, ?_⟩
  replace I := I.pull1
  exact pack_Num_K7_r (n1 := (Int.fdiv n1 (2 ^ (min (Int.toNat (8 : Int)) (IntKind.bits .u64))))) (out7 := (out7 ++ [(IntKind.wrap .u8 n1)])) I H k

def pack_Num_K5 (Q : (List Int) → Prop) (n1 : Int) (out7 : List Int) : Prop :=
  (Bnd (out7.length + ([(IntKind.wrap .u8 n1)]).length)) ∧
  pack_Num_K6 Q (Int.fdiv n1 (2 ^ (min (Int.toNat (8 : Int)) (IntKind.bits .u64)))) (out7 ++ [(IntKind.wrap .u8 n1)])

theorem pack_Num_K5_r {ρ : Ids} {h : Hp} {A : List At} {X_b0 : At} {n1 : Int} {out7 : List Int} {a_out71 : Option Addr} {n_out71 c_out71 : Nat} {Q' : (List Int) → Prop} {Q : Sl → Hp → Prop} (I : Inv h (X_b0 :: ownS (rI .u8) a_out71 n_out71 c_out71 out7 :: A)) (H : pack_Num_K5 Q' n1 out7)
    (k : ∀ (r0 : List Int) (ra0 : Option Addr) (rc0 : Nat) (h' : Hp), Inv h' (ownS (rI .u8) ra0 r0.length rc0 r0 :: X_b0 :: A) → Q' r0 → Q ⟨ra0, r0.length, rc0⟩ h') : Tx.pack_Num_K5 ρ Q n1 ⟨a_out71, n_out71, c_out71⟩ h := by
  obtain rfl := own_len I.pull1
  unfold Tx.pack_Num_K5
  unfold pack_Num_K5 at H
  refine al_r [.one (.int .u8 (IntKind.wrap .u8 n1))] rfl I fun p_57 h I => ?_
  replace I := I.litN (rI .u8)
  replace I := I.repI (k := .u8) (IntKind.wrap .u8 n1)
  replace I := I.pull1.pull1
  replace I := I.litC
  replace I := I.pull1.pull1
  replace I := Inv.litL (l := [(IntKind.wrap .u8 n1)]) I rfl rfl
  refine ap_r rd_own I.pull2 rfl (by decide) (by decide) H.1 fun a_62 c_63 h I => ?_
  replace H := H.2
  replace I := I.pull1.drop1
  refine ⟨by decide, ?_⟩
  replace I := I.pull1
  exact pack_Num_K6_r (n1 := (Int.fdiv n1 (2 ^ (min (Int.toNat (8 : Int)) (IntKind.bits .u64))))) (out7 := (out7 ++ [(IntKind.wrap .u8 n1)])) I H k

def pack_Num_K4 (Q : (List Int) → Prop) (n1 : Int) (out7 : List Int) : Prop :=
  (Bnd (out7.length + ([(IntKind.wrap .u8 n1)]).length)) ∧
  pack_Num_K5 Q (Int.fdiv n1 (2 ^ (min (Int.toNat (8 : Int)) (IntKind.bits .u64)))) (out7 ++ [(IntKind.wrap .u8 n1)])

theorem pack_Num_K4_r {ρ : Ids} {h : Hp} {A : List At} {X_b0 : At} {n1 : Int} {out7 : List Int} {a_out71 : Option Addr} {n_out71 c_out71 : Nat} {Q' : (List Int) → Prop} {Q : Sl → Hp → Prop} (I : Inv h (X_b0 :: ownS (rI .u8) a_out71 n_out71 c_out71 out7 :: A)) (H : pack_Num_K4 Q' n1 out7)
    (k : ∀ (r0 : List Int) (ra0 : Option Addr) (rc0 : Nat) (h' : Hp), Inv h' (ownS (rI .u8) ra0 r0.length rc0 r0 :: X_b0 :: A) → Q' r0 → Q ⟨ra0, r0.length, rc0⟩ h') : Tx.pack_Num_K4 ρ Q n1 ⟨a_out71, n_out71, c_out71⟩ h := by
  obtain rfl := own_len I.pull1
  unfold Tx.pack_Num_K4
  unfold pack_Num_K4 at H
  refine al_r [.one (.int .u8 (IntKind.wrap .u8 n1))] rfl I fun p_47 h I => ?_
  replace I := I.litN (rI .u8)
  replace I := I.repI (k := .u8) (IntKind.wrap .u8 n1)
  replace I := I.pull1.pull1
  replace I := I.litC
  replace I := I.pull1.pull1
  replace I := Inv.litL (l := [(IntKind.wrap .u8 n1)]) I rfl rfl
  refine ap_r rd_own I.pull2 rfl (by decide) (by decide) H.1 fun a_52 c_53 h I => ?_
  replace H := H.2
  replace I := I.pull1.drop1
  refine ⟨by decide, ?_⟩
  replace I := I.pull1
  exact pack_Num_K5_r (n1 := (Int.fdiv n1 (2 ^ (min (Int.toNat (8 : Int)) (IntKind.bits .u64))))) (out7 := (out7 ++ [(IntKind.wrap .u8 n1)])) I H k

def pack_Num_K3 (Q : (List Int) → Prop) (n1 : Int) (out7 : List Int) : Prop :=
  (Bnd (out7.length + ([(IntKind.wrap .u8 n1)]).length)) ∧
  pack_Num_K4 Q (Int.fdiv n1 (2 ^ (min (Int.toNat (8 : Int)) (IntKind.bits .u64)))) (out7 ++ [(IntKind.wrap .u8 n1)])

theorem pack_Num_K3_r {ρ : Ids} {h : Hp} {A : List At} {X_b0 : At} {n1 : Int} {out7 : List Int} {a_out71 : Option Addr} {n_out71 c_out71 : Nat} {Q' : (List Int) → Prop} {Q : Sl → Hp → Prop} (I : Inv h (X_b0 :: ownS (rI .u8) a_out71 n_out71 c_out71 out7 :: A)) (H : pack_Num_K3 Q' n1 out7)
    (k : ∀ (r0 : List Int) (ra0 : Option Addr) (rc0 : Nat) (h' : Hp), Inv h' (ownS (rI .u8) ra0 r0.length rc0 r0 :: X_b0 :: A) → Q' r0 → Q ⟨ra0, r0.length, rc0⟩ h') : Tx.pack_Num_K3 ρ Q n1 ⟨a_out71, n_out71, c_out71⟩ h := by
  obtain rfl := own_len I.pull1
  unfold Tx.pack_Num_K3
  unfold pack_Num_K3 at H
  refine al_r [.one (.int .u8 (IntKind.wrap .u8 n1))] rfl I fun p_37 h I => ?_
  replace I := I.litN (rI .u8)
  replace I := I.repI (k := .u8) (IntKind.wrap .u8 n1)
  replace I := I.pull1.pull1
  replace I := I.litC
  replace I := I.pull1.pull1
  replace I := Inv.litL (l := [(IntKind.wrap .u8 n1)]) I rfl rfl
  refine ap_r rd_own I.pull2 rfl (by decide) (by decide) H.1 fun a_42 c_43 h I => ?_
  replace H := H.2
  replace I := I.pull1.drop1
  refine ⟨by decide, ?_⟩
  replace I := I.pull1
  exact pack_Num_K4_r (n1 := (Int.fdiv n1 (2 ^ (min (Int.toNat (8 : Int)) (IntKind.bits .u64))))) (out7 := (out7 ++ [(IntKind.wrap .u8 n1)])) I H k

def pack_Num_K2 (Q : (List Int) → Prop) (n1 : Int) (out7 : List Int) : Prop :=
  (Bnd (out7.length + ([(IntKind.wrap .u8 n1)]).length)) ∧
  pack_Num_K3 Q (Int.fdiv n1 (2 ^ (min (Int.toNat (8 : Int)) (IntKind.bits .u64)))) (out7 ++ [(IntKind.wrap .u8 n1)])

theorem pack_Num_K2_r {ρ : Ids} {h : Hp} {A : List At} {X_b0 : At} {n1 : Int} {out7 : List Int} {a_out71 : Option Addr} {n_out71 c_out71 : Nat} {Q' : (List Int) → Prop} {Q : Sl → Hp → Prop} (I : Inv h (X_b0 :: ownS (rI .u8) a_out71 n_out71 c_out71 out7 :: A)) (H : pack_Num_K2 Q' n1 out7)
    (k : ∀ (r0 : List Int) (ra0 : Option Addr) (rc0 : Nat) (h' : Hp), Inv h' (ownS (rI .u8) ra0 r0.length rc0 r0 :: X_b0 :: A) → Q' r0 → Q ⟨ra0, r0.length, rc0⟩ h') : Tx.pack_Num_K2 ρ Q n1 ⟨a_out71, n_out71, c_out71⟩ h := by
  obtain rfl := own_len I.pull1
  unfold Tx.pack_Num_K2
  unfold pack_Num_K2 at H
  refine al_r [.one (.int .u8 (IntKind.wrap .u8 n1))] rfl I fun p_27 h I => ?_
  replace I := I.litN (rI .u8)
  replace I := I.repI (k := .u8) (IntKind.wrap .u8 n1)
  replace I := I.pull1.pull1
  replace I := I.litC
  replace I := I.pull1.pull1
  replace I := Inv.litL (l := [(IntKind.wrap .u8 n1)]) I rfl rfl
  refine ap_r rd_own I.pull2 rfl (by decide) (by decide) H.1 fun a_32 c_33 h I => ?_
  replace H := H.2
  replace I := I.pull1.drop1
  refine ⟨by decide, ?_⟩
  replace I := I.pull1
  exact pack_Num_K3_r (n1 := (Int.fdiv n1 (2 ^ (min (Int.toNat (8 : Int)) (IntKind.bits .u64))))) (out7 := (out7 ++ [(IntKind.wrap .u8 n1)])) I H k

def pack_Num_K1 (Q : (List Int) → Prop) (n1 : Int) (out7 : List Int) : Prop :=
  (Bnd (out7.length + ([(IntKind.wrap .u8 n1)]).length)) ∧
  pack_Num_K2 Q (Int.fdiv n1 (2 ^ (min (Int.toNat (8 : Int)) (IntKind.bits .u64)))) (out7 ++ [(IntKind.wrap .u8 n1)])

theorem pack_Num_K1_r {ρ : Ids} {h : Hp} {A : List At} {X_b0 : At} {n1 : Int} {out7 : List Int} {a_out71 : Option Addr} {n_out71 c_out71 : Nat} {Q' : (List Int) → Prop} {Q : Sl → Hp → Prop} (I : Inv h (X_b0 :: ownS (rI .u8) a_out71 n_out71 c_out71 out7 :: A)) (H : pack_Num_K1 Q' n1 out7)
    (k : ∀ (r0 : List Int) (ra0 : Option Addr) (rc0 : Nat) (h' : Hp), Inv h' (ownS (rI .u8) ra0 r0.length rc0 r0 :: X_b0 :: A) → Q' r0 → Q ⟨ra0, r0.length, rc0⟩ h') : Tx.pack_Num_K1 ρ Q n1 ⟨a_out71, n_out71, c_out71⟩ h := by
  obtain rfl := own_len I.pull1
  unfold Tx.pack_Num_K1
  unfold pack_Num_K1 at H
  refine al_r [.one (.int .u8 (IntKind.wrap .u8 n1))] rfl I fun p_17 h I => ?_
  replace I := I.litN (rI .u8)
  replace I := I.repI (k := .u8) (IntKind.wrap .u8 n1)
  replace I := I.pull1.pull1
  replace I := I.litC
  replace I := I.pull1.pull1
  replace I := Inv.litL (l := [(IntKind.wrap .u8 n1)]) I rfl rfl
  refine ap_r rd_own I.pull2 rfl (by decide) (by decide) H.1 fun a_22 c_23 h I => ?_
  replace H := H.2
  replace I := I.pull1.drop1
  refine ⟨by decide, ?_⟩
  replace I := I.pull1
  exact pack_Num_K2_r (n1 := (Int.fdiv n1 (2 ^ (min (Int.toNat (8 : Int)) (IntKind.bits .u64))))) (out7 := (out7 ++ [(IntKind.wrap .u8 n1)])) I H k

def pack_Num (b0 : List Int) (n1 : Int) (size2 : Int) (Q : (List Int) → Prop) : Prop :=
  bytes_Clone b0 fun r_2 =>
  pack_sized size2 fun r_6 =>
  br (r_6 == (8 : Int))
  ((Bnd (r_2.length + ([(IntKind.wrap .u8 n1)]).length)) ∧
  pack_Num_K1 Q (Int.fdiv n1 (2 ^ (min (Int.toNat (8 : Int)) (IntKind.bits .u64)))) (r_2 ++ [(IntKind.wrap .u8 n1)]))
  (br (r_6 == (7 : Int))
  (pack_Num_K1 Q n1 r_2)
  (br (r_6 == (6 : Int))
  (pack_Num_K2 Q n1 r_2)
  (br (r_6 == (5 : Int))
  (pack_Num_K3 Q n1 r_2)
  (br (r_6 == (4 : Int))
  (pack_Num_K4 Q n1 r_2)
  (br (r_6 == (3 : Int))
  (pack_Num_K5 Q n1 r_2)
  (br (r_6 == (2 : Int))
  (pack_Num_K6 Q n1 r_2)
  (pack_Num_K7 Q n1 r_2)))))))

theorem pack_Num_r {ρ : Ids} {h : Hp} {A : List At} {b0 : List Int} {n1 : Int} {size2 : Int} {a_b00 : Option Addr} {n_b00 c_b00 : Nat} {X_b0 : At} {Q' : (List Int) → Prop} {Q : Sl → Hp → Prop} (hX_b0 : Rd (rI .u8) X_b0 a_b00 n_b00 c_b00 b0) (I : Inv h (X_b0 :: A)) (H : pack_Num b0 n1 size2 Q')
    (k : ∀ (r0 : List Int) (ra0 : Option Addr) (rc0 : Nat) (h' : Hp), Inv h' (ownS (rI .u8) ra0 r0.length rc0 r0 :: X_b0 :: A) → Q' r0 → Q ⟨ra0, r0.length, rc0⟩ h') : Tx.pack_Num ρ ⟨a_b00, n_b00, c_b00⟩ n1 size2 h Q := by
  obtain rfl := rd_len hX_b0 I
  unfold Tx.pack_Num
  unfold pack_Num at H
  refine bytes_Clone_r (s0 := b0) hX_b0 I H fun r_2 a_3 c_4 h I H => ?_
  refine pack_sized_r (size0 := size2) I H fun r_6 h I H => ?_
  refine br_r H (fun hb H => ?_) (fun hb H => ?_)
  · refine al_r [.one (.int .u8 (IntKind.wrap .u8 n1))] rfl I fun p_7 h I => ?_
    replace I := I.litN (rI .u8)
    replace I := I.repI (k := .u8) (IntKind.wrap .u8 n1)
    replace I := I.pull1.pull1
    replace I := I.litC
    replace I := I.pull1.pull1
    replace I := Inv.litL (l := [(IntKind.wrap .u8 n1)]) I rfl rfl
    refine ap_r rd_own I.pull1 rfl (by decide) (by decide) H.1 fun a_12 c_13 h I => ?_
    replace H := H.2
    replace I := I.pull1.drop1
    refine ⟨by decide, ?_⟩
    replace I := I.pull1
    exact pack_Num_K1_r (n1 := (Int.fdiv n1 (2 ^ (min (Int.toNat (8 : Int)) (IntKind.bits .u64))))) (out7 := (r_2 ++ [(IntKind.wrap .u8 n1)])) I H k
  · refine br_r H (fun hb H => ?_) (fun hb H => ?_)
    · replace I := I.pull1
      exact pack_Num_K1_r (n1 := n1) (out7 := r_2) I H k
    · refine br_r H (fun hb H => ?_) (fun hb H => ?_)
      · replace I := I.pull1
        exact pack_Num_K2_r (n1 := n1) (out7 := r_2) I H k
      · refine br_r H (fun hb H => ?_) (fun hb H => ?_)
        · replace I := I.pull1
          exact pack_Num_K3_r (n1 := n1) (out7 := r_2) I H k
        · refine br_r H (fun hb H => ?_) (fun hb H => ?_)
          · replace I := I.pull1
            exact pack_Num_K4_r (n1 := n1) (out7 := r_2) I H k
          · refine br_r H (fun hb H => ?_) (fun hb H => ?_)
            · replace I := I.pull1
              exact pack_Num_K5_r (n1 := n1) (out7 := r_2) I H k
            · refine br_r H (fun hb H => ?_) (fun hb H => ?_)
              · replace I := I.pull1
                exact pack_Num_K6_r (n1 := n1) (out7 := r_2) I H k
              · replace I := I.pull1
                exact pack_Num_K7_r (n1 := n1) (out7 := r_2) I H k

end Go.Pt
