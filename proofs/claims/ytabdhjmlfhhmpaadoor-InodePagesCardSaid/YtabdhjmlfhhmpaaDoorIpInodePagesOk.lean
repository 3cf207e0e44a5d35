import Derived.Test.YtabdhjmlfhhmpaaDoorIpPo
import Derived.Test.YtabdhjmlfhhmpaaDoorIpInodeBackOk
set_option linter.unusedSimpArgs false
set_option linter.unusedVariables false
namespace Go.Pt
open Go Go.Wc Go.Pu Go.Laws

variable {pg : List Int} {at1 : Int}

def okAt (pg : List Int) (at1 : Int) : Prop := pg.length = 256 ∧ 0 ≤ at1 ∧ at1 ≤ 3
instance : Decidable (okAt pg at1) := by unfold okAt; exact inferInstance
def cutS (pg : List Int) (at1 : Int) : List Int := (pg.drop (64 * at1.toNat)).take 64
def getS (pg : List Int) (at1 : Int) : inode_Inode × Int := if okAt pg at1 then parseS (cutS pg at1) else (zeroI, 1)
def putS (pg : List Int) (at1 : Int) (n : inode_Inode) : List Int × Int :=
  if okAt pg at1 ∧ mayS n = true then (pg.take (64 * at1.toNat) ++ bytesS n ++ pg.drop (64 * at1.toNat + 64), 0) else ([], 1)

theorem cut_bytes (hb : bytesL pg) : bytesL (cutS pg at1) := part_bytes hb _ _
theorem wrap_at (h : 0 ≤ at1 ∧ at1 ≤ 3) : IntKind.wrap .i64 ((64 : Int) * at1) = ((64 * at1.toNat : Nat) : Int) := by rw [wrap64 (by omega) (by omega)]; omega

theorem get_spec {σ : St Obj} {Q : inode_Inode → Int → St Obj → Prop} (hb : bytesL pg) (H : ∀ σ', Q (getS pg at1).1 (getS pg at1).2 σ') : inode_Get pg at1 σ Q := by
  unfold inode_Get inode_Get_K1
  unfold getS at H
  rw [br_iff]
  constructor
  · intro h
    rw [if_neg (fun hk => by have := hk.1; simp at h; omega)] at H
    rw [br_true]; exact H _
  intro h
  have hl : pg.length = 256 := by simp at h; omega
  rw [br_iff]
  constructor
  · intro h
    have h : at1 < 0 := by simpa using h
    rw [if_neg (fun hk => by have := hk.2.1; omega)] at H
    rw [br_true]; exact H _
  intro h
  have h0 : 0 ≤ at1 := by rw [decide_eq_false_iff_not] at h; omega
  rw [br_iff]
  constructor
  · intro h
    have h : at1 ≥ 4 := by simpa using h
    rw [if_neg (fun hk => by have := hk.2.2; omega)] at H
    exact H _
  intro h
  have h3 : at1 ≤ 3 := by rw [decide_eq_false_iff_not] at h; omega
  rw [if_pos ⟨hl, h0, h3⟩] at H
  have e1 := wrap_at ⟨h0, h3⟩
  have e2 : IntKind.wrap .i64 ((64 : Int) * (IntKind.wrap .i64 (at1 + (1 : Int)))) = ((64 * at1.toNat + 64 : Nat) : Int) := by rw [wrap64 (n := at1 + 1) (by omega) (by omega), wrap64 (by omega) (by omega)]; omega
  rw [e1, e2]
  have es : sub pg ((64 * at1.toNat : Nat) : Int) ((64 * at1.toNat + 64 : Nat) : Int) = cutS pg at1 := by
    unfold sub cutS
    rw [List.drop_take, Int.toNat_natCast, Int.toNat_natCast, Nat.add_sub_cancel_left]
  rw [es]
  exact ⟨⟨by omega, by omega, by omega⟩, parse_spec (cut_bytes hb) H⟩

theorem getR_spec {Q : carlingref21_Inode → Int → Prop} (hb : bytesL pg) (H : Q (fromI (getS pg at1).1) (getS pg at1).2) : carlingref21_Get pg at1 Q := by
  unfold carlingref21_Get carlingref21_Get_K1
  unfold getS at H
  rw [br_iff]
  constructor
  · intro h
    rw [if_neg (fun hk => by have := hk.1; simp at h; omega)] at H
    rw [br_true]; exact H
  intro h
  have hl : pg.length = 256 := by simp at h; omega
  rw [br_iff]
  constructor
  · intro h
    have h : at1 < 0 := by simpa using h
    rw [if_neg (fun hk => by have := hk.2.1; omega)] at H
    rw [br_true]; exact H
  intro h
  have h0 : 0 ≤ at1 := by rw [decide_eq_false_iff_not] at h; omega
  rw [br_iff]
  constructor
  · intro h
    have h : at1 > 3 := by simpa using h
    rw [if_neg (fun hk => by have := hk.2.2; omega)] at H
    exact H
  intro h
  have h3 : at1 ≤ 3 := by rw [decide_eq_false_iff_not] at h; omega
  rw [if_pos ⟨hl, h0, h3⟩] at H
  have e1 := wrap_at ⟨h0, h3⟩
  have e2 : IntKind.wrap .i64 (((64 * at1.toNat : Nat) : Int) + (64 : Int)) = ((64 * at1.toNat + 64 : Nat) : Int) := by rw [wrap64 (by omega) (by omega)]; omega
  rw [e1, e2]
  have es : sub pg ((64 * at1.toNat : Nat) : Int) ((64 * at1.toNat + 64 : Nat) : Int) = cutS pg at1 := by
    unfold sub cutS
    rw [List.drop_take, Int.toNat_natCast, Int.toNat_natCast, Nat.add_sub_cancel_left]
  rw [es]
  exact ⟨⟨by omega, by omega, by omega⟩, parseR_spec (cut_bytes hb) H⟩

theorem put_spec {n : inode_Inode} {Q : List Int → Int → Prop} (hP : bytesL n.Pages.toList) (ht : n.Time < 18446744073709551616) (H : Q (putS pg at1 n).1 (putS pg at1 n).2) : inode_Put pg at1 n Q := by
  unfold inode_Put inode_Put_K1
  refine lay_spec hP ht ?_
  unfold putS at H
  rw [br_iff]
  constructor
  · intro h
    rw [if_neg (fun hk => by have := hk.1.1; simp at h; omega)] at H
    rw [br_true]; exact H
  intro h
  have hl : pg.length = 256 := by simp at h; omega
  rw [br_iff]
  constructor
  · intro h
    have h : at1 < 0 := by simpa using h
    rw [if_neg (fun hk => by have := hk.1.2.1; omega)] at H
    rw [br_true]; exact H
  intro h
  have h0 : 0 ≤ at1 := by rw [decide_eq_false_iff_not] at h; omega
  rw [br_iff]
  constructor
  · intro h
    have h : at1 ≥ 4 := by simpa using h
    rw [if_neg (fun hk => by have := hk.1.2.2; omega)] at H
    rw [br_true]; exact H
  intro h
  have h3 : at1 ≤ 3 := by rw [decide_eq_false_iff_not] at h; omega
  unfold layS
  cases hm : mayS n with
  | false =>
    rw [if_neg (by simp)]
    rw [hm, if_neg (by simp)] at H
    show br true _ _
    rw [br_true]; exact H
  | true =>
    rw [if_pos rfl]
    rw [hm, if_pos ⟨⟨hl, h0, h3⟩, rfl⟩] at H
    show br false _ _
    rw [br_false]
    refine clone_spec (by omega) ?_
    rw [wrap_at ⟨h0, h3⟩]
    refine ⟨⟨by omega, by omega, by omega⟩, ?_⟩
    have e : cpP pg (Int.toNat ((64 * at1.toNat : Nat) : Int)) (sub pg ((64 * at1.toNat : Nat) : Int) (pg.length : Int)).length (bytesS n) = pg.take (64 * at1.toNat) ++ bytesS n ++ pg.drop (64 * at1.toNat + 64) := by
      unfold cpP
      rw [sub_drop, List.length_drop, Int.toNat_natCast, bytesS_len]
      have : min 64 (pg.length - 64 * at1.toNat) = 64 := by omega
      rw [this, List.take_of_length_le (l := bytesS n) (by rw [bytesS_len]; omega)]
    rw [e]; exact H

theorem putL_spec {Q : List Int → Int → Prop} {x : List Int} (h : 0 ≤ at1 ∧ at1 ≤ 3) (hl : pg.length = 256) (hx : x.length = 64) (H : Q (pg.take (64 * at1.toNat) ++ x ++ pg.drop (64 * at1.toNat + 64)) 0) : carlingref21_Put_L2 Q at1 x pg 0 := by
  have key : ∀ (j i : Nat), i + j = 64 → carlingref21_Put_L2 Q at1 x (pg.take (64 * at1.toNat) ++ x.take i ++ pg.drop (64 * at1.toNat + i)) (i : Int) := by
    intro j
    induction j with
    | zero =>
      intro i e
      obtain rfl : i = 64 := by omega
      refine carlingref21_Put_L2_in _ _ _ _ _ ?_
      unfold carlingref21_Put_B2
      rw [decide_eq_false (by omega), br_false, List.take_of_length_le (l := x) (by omega)]
      exact H
    | succ j ih =>
      intro i e
      refine carlingref21_Put_L2_in _ _ _ _ _ ?_
      unfold carlingref21_Put_B2
      rw [decide_eq_true (by omega), br_true]
      refine ixP_nat (x := x[i]) (List.getElem?_eq_getElem (by omega)) ?_
      have ei : IntKind.wrap .i64 ((IntKind.wrap .i64 ((64 : Int) * at1)) + (i : Int)) = ((64 * at1.toNat + i : Nat) : Int) := by rw [wrap_at h, wrap64 (by omega) (by omega)]; omega
      rw [ei]
      have hll : (pg.take (64 * at1.toNat) ++ x.take i).length = 64 * at1.toNat + i := by rw [List.length_append, List.length_take, List.length_take]; omega
      obtain ⟨y, hd⟩ : ∃ y, pg.drop (64 * at1.toNat + i) = y :: pg.drop (64 * at1.toNat + i + 1) := ⟨_, List.drop_eq_getElem_cons (by omega)⟩
      refine ixP_nat (x := y) (by rw [hd]; have := @mid_get _ (pg.take (64 * at1.toNat) ++ x.take i) (pg.drop (64 * at1.toNat + i + 1)) y; rwa [hll] at this) ?_
      rw [wrap64 (n := (i : Int) + 1) (by omega) (by omega), Int.toNat_natCast]
      have := ih (i + 1) (by omega)
      have es : (pg.take (64 * at1.toNat) ++ x.take i ++ pg.drop (64 * at1.toNat + i)).set (64 * at1.toNat + i) x[i] = pg.take (64 * at1.toNat) ++ x.take (i + 1) ++ pg.drop (64 * at1.toNat + (i + 1)) := by
        rw [List.set_append_right _ _ (by omega), hll, Nat.sub_self, hd, List.set_cons_zero, List.take_succ_eq_append_getElem (l := x) (by omega)]
        simp only [List.append_assoc, List.singleton_append, Nat.add_assoc]
      rw [es]
      exact this
  have := key 64 0 (by omega)
  simpa using this

theorem putR_spec {n : carlingref21_Inode} {Q : List Int → Int → Prop} (hP : bytesL n.Pages.toList) (ht : n.Time < 18446744073709551616) (H : Q (putS pg at1 (toI n)).1 (putS pg at1 (toI n)).2) : carlingref21_Put pg at1 n Q := by
  unfold carlingref21_Put carlingref21_Put_K1
  refine layR_spec hP ht ?_
  unfold putS at H
  rw [br_iff]
  constructor
  · intro h
    rw [if_neg (fun hk => by have := hk.1.1; simp at h; omega)] at H
    rw [br_true]; exact H
  intro h
  have hl : pg.length = 256 := by simp at h; omega
  rw [br_iff]
  constructor
  · intro h
    have h : at1 < 0 := by simpa using h
    rw [if_neg (fun hk => by have := hk.1.2.1; omega)] at H
    rw [br_true]; exact H
  intro h
  have h0 : 0 ≤ at1 := by rw [decide_eq_false_iff_not] at h; omega
  rw [br_iff]
  constructor
  · intro h
    have h : at1 > 3 := by simpa using h
    rw [if_neg (fun hk => by have := hk.1.2.2; omega)] at H
    rw [br_true]; exact H
  intro h
  have h3 : at1 ≤ 3 := by rw [decide_eq_false_iff_not] at h; omega
  unfold layS
  cases hm : mayS (toI n) with
  | false =>
    rw [if_neg (by simp)]
    rw [hm, if_neg (by simp)] at H
    show br true _ _
    rw [br_true]; exact H
  | true =>
    rw [if_pos rfl]
    rw [hm, if_pos ⟨⟨hl, h0, h3⟩, rfl⟩] at H
    show br false _ _
    rw [br_false, List.nil_append]
    exact ⟨by simp only [Bnd, List.length_nil]; omega, putL_spec ⟨h0, h3⟩ hl (bytesS_len _) H⟩

theorem pages_K2 {σ : St Obj} {Q : Bool → St Obj → Prop} {m : inode_Inode} {e g : Int} {a : List Int} (ha : a.length ≤ 4294967296) (hQ : ∀ σ', Q true σ') :
    carlinglaw21_InodePages_K2 Q m.Kind m.Mode m.Links m.Size m.Time m.Attr m.Pages e (fromI m).Kind (fromI m).Mode (fromI m).Links (fromI m).Size (fromI m).Time (fromI m).Attr (fromI m).Pages e a g a g σ := by
  unfold carlinglaw21_InodePages_K2 carlinglaw21_ours
  show br (eqI m m) _ _
  rw [eqI_refl, br_true, beq_self_eq_true, br_true]
  refine same_spec ha ?_
  rw [decide_eq_true rfl, br_true, beq_self_eq_true, br_true]
  exact alive_spec hQ

theorem carlinglaw21_InodePages_ok (pg : List Int) (n1 : pg.length ≤ maxLen ∧ ∀ x ∈ pg, (fun n : Int => (Lit.int .u8 n).wf = true) x) (at1 : Int) (w : (Lit.int .i64 at1).wf = true) (x : carlingref21_Inode) (nx : N_carlingref21_Inode x) : carlinglaw21_InodePages pg at1 x st0 (fun b _ => b = true) := by
  have hb := u8_bytes n1.2
  obtain ⟨hP, ht⟩ := nice_in nx
  have ht2 : x.Time < 18446744073709551616 := by omega
  unfold carlinglaw21_InodePages carlinglaw21_theirs
  rw [br_iff]
  constructor
  · intro _; exact alive_spec fun _ => rfl
  intro hs
  have hs : pg.length ≤ 600 := by rw [decide_eq_false_iff_not] at hs; omega
  refine get_spec hb fun σ1 => getR_spec hb ?_
  refine put_spec (n := toI x) hP ht2 (putR_spec hP ht2 ?_)
  have hpl : (putS pg at1 (toI x)).1.length ≤ 4294967296 := by
    unfold putS
    split
    · simp only [List.length_append, List.length_take, List.length_drop, bytesS_len]; omega
    · simp
  rw [br_iff]
  constructor
  · intro hg
    have hc : okAt pg at1 ∧ mayS (toI x) = true := by
      unfold putS at hg
      by_cases hc : okAt pg at1 ∧ mayS (toI x) = true
      · exact hc
      · rw [if_neg hc] at hg; simp at hg
    have hput : putS pg at1 (toI x) = (pg.take (64 * at1.toNat) ++ bytesS (toI x) ++ pg.drop (64 * at1.toNat + 64), 0) := by unfold putS; rw [if_pos hc]
    obtain ⟨⟨hl, h0, h3⟩, hm⟩ := hc
    have hb2 : bytesL (putS pg at1 (toI x)).1 := by
      rw [hput]
      intro y hy
      simp only [List.mem_append] at hy
      rcases hy with (h | h) | h
      · exact hb y (List.mem_of_mem_take h)
      · exact bytesS_bytes hm hP y h
      · exact hb y (List.mem_of_mem_drop h)
    have ht64 : (pg.take (64 * at1.toNat)).length = 64 * at1.toNat := by rw [List.length_take]; omega
    have hget : getS (putS pg at1 (toI x)).1 at1 = (toI x, 0) := by
      rw [hput]
      unfold getS
      rw [if_pos ⟨by simp only [List.length_append, List.length_take, List.length_drop, bytesS_len]; omega, h0, h3⟩]
      have : cutS (pg.take (64 * at1.toNat) ++ bytesS (toI x) ++ pg.drop (64 * at1.toNat + 64)) at1 = bytesS (toI x) := by
        unfold cutS
        rw [List.append_assoc, List.drop_left' ht64, List.take_left' (bytesS_len _)]
      rw [this]
      exact parse_lay hm ht
    refine get_spec hb2 fun σ2 => ?_
    rw [hget]
    show br (!(eqI (toI x) (toI x))) _ _
    rw [eqI_refl, Bool.not_true, br_false]
    unfold carlinglaw21_InodePages_K1
    rw [bne_self_eq_false, br_false]
    exact pages_K2 hpl fun _ => rfl
  · intro _
    exact pages_K2 hpl fun _ => rfl

end Go.Pt
