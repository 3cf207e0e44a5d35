import Derived.Test.YtabdhjmlfhhmpaaDoorIpPo
import Derived.Test.YtabdhjmlfhhmpaaDoorIpInodeParsesOk
set_option linter.unusedSimpArgs false
set_option linter.unusedVariables false
namespace Go.Pt
open Go Go.Wc Go.Pu Go.Laws

theorem same_spec {a b : List Int} {Q : Bool → Prop} (ha : a.length ≤ 4294967296) (H : Q (decide (a = b))) : carlingref02_Same a b Q := by
  unfold carlingref02_Same
  rw [br_iff]
  constructor
  · intro h
    have h : a.length ≠ b.length := by simp at h; omega
    rw [decide_eq_false (fun e => h (by rw [e]))] at H
    exact H
  · intro h
    have h : a.length = b.length := by simp at h; omega
    have key : ∀ (ra rb acc : List Int), a = acc ++ ra → b = acc ++ rb → carlingref02_Same_L1 Q a b (acc.length : Int) := by
      intro ra
      induction ra with
      | nil =>
        intro rb acc e1 e2
        have : rb = [] := by
          have := congrArg List.length e1; have := congrArg List.length e2
          simp at *; exact List.length_eq_zero_iff.1 (by omega)
        subst this
        refine carlingref02_Same_L1_in _ _ _ _ ?_
        unfold carlingref02_Same_B1
        rw [decide_eq_false (by rw [e1]; simp), br_false]
        rw [decide_eq_true (by rw [e1, e2])] at H
        exact H
      | cons x ra ih =>
        intro rb acc e1 e2
        have l1 := congrArg List.length e1; have l2 := congrArg List.length e2
        simp only [List.length_append, List.length_cons] at l1 l2
        obtain ⟨y, rb, rfl⟩ := List.exists_cons_of_length_pos (l := rb) (by omega)
        refine carlingref02_Same_L1_in _ _ _ _ ?_
        unfold carlingref02_Same_B1
        rw [decide_eq_true (by omega), br_true]
        refine ixP_nat (x := x) (by rw [e1]; exact mid_get) (ixP_nat (x := y) (by rw [e2]; exact mid_get) ?_)
        rw [br_iff]
        constructor
        · intro hne
          have hne : x ≠ y := by simpa using hne
          rw [decide_eq_false (fun e => hne (by rw [e1, e2] at e; exact (List.cons.inj (List.append_cancel_left e)).1))] at H
          exact H
        · intro he
          have he : x = y := by simpa using he
          subst he
          rw [wrap64 (by omega) (by omega)]
          have := ih rb (acc ++ [x]) (by rw [e1]; simp) (by rw [e2]; simp)
          simpa using this
    exact key a b [] rfl rfl

theorem nice_in {x : carlingref21_Inode} (h : N_carlingref21_Inode x) : bytesL x.Pages.toList ∧ x.Time < 9223372036854775808 := by
  unfold N_carlingref21_Inode at h
  refine ⟨u8_bytes h.2.2.2.2.2.2, ?_⟩
  have ht := h.2.2.2.2.1
  have e1 : IntKind.min .i64 = -9223372036854775808 := by decide
  have e2 : IntKind.max .i64 = 9223372036854775807 := by decide
  simp only [Lit.wf, e1, e2, Bool.and_eq_true, decide_eq_true_eq] at ht
  omega

theorem same_refl (n : inode_Inode) : ((n.Kind == n.Kind) && ((n.Mode == n.Mode) && ((n.Links == n.Links) && ((n.Size == n.Size) && ((n.Time == n.Time) && ((n.Attr == n.Attr) && ((n.Pages.toList == n.Pages.toList) && true))))))) = true := by simp
def eqI (m n : inode_Inode) : Bool := ((m.Kind == n.Kind) && ((m.Mode == n.Mode) && ((m.Links == n.Links) && ((m.Size == n.Size) && ((m.Time == n.Time) && ((m.Attr == n.Attr) && ((m.Pages.toList == n.Pages.toList) && true)))))))
theorem eqI_refl (n : inode_Inode) : eqI n n = true := same_refl n

theorem zero_refl : ((zeroI.Kind == (0 : Int)) && ((zeroI.Mode == (0 : Int)) && ((zeroI.Links == (0 : Int)) && ((zeroI.Size == (0 : Int)) && ((zeroI.Time == (0 : Int)) && ((zeroI.Attr == (0 : Int)) && ((zeroI.Pages.toList == (Vector.replicate 32 (0 : Int)).toList) && true))))))) = true := by simp [zeroI]

/-- What is parsed is laid as the same bytes. -/
theorem lay_parse {b : List Int} (hb : bytesL b) (he : (parseS b).2 = 0) : layS (parseS b).1 = (b, 0) ∧ mayS (parseS b).1 = true ∧ (parseS b).1 = rawS b ∧ b.length = 64 := by
  unfold parseS at he ⊢
  by_cases hl : b.length = 64
  · rw [if_pos hl] at he ⊢
    by_cases hc : mayS (rawS b) = true ∧ allZ (b.drop 49)
    · rw [if_pos hc] at he ⊢
      have hd15 : (b.drop 49).length = 15 := by rw [List.length_drop]; omega
      have h2 : b.drop 49 = List.replicate 15 0 := List.eq_replicate_iff.2 ⟨hd15, hc.2⟩
      refine ⟨?_, hc.1, rfl, hl⟩
      unfold layS
      rw [if_pos hc.1, bytes_raw hb hl hc.1, ← h2, List.take_append_drop]
    · rw [if_neg hc] at he; cases he
  · rw [if_neg hl] at he; cases he

theorem back_K2 {σ : St Obj} {Q : Bool → St Obj → Prop} {b : List Int} (hb : bytesL b) (hQ : ∀ σ', Q true σ') : carlinglaw21_InodeBack_K2 Q b σ := by
  unfold carlinglaw21_InodeBack_K2
  refine parse_spec hb fun σ1 => ?_
  rw [br_iff]
  constructor
  · intro he
    have hz : (parseS b).1 = zeroI := by
      unfold parseS at he ⊢
      by_cases hl : b.length = 64
      · rw [if_pos hl] at he ⊢
        by_cases hc : mayS (rawS b) = true ∧ allZ (b.drop 49)
        · rw [if_pos hc] at he; simp at he
        · rw [if_neg hc]
      · rw [if_neg hl]
    rw [hz, zero_refl, br_true]
    exact alive_spec hQ
  · intro he
    have he : (parseS b).2 = 0 := by simpa using he
    obtain ⟨h1, h2, h3, h4⟩ := lay_parse hb he
    have hP : bytesL (parseS b).1.Pages.toList := by rw [h3, raw_pages hb h4]; exact part_bytes hb 17 32
    have r8 := val_rng hb 8 8
    have p8 : (256 : Int) ^ 8 = 18446744073709551616 := by decide
    rw [p8] at r8
    have ht : (parseS b).1.Time < 18446744073709551616 := by
      have := may_rng h2
      rw [h3] at this ⊢
      show IntKind.wrap .i64 (valB ((b.drop 8).take 8)) < 18446744073709551616
      rw [wrap_neg r8.1 r8.2 this.2.2.2.2.2.2.2.2.1]; exact r8.2
    refine lay_spec hP ht ?_
    rw [h1]
    dsimp only
    rw [beq_self_eq_true, br_true]
    refine same_spec (by omega) ?_
    rw [decide_eq_true rfl, br_true]
    exact alive_spec hQ

theorem carlinglaw21_InodeBack_ok (x : carlingref21_Inode) (nx : N_carlingref21_Inode x) (b : List Int) (n : b.length ≤ maxLen ∧ ∀ x ∈ b, (fun n : Int => (Lit.int .u8 n).wf = true) x) : carlinglaw21_InodeBack x b st0 (fun b _ => b = true) := by
  have hb := u8_bytes n.2
  obtain ⟨hP, ht⟩ := nice_in nx
  unfold carlinglaw21_InodeBack carlinglaw21_theirs
  refine lay_spec (n := toI x) hP (by show x.Time < _; omega) ?_
  unfold layS
  cases hm : mayS (toI x) with
  | false =>
    rw [if_neg (by simp)]
    show br false _ _
    rw [br_false]
    exact back_K2 hb fun _ => rfl
  | true =>
    rw [if_pos rfl]
    show br true _ _
    rw [br_true]
    refine parse_spec (bytesS_bytes hm hP) fun σ1 => ?_
    rw [parse_lay hm ht]
    show br (!(eqI (toI x) (toI x))) _ _
    rw [eqI_refl, Bool.not_true, br_false]
    unfold carlinglaw21_InodeBack_K1
    rw [bne_self_eq_false, br_false]
    exact back_K2 hb fun _ => rfl

end Go.Pt
