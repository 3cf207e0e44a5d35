import Derived.Test.YtkbmoanoaakcpaaSp6
set_option linter.unusedVariables false
namespace Go.Tx
open Go Go.Wc

/-! ### LruOldest -/

theorem pinned_upd {A : List (Int × (List Int × Bool))} (hp : ∀ k, pinned A k = false) (k : Int) (bs : List Int) : ∀ k2, pinned (upd A k (bs, false)) k2 = false := by
  intro k2
  unfold pinned
  rw [look_upd]
  split
  · rfl
  · exact hp k2
theorem pinned_del {A : List (Int × (List Int × Bool))} (hn : (A.map (·.1)).Nodup) (hp : ∀ k, pinned A k = false) (k : Int) : ∀ k2, pinned (del A k) k2 = false := by
  intro k2
  unfold pinned
  rw [look_del hn]
  split
  · rfl
  · exact hp k2

/-- Where nothing is pinned. -/
theorem put_plain {s : Lru} (hs : s.Ok) (hp : ∀ k, pinned s.A k = false) (hl : (s.ord.length : Int) ≤ s.room) {k : Int} (h0 : 0 ≤ k) (h1 : k < 4096) (bs : List Int) :
    (put s k bs).1 = (if ((s.ord.erase k).length : Int) = s.room then (s.ord.erase k).headD 0 else -1) ∧
    (put s k bs).2.ord = (if ((s.ord.erase k).length : Int) = s.room then (s.ord.erase k).tail ++ [k] else s.ord.erase k ++ [k]) ∧
    (∀ k2, pinned (put s k bs).2.A k2 = false) ∧ (put s k bs).2.room = s.room := by
  have hp' := pinned_upd hp k bs
  have hs' := hs.held h0 h1 (bs, false)
  have hle := erase_length_le s.ord k
  have hloose : ∀ L : List Int, loose (held s k (bs, false)) L = L.length := fun L => by
    unfold loose
    rw [List.filter_eq_self.2]
    intro a _
    show (!pinned (upd s.A k (bs, false)) a) = true
    rw [hp']; rfl
  unfold put
  rw [hp k]
  unfold fit
  rw [hloose]
  have hord : (held s k (bs, false)).ord = s.ord.erase k ++ [k] := rfl
  have hroom : (held s k (bs, false)).room = s.room := rfl
  rw [hord, hroom]
  simp only [List.length_append, List.length_singleton]
  by_cases e : ((s.ord.erase k).length : Int) = s.room
  · rw [if_neg (by omega), if_pos e, if_pos e]
    have hfind : ∀ x l, (s.ord.erase k ++ [k]) = x :: l → List.find? (fun k2 => !pinned (held s k (bs, false)).A k2) (s.ord.erase k ++ [k]) = some x := by
      intro x l hx
      rw [hx, List.find?_cons_of_pos]
      show (!pinned (upd s.A k (bs, false)) x) = true
      rw [hp']; rfl
    cases hr : s.ord.erase k with
    | nil => rw [hr] at e; have := hs.ok.1; simp at e; omega
    | cons x l =>
      rw [hr] at hfind hord
      rw [hfind x (l ++ [k]) rfl]
      refine ⟨rfl, ?_, ?_, rfl⟩
      · show ((held s k (bs, false)).ord.erase x) = _
        rw [hord]; simp
      · exact pinned_del hs'.keys hp' x
  · rw [if_pos (by omega), if_neg e, if_neg e]
    exact ⟨rfl, hord, hp', rfl⟩

/-- What stands between two rounds. -/
structure OldInv (ρ : Ids) (h0 h : Hp) (c : Option Addr) (s : Lru) (D : List Nat) (used : Sl) (FU : List Nat) : Prop where
  H : LruD ρ h c s D
  ok : s.Ok
  plain : ∀ k, pinned s.A k = false
  le : (s.ord.length : Int) ≤ s.room
  own : Own h used (ρ.T 0) 1 (ints s.ord) FU
  dis : ∀ b ∈ FU, b ∉ D
  fD : ∀ b ∈ D, h0.size ≤ b
  fU : ∀ b ∈ FU, h0.size ≤ b
  keep : Keep [] h0 h

variable {ρ : Ids} {h0 : Hp}

/-- The loop at a round's end: all that are used are held. -/
theorem oldest_L6 {S2 : Int → Option Addr → Sl → Sl → Int → Int → Hp → Prop} {Q : Bool → Hp → Prop} {n : Int} {c : Option Addr} {used v39 : Sl} {v40 v41 : Int} {h : Hp} {s : Lru} {D FU : List Nat}
    (I : OldInv ρ h0 h c s D used FU) (k : ∀ h', OldInv ρ h0 h' c s D used FU → S2 n c used v39 v40 (IntKind.wrap .i64 (v41 + (1 : Int))) h') :
    carlinglaw15_LruOldest_L6 ρ S2 Q n c used v39 v40 v41 used (used.len : Int) (0 : Int) h := by
  have hlen := I.ok.len
  have hul : used.len = s.ord.length := by have := I.own.1; simp at this; omega
  refine carlinglaw15_LruOldest_L6_rule ρ S2 Q (fun n' c' u' a' b' d' v m i h' => n' = n ∧ c' = c ∧ u' = used ∧ a' = v39 ∧ b' = v40 ∧ d' = v41 ∧ v = used ∧ m = s.ord.length ∧ 0 ≤ i ∧ i ≤ s.ord.length ∧ OldInv ρ h0 h' c s D used FU)
    (fun _ _ _ _ _ _ _ _ i _ => s.ord.length - i.toNat) ?_ _ _ _ _ _ _ _ _ _ _ ⟨rfl, rfl, rfl, rfl, rfl, rfl, rfl, by simp [hul], Int.le_refl _, by simp, I⟩
  rintro n' c' u' a' b' d' v m i h' ⟨rfl, rfl, rfl, rfl, rfl, rfl, rfl, rfl, i0, i1, I⟩
  unfold carlinglaw15_LruOldest_B6
  rw [br_iff]
  constructor
  · intro hlt
    have hlt : i < s.ord.length := by simpa using hlt
    have hi : i.toNat < s.ord.length := by omega
    refine ix_of I.own.slv i0 (by simpa using hlt) fun a ha => ?_
    rw [ldI_of (n := s.ord[i.toNat]) (by rw [ha]; simp [hi])]
    refine Has_D I.H fun h2 k2 => ?_
    have hsome : (Wc.look s.A s.ord[i.toNat]).isSome = true := look_isSome.2 ((I.ok.same _).1 (List.getElem_mem hi))
    rw [hsome, Bool.not_true, br_false]
    rw [wrap64 (by omega) (by omega)]
    refine ⟨⟨rfl, rfl, rfl, rfl, rfl, rfl, rfl, rfl, by omega, by omega, I.H.fresh k2 (by simp), I.ok, I.plain, I.le, I.own.keep k2 (by simp), I.dis, I.fD, I.fU, I.keep.trans k2 (by simp)⟩, by omega⟩
  · intro hge
    exact k h' I

/-- Behind the filter: rest is used without the item. -/
theorem oldest_K7 {S2 : Int → Option Addr → Sl → Sl → Int → Int → Hp → Prop} {Q : Bool → Hp → Prop} {n : Int} {c : Option Addr} {x item want : Int} {rest v39 : Sl} {v40 v41 : Int} {h : Hp} {s : Lru} {D FR : List Nat} {R : List Int}
    (H : LruD ρ h c s D) (ok : s.Ok) (plain : ∀ k, pinned s.A k = false) (le : (s.ord.length : Int) ≤ s.room) (own : Own h rest (ρ.T 0) 1 (ints R) FR) (dis : ∀ b ∈ FR, b ∉ D)
    (fD : ∀ b ∈ D, h0.size ≤ b) (fU : ∀ b ∈ FR, h0.size ≤ b) (keep : Keep [] h0 h) (i0 : 0 ≤ item) (i1 : item < 4096) (hR : R ++ [item] = (put s item [x]).2.ord) (hw : want = (put s item [x]).1)
    (k : ∀ h' s' D' used FU, OldInv ρ h0 h' c s' D' used FU → s'.room = s.room → S2 n c used v39 v40 (IntKind.wrap .i64 (v41 + (1 : Int))) h') :
    carlinglaw15_LruOldest_K7 ρ S2 Q n c x item rest want v39 v40 v41 h := by
  have hlen := ok.len
  obtain ⟨p1, p2, p3, p4⟩ := put_plain ok plain le i0 i1 [x]
  have ok' := ok.put i0 i1 [x]
  have hlen' := ok'.len
  have hRl : R.length < 4096 := by have := congrArg List.length hR; simp at this; omega
  have hrl : rest.len = R.length := by have := own.1; simp at this; omega
  unfold carlinglaw15_LruOldest_K7 alW
  have k1 : Keep [] h (h.push (.cells [Value.int .i64 item].toArray (ρ.T 0) (0, 0))) := Keep.push _ _ _
  have hx := (own_new (h := h) (T := ρ.T 0) (m := 1) (n := 1) (vs := [Value.int .i64 item]) (by simp)).slv
  have hD := H.lt
  refine apW_own (own.keep k1 (fun b _ => by simp)) hx (by simp [Value.oneCell']) rfl (by decide) (by simp [hrl]; omega) fun u h2 FU hO2 hl2 k2 hF2 _ => ?_
  have hz1 : (h.push (.cells [Value.int .i64 item].toArray (ρ.T 0) (0, 0))).size = h.size + 1 := by simp
  have H2 := (H.fresh k1 (by simp)).keep k2 dis
  have kk2 := keep.1
  have kk3 := k2.1
  have f2 : ∀ b ∈ FU, h0.size ≤ b := fun b hb => (hF2 b hb).elim (fU b) fun h => by omega
  have d2 : ∀ b ∈ FU, b ∉ D := fun b hb e => (hF2 b hb).elim (fun h => dis b h e) fun h => by have := hD b e; omega
  have keep2 : Keep [] h0 h2 := (keep.trans k1 (by simp)).trans k2 fun b hb => .inr (fU b hb)
  have kp := Keep.push [] h2 (.cells [Value.int .u8 x].toArray (ρ.T 1) (0, 0))
  have H3 := H2.fresh kp (by simp)
  have hp := (own_new (h := h2) (T := ρ.T 1) (m := 1) (n := 1) (vs := byts [x]) (by simp)).slv
  dsimp only
  refine Put_D (bs := [x]) H3 ok hp (by simp) (fun h => absurd ⟨i0, i1⟩ h) fun _ _ h4 D4 H4 k4 g4 => ?_
  have hO3 := hO2.keep kp (by simp)
  have hO4 := hO3.keep k4 d2
  have keep4 : Keep [] h0 h4 := (keep2.trans kp (by simp)).trans k4 fun b hb => .inr (fD b hb)
  have kk4 := keep2.1
  have kk5 := kp.1
  have fD4 : ∀ b ∈ D4, h0.size ≤ b := fun b hb => (g4 b hb).elim (fD b) fun h => by omega
  have d4 : ∀ b ∈ FU, b ∉ D4 := fun b hb e => (g4 b e).elim (d2 b hb) fun h => by have := hO3.lt b hb; omega
  have e1 : ((put s item [x]).1 != want) = false := by rw [hw]; simp
  have hul : u.len = (put s item [x]).2.ord.length := by rw [hl2, hrl, ← hR]; simp
  rw [e1]
  simp only [br_false, bne_self_eq_false]
  refine Len_D H4 ok' fun h5 k5 => ?_
  unfold carlinglaw15_LruOldest_K5
  rw [hul]
  simp only [bne_self_eq_false, br_false]
  rw [← hul]
  have own5 := hO4.keep k5 (by simp)
  refine oldest_L6 (h0 := h0) (s := (put s item [x]).2) (D := D4) (FU := FU) ⟨H4.fresh k5 (by simp), ok', p3, ?_, ?_, d4, fD4, f2, keep4.trans k5 (by simp)⟩ fun h6 I6 => k h6 _ _ _ _ I6 p4
  · rw [p2, p4]
    have := erase_length_le s.ord item
    split
    · rename_i e
      have hr1 := ok.ok.1
      rw [List.length_append, List.length_tail, List.length_singleton]; omega
    · rename_i e
      rw [List.length_append, List.length_singleton]; omega
  · rw [← hR]; simpa [ints] using own5

/-- The filter: rest gathers what is used and is not the item. -/
theorem oldest_L3 {S2 : Int → Option Addr → Sl → Sl → Int → Int → Hp → Prop} {Q : Bool → Hp → Prop} {n : Int} {c : Option Addr} {x item : Int} {used v39 : Sl} {v40 v41 : Int} {h : Hp} {s : Lru} {D FU : List Nat}
    (I : OldInv ρ h0 h c s D used FU) (hn : n = s.room) (i0 : 0 ≤ item) (i1 : item < 4096)
    (k : ∀ h' s' D' used FU, OldInv ρ h0 h' c s' D' used FU → s'.room = s.room → S2 n c used v39 v40 (IntKind.wrap .i64 (v41 + (1 : Int))) h') :
    carlinglaw15_LruOldest_L3 ρ S2 Q n c x item (⟨none, 0, 0⟩ : Sl) v39 v40 v41 used (used.len : Int) (0 : Int) h := by
  have hlen := I.ok.len
  have hul : used.len = s.ord.length := by have := I.own.1; simp at this; omega
  refine carlinglaw15_LruOldest_L3_rule ρ S2 Q (fun n' c' x' it' r' a' b' d' v m i h' => n' = n ∧ c' = c ∧ x' = x ∧ it' = item ∧ a' = v39 ∧ b' = v40 ∧ d' = v41 ∧ v = used ∧ m = s.ord.length ∧ 0 ≤ i ∧ i ≤ s.ord.length ∧ OldInv ρ h0 h' c s D used FU ∧
      ∃ FR, Own h' r' (ρ.T 0) 1 (ints ((s.ord.take i.toNat).filter (· != item))) FR ∧ (∀ b ∈ FR, b ∉ D ∧ b ∉ FU ∧ h0.size ≤ b))
    (fun _ _ _ _ _ _ _ _ _ _ i _ => s.ord.length - i.toNat) ?_ _ _ _ _ _ _ _ _ _ _ _ _ ⟨rfl, rfl, rfl, rfl, rfl, rfl, rfl, rfl, by simp [hul], Int.le_refl _, by simp, I, [], Own.nil _ _ _, by simp⟩
  rintro n' c' x' it' r a' b' d' v m i h' ⟨rfl, rfl, rfl, rfl, rfl, rfl, rfl, rfl, rfl, ii0, ii1, I, FR, hR, dR⟩
  unfold carlinglaw15_LruOldest_B3
  rw [br_iff]
  constructor
  · intro hlt
    have hlt : i < s.ord.length := by simpa using hlt
    have hi : i.toNat < s.ord.length := by omega
    refine ix_of I.own.slv ii0 (by simpa using hlt) fun a ha => ?_
    rw [ldI_of (n := s.ord[i.toNat]) (by rw [ha]; simp [hi])]
    have htake : s.ord.take (i + 1).toNat = s.ord.take i.toNat ++ [s.ord[i.toNat]] := by
      rw [show (i + 1).toNat = i.toNat + 1 from by omega, List.take_succ_eq_append_getElem hi]
    have hrl : r.len ≤ s.ord.length := by
      have h1 := hR.1
      have h2 := List.length_filter_le (· != it') (s.ord.take i.toNat)
      simp at h1 h2; omega
    rw [br_iff]
    constructor
    · intro hne
      unfold alW
      have k1 : Keep [] h' (h'.push (.cells [Value.int .i64 s.ord[i.toNat]].toArray (ρ.T 0) (0, 0))) := Keep.push _ _ _
      have hx := (own_new (h := h') (T := ρ.T 0) (m := 1) (n := 1) (vs := [Value.int .i64 s.ord[i.toNat]]) (by simp)).slv
      have hz1 : (h'.push (.cells [Value.int .i64 s.ord[i.toNat]].toArray (ρ.T 0) (0, 0))).size = h'.size + 1 := by simp
      refine apW_own (hR.keep k1 (fun b _ => by simp)) hx (by simp [Value.oneCell']) rfl (by decide) (by simp; omega) fun u h2 FU2 hO2 hl2 k2 hF2 _ => ?_
      unfold carlinglaw15_LruOldest_K4
      rw [wrap64 (by omega) (by omega)]
      have hD := I.H.lt
      have hUlt := I.own.lt
      have kk := I.keep.1
      refine ⟨⟨rfl, rfl, rfl, rfl, rfl, rfl, rfl, rfl, rfl, by omega, by omega, ?_, FU2, ?_, ?_⟩, by omega⟩
      · exact ⟨(I.H.fresh k1 (by simp)).keep k2 (fun b hb => fun e => (dR b hb).1 e), I.ok, I.plain, I.le, (I.own.keep k1 (by simp)).keep k2 (fun b hb e => (dR b e).2.1 hb), I.dis, I.fD, I.fU,
          (I.keep.trans k1 (by simp)).trans k2 fun b hb => .inr (dR b hb).2.2⟩
      · rw [htake, List.filter_append, List.filter_cons_of_pos (by simpa using hne)]
        simpa [ints] using hO2
      · intro b hb
        rcases hF2 b hb with e | e
        · exact dR b e
        · exact ⟨fun e2 => by have := hD b e2; omega, fun e2 => by have := hUlt b e2; omega, by omega⟩
    · intro hne
      unfold carlinglaw15_LruOldest_K4
      rw [wrap64 (by omega) (by omega)]
      refine ⟨⟨rfl, rfl, rfl, rfl, rfl, rfl, rfl, rfl, rfl, by omega, by omega, I, FR, ?_, dR⟩, by omega⟩
      rw [htake, List.filter_append, List.filter_cons_of_neg (by simpa using hne)]
      simpa [ints] using hR
  · intro hge
    have hie : i.toNat = s.ord.length := by simp at hge; omega
    rw [hie, List.take_length, ← I.ok.nodup.erase_eq_filter] at hR
    obtain ⟨p1, p2, p3, p4⟩ := put_plain I.ok I.plain I.le i0 i1 [x']
    have hrl : r.len = (s.ord.erase it').length := by have := hR.1; simp at this; omega
    have hr1 := I.ok.ok.1
    rw [br_iff]
    constructor
    · intro hfull
      have hfull : ((s.ord.erase it').length : Int) = s.room := by rw [← hn, ← hrl]; simpa using hfull
      rw [if_pos hfull] at p1 p2
      refine ix_of hR.slv (Int.le_refl 0) (by simp; omega) fun a ha => ?_
      rw [ldI_of (n := (s.ord.erase it').headD 0) (by
        rw [ha]
        cases hh : s.ord.erase it' with
        | nil => rw [hh] at hfull; simp at hfull; omega
        | cons u w => simp [ints])]
      refine slW_own hR (by omega) (by omega) (by omega) fun s' hs' hl' hc' => ?_
      refine oldest_K7 (h0 := h0) (R := (s.ord.erase it').tail) I.H I.ok I.plain I.le (FR := FR) ?_ (fun b hb => (dR b hb).1) I.fD (fun b hb => (dR b hb).2.2) I.keep i0 i1 p2.symm p1.symm k
      have e1 : ints (s.ord.erase it').tail = ((ints (s.ord.erase it')).take (((r.len : Nat) : Int).toNat * 1)).drop ((1 : Int).toNat * 1) := by
        rw [List.take_of_length_le (by simp [hrl])]
        cases s.ord.erase it' <;> simp [ints]
      rw [e1]; exact hs'
    · intro hfull
      have hfull : ¬ ((s.ord.erase it').length : Int) = s.room := by rw [← hn, ← hrl]; simpa using hfull
      rw [if_neg hfull] at p1 p2
      exact oldest_K7 (h0 := h0) (R := s.ord.erase it') I.H I.ok I.plain I.le (FR := FR) hR (fun b hb => (dR b hb).1) I.fD (fun b hb => (dR b hb).2.2) I.keep i0 i1 p2.symm p1.symm k

theorem LruOldest_spec {room : Int} {items : Sl} {xs : List Int} {h : Hp} {Q : Bool → Hp → Prop} (r0 : 0 ≤ room) (r1 : room < 256) (hi : SlV h items 1 (byts xs)) (hc : items.len ≤ items.cap) (hxs : ∀ x ∈ xs, 0 ≤ x ∧ x < 256)
    (hQ : ∀ h', Keep [] h h' → Q true h') : carlinglaw15_LruOldest ρ room items h Q := by
  have hm0 : 0 ≤ room.tmod 8 := Int.tmod_nonneg _ r0
  have hm1 : room.tmod 8 < 8 := Int.tmod_lt_of_pos _ (by decide)
  unfold carlinglaw15_LruOldest
  rw [wrap64 (n := room) (by omega) (by omega), wrap64 (by omega) (by omega)]
  refine ⟨by decide, New_D (fun h => absurd ⟨by omega, by omega⟩ h) fun _ _ h1 c D H hcn k1 d1 => ?_⟩
  have hc' : Option.isNone c = false := by cases c with
    | none => exact absurd rfl hcn
    | some a => rfl
  rw [hc', br_false]
  unfold carlinglaw15_LruOldest_K1
  rw [bne_self_eq_false, br_false]
  have hxl : xs.length = items.len := by have := hi.1; simpa [byts] using this
  have hmin0 : (0 : Int) ≤ (if (100 : Int) < (items.len : Int) then (100 : Int) else (items.len : Int)) := by split <;> omega
  have hmin1 : (if (100 : Int) < (items.len : Int) then (100 : Int) else (items.len : Int)) ≤ items.len := by split <;> omega
  have hmin2 : (if (100 : Int) < (items.len : Int) then (100 : Int) else (items.len : Int)) ≤ 100 := by split <;> omega
  generalize (if (100 : Int) < (items.len : Int) then (100 : Int) else (items.len : Int)) = hiN at hmin0 hmin1 hmin2 ⊢
  refine slW_slv hi (Int.le_refl 0) hmin0 hmin1 hc fun s4 hs4 hl4 _ ha4 _ => ?_
  have he : (List.drop ((0:Int).toNat * 1) (List.take (hiN.toNat * 1) (byts xs))) = byts (xs.take hiN.toNat) := by simp [byts, List.map_take]
  rw [he] at hs4
  generalize hys : xs.take hiN.toNat = ys at hs4
  have hyl : ys.length = s4.len := by have := hs4.1; simpa [byts] using this
  have hyr : ∀ x ∈ ys, 0 ≤ x ∧ x < 256 := fun x hx => hxs x (List.mem_of_mem_take (hys ▸ hx))
  have hs4l : s4.len ≤ 100 := by omega
  refine carlinglaw15_LruOldest_L2_rule ρ Q (fun n' c' u' a' b' i h' => n' = room.tmod 8 + 1 ∧ c' = c ∧ a' = s4 ∧ b' = s4.len ∧ 0 ≤ i ∧ i ≤ s4.len ∧ ∃ s D FU, s.room = room.tmod 8 + 1 ∧ OldInv ρ h h' c s D u' FU)
    (fun _ _ _ _ _ i _ => s4.len - i.toNat) ?_ _ _ _ _ _ _ _ ⟨rfl, rfl, rfl, rfl, Int.le_refl _, by omega, _, D, [], rfl, H, ok_empty (by omega) (by omega), fun k => rfl, by simp; omega, Own.nil _ _ _, by simp, d1, by simp, k1⟩
  rintro n' c' u' a' b' i h' ⟨rfl, rfl, rfl, rfl, ii0, ii1, s, D, FU, hsr, I⟩
  unfold carlinglaw15_LruOldest_B2
  rw [br_iff]
  constructor
  · intro hlt
    have hlt : i < a'.len := by simpa using hlt
    have hi' : i.toNat < ys.length := by omega
    refine ix_of (hs4.keep I.keep (by simp)) ii0 (by simp [byts]; omega) fun a ha => ?_
    rw [ldI_of (n := ys[i.toNat]) (by rw [ha]; simp [byts, hi'])]
    have hy := hyr _ (List.getElem_mem hi')
    have t0 : 0 ≤ (ys[i.toNat]).tmod 20 := Int.tmod_nonneg _ hy.1
    have t1 : (ys[i.toNat]).tmod 20 < 20 := Int.tmod_lt_of_pos _ (by decide)
    rw [wrap64 (by omega) (by omega)]
    refine ⟨by decide, oldest_L3 (h0 := h) I hsr.symm t0 (by omega) fun h2 s2 D2 u2 FU2 I2 hr2 => ?_⟩
    rw [wrap64 (by omega) (by omega)]
    exact ⟨⟨rfl, rfl, rfl, rfl, by omega, by omega, s2, D2, FU2, by rw [hr2, hsr], I2⟩, by omega⟩
  · intro hge
    refine alive_spec fun h2 k2 => hQ h2 (I.keep.trans k2 (by simp))

end Go.Tx
