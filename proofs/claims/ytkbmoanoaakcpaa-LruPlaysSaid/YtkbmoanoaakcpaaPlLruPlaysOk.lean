import Derived.Test.YtkbmoanoaakcpaaPlLruPlaysA
set_option linter.unusedSimpArgs false
set_option linter.unusedVariables false
namespace Go.Pt
open Go Go.Wc Go.Pu Go.Laws

variable {σ : St Obj} {p q : Addr} {room k : Int} {L : List H15} {x : lru_Cache}

theorem ref_is_spec {Q : Bool → Prop} (H : Q (decide (0 ≤ k ∧ k < 4096))) : carlingref15_is k Q := by
  unfold carlingref15_is
  rw [br_iff]
  constructor
  · intro h
    have h : 0 ≤ k := by simpa using h
    simpa [h] using H
  · intro h
    have h : ¬ 0 ≤ k := by simpa using h
    simpa [h] using H

theorem not_mem_rem (L : List H15) (k : Int) : k ∉ items (remL L k) := by
  intro h
  obtain ⟨a, ha, e⟩ := List.mem_map.1 h
  have := (List.mem_filter.1 ha).2
  rw [e] at this; simp at this
theorem cons_nodup (hn : (items L).Nodup) {h : H15} (e : h.Item = k) : (items (h :: remL L k)).Nodup := by
  unfold items
  rw [List.map_cons, List.nodup_cons]
  exact ⟨e ▸ not_mem_rem L k, remL_nodup hn k⟩

theorem ref_get_spec {Q : List Int → Bool → St Obj → Prop} (hx : σ q = some (.carlingref15_Cache ⟨room, L⟩)) (hl : L.length ≤ 4999) (hn : (items L).Nodup)
    (H : if k ∈ items L then ∀ h ∈ L, h.Item = k → Q h.Page true (sset σ q (.carlingref15_Cache ⟨room, h :: remL L k⟩)) else Q [] false σ) : carlingref15_Cache_Get (some q) k σ Q := by
  unfold carlingref15_Cache_Get
  refine ref_find_spec hx (by omega) ?_
  by_cases hk : k ∈ items L
  · rw [if_pos hk] at H
    obtain ⟨j, h, e1, e2, e3⟩ := idx_get hk
    rw [e1, decide_eq_false (by omega), br_false, nilW_some]
    refine at_ref hx (ixP_nat e2 (ref_first_spec hx (by omega) hn ?_))
    rw [e3]
    exact H h (List.mem_of_getElem? e2) e3
  · rw [if_neg hk] at H
    unfold idx
    rw [if_neg hk, decide_eq_true (by omega), br_true]
    exact H

theorem ref_pin_spec {Q : Int → St Obj → Prop} {page : List Int} (hx : σ q = some (.carlingref15_Cache ⟨room, L⟩)) (hl : L.length ≤ 4999) (hn : (items L).Nodup) (hB : page.length ≤ 4294967296)
    (H : if isItem k then Q 0 (sset σ q (.carlingref15_Cache ⟨room, ⟨k, page, true⟩ :: remL L k⟩)) else Q 1 σ) : carlingref15_Cache_Pin (some q) k page σ Q := by
  unfold carlingref15_Cache_Pin
  refine ref_is_spec ?_
  by_cases hk : isItem k
  · rw [if_pos hk] at H
    unfold isItem at hk
    rw [decide_eq_true hk, Bool.not_true, br_false]
    refine ⟨by simpa [Bnd] using hB, ?_⟩
    rw [List.nil_append]
    exact ref_first_spec hx (by omega) hn H
  · rw [if_neg hk] at H
    unfold isItem at hk
    rw [decide_eq_false hk, Bool.not_false, br_true]
    exact H

theorem ref_unpin_spec {Q : Int → Bool → St Obj → Prop} (hx : σ q = some (.carlingref15_Cache ⟨room, L⟩)) (hl : L.length ≤ 4999) (hn : (items L).Nodup) (h0 : 0 ≤ room)
    (H : if k ∈ items L then ∀ h ∈ L, h.Item = k → if h.Pinned = true then Q (fitL (⟨k, h.Page, false⟩ :: remL L k) room).1 true (sset σ q (.carlingref15_Cache ⟨room, (fitL (⟨k, h.Page, false⟩ :: remL L k) room).2⟩)) else Q (-1) false σ else Q (-1) false σ) : carlingref15_Cache_Unpin (some q) k σ Q := by
  unfold carlingref15_Cache_Unpin carlingref15_Cache_Unpin_K1
  refine ref_find_spec hx (by omega) ?_
  by_cases hk : k ∈ items L
  · rw [if_pos hk] at H
    obtain ⟨j, h, e1, e2, e3⟩ := idx_get hk
    have H := H h (List.mem_of_getElem? e2) e3
    rw [e1, decide_eq_false (by omega), br_false, nilW_some]
    refine at_ref hx (ixP_nat e2 ?_)
    cases hp : h.Pinned with
    | false =>
      rw [hp, if_neg (by simp)] at H
      rw [Bool.not_false, br_true]; exact H
    | true =>
      rw [hp, if_pos rfl] at H
      rw [Bool.not_true, br_false, nilW_some]
      refine at_ref hx (ixP_nat e2 (ref_first_spec hx (by omega) hn ?_))
      have hr := remL_len L k
      dsimp only
      rw [e3]
      refine ref_fit_spec (sset_same _ _ _) (by simp only [List.length_cons]; omega) (cons_nodup hn rfl) h0 ?_
      rw [sset_sset]
      exact H
  · rw [if_neg hk] at H
    unfold idx
    rw [if_neg hk, decide_eq_true (by omega), br_true, br_true]
    exact H

theorem ref_drop_spec {Q : Bool → St Obj → Prop} (hx : σ q = some (.carlingref15_Cache ⟨room, L⟩)) (hl : L.length ≤ 4999) (hn : (items L).Nodup)
    (H : if k ∈ items L then Q true (sset σ q (.carlingref15_Cache ⟨room, remL L k⟩)) else Q false σ) : carlingref15_Cache_Drop (some q) k σ Q := by
  unfold carlingref15_Cache_Drop
  refine ref_find_spec hx (by omega) ?_
  by_cases hk : k ∈ items L
  · rw [if_pos hk] at H
    obtain ⟨j, h, e1, e2, e3⟩ := idx_get hk
    rw [e1, decide_eq_false (by omega), br_false]
    refine ref_without_spec hx (by omega) hn e2 ?_
    rw [nilW_some, e3]
    exact at_ref hx H
  · rw [if_neg hk] at H
    unfold idx
    rw [if_neg hk, decide_eq_true (by omega), br_true]
    exact H

theorem ref_put_spec {Q : Int → Int → St Obj → Prop} {page : List Int} (hx : σ q = some (.carlingref15_Cache ⟨room, L⟩)) (hl : L.length ≤ 4999) (hn : (items L).Nodup) (h0 : 0 ≤ room) (hB : page.length ≤ 4294967296)
    (H : if isItem k then ∀ b, (if k ∈ items L then ∃ h ∈ L, h.Item = k ∧ b = h.Pinned else b = false) → Q (fitL (⟨k, page, b⟩ :: remL L k) room).1 0 (sset σ q (.carlingref15_Cache ⟨room, (fitL (⟨k, page, b⟩ :: remL L k) room).2⟩)) else Q (-1) 1 σ) : carlingref15_Cache_Put (some q) k page σ Q := by
  unfold carlingref15_Cache_Put carlingref15_Cache_Put_K1
  have hr := remL_len L k
  refine ref_is_spec ?_
  by_cases hi : isItem k
  · rw [if_pos hi] at H
    unfold isItem at hi
    rw [decide_eq_true hi, Bool.not_true, br_false]
    refine ref_find_spec hx (by omega) ⟨by simpa [Bnd] using hB, ?_⟩
    rw [List.nil_append]
    by_cases hk : k ∈ items L
    · obtain ⟨j, h, e1, e2, e3⟩ := idx_get hk
      have H := H h.Pinned (by rw [if_pos hk]; exact ⟨h, List.mem_of_getElem? e2, e3, rfl⟩)
      rw [e1, decide_eq_true (by omega), br_true, nilW_some]
      refine at_ref hx (ixP_nat e2 (ref_first_spec hx (by omega) hn ?_))
      refine ref_fit_spec (sset_same _ _ _) (by simp only [List.length_cons]; omega) (cons_nodup hn rfl) h0 ?_
      rw [sset_sset]
      exact H
    · have H := H false (by rw [if_neg hk])
      unfold idx
      rw [if_neg hk, decide_eq_false (by omega), br_false]
      refine ref_first_spec hx (by omega) hn ?_
      refine ref_fit_spec (sset_same _ _ _) (by simp only [List.length_cons]; omega) (cons_nodup hn rfl) h0 ?_
      rw [sset_sset]
      exact H
  · rw [if_neg hi] at H
    unfold isItem at hi
    rw [decide_eq_false hi, Bool.not_false, br_true]
    exact H

/-! ### Both -/
structure Both (room : Int) (p q : Addr) (σ : St Obj) (x : lru_Cache) : Prop where
  hp : σ p = some (.lru_Cache x)
  hq : σ q = some (.carlingref15_Cache ⟨room, toL x⟩)
  ok : CacheOk x
  pb : PB x
  rm : x.room = room
  r0 : 0 ≤ room

theorem Both.ne (B : Both room p q σ x) : p ≠ q := by
  intro e
  have h1 := B.hp; have h2 := B.hq
  rw [e, h2] at h1; cases h1
theorem Both.len (B : Both room p q σ x) : (toL x).length ≤ 4999 := by have := B.ok.len; rw [toL_len]; omega
theorem Both.step (B : Both room p q σ x) {y : lru_Cache} (ok : CacheOk y) (pb : PB y) (rm : y.room = x.room) : Both room p q (sset (sset σ p (.lru_Cache y)) q (.carlingref15_Cache ⟨room, toL y⟩)) y :=
  ⟨by rw [sset_ne B.ne]; exact sset_same _ _ _, sset_same _ _ _, ok, pb, by rw [rm, B.rm], B.r0⟩
theorem Both.q1 (B : Both room p q σ x) {y : lru_Cache} : (sset σ p (.lru_Cache y) : St Obj) q = some (.carlingref15_Cache ⟨room, toL x⟩) := by rw [sset_ne B.ne.symm]; exact B.hq

theorem mem_items {k : Int} : k ∈ items (toL x) ↔ k ∈ x.order := by rw [items_toL, List.mem_reverse]
theorem mem_toL {h : H15} (hh : h ∈ toL x) : h = hOf x h.Item := by
  obtain ⟨a, _, rfl⟩ := List.mem_map.1 hh
  rfl

theorem fit_both {y : lru_Cache} (ok : CacheOk y) {room : Int} (hr : y.room = room) : fitL (toL y) room = ((fitX y).1, toL (fitX y).2) := by subst hr; exact fit_same ok

theorem get_both {Q : List Int → Bool → List Int → Bool → St Obj → Prop} (B : Both room p q σ x) (H : ∀ a f σ' y, a.length ≤ 4294967296 → Both room p q σ' y → Q a f a f σ') :
    lru_Cache_Get (some p) k σ fun a f σ1 => carlingref15_Cache_Get (some q) k σ1 fun b g σ2 => Q a f b g σ2 := by
  refine lru_get_spec B.hp B.ok (B.pb k) ?_
  by_cases hk : k ∈ x.order
  · rw [if_pos hk]
    refine ref_get_spec B.q1 B.len (toL_nodup B.ok) ?_
    rw [if_pos (mem_items.2 hk)]
    intro h hh e
    have e2 := mem_toL hh
    rw [e] at e2
    subst e2
    rw [← toL_touch B.ok]
    exact H _ _ _ _ (B.pb k) (B.step (B.ok.touch hk) (fun j => B.pb j) rfl)
  · rw [if_neg hk]
    refine ref_get_spec B.hq B.len (toL_nodup B.ok) ?_
    rw [if_neg (fun h => hk (mem_items.1 h))]
    exact H _ _ _ _ (by simp) B

theorem pin_both {Q : Int → Int → St Obj → Prop} {page : List Int} (B : Both room p q σ x) (hB : page.length ≤ 4294967296) (H : ∀ a σ' y, Both room p q σ' y → Q a a σ') :
    lru_Cache_Pin (some p) k page σ fun a σ1 => carlingref15_Cache_Pin (some q) k page σ1 fun b σ2 => Q a b σ2 := by
  refine lru_pin_spec B.hp B.ok hB ?_
  by_cases hk : isItem k
  · rw [if_pos hk]
    refine ref_pin_spec B.q1 B.len (toL_nodup B.ok) hB ?_
    rw [if_pos hk]
    have := B.step (B.ok.add ⟨page, true⟩ hk) (B.pb.add hB) rfl
    rw [toL_add B.ok] at this
    exact H _ _ _ this
  · rw [if_neg hk]
    refine ref_pin_spec B.hq B.len (toL_nodup B.ok) hB ?_
    rw [if_neg hk]
    exact H _ _ _ B

theorem unpin_both {Q : Int → Bool → Int → Bool → St Obj → Prop} (B : Both room p q σ x) (H : ∀ a f σ' y, Both room p q σ' y → Q a f a f σ') :
    lru_Cache_Unpin (some p) k σ fun a f σ1 => carlingref15_Cache_Unpin (some q) k σ1 fun b g σ2 => Q a f b g σ2 := by
  refine lru_unpin_spec B.hp B.ok (by rw [B.rm]; exact B.r0) ?_
  by_cases hk : k ∈ x.order
  · cases hp : (heldOf x k).pinned with
    | true =>
      rw [if_pos ⟨hk, rfl⟩]
      refine ref_unpin_spec B.q1 B.len (toL_nodup B.ok) B.r0 ?_
      rw [if_pos (mem_items.2 hk)]
      intro h hh e
      have e2 := mem_toL hh
      rw [e] at e2
      subst e2
      rw [if_pos (show (hOf x k).Pinned = true from hp)]
      have ok2 := B.ok.add ⟨(heldOf x k).page, false⟩ (B.ok.rng k hk)
      have e3 : (⟨k, (hOf x k).Page, false⟩ : H15) :: remL (toL x) k = toL (addX x k ⟨(heldOf x k).page, false⟩) := by rw [toL_add B.ok]; rfl
      rw [e3, fit_both ok2 B.rm]
      exact H (unpinX x k).1 true _ (unpinX x k).2 (B.step (y := (unpinX x k).2) ok2.fit ((B.pb.add (v := ⟨(heldOf x k).page, false⟩) (B.pb k)).fit ok2) (fit_room _))
    | false =>
      rw [if_neg (show ¬ (k ∈ x.order ∧ false = true) from fun h => Bool.noConfusion h.2)]
      refine ref_unpin_spec B.hq B.len (toL_nodup B.ok) B.r0 ?_
      rw [if_pos (mem_items.2 hk)]
      intro h hh e
      have e2 := mem_toL hh
      rw [e] at e2
      subst e2
      rw [if_neg (show ¬ ((hOf x k).Pinned = true) from fun h => Bool.noConfusion (hp.symm.trans h))]
      exact H _ _ _ _ B
  · rw [if_neg (fun h => hk h.1)]
    refine ref_unpin_spec B.hq B.len (toL_nodup B.ok) B.r0 ?_
    rw [if_neg (fun h => hk (mem_items.1 h))]
    exact H _ _ _ _ B

theorem drop_both {Q : Bool → Bool → St Obj → Prop} (B : Both room p q σ x) (H : ∀ a σ' y, Both room p q σ' y → Q a a σ') :
    lru_Cache_Drop (some p) k σ fun a σ1 => carlingref15_Cache_Drop (some q) k σ1 fun b σ2 => Q a b σ2 := by
  refine lru_drop_spec B.hp B.ok ?_
  by_cases hk : k ∈ x.order
  · rw [if_pos hk]
    refine ref_drop_spec B.q1 B.len (toL_nodup B.ok) ?_
    rw [if_pos (mem_items.2 hk), ← toL_drop B.ok]
    exact H _ _ _ (B.step (B.ok.drop k) (B.pb.drop B.ok k) rfl)
  · rw [if_neg hk]
    refine ref_drop_spec B.hq B.len (toL_nodup B.ok) ?_
    rw [if_neg (fun h => hk (mem_items.1 h))]
    exact H _ _ _ B

theorem put_both {Q : Int → Int → Int → Int → St Obj → Prop} {page : List Int} (B : Both room p q σ x) (hB : page.length ≤ 4294967296) (H : ∀ a f σ' y, Both room p q σ' y → Q a f a f σ') :
    lru_Cache_Put (some p) k page σ fun a f σ1 => carlingref15_Cache_Put (some q) k page σ1 fun b g σ2 => Q a f b g σ2 := by
  refine lru_put_spec B.hp B.ok (by rw [B.rm]; exact B.r0) hB ?_
  by_cases hi : isItem k
  · rw [if_pos hi]
    refine ref_put_spec B.q1 B.len (toL_nodup B.ok) B.r0 hB ?_
    rw [if_pos hi]
    intro b hb
    have hb2 : b = (heldOf x k).pinned := by
      by_cases hk : k ∈ x.order
      · rw [if_pos (mem_items.2 hk)] at hb
        obtain ⟨h, hh, e, rfl⟩ := hb
        have e2 := mem_toL hh
        rw [e] at e2
        subst e2; rfl
      · rw [if_neg (fun h => hk (mem_items.1 h))] at hb
        subst hb
        have := B.ok.has k
        rw [decide_eq_false hk] at this
        unfold heldOf
        cases hl : Pu.look (pagesOf x) k with
        | none => rfl
        | some v => rw [hl] at this; cases this
    subst hb2
    have ok2 := B.ok.add ⟨page, (heldOf x k).pinned⟩ hi
    rw [show (⟨k, page, (heldOf x k).pinned⟩ : H15) :: remL (toL x) k = toL (addX x k ⟨page, (heldOf x k).pinned⟩) by rw [toL_add B.ok], fit_both ok2 B.rm]
    exact H _ _ _ _ (B.step ok2.fit ((B.pb.add hB).fit ok2) (fit_room _))
  · rw [if_neg hi]
    refine ref_put_spec B.hq B.len (toL_nodup B.ok) B.r0 hB ?_
    rw [if_neg hi]
    exact H _ _ _ _ B

/-! ### The law -/
theorem plays_L5 {S3 : Int → Option Addr → Addr → List carlinglaw15_Step → Int → Int → St Obj → Prop} {Q : Bool → St Obj → Prop} {l : List carlinglaw15_Step} {n i : Int} (B : Both room p q σ x) (H : S3 room (some p) q l n (IntKind.wrap .i64 (i + 1)) σ) :
    carlinglaw15_LruPlays_L5 S3 Q room (some p) q x.order.reverse 0 l n i (toL x) ((toL x).length : Int) 0 σ := by
  have hl := B.len
  have key : ∀ (rest acc : List H15), toL x = acc ++ rest → carlinglaw15_LruPlays_L5 S3 Q room (some p) q x.order.reverse (acc.countP (·.Pinned) : Int) l n i (toL x) ((toL x).length : Int) (acc.length : Int) σ := by
    intro rest
    induction rest with
    | nil =>
      intro acc e
      have e' : toL x = acc := by simpa using e
      refine carlinglaw15_LruPlays_L5_in _ _ _ _ _ _ _ _ _ _ _ _ _ _ ?_
      unfold carlinglaw15_LruPlays_B5
      rw [decide_eq_false (by rw [e']; omega), br_false]
      refine lru_pinned_spec B.hp B.ok ?_
      have e2 : ((pinnedX x).length : Int) = (acc.countP (·.Pinned) : Int) := by
        unfold pinnedX
        rw [List.length_mergeSort, ← List.countP_eq_length_filter, ← e']
        unfold toL
        rw [List.countP_map]; rfl
      rw [e2, bne_self_eq_false, br_false]
      exact H
    | cons h rest ih =>
      intro acc e
      have hll : (toL x).length = acc.length + (rest.length + 1) := by rw [e]; simp
      have hc := List.countP_le_length (p := fun h : H15 => h.Pinned) (l := acc)
      refine carlinglaw15_LruPlays_L5_in _ _ _ _ _ _ _ _ _ _ _ _ _ _ ?_
      unfold carlinglaw15_LruPlays_B5 carlinglaw15_LruPlays_K6
      rw [decide_eq_true (by omega), br_true]
      refine ixP_nat (x := h) (by rw [e]; exact mid_get) ?_
      have e3 : x.order.reverse[acc.length]? = some h.Item := by
        rw [← items_toL, e]; unfold items
        rw [List.map_append, List.map_cons]
        have := @mid_get _ (acc.map (·.Item)) (rest.map (·.Item)) h.Item
        rwa [List.length_map] at this
      refine ixP_nat e3 ?_
      rw [bne_self_eq_false, br_false, wrap64 (n := (acc.length : Int) + 1) (by omega) (by omega), wrap64 (by omega) (by omega), br_iff]
      constructor
      · intro hu
        have := ih (acc ++ [h]) (by rw [e]; simp)
        simpa [hu] using this
      · intro hu
        have := ih (acc ++ [h]) (by rw [e]; simp)
        simpa [hu] using this
  exact key _ [] rfl

theorem plays_K7 {S3 : Int → Option Addr → Addr → List carlinglaw15_Step → Int → Int → St Obj → Prop} {Q : Bool → St Obj → Prop} {l : List carlinglaw15_Step} {n i a b : Int} {pg : List Int} (B : Both room p q σ x) (H : S3 room (some p) q l n (IntKind.wrap .i64 (i + 1)) σ) :
    carlinglaw15_LruPlays_K7 S3 Q room (some p) q a b pg true l n i σ := by
  unfold carlinglaw15_LruPlays_K7
  refine lru_order_spec B.hp B.ok ?_
  rw [Bool.not_true, br_false]
  refine at_ref B.hq ?_
  have e1 : ((x.order.reverse.length : Int) != ((toL x).length : Int)) = false := by rw [toL_len, List.length_reverse]; simp
  dsimp only
  rw [e1, br_false]
  have hs : (sdel σ q) p = some (.lru_Cache x) := by simp only [sdel, if_neg B.ne]; exact B.hp
  refine lru_len_spec hs B.ok ?_
  have e2 : ((x.order.length : Int) != ((toL x).length : Int)) = false := by rw [toL_len]; simp
  rw [e2, br_false]
  intro _
  rw [sset_sdel, sset_eq B.hq]
  refine lru_room_spec B.hp B.ok ?_
  rw [B.rm, bne_self_eq_false, br_false]
  refine lru_has_spec B.hp B.ok (ref_find_spec B.hq (by have := B.len; omega) ?_)
  have e3 : decide (idx (items (toL x)) b ≥ 0) = decide (b ∈ x.order) := by
    unfold idx
    by_cases hb : b ∈ x.order
    · rw [if_pos (mem_items.2 hb), decide_eq_true hb]; exact decide_eq_true (by omega)
    · rw [if_neg (fun h => hb (mem_items.1 h)), decide_eq_false hb]; rfl
  rw [e3, beq_self_eq_true, Bool.not_true]
  unfold carlinglaw15_LruPlays_K4
  rw [br_false]
  exact at_ref B.hq (plays_L5 B H)

theorem plays_L3 {Q : Bool → St Obj → Prop} (hQ : ∀ σ, Q true σ) {l : List carlinglaw15_Step} (hl : l.length ≤ 200) (hp : ∀ s ∈ l, s.Page.length ≤ 50) :
    ∀ (rest acc : List carlinglaw15_Step) (σ : St Obj) (x : lru_Cache), l = acc ++ rest → Both room p q σ x → carlinglaw15_LruPlays_L3 Q room (some p) q l (l.length : Int) (acc.length : Int) σ := by
  intro rest
  induction rest with
  | nil =>
    intro acc σ x e B
    have e' : l = acc := by simpa using e
    refine carlinglaw15_LruPlays_L3_in _ _ _ _ _ _ _ _ ?_
    unfold carlinglaw15_LruPlays_B3
    rw [decide_eq_false (by rw [e']; omega), br_false]
    exact alive_spec hQ
  | cons s rest ih =>
    intro acc σ x e B
    have hll : l.length = acc.length + (rest.length + 1) := by rw [e]; simp
    have hsp := hp s (by rw [e]; simp)
    have go : ∀ σ' y, Both room p q σ' y → carlinglaw15_LruPlays_L3 Q room (some p) q l (l.length : Int) (IntKind.wrap .i64 ((acc.length : Int) + 1)) σ' := by
      intro σ' y B'
      rw [wrap64 (by omega) (by omega)]
      have := ih (acc ++ [s]) σ' y (by rw [e]; simp) B'
      simpa using this
    refine carlinglaw15_LruPlays_L3_in _ _ _ _ _ _ _ _ ?_
    unfold carlinglaw15_LruPlays_B3
    rw [decide_eq_true (by omega), br_true]
    refine ixP_nat (x := s) (by rw [e]; exact mid_get) ?_
    rw [br_iff]
    refine ⟨fun _ => ?_, fun _ => ?_⟩
    · refine get_both B fun a f σ' y ha B' => same_spec ha ?_
      rw [decide_eq_true rfl, br_true, beq_self_eq_true]
      exact plays_K7 B' (go _ _ B')
    rw [br_iff]
    refine ⟨fun _ => ?_, fun _ => ?_⟩
    · refine pin_both B (by omega) fun a σ' y B' => ?_
      rw [beq_self_eq_true]
      exact plays_K7 B' (go _ _ B')
    rw [br_iff]
    refine ⟨fun _ => ?_, fun _ => ?_⟩
    · refine unpin_both B fun a f σ' y B' => ?_
      rw [beq_self_eq_true, br_true, beq_self_eq_true]
      exact plays_K7 B' (go _ _ B')
    rw [br_iff]
    refine ⟨fun _ => ?_, fun _ => ?_⟩
    · refine drop_both B fun a σ' y B' => ?_
      rw [beq_self_eq_true]
      exact plays_K7 B' (go _ _ B')
    · refine put_both B (by omega) fun a f σ' y B' => ?_
      rw [beq_self_eq_true, br_true, beq_self_eq_true]
      exact plays_K7 B' (go _ _ B')

theorem carlinglaw15_LruPlays_ok (room : Int) (w : (Lit.int .i64 room).wf = true) (l : List carlinglaw15_Step) (n1 : l.length ≤ maxLen ∧ ∀ x ∈ l, N_carlinglaw15_Step x) : carlinglaw15_LruPlays room l st0 fun b _ => b = true := by
  unfold carlinglaw15_LruPlays carlinglaw15_LruPlays_K2 carlinglaw15_LruPlays_K1
  by_cases h : 1 ≤ room ∧ room ≤ 1024
  · refine lru_new_spec h fun p hp => ?_
    rw [decide_eq_true (show room ≥ 1 from h.1), br_true, decide_eq_true h.2, Bool.not_true, br_false, Option.isNone_some, br_false]
    intro q
    refine short_spec fun r hr hpg hq => ?_
    have hne : p ≠ q := by intro e; subst e; rw [sset_same] at hq; cases hq
    refine plays_L3 (fun _ => rfl) hr hpg r [] _ ⟨room, some [], []⟩ rfl ⟨?_, ?_, new_ok room, ?_, rfl, by omega⟩
    · rw [sset_ne hne]; exact sset_same _ _ _
    · exact sset_same _ _ _
    · intro k; simp [heldOf, pagesOf, Pu.look]
  · refine lru_new_bad h ?_
    rw [br_iff]
    constructor
    · intro h1
      have h1 : room ≥ 1 := by simpa using h1
      rw [decide_eq_false (by omega), Bool.not_false, br_true, br_true, br_true, Option.isNone_none, br_true, beq_self_eq_true, br_true]
      exact alive_spec fun _ => rfl
    · intro h1
      rw [Bool.not_false, br_true, br_true, br_true, Option.isNone_none, br_true, beq_self_eq_true, br_true]
      exact alive_spec fun _ => rfl

end Go.Pt
