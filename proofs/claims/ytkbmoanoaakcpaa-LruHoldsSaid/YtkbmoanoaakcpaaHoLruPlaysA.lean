import Derived.Test.YtkbmoanoaakcpaaHoPo
import Derived.Test.YtkbmoanoaakcpaaHoLruSpec2
set_option linter.unusedSimpArgs false
set_option linter.unusedVariables false
namespace Go.Pt
open Go Go.Wc Go.Pu Go.Laws

abbrev H15 := carlingref15_Held

/-! ### The document's cache -/
def items (L : List H15) : List Int := L.map (·.Item)
def remL (L : List H15) (k : Int) : List H15 := L.filter fun h => h.Item != k
def up (h : H15) : Bool := !h.Pinned
def fitL (L : List H15) (room : Int) : Int × List H15 :=
  if (L.countP up : Int) ≤ room then (-1, L) else
    match L.reverse.find? up with
    | some h => (h.Item, remL L h.Item)
    | none => (-1, L)

theorem remL_not {L : List H15} {k : Int} (h : k ∉ items L) : remL L k = L := by
  unfold remL
  rw [List.filter_eq_self]
  intro a ha
  have : a.Item ≠ k := fun e => h (e ▸ List.mem_map_of_mem ha)
  simpa using this

theorem without_eq {L : List H15} (hn : (items L).Nodup) {j : Nat} {h : H15} (hj : L[j]? = some h) : L.take j ++ L.drop (j + 1) = remL L h.Item := by
  induction L generalizing j with
  | nil => simp at hj
  | cons a L ih =>
    unfold items at hn
    rw [List.map_cons, List.nodup_cons] at hn
    cases j with
    | zero =>
      have : a = h := by simpa using hj
      subst this
      have e : remL (a :: L) a.Item = remL L a.Item := by unfold remL; simp
      rw [e, remL_not hn.1]; simp
    | succ j =>
      have hj : L[j]? = some h := by simpa using hj
      have hne : a.Item ≠ h.Item := fun e => hn.1 (e ▸ List.mem_map_of_mem (List.mem_of_getElem? hj))
      have e : remL (a :: L) h.Item = a :: remL L h.Item := by unfold remL; simp [hne]
      rw [e, ← ih hn.2 hj]; simp

variable {σ : St Obj} {q : Addr} {room k : Int} {L : List H15}

theorem at_ref {r : carlingref15_Cache} {K : carlingref15_Cache → Prop} (hx : σ q = some (.carlingref15_Cache r)) (H : K r) : at_carlingref15_Cache σ q K := ⟨r, hx, H⟩

theorem ref_find_spec {Q : Int → St Obj → Prop} (hx : σ q = some (.carlingref15_Cache ⟨room, L⟩)) (hl : L.length ≤ 5000) (H : Q (idx (items L) k) σ) : carlingref15_Cache_Find (some q) k σ Q := by
  unfold carlingref15_Cache_Find
  have key : ∀ (rest acc : List H15), L = acc ++ rest → k ∉ items acc → carlingref15_Cache_Find_L1 Q (some q) k (acc.length : Int) σ := by
    intro rest
    induction rest with
    | nil =>
      intro acc e hn
      rw [List.append_nil] at e
      subst e
      refine carlingref15_Cache_Find_L1_in _ _ _ _ _ ?_
      unfold carlingref15_Cache_Find_B1
      rw [nilW_some]
      refine at_ref hx ?_
      dsimp only
      rw [decide_eq_false (by omega), br_false]
      unfold idx at H
      rw [if_neg hn] at H
      exact H
    | cons x rest ih =>
      intro acc e hn
      have hll : L.length = acc.length + (rest.length + 1) := by rw [e]; simp
      refine carlingref15_Cache_Find_L1_in _ _ _ _ _ ?_
      unfold carlingref15_Cache_Find_B1
      rw [nilW_some]
      refine at_ref hx ?_
      dsimp only
      rw [decide_eq_true (by omega), br_true]
      refine ⟨by omega, x, by rw [e, Int.toNat_natCast, List.getElem?_append_right (by omega)]; simp, ?_⟩
      show br (x.Item == k) _ _
      rw [br_iff]
      constructor
      · intro h
        have h : x.Item = k := by simpa using h
        subst h
        unfold idx at H
        have em : items L = items acc ++ x.Item :: items rest := by rw [e]; simp [items]
        rw [em, if_pos (by simp), List.idxOf_append, if_neg hn] at H
        simpa [items] using H
      · intro h
        have h : x.Item ≠ k := by simpa using h
        rw [wrap64 (by omega) (by omega)]
        have := ih (acc ++ [x]) (by rw [e]; simp) (by
          unfold items at hn ⊢
          rw [List.map_append, List.mem_append, not_or]
          exact ⟨hn, by simpa using fun e => h e.symm⟩)
        simpa using this
  exact key L [] rfl (by simp [items])

theorem ref_without_spec {Q : List H15 → St Obj → Prop} {j : Nat} {h : H15} (hx : σ q = some (.carlingref15_Cache ⟨room, L⟩)) (hl : L.length ≤ 5000) (hn : (items L).Nodup) (hj : L[j]? = some h) (H : Q (remL L h.Item) σ) : carlingref15_Cache_without (some q) (j : Int) σ Q := by
  unfold carlingref15_Cache_without
  have hlt : j < L.length := (List.getElem?_eq_some_iff.1 hj).1
  rw [nilW_some]
  refine at_ref hx ?_
  simp only
  rw [wrap64 (by omega) (by omega)]
  have h1 : SlOk L (0 : Int) (j : Int) := ⟨by omega, by omega, by omega⟩
  have h2 : SlOk L ((j : Int) + 1) (L.length : Int) := ⟨by omega, by omega, by omega⟩
  have e1 : sub L 0 (j : Int) = L.take j := by rw [sub_take, Int.toNat_natCast]
  have e2 : sub L ((j : Int) + 1) (L.length : Int) = L.drop (j + 1) := by rw [sub_drop]; congr 1
  refine ⟨h1, h2, ?_, ?_, ?_⟩
  · rw [e1]; simp only [Bnd, List.length_nil, List.length_take]; omega
  · rw [e1, e2]; simp only [Bnd, List.length_append, List.length_nil, List.length_take, List.length_drop]; omega
  · rw [e1, e2, List.nil_append, without_eq hn hj]; exact H

theorem idx_get {k : Int} (hk : k ∈ items L) : ∃ (j : Nat) (h : H15), idx (items L) k = j ∧ L[j]? = some h ∧ h.Item = k := by
  have hlt := List.idxOf_lt_length_of_mem hk
  have h1 : (items L)[(items L).idxOf k]? = some k := by rw [List.getElem?_eq_getElem hlt, List.getElem_idxOf]
  have h2 : (items L)[(items L).idxOf k]? = (L[(items L).idxOf k]?).map (·.Item) := by simp [items]
  rw [h2] at h1
  cases h3 : L[(items L).idxOf k]? with
  | none => rw [h3] at h1; cases h1
  | some h =>
    rw [h3] at h1
    refine ⟨_, h, by unfold idx; rw [if_pos hk], h3, ?_⟩
    simpa using h1

theorem remL_len (L : List H15) (k : Int) : (remL L k).length ≤ L.length := List.length_filter_le _ _
theorem remL_nodup (hn : (items L).Nodup) (k : Int) : (items (remL L k)).Nodup := hn.sublist (List.Sublist.map _ List.filter_sublist)

theorem ref_first_spec {Q : St Obj → Prop} {h : H15} (hx : σ q = some (.carlingref15_Cache ⟨room, L⟩)) (hl : L.length ≤ 5000) (hn : (items L).Nodup) (H : Q (sset σ q (.carlingref15_Cache ⟨room, h :: remL L h.Item⟩))) : carlingref15_Cache_first (some q) h σ Q := by
  unfold carlingref15_Cache_first
  refine ref_find_spec hx hl ?_
  rw [br_iff]
  constructor
  · intro hd
    have hk : h.Item ∈ items L := by
      unfold idx at hd
      split at hd
      · assumption
      · simp at hd
    obtain ⟨j, g, e1, e2, e3⟩ := idx_get hk
    rw [e1]
    refine ref_without_spec hx hl hn e2 ?_
    rw [nilW_some]
    refine at_ref hx ?_
    unfold carlingref15_Cache_first_K1
    rw [nilW_some]
    refine at_ref (sset_same _ _ _) ⟨?_, ?_⟩
    · have := remL_len L g.Item
      simp only [Bnd, List.length_cons, List.length_nil]; omega
    · rw [sset_sset, e3]; exact H
  · intro hd
    have hk : h.Item ∉ items L := by
      unfold idx at hd
      split at hd
      · simp at hd
      · assumption
    unfold carlingref15_Cache_first_K1
    rw [nilW_some]
    refine at_ref hx ⟨?_, ?_⟩
    · simp only [Bnd, List.length_cons, List.length_nil]; omega
    · rw [remL_not hk] at H
      exact H

def lastOk (acc : List H15) (last : Int) : Prop :=
  match acc.reverse.find? up with
  | none => last = -1
  | some h => ∃ j : Nat, last = j ∧ acc[j]? = some h

theorem ref_fit_spec {Q : Int → St Obj → Prop} (hx : σ q = some (.carlingref15_Cache ⟨room, L⟩)) (hl : L.length ≤ 5000) (hn : (items L).Nodup) (h0 : 0 ≤ room) (H : Q (fitL L room).1 (sset σ q (.carlingref15_Cache ⟨room, (fitL L room).2⟩))) : carlingref15_Cache_fit (some q) σ Q := by
  unfold carlingref15_Cache_fit
  have key : ∀ (rest acc : List H15) (last : Int), L = acc ++ rest → lastOk acc last → carlingref15_Cache_fit_L1 Q (some q) (acc.countP up : Int) last (acc.length : Int) σ := by
    intro rest
    induction rest with
    | nil =>
      intro acc last e hla
      rw [List.append_nil] at e
      subst e
      refine carlingref15_Cache_fit_L1_in _ _ _ _ _ _ ?_
      unfold carlingref15_Cache_fit_B1
      rw [nilW_some]
      refine at_ref hx ?_
      dsimp only
      rw [decide_eq_false (by omega), br_false, br_iff]
      unfold fitL at H
      constructor
      · intro h
        rw [if_pos (by simpa using h), sset_eq hx] at H
        exact H
      · intro h
        have h : ¬ ((L.countP up : Int) ≤ room) := by simpa using h
        rw [if_neg h] at H
        have hp : 0 < L.countP up := by omega
        rw [List.countP_pos_iff] at hp
        obtain ⟨a, ha, hu⟩ := hp
        unfold lastOk at hla
        cases hf : L.reverse.find? up with
        | none => rw [List.find?_eq_none] at hf; exact absurd hu (hf a (by simpa using ha))
        | some b =>
          rw [hf] at H hla
          obtain ⟨j, rfl, hj⟩ := hla
          refine ⟨by omega, b, by simpa using hj, ?_⟩
          refine ref_without_spec hx hl hn hj ?_
          exact ⟨_, hx, H⟩
    | cons x rest ih =>
      intro acc last e hla
      have hll : L.length = acc.length + (rest.length + 1) := by rw [e]; simp
      have hc := List.countP_le_length (p := up) (l := acc)
      refine carlingref15_Cache_fit_L1_in _ _ _ _ _ _ ?_
      unfold carlingref15_Cache_fit_B1 carlingref15_Cache_fit_K2
      rw [nilW_some]
      refine at_ref hx ?_
      dsimp only
      rw [decide_eq_true (by omega), br_true]
      refine ⟨by omega, x, by rw [e, Int.toNat_natCast, List.getElem?_append_right (by omega)]; simp, ?_⟩
      show br (up x) _ _
      rw [wrap64 (n := (acc.length : Int) + 1) (by omega) (by omega), wrap64 (by omega) (by omega)]
      rw [br_iff]
      constructor
      · intro hu
        have := ih (acc ++ [x]) (acc.length : Int) (by rw [e]; simp) (by unfold lastOk; simp only [List.reverse_append, List.reverse_singleton, List.singleton_append, List.find?_cons, hu]; exact ⟨acc.length, rfl, by simp⟩)
        simpa [hu] using this
      · intro hu
        have := ih (acc ++ [x]) last (by rw [e]; simp) (by
          unfold lastOk at hla ⊢
          have e1 : (acc ++ [x]).reverse.find? up = acc.reverse.find? up := by simp [hu]
          rw [e1]
          cases hf : acc.reverse.find? up with
          | none => rw [hf] at hla; exact hla
          | some b =>
            rw [hf] at hla
            obtain ⟨j, e2, hj⟩ := hla
            have := (List.getElem?_eq_some_iff.1 hj).1
            exact ⟨j, e2, by rw [List.getElem?_append_left this]; exact hj⟩)
        simpa [hu] using this
  exact key L [] (-1) rfl (by simp [lastOk])

/-! ### The two, side by side -/
def hOf (x : lru_Cache) (k : Int) : H15 := ⟨k, (heldOf x k).page, (heldOf x k).pinned⟩
def toL (x : lru_Cache) : List H15 := x.order.reverse.map (hOf x)

theorem items_toL (x : lru_Cache) : items (toL x) = x.order.reverse := by simp [items, toL, hOf, Function.comp_def]
theorem toL_nodup {x : lru_Cache} (ok : CacheOk x) : (items (toL x)).Nodup := by rw [items_toL]; unfold List.Nodup; rw [List.pairwise_reverse]; exact List.Pairwise.imp (fun h => Ne.symm h) ok.nodup
theorem toL_len (x : lru_Cache) : (toL x).length = x.order.length := by simp [toL]

theorem held_add (x : lru_Cache) (k : Int) (v : lru_held) (j : Int) : heldOf (addX x k v) j = if j = k then v else heldOf x j := by
  unfold heldOf
  rw [show pagesOf (addX x k v) = Pu.upd (pagesOf x) k v from rfl, Pu.look_upd]
  split <;> rfl
theorem held_drop {x : lru_Cache} (ok : CacheOk x) (k j : Int) : heldOf (dropX x k) j = if j = k then ⟨[], false⟩ else heldOf x j := by
  unfold heldOf
  rw [show pagesOf (dropX x k) = Pu.del (pagesOf x) k from rfl, Pu.look_del ok.keys]
  split <;> rfl

theorem erase_filter {l : List Int} (hn : l.Nodup) (k : Int) : l.erase k = l.filter (fun a => a != k) := hn.erase_eq_filter k

theorem rem_toL {x : lru_Cache} (ok : CacheOk x) (k : Int) : remL (toL x) k = (x.order.erase k).reverse.map (hOf x) := by
  unfold remL toL
  rw [List.filter_map, erase_filter ok.nodup, List.filter_reverse]
  rfl

theorem toL_add {x : lru_Cache} (ok : CacheOk x) (k : Int) (v : lru_held) : toL (addX x k v) = ⟨k, v.page, v.pinned⟩ :: remL (toL x) k := by
  rw [rem_toL ok]
  unfold toL
  rw [show (addX x k v).order = x.order.erase k ++ [k] from rfl, List.reverse_append, List.reverse_singleton, List.singleton_append, List.map_cons]
  congr 1
  · unfold hOf; rw [held_add, if_pos rfl]
  · apply List.map_congr_left
    intro j hj
    have hj := (ok.nodup.mem_erase_iff.1 (List.mem_reverse.1 hj)).1
    unfold hOf; rw [held_add, if_neg hj]
theorem toL_touch {x : lru_Cache} (ok : CacheOk x) (k : Int) : toL (touchX x k) = hOf x k :: remL (toL x) k := by
  rw [rem_toL ok]
  unfold toL
  rw [show (touchX x k).order = x.order.erase k ++ [k] from rfl, List.reverse_append, List.reverse_singleton, List.singleton_append, List.map_cons]
  rfl
theorem toL_drop {x : lru_Cache} (ok : CacheOk x) (k : Int) : toL (dropX x k) = remL (toL x) k := by
  rw [rem_toL ok]
  unfold toL
  apply List.map_congr_left
  intro j hj
  have hj := (ok.nodup.mem_erase_iff.1 (List.mem_reverse.1 hj)).1
  unfold hOf; rw [held_drop ok, if_neg hj]

theorem up_hOf {x : lru_Cache} (k : Int) : up (hOf x k) = lru_loose x k := rfl

theorem fit_same {x : lru_Cache} (ok : CacheOk x) : fitL (toL x) x.room = ((fitX x).1, toL (fitX x).2) := by
  have h1 : (toL x).countP up = x.order.countP (lru_loose x) := by
    unfold toL
    rw [List.countP_map, List.countP_reverse]; rfl
  have h2 : (toL x).reverse.find? up = (x.order.find? (lru_loose x)).map (hOf x) := by
    unfold toL
    rw [← List.map_reverse, List.reverse_reverse, List.find?_map]; rfl
  unfold fitL fitX
  rw [h1, h2]
  split
  · rfl
  · cases x.order.find? (lru_loose x) with
    | none => rfl
    | some k => simp only [Option.map_some]; rw [toL_drop ok]; rfl

def PB (x : lru_Cache) : Prop := ∀ k, (heldOf x k).page.length ≤ 4294967296
theorem PB.add {x : lru_Cache} (h : PB x) {k : Int} {v : lru_held} (hv : v.page.length ≤ 4294967296) : PB (addX x k v) := by
  intro j; rw [held_add]; split
  · exact hv
  · exact h j
theorem PB.drop {x : lru_Cache} (h : PB x) (ok : CacheOk x) (k : Int) : PB (dropX x k) := by
  intro j; rw [held_drop ok]; split
  · simp
  · exact h j
theorem PB.fit {x : lru_Cache} (h : PB x) (ok : CacheOk x) : PB (fitX x).2 := by
  unfold fitX
  split
  · exact h
  · split
    · exact h.drop ok _
    · exact h
theorem fit_room (x : lru_Cache) : (fitX x).2.room = x.room := by
  unfold fitX
  split
  · rfl
  · split <;> rfl

theorem same_spec {a b : List Int} {Q : Bool → Prop} (ha : a.length ≤ 4294967296) (H : Q (decide (a = b))) : carlingref02_Same a b Q := by
  unfold carlingref02_Same
  rw [br_iff]
  constructor
  · intro h
    have h : a.length ≠ b.length := by simp at h; omega
    rw [decide_eq_false (fun e => h (by rw [e]))] at H
    exact H
  · intro h
    have h : a.length = b.length := by simp at h; omega
    have key : ∀ (ra rb acc : List Int), a = acc ++ ra → b = acc ++ rb → carlingref02_Same_L1 Q a b (acc.length : Int) := by
      intro ra
      induction ra with
      | nil =>
        intro rb acc e1 e2
        have : rb = [] := by
          have := congrArg List.length e1; have := congrArg List.length e2
          simp at *; exact List.length_eq_zero_iff.1 (by omega)
        subst this
        refine carlingref02_Same_L1_in _ _ _ _ ?_
        unfold carlingref02_Same_B1
        rw [decide_eq_false (by rw [e1]; simp), br_false]
        rw [decide_eq_true (by rw [e1, e2])] at H
        exact H
      | cons x ra ih =>
        intro rb acc e1 e2
        have l1 := congrArg List.length e1; have l2 := congrArg List.length e2
        simp only [List.length_append, List.length_cons] at l1 l2
        obtain ⟨y, rb, rfl⟩ := List.exists_cons_of_length_pos (l := rb) (by omega)
        refine carlingref02_Same_L1_in _ _ _ _ ?_
        unfold carlingref02_Same_B1
        rw [decide_eq_true (by omega), br_true]
        refine ⟨by omega, x, by rw [e1, Int.toNat_natCast, List.getElem?_append_right (by omega)]; simp, by omega, y, by rw [e2, Int.toNat_natCast, List.getElem?_append_right (by omega)]; simp, ?_⟩
        show br (x != y) _ _
        rw [br_iff]
        constructor
        · intro hne
          have hne : x ≠ y := by simpa using hne
          rw [decide_eq_false (fun e => hne (by rw [e1, e2] at e; exact (List.cons.inj (List.append_cancel_left e)).1))] at H
          · exact H
        · intro he
          have he : x = y := by simpa using he
          subst he
          rw [wrap64 (by omega) (by omega)]
          have := ih rb (acc ++ [x]) (by rw [e1]; simp) (by rw [e2]; simp)
          simpa using this
    exact key a b [] rfl rfl

theorem short_spec {l : List carlinglaw15_Step} {Q : List carlinglaw15_Step → Prop} (H : ∀ r, r.length ≤ 200 → (∀ s ∈ r, s.Page.length ≤ 50) → Q r) : carlinglaw15_short l Q := by
  unfold carlinglaw15_short
  have h0 : (0 : Int) ≤ (if (200 : Int) < (l.length : Int) then (200 : Int) else (l.length : Int)) := by split <;> omega
  have h1 : (if (200 : Int) < (l.length : Int) then (200 : Int) else (l.length : Int)) ≤ l.length := by split <;> omega
  have h2 : (if (200 : Int) < (l.length : Int) then (200 : Int) else (l.length : Int)) ≤ 200 := by split <;> omega
  generalize (if (200 : Int) < (l.length : Int) then (200 : Int) else (l.length : Int)) = m at h0 h1 h2 ⊢
  refine ⟨⟨by omega, by omega, by omega⟩, ?_⟩
  rw [sub_take]
  generalize hv : l.take m.toNat = v
  have hvl : v.length ≤ 200 := by rw [← hv, List.length_take]; omega
  have key : ∀ (rest acc out : List carlinglaw15_Step), v = acc ++ rest → out.length = acc.length → (∀ s ∈ out, s.Page.length ≤ 50) → carlinglaw15_short_L1 Q out v (v.length : Int) (acc.length : Int) := by
    intro rest
    induction rest with
    | nil =>
      intro acc out e ho hp
      have e' : v = acc := by simpa using e
      refine carlinglaw15_short_L1_in _ _ _ _ _ ?_
      unfold carlinglaw15_short_B1
      rw [decide_eq_false (by have := congrArg List.length e'; omega), br_false]
      exact H out (by have := congrArg List.length e'; omega) hp
    | cons x rest ih =>
      intro acc out e ho hp
      have hll : v.length = acc.length + (rest.length + 1) := by rw [e]; simp
      refine carlinglaw15_short_L1_in _ _ _ _ _ ?_
      unfold carlinglaw15_short_B1
      rw [decide_eq_true (by omega), br_true]
      refine ixP_nat (x := x) (by rw [e]; exact mid_get) ?_
      have g0 : (0 : Int) ≤ (if (50 : Int) < (x.Page.length : Int) then (50 : Int) else (x.Page.length : Int)) := by split <;> omega
      have g1 : (if (50 : Int) < (x.Page.length : Int) then (50 : Int) else (x.Page.length : Int)) ≤ x.Page.length := by split <;> omega
      have g2 : (if (50 : Int) < (x.Page.length : Int) then (50 : Int) else (x.Page.length : Int)) ≤ 50 := by split <;> omega
      generalize (if (50 : Int) < (x.Page.length : Int) then (50 : Int) else (x.Page.length : Int)) = n at g0 g1 g2 ⊢
      refine ⟨⟨by omega, by omega, by omega⟩, by simp only [Bnd, List.length_cons, List.length_nil]; omega, ?_⟩
      rw [wrap64 (by omega) (by omega)]
      have := ih (acc ++ [x]) (out ++ [⟨x.Kind, x.Item, sub x.Page 0 n⟩]) (by rw [e]; simp) (by simp [ho]) (by
        intro s hs
        rcases List.mem_append.1 hs with hs | hs
        · exact hp s hs
        · rw [List.mem_singleton] at hs
          subst hs
          rw [sub_take, List.length_take]; omega)
      simpa using this
  exact key v [] [] rfl rfl (by simp)

end Go.Pt
