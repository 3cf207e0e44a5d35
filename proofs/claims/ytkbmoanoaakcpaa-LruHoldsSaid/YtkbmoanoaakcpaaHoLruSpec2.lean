import Derived.Test.YtkbmoanoaakcpaaHoLruSpec
set_option linter.unusedSimpArgs false
set_option linter.unusedVariables false
namespace Go.Pt
open Go Go.Wc Go.Pu

/-! ### The cache: what each call does -/

def pagesOf (x : lru_Cache) : List (Int × lru_held) := x.pages.getD []
def heldOf (x : lru_Cache) (k : Int) : lru_held := (Pu.look (pagesOf x) k).getD ⟨[], false⟩

structure CacheOk (x : lru_Cache) : Prop where
  made : x.pages = some (pagesOf x)
  keys : ((pagesOf x).map (·.1)).Nodup
  same : ∀ k, k ∈ x.order ↔ k ∈ (pagesOf x).map (·.1)
  nodup : x.order.Nodup
  rng : ∀ k ∈ x.order, 0 ≤ k ∧ k < 4096

theorem ints_len : ∀ {n : Nat} {L : List Int}, L.Nodup → (∀ k ∈ L, 0 ≤ k ∧ k < (n : Int)) → L.length ≤ n := by
  intro n
  induction n with
  | zero => intro L _ hr; cases L with
    | nil => simp
    | cons a l => have := hr a (by simp); omega
  | succ n ih =>
    intro L hn hr
    have := ih (L := L.erase n) (hn.erase _) (fun k hk => by
      have h1 := hr k (List.mem_of_mem_erase hk)
      have h2 : k ≠ n := fun e => by subst e; exact (List.Nodup.not_mem_erase hn) hk
      omega)
    by_cases hm : (n : Int) ∈ L
    · rw [List.length_erase_of_mem hm] at this; omega
    · rw [List.erase_of_not_mem hm] at this; omega

theorem CacheOk.len {x : lru_Cache} (h : CacheOk x) : x.order.length ≤ 4096 := ints_len h.nodup h.rng
theorem CacheOk.has {x : lru_Cache} (h : CacheOk x) (k : Int) : (Pu.look (pagesOf x) k).isSome = decide (k ∈ x.order) := by
  rw [Bool.eq_iff_iff, Option.isSome_iff_ne_none, mem_look, decide_eq_true_iff, h.same]

def addX (x : lru_Cache) (k : Int) (v : lru_held) : lru_Cache := ⟨x.room, some (Pu.upd (pagesOf x) k v), x.order.erase k ++ [k]⟩
def touchX (x : lru_Cache) (k : Int) : lru_Cache := ⟨x.room, x.pages, x.order.erase k ++ [k]⟩
def dropX (x : lru_Cache) (k : Int) : lru_Cache := ⟨x.room, some (Pu.del (pagesOf x) k), x.order.erase k⟩
def fitX (x : lru_Cache) : Int × lru_Cache :=
  if (x.order.countP (lru_loose x) : Int) ≤ x.room then (-1, x) else
    match x.order.find? (lru_loose x) with
    | some k => (k, dropX x k)
    | none => (-1, x)

theorem CacheOk.add {x : lru_Cache} (h : CacheOk x) {k : Int} (v : lru_held) (hk : 0 ≤ k ∧ k < 4096) : CacheOk (addX x k v) := by
  refine ⟨rfl, nodup_upd h.keys k v, fun j => ?_, ?_, fun j hj => ?_⟩
  · show j ∈ x.order.erase k ++ [k] ↔ j ∈ (Pu.upd (pagesOf x) k v).map (·.1)
    rw [Pu.keys_upd, List.mem_append, List.mem_singleton, h.nodup.mem_erase_iff, h.same]
    split
    · rename_i hm
      constructor
      · rintro (⟨_, h2⟩ | rfl)
        · exact h2
        · exact hm
      · intro h2
        by_cases e : j = k
        · exact .inr e
        · exact .inl ⟨e, h2⟩
    · rename_i hm
      rw [List.mem_append, List.mem_singleton]
      constructor
      · rintro (⟨_, h2⟩ | rfl)
        · exact .inl h2
        · exact .inr rfl
      · rintro (h2 | rfl)
        · exact .inl ⟨fun e => hm (e ▸ h2), h2⟩
        · exact .inr rfl
  · show (x.order.erase k ++ [k]).Nodup
    rw [List.nodup_append]
    refine ⟨h.nodup.erase k, by simp, fun a ha b hb => ?_⟩
    rw [List.mem_singleton] at hb; subst hb
    exact (h.nodup.mem_erase_iff.1 ha).1
  · rcases List.mem_append.1 hj with hj | hj
    · exact h.rng j (List.mem_of_mem_erase hj)
    · rw [List.mem_singleton] at hj; subst hj; exact hk

theorem CacheOk.touch {x : lru_Cache} (h : CacheOk x) {k : Int} (hk : k ∈ x.order) : CacheOk (touchX x k) := by
  refine ⟨h.made, h.keys, fun j => ?_, ?_, fun j hj => ?_⟩
  · show j ∈ x.order.erase k ++ [k] ↔ j ∈ (pagesOf x).map (·.1)
    rw [← h.same, List.mem_append, List.mem_singleton, h.nodup.mem_erase_iff]
    by_cases e : j = k
    · subst e; simp [hk]
    · simp [e]
  · show (x.order.erase k ++ [k]).Nodup
    rw [List.nodup_append]
    refine ⟨h.nodup.erase k, by simp, fun a ha b hb => ?_⟩
    rw [List.mem_singleton] at hb; subst hb
    exact (h.nodup.mem_erase_iff.1 ha).1
  · rcases List.mem_append.1 hj with hj | hj
    · exact h.rng j (List.mem_of_mem_erase hj)
    · rw [List.mem_singleton] at hj; subst hj; exact h.rng _ hk

theorem CacheOk.drop {x : lru_Cache} (h : CacheOk x) (k : Int) : CacheOk (dropX x k) := by
  refine ⟨rfl, ?_, fun j => ?_, h.nodup.erase k, fun j hj => h.rng j (List.mem_of_mem_erase hj)⟩
  · show ((Pu.del (pagesOf x) k).map (·.1)).Nodup
    rw [keys_del]; exact h.keys.erase k
  · show j ∈ x.order.erase k ↔ j ∈ (Pu.del (pagesOf x) k).map (·.1)
    rw [keys_del, h.nodup.mem_erase_iff, h.keys.mem_erase_iff, h.same]

theorem CacheOk.fit {x : lru_Cache} (h : CacheOk x) : CacheOk (fitX x).2 := by
  unfold fitX
  split
  · exact h
  · split
    · exact h.drop _
    · exact h

/-! calls -/
variable {σ : St Obj} {p : Addr} {x : lru_Cache} {k : Int}

theorem lru_ok_spec {Q : Bool → St Obj → Prop} (hx : σ p = some (.lru_Cache x)) (H : Q x.pages.isSome σ) : lru_Cache_ok (some p) σ Q := by
  unfold lru_Cache_ok
  simp only [Option.isNone_some, Bool.not_false, br_true, nilW_some]
  refine ⟨x, hx, ?_⟩
  have e : (!Option.isNone x.pages) = x.pages.isSome := by cases x.pages <;> rfl
  show Q (!Option.isNone x.pages) σ
  rw [e]; exact H

theorem lru_has_spec {Q : Bool → St Obj → Prop} (hx : σ p = some (.lru_Cache x)) (ok : CacheOk x) (H : Q (decide (k ∈ x.order)) σ) : lru_Cache_Has (some p) k σ Q := by
  unfold lru_Cache_Has
  refine lru_ok_spec hx ?_
  have e : x.pages.isSome = true := by rw [ok.made]; rfl
  rw [e, Bool.not_true, br_false, nilW_some]
  refine ⟨x, hx, ?_⟩
  show Q (Pu.look (pagesOf x) k).isSome σ
  rw [ok.has]; exact H

theorem lru_touch_spec {Q : St Obj → Prop} (hx : σ p = some (.lru_Cache x)) (hl : x.order.length ≤ 5000) (H : Q (sset σ p (.lru_Cache (touchX x k)))) : lru_Cache_touch (some p) k σ Q := by
  unfold lru_Cache_touch
  rw [nilW_some]
  refine ⟨x, hx, slices_Index_spec (by omega) ?_⟩
  rw [br_iff]
  constructor
  · intro h
    have hk : k ∈ x.order := by
      unfold idx at h
      split at h
      · assumption
      · simp at h
    refine delete_spec (by omega) hk ?_
    unfold lru_Cache_touch_K1
    rw [nilW_some]
    refine ⟨_, sset_same _ _ _, ?_, ?_⟩
    · have := List.length_erase_le (a := k) (l := x.order)
      simp only [Bnd, List.length_cons, List.length_nil]; omega
    · rw [sset_sset]; exact H
  · intro h
    have hk : k ∉ x.order := by
      unfold idx at h
      split at h
      · simp at h
      · assumption
    unfold lru_Cache_touch_K1
    rw [nilW_some]
    refine ⟨x, hx, ?_, ?_⟩
    · simp only [Bnd, List.length_cons, List.length_nil]; omega
    · unfold touchX at H
      rw [List.erase_of_not_mem hk] at H
      exact H

theorem lru_drop_spec {Q : Bool → St Obj → Prop} (hx : σ p = some (.lru_Cache x)) (ok : CacheOk x) (H : if k ∈ x.order then Q true (sset σ p (.lru_Cache (dropX x k))) else Q false σ) : lru_Cache_Drop (some p) k σ Q := by
  unfold lru_Cache_Drop
  refine lru_has_spec hx ok ?_
  have := ok.len
  by_cases hk : k ∈ x.order
  · rw [if_pos hk] at H
    rw [decide_eq_true hk, Bool.not_true, br_false, nilW_some]
    refine ⟨x, hx, ?_⟩
    unfold dlP
    refine slices_Index_spec (by omega) (delete_spec (by omega) hk ?_)
    have e : x.pages.map (Pu.del · k) = some (Pu.del (pagesOf x) k) := by rw [ok.made]; rfl
    rw [e]; exact H
  · rw [if_neg hk] at H
    rw [decide_eq_false hk, Bool.not_false, br_true]
    exact H

theorem loose_eq (ok : x.pages.isSome) : lru_loose x k = !(heldOf x k).pinned := rfl

theorem lru_fit_spec {Q : Int → St Obj → Prop} (hx : σ p = some (.lru_Cache x)) (ok : CacheOk x) (h0 : 0 ≤ x.room) (H : Q (fitX x).1 (sset σ p (.lru_Cache (fitX x).2))) : lru_Cache_fit (some p) σ Q := by
  unfold lru_Cache_fit
  rw [nilW_some]
  have := ok.len
  refine ⟨x, hx, by unfold Bnd; omega, ?_⟩
  unfold fitX at H
  rw [br_iff]
  constructor
  · intro h
    rw [if_pos (by simpa using h), sset_eq hx] at H
    exact H
  · intro h
    have h : ¬ ((x.order.countP (lru_loose x) : Int) ≤ x.room) := by simpa using h
    rw [if_neg h] at H
    have hp : 0 < x.order.countP (lru_loose x) := by omega
    rw [List.countP_pos_iff] at hp
    obtain ⟨a, ha, hl⟩ := hp
    cases hf : x.order.find? (lru_loose x) with
    | none => rw [List.find?_eq_none] at hf; exact absurd hl (hf a ha)
    | some b =>
      rw [hf] at H
      refine ⟨b, rfl, lru_drop_spec hx ok ?_⟩
      rw [if_pos (List.mem_of_find?_eq_some hf)]
      exact H

theorem clone_spec {l : List Int} {Q : List Int → Prop} (hB : l.length ≤ 4294967296) (H : Q l) : bytes_Clone l Q := ⟨hB, H⟩

theorem isItem_spec {Q : Bool → Prop} (H : Q (decide (0 ≤ k ∧ k < 4096))) : lru_isItem k Q := by
  unfold lru_isItem
  rw [br_iff]
  constructor
  · intro h
    have h : 0 ≤ k := by simpa using h
    simpa [h] using H
  · intro h
    have h : ¬ 0 ≤ k := by simpa using h
    simpa [h] using H

def isItem (k : Int) : Prop := 0 ≤ k ∧ k < 4096
instance : Decidable (isItem k) := by unfold isItem; exact inferInstance

def putX (x : lru_Cache) (k : Int) (page : List Int) : Int × lru_Cache := fitX (addX x k ⟨page, (heldOf x k).pinned⟩)

theorem upd_touch (x : lru_Cache) (k : Int) (v : lru_held) : touchX ⟨x.room, some (Pu.upd (pagesOf x) k v), x.order⟩ k = addX x k v := rfl

theorem lru_put_spec {Q : Int → Int → St Obj → Prop} {page : List Int} (hx : σ p = some (.lru_Cache x)) (ok : CacheOk x) (h0 : 0 ≤ x.room) (hB : page.length ≤ 4294967296)
    (H : if isItem k then Q (putX x k page).1 0 (sset σ p (.lru_Cache (putX x k page).2)) else Q (-1) 1 σ) : lru_Cache_Put (some p) k page σ Q := by
  unfold lru_Cache_Put
  refine lru_ok_spec hx ?_
  have e : x.pages.isSome = true := by rw [ok.made]; rfl
  rw [e, Bool.not_true, br_false]
  refine isItem_spec ?_
  by_cases hk : isItem k
  · rw [if_pos hk] at H
    unfold isItem at hk
    rw [decide_eq_true hk, Bool.not_true, br_false, nilW_some]
    refine ⟨x, hx, clone_spec hB ⟨_, ok.made, ?_⟩⟩
    have := ok.len
    refine lru_touch_spec (sset_same _ _ _) (by simp only; omega) ?_
    rw [sset_sset]
    refine lru_fit_spec (sset_same _ _ _) (ok.add _ hk) h0 ?_
    rw [sset_sset]
    exact H
  · rw [if_neg hk] at H
    unfold isItem at hk
    rw [decide_eq_false hk, Bool.not_false, br_true]
    exact H

theorem lru_pin_spec {Q : Int → St Obj → Prop} {page : List Int} (hx : σ p = some (.lru_Cache x)) (ok : CacheOk x) (hB : page.length ≤ 4294967296)
    (H : if isItem k then Q 0 (sset σ p (.lru_Cache (addX x k ⟨page, true⟩))) else Q 1 σ) : lru_Cache_Pin (some p) k page σ Q := by
  unfold lru_Cache_Pin
  refine lru_ok_spec hx ?_
  have e : x.pages.isSome = true := by rw [ok.made]; rfl
  rw [e, Bool.not_true, br_false]
  refine isItem_spec ?_
  by_cases hk : isItem k
  · rw [if_pos hk] at H
    unfold isItem at hk
    rw [decide_eq_true hk, Bool.not_true, br_false, nilW_some]
    refine ⟨x, hx, clone_spec hB ⟨_, ok.made, ?_⟩⟩
    have := ok.len
    refine lru_touch_spec (sset_same _ _ _) (by simp only; omega) ?_
    rw [sset_sset]
    exact H
  · rw [if_neg hk] at H
    unfold isItem at hk
    rw [decide_eq_false hk, Bool.not_false, br_true]
    exact H

theorem lru_get_spec {Q : List Int → Bool → St Obj → Prop} (hx : σ p = some (.lru_Cache x)) (ok : CacheOk x) (hB : (heldOf x k).page.length ≤ 4294967296)
    (H : if k ∈ x.order then Q (heldOf x k).page true (sset σ p (.lru_Cache (touchX x k))) else Q [] false σ) : lru_Cache_Get (some p) k σ Q := by
  unfold lru_Cache_Get
  refine lru_has_spec hx ok ?_
  have := ok.len
  by_cases hk : k ∈ x.order
  · rw [if_pos hk] at H
    rw [decide_eq_true hk, Bool.not_true, br_false]
    refine lru_touch_spec hx (by omega) ?_
    rw [nilW_some]
    exact ⟨_, sset_same _ _ _, clone_spec hB H⟩
  · rw [if_neg hk] at H
    rw [decide_eq_false hk, Bool.not_false, br_true]
    exact H

def unpinX (x : lru_Cache) (k : Int) : Int × lru_Cache := fitX (addX x k ⟨(heldOf x k).page, false⟩)

theorem lru_unpin_spec {Q : Int → Bool → St Obj → Prop} (hx : σ p = some (.lru_Cache x)) (ok : CacheOk x) (h0 : 0 ≤ x.room)
    (H : if k ∈ x.order ∧ (heldOf x k).pinned = true then Q (unpinX x k).1 true (sset σ p (.lru_Cache (unpinX x k).2)) else Q (-1) false σ) : lru_Cache_Unpin (some p) k σ Q := by
  unfold lru_Cache_Unpin lru_Cache_Unpin_K1
  refine lru_has_spec hx ok ?_
  have := ok.len
  by_cases hk : k ∈ x.order
  · rw [decide_eq_true hk, Bool.not_true, br_false, nilW_some]
    refine ⟨x, hx, ?_⟩
    show br (!(heldOf x k).pinned) _ _
    cases hp : (heldOf x k).pinned with
    | false =>
      rw [if_neg (by simp [hp])] at H
      rw [Bool.not_false, br_true]; exact H
    | true =>
      rw [if_pos ⟨hk, hp⟩] at H
      rw [Bool.not_true, br_false, nilW_some]
      refine ⟨x, hx, ⟨_, ok.made, ?_⟩⟩
      refine lru_touch_spec (sset_same _ _ _) (by simp only; omega) ?_
      rw [sset_sset]
      refine lru_fit_spec (sset_same _ _ _) (ok.add _ (ok.rng k hk)) h0 ?_
      rw [sset_sset]
      exact H
  · rw [if_neg (fun h => hk h.1)] at H
    rw [decide_eq_false hk, Bool.not_false, br_true, br_true]
    exact H

theorem lru_order_spec {Q : List Int → St Obj → Prop} (hx : σ p = some (.lru_Cache x)) (ok : CacheOk x) (H : Q x.order.reverse σ) : lru_Cache_Order (some p) σ Q := by
  unfold lru_Cache_Order
  refine lru_ok_spec hx ?_
  have e : x.pages.isSome = true := by rw [ok.made]; rfl
  have := ok.len
  rw [e, Bool.not_true, br_false, nilW_some]
  exact ⟨x, hx, ⟨by unfold Bnd; omega, reverse_spec (by omega) H⟩⟩

theorem lru_len_spec {Q : Int → St Obj → Prop} (hx : σ p = some (.lru_Cache x)) (ok : CacheOk x) (H : Q (x.order.length : Int) σ) : lru_Cache_Len (some p) σ Q := by
  unfold lru_Cache_Len
  refine lru_order_spec hx ok ?_
  rw [List.length_reverse]; exact H

theorem lru_room_spec {Q : Int → St Obj → Prop} (hx : σ p = some (.lru_Cache x)) (ok : CacheOk x) (H : Q x.room σ) : lru_Cache_Room (some p) σ Q := by
  unfold lru_Cache_Room
  refine lru_ok_spec hx ?_
  have e : x.pages.isSome = true := by rw [ok.made]; rfl
  rw [e, Bool.not_true, br_false, nilW_some]
  exact ⟨x, hx, H⟩

theorem delP_pure {Z : Type} {φ : Int → Z → (Bool → Z → Prop) → Prop} {f : Int → Bool} {z : Z} (hφ : ∀ x {K : Bool → Z → Prop}, K (f x) z → φ x z K) {Q : List Int → Z → Prop} :
    ∀ (l acc : List Int), Q (acc ++ l.filter (fun x => !f x)) z → delP φ l acc z Q := by
  intro l
  induction l with
  | nil => intro acc H; simpa [delP] using H
  | cons x l ih =>
    intro acc H
    refine hφ x (ih _ ?_)
    cases h : f x with
    | true => simpa [h] using H
    | false => simpa [h] using H

def pinnedX (x : lru_Cache) : List Int := (x.order.reverse.filter fun k => (heldOf x k).pinned).mergeSort fun a b => decide (a ≤ b)

theorem lru_pinned_spec {Q : List Int → St Obj → Prop} (hx : σ p = some (.lru_Cache x)) (ok : CacheOk x) (H : Q (pinnedX x) σ) : lru_Cache_Pinned (some p) σ Q := by
  unfold lru_Cache_Pinned
  refine lru_order_spec hx ok ?_
  have := ok.len
  refine ⟨by simp only [Bnd, List.length_reverse]; omega, delP_pure (f := fun k => !(heldOf x k).pinned) (fun k K h => ?_) _ _ ?_⟩
  · unfold lru_Cache_Pinned_1
    rw [nilW_some]
    exact ⟨x, hx, h⟩
  · have h2 := List.length_filter_le (fun k => (heldOf x k).pinned) x.order.reverse
    rw [List.length_reverse] at h2
    have e : x.order.reverse.filter (fun k => !(!(heldOf x k).pinned)) = x.order.reverse.filter fun k => (heldOf x k).pinned := by simp
    rw [List.nil_append, e]
    exact ⟨by unfold Bnd; omega, H⟩

theorem lru_new_spec {Q : Option Addr → Int → St Obj → Prop} {room : Int} (h : 1 ≤ room ∧ room ≤ 1024) (H : ∀ p, σ p = none → Q (some p) 0 (sset σ p (.lru_Cache ⟨room, some [], []⟩))) : lru_New room σ Q := by
  unfold lru_New lru_New_K1
  rw [decide_eq_false (by omega), br_false, decide_eq_false (by omega), br_false]
  exact H
theorem lru_new_bad {Q : Option Addr → Int → St Obj → Prop} {room : Int} (h : ¬ (1 ≤ room ∧ room ≤ 1024)) (H : Q none 1 σ) : lru_New room σ Q := by
  unfold lru_New lru_New_K1
  rw [br_iff]
  constructor
  · intro _; rw [br_true]; exact H
  · intro h1
    have h1 : ¬ room < 1 := by simpa using h1
    rw [decide_eq_true (by omega), br_true]; exact H

theorem new_ok (room : Int) : CacheOk ⟨room, some [], []⟩ := ⟨rfl, by simp [pagesOf], by simp [pagesOf], by simp, by simp⟩

theorem alive_spec {Q : Bool → St Obj → Prop} (H : ∀ σ', Q true σ') : carlinglaw15_alive σ Q := by
  unfold carlinglaw15_alive carlinglaw15_alive_K1
  refine lru_new_spec (by omega) fun p hp => ?_
  rw [Option.isNone_some, br_false, bne_self_eq_false, br_false]
  have o0 := new_ok 1
  refine lru_put_spec (sset_same _ _ _) o0 (by decide) (by decide) ?_
  rw [if_pos (by decide), sset_sset]
  have o1 : CacheOk (putX ⟨1, some [], []⟩ 1 [5]).2 := (o0.add _ (by decide)).fit
  refine lru_put_spec (sset_same _ _ _) o1 (by decide) (by decide) ?_
  rw [if_pos (by decide), sset_sset]
  have o2 : CacheOk (putX (putX ⟨1, some [], []⟩ 1 [5]).2 2 []).2 := (o1.add _ (by decide)).fit
  refine lru_pin_spec (sset_same _ _ _) o2 (by decide) ?_
  rw [if_pos (by decide), sset_sset]
  have o3 : CacheOk (addX (putX (putX ⟨1, some [], []⟩ 1 [5]).2 2 []).2 3 ⟨[], true⟩) := o2.add _ (by decide)
  refine lru_order_spec (sset_same _ _ _) o3 ?_
  have e1 : (putX ⟨1, some [], []⟩ 1 [5]).1 = -1 := by decide
  have e2 : (putX (putX ⟨1, some [], []⟩ 1 [5]).2 2 []).1 = 1 := by decide
  have e3 : (addX (putX (putX ⟨1, some [], []⟩ 1 [5]).2 2 []).2 3 ⟨[], true⟩).order = [2, 3] := by decide
  rw [e1, e2, e3]
  refine ⟨by decide, 3, rfl, ?_⟩
  show br true _ _
  rw [br_true]
  refine ⟨by decide, 2, rfl, ?_⟩
  show br true _ _
  rw [br_true]
  refine lru_has_spec (sset_same _ _ _) o3 ?_
  rw [e3]
  exact H _

end Go.Pt
