import Derived.Test.YtkbmoanoaakcpaaHoLruPlaysA
set_option linter.unusedSimpArgs false
set_option linter.unusedVariables false
namespace Go.Pt
open Go Go.Wc Go.Pu Go.Laws

variable {σ : St Obj} {p : Addr} {n k : Int} {x : lru_Cache} {last : List (Int × List Int)} {pins : List (Int × Bool)}

def pin (pins : List (Int × Bool)) (k : Int) : Bool := (Pu.look pins k).getD false
def lst (last : List (Int × List Int)) (k : Int) : List Int := (Pu.look last k).getD []

structure HX (n : Int) (x : lru_Cache) (last : List (Int × List Int)) (pins : List (Int × Bool)) : Prop where
  ok : CacheOk x
  pb : PB x
  rm : x.room = n
  la : ∀ k ∈ x.order, lst last k = (heldOf x k).page
  pi : ∀ k, pin pins k = (decide (k ∈ x.order) && (heldOf x k).pinned)

def loose (x : lru_Cache) : Nat := x.order.countP (lru_loose x)

theorem loose_def (x : lru_Cache) (k : Int) : lru_loose x k = !(heldOf x k).pinned := rfl

theorem count_cong {f g : Int → Bool} {l : List Int} (h : ∀ a ∈ l, f a = g a) : l.countP f = l.countP g := by
  induction l with
  | nil => rfl
  | cons a l ih =>
    rw [List.countP_cons, List.countP_cons, ih fun b hb => h b (by simp [hb]), h a (by simp)]

theorem count_erase {f : Int → Bool} {l : List Int} {k : Int} (hk : k ∈ l) : l.countP f = (l.erase k).countP f + (if f k then 1 else 0) := by
  have h := (List.perm_cons_erase hk).countP_eq f
  rw [h, List.countP_cons]

theorem mem_er (ok : CacheOk x) {j : Int} : j ∈ x.order.erase k ↔ j ≠ k ∧ j ∈ x.order := ok.nodup.mem_erase_iff

theorem loose_drop (ok : CacheOk x) (hk : k ∈ x.order) : loose x = loose (dropX x k) + (if lru_loose x k then 1 else 0) := by
  unfold loose
  rw [count_erase hk]
  congr 1
  apply count_cong
  intro j hj
  have := ((mem_er ok).1 hj).1
  rw [loose_def, loose_def, held_drop ok, if_neg this]
theorem loose_dropLe (ok : CacheOk x) (k : Int) : loose (dropX x k) ≤ loose x := by
  by_cases hk : k ∈ x.order
  · rw [loose_drop ok hk]; omega
  · unfold loose
    rw [show (dropX x k).order = x.order.erase k from rfl, List.erase_of_not_mem hk]
    refine Nat.le_of_eq (count_cong fun j hj => ?_)
    have : j ≠ k := fun e => hk (e ▸ hj)
    rw [loose_def, loose_def, held_drop ok, if_neg this]
theorem loose_add (ok : CacheOk x) (k : Int) (v : lru_held) : loose (addX x k v) ≤ loose x + (if v.pinned then 0 else 1) := by
  have h1 : loose (addX x k v) = (x.order.erase k).countP (lru_loose (addX x k v)) + (if v.pinned then 0 else 1) := by
    unfold loose
    rw [show (addX x k v).order = x.order.erase k ++ [k] from rfl, List.countP_append, List.countP_singleton, loose_def, held_add, if_pos rfl]
    cases v.pinned <;> rfl
  have h2 : (x.order.erase k).countP (lru_loose (addX x k v)) = (x.order.erase k).countP (lru_loose x) := by
    apply count_cong
    intro j hj
    have := ((mem_er ok).1 hj).1
    rw [loose_def, loose_def, held_add, if_neg this]
  have h3 : (x.order.erase k).countP (lru_loose x) ≤ loose x := by
    unfold loose
    by_cases hk : k ∈ x.order
    · rw [count_erase hk]; omega
    · rw [List.erase_of_not_mem hk]; exact Nat.le_refl _
  omega
theorem loose_touch (ok : CacheOk x) (hk : k ∈ x.order) : loose (touchX x k) = loose x := by
  unfold loose
  rw [show (touchX x k).order = x.order.erase k ++ [k] from rfl, List.countP_append, List.countP_singleton, count_erase hk]
  rfl
theorem loose_fit (ok : CacheOk x) (h : (loose x : Int) ≤ x.room + 1) (h0 : 0 ≤ x.room) : (loose (fitX x).2 : Int) ≤ x.room := by
  unfold fitX
  split
  · rename_i hc; exact hc
  · rename_i hc
    have hc : ¬ ((loose x : Int) ≤ x.room) := hc
    split
    · rename_i b hf
      have := loose_drop ok (List.mem_of_find?_eq_some hf)
      rw [List.find?_some hf, if_pos rfl] at this
      show (loose (dropX x b) : Int) ≤ x.room
      omega
    · rename_i hf
      rw [List.find?_eq_none] at hf
      have : loose x = 0 := List.countP_eq_zero.2 fun a ha => hf a ha
      omega

theorem HX.fit (h : HX n x last pins) : HX n (fitX x).2 last pins := by
  refine ⟨h.ok.fit, h.pb.fit h.ok, by rw [fit_room, h.rm], ?_, ?_⟩
  · unfold fitX
    split
    · exact h.la
    · split
      · rename_i b hf
        intro j hj
        have hj := (mem_er h.ok).1 hj
        rw [held_drop h.ok, if_neg hj.1]; exact h.la j hj.2
      · exact h.la
  · unfold fitX
    split
    · exact h.pi
    · split
      · rename_i b hf
        intro j
        have hl := List.find?_some hf
        rw [h.pi, held_drop h.ok]
        by_cases e : j = b
        · subst e
          rw [loose_def] at hl
          have : (heldOf x j).pinned = false := by simpa using hl
          rw [this, if_pos rfl]; simp
        · rw [if_neg e]
          have : decide (j ∈ x.order) = decide (j ∈ (dropX x b).order) := by
            have := mem_er (k := b) h.ok (j := j)
            rw [decide_eq_decide, show (dropX x b).order = x.order.erase b from rfl, this]
            simp [e]
          rw [this]
      · exact h.pi

theorem pin_upd (k : Int) (b : Bool) (j : Int) : pin (Pu.upd pins k b) j = if j = k then b else pin pins j := by
  unfold pin; rw [Pu.look_upd]; split <;> rfl
theorem lst_upd (k : Int) (b : List Int) (j : Int) : lst (Pu.upd last k b) j = if j = k then b else lst last j := by
  unfold lst; rw [Pu.look_upd]; split <;> rfl

theorem mem_add (ok : CacheOk x) {v : lru_held} {j : Int} : j ∈ (addX x k v).order ↔ j = k ∨ j ∈ x.order := by
  rw [show (addX x k v).order = x.order.erase k ++ [k] from rfl, List.mem_append, List.mem_singleton, mem_er ok]
  by_cases e : j = k <;> simp [e]

theorem HX.put (h : HX n x last pins) {page : List Int} (hB : page.length ≤ 4294967296) (hi : isItem k) : HX n (addX x k ⟨page, (heldOf x k).pinned⟩) (Pu.upd last k page) pins := by
  refine ⟨h.ok.add _ hi, h.pb.add hB, h.rm, ?_, ?_⟩
  · intro j hj
    rw [lst_upd, held_add]
    split
    · rfl
    · rename_i e
      exact h.la j (((mem_add h.ok).1 hj).resolve_left e)
  · intro j
    rw [h.pi, held_add]
    by_cases e : j = k
    · subst e
      rw [if_pos rfl]
      have : decide (j ∈ (addX x j ⟨page, (heldOf x j).pinned⟩).order) = true := decide_eq_true ((mem_add h.ok).2 (.inl rfl))
      rw [this]
      by_cases hj : j ∈ x.order
      · simp [hj]
      · have hs := h.ok.has j
        rw [decide_eq_false hj] at hs
        have : heldOf x j = ⟨[], false⟩ := by
          unfold heldOf
          cases hl : Pu.look (pagesOf x) j with
          | none => rfl
          | some v => rw [hl] at hs; cases hs
        rw [this]; simp
    · rw [if_neg e]
      have : decide (j ∈ (addX x k ⟨page, (heldOf x k).pinned⟩).order) = decide (j ∈ x.order) := by rw [decide_eq_decide, mem_add h.ok]; simp [e]
      rw [this]

theorem HX.pin (h : HX n x last pins) {page : List Int} (hB : page.length ≤ 4294967296) (hi : isItem k) : HX n (addX x k ⟨page, true⟩) (Pu.upd last k page) (Pu.upd pins k true) := by
  refine ⟨h.ok.add _ hi, h.pb.add hB, h.rm, ?_, ?_⟩
  · intro j hj
    rw [lst_upd, held_add]
    split
    · rfl
    · rename_i e
      exact h.la j (((mem_add h.ok).1 hj).resolve_left e)
  · intro j
    rw [pin_upd, held_add]
    by_cases e : j = k
    · subst e
      rw [if_pos rfl, if_pos rfl]
      have : decide (j ∈ (addX x j ⟨page, true⟩).order) = true := decide_eq_true ((mem_add h.ok).2 (.inl rfl))
      rw [this]; rfl
    · rw [if_neg e, if_neg e, h.pi]
      have : decide (j ∈ (addX x k ⟨page, true⟩).order) = decide (j ∈ x.order) := by rw [decide_eq_decide, mem_add h.ok]; simp [e]
      rw [this]

theorem HX.unpin (h : HX n x last pins) (hk : k ∈ x.order) : HX n (addX x k ⟨(heldOf x k).page, false⟩) last (Pu.upd pins k false) := by
  refine ⟨h.ok.add _ (h.ok.rng k hk), h.pb.add (v := ⟨(heldOf x k).page, false⟩) (h.pb k), h.rm, ?_, ?_⟩
  · intro j hj
    rw [held_add]
    split
    · rename_i e; subst e; exact h.la j hk
    · rename_i e
      exact h.la j (((mem_add h.ok).1 hj).resolve_left e)
  · intro j
    rw [pin_upd, held_add]
    by_cases e : j = k
    · subst e
      rw [if_pos rfl, if_pos rfl]; simp
    · rw [if_neg e, if_neg e, h.pi]
      have : decide (j ∈ (addX x k ⟨(heldOf x k).page, false⟩).order) = decide (j ∈ x.order) := by rw [decide_eq_decide, mem_add h.ok]; simp [e]
      rw [this]

theorem HX.unpinNo (h : HX n x last pins) (hk : ¬ (k ∈ x.order ∧ (heldOf x k).pinned = true)) : HX n x last (Pu.upd pins k false) := by
  refine ⟨h.ok, h.pb, h.rm, h.la, fun j => ?_⟩
  rw [pin_upd]
  by_cases e : j = k
  · subst e
    rw [if_pos rfl]
    by_cases hj : j ∈ x.order
    · have : (heldOf x j).pinned = false := by
        cases hp : (heldOf x j).pinned with
        | false => rfl
        | true => exact absurd ⟨hj, hp⟩ hk
      rw [this]; simp
    · simp [hj]
  · rw [if_neg e, h.pi]

theorem HX.drop (h : HX n x last pins) (k : Int) : HX n (dropX x k) last (Pu.upd pins k false) := by
  refine ⟨h.ok.drop k, h.pb.drop h.ok k, h.rm, ?_, ?_⟩
  · intro j hj
    have hj := (mem_er h.ok).1 hj
    rw [held_drop h.ok, if_neg hj.1]; exact h.la j hj.2
  · intro j
    rw [pin_upd, held_drop h.ok]
    by_cases e : j = k
    · subst e; rw [if_pos rfl, if_pos rfl]; simp
    · rw [if_neg e, if_neg e, h.pi]
      have : decide (j ∈ (dropX x k).order) = decide (j ∈ x.order) := by
        rw [decide_eq_decide, show (dropX x k).order = x.order.erase k from rfl, mem_er h.ok]; simp [e]
      rw [this]

theorem HX.touch (h : HX n x last pins) (hk : k ∈ x.order) : HX n (touchX x k) last pins := by
  have hm : ∀ j, j ∈ (touchX x k).order ↔ j ∈ x.order := by
    intro j
    rw [show (touchX x k).order = x.order.erase k ++ [k] from rfl, List.mem_append, List.mem_singleton, mem_er h.ok]
    by_cases e : j = k
    · subst e; simp [hk]
    · simp [e]
  refine ⟨h.ok.touch hk, fun j => h.pb j, h.rm, fun j hj => h.la j ((hm j).1 hj), fun j => ?_⟩
  rw [h.pi]
  have : decide (j ∈ (touchX x k).order) = decide (j ∈ x.order) := by rw [decide_eq_decide, hm]
  rw [this]; rfl

structure Hold (n : Int) (p : Addr) (σ : St Obj) (x : lru_Cache) (last : List (Int × List Int)) (pins : List (Int × Bool)) : Prop where
  hp : σ p = some (.lru_Cache x)
  hx : HX n x last pins
  n0 : 1 ≤ n ∧ n ≤ 8
  cnt : (loose x : Int) ≤ n

theorem Hold.go (B : Hold n p σ x last pins) {y : lru_Cache} {last' : List (Int × List Int)} {pins' : List (Int × Bool)} (h : HX n y last' pins') (hc : (loose y : Int) ≤ n) : Hold n p (sset σ p (.lru_Cache y)) y last' pins' :=
  ⟨sset_same _ _ _, h, B.n0, hc⟩

theorem pinned_mem {k : Int} : k ∈ pinnedX x ↔ k ∈ x.order ∧ (heldOf x k).pinned = true := by
  unfold pinnedX
  rw [List.mem_mergeSort, List.mem_filter, List.mem_reverse]
theorem pinned_len : (x.order.length : Int) - ((pinnedX x).length : Int) = (loose x : Int) := by
  unfold pinnedX loose
  rw [List.length_mergeSort, ← List.countP_eq_length_filter, List.countP_reverse]
  have := List.length_eq_countP_add_countP (fun k => (heldOf x k).pinned) (l := x.order)
  have e : x.order.countP (fun k => decide (¬ (heldOf x k).pinned = true)) = x.order.countP (lru_loose x) := by
    apply count_cong
    intro a _
    rw [loose_def]
    cases (heldOf x a).pinned <;> rfl
  rw [e] at this
  omega
theorem pinned_sorted (ok : CacheOk x) : (pinnedX x).Pairwise (· < ·) := by
  have h1 : (pinnedX x).Pairwise (fun a b => a ≤ b) := by
    have := List.pairwise_mergeSort (le := fun a b : Int => decide (a ≤ b)) (fun a b c h1 h2 => by simp only [decide_eq_true_eq] at *; omega) (fun a b => by simp only [Bool.or_eq_true, decide_eq_true_eq]; omega) (x.order.reverse.filter fun k => (heldOf x k).pinned)
    exact this.imp fun h => by simpa using h
  have h2 : (pinnedX x).Nodup := by
    unfold pinnedX
    have : (x.order.reverse.filter fun k => (heldOf x k).pinned).Nodup := by
      refine List.Nodup.sublist List.filter_sublist ?_
      unfold List.Nodup; rw [List.pairwise_reverse]; exact List.Pairwise.imp (fun h => Ne.symm h) ok.nodup
    exact (List.mergeSort_perm _ _).symm.nodup this
  exact (List.Pairwise.and h1 h2).imp fun ⟨h, h'⟩ => by omega

theorem holds_L4 {S2 : Int → Option Addr → Option (List (Int × List Int)) → Option (List (Int × Bool)) → List carlinglaw15_Step → Int → Int → St Obj → Prop} {Q : Bool → St Obj → Prop} {l : List carlinglaw15_Step} {m i : Int}
    (B : Hold n p σ x last pins) (H : S2 n (some p) (some last) (some pins) l m (IntKind.wrap .i64 (i + 1)) σ) :
    carlinglaw15_LruHolds_L4 S2 Q n (some p) (some last) (some pins) (pinnedX x) l m i (pinnedX x) ((pinnedX x).length : Int) 0 σ := by
  have hlen : (pinnedX x).length ≤ 4096 := by have := B.hx.ok.len; have := @pinned_len x; omega
  have key : ∀ (rest acc : List Int), pinnedX x = acc ++ rest → carlinglaw15_LruHolds_L4 S2 Q n (some p) (some last) (some pins) (pinnedX x) l m i (pinnedX x) ((pinnedX x).length : Int) (acc.length : Int) σ := by
    intro rest
    induction rest with
    | nil =>
      intro acc e
      have e' : pinnedX x = acc := by simpa using e
      refine carlinglaw15_LruHolds_L4_in _ _ _ _ _ _ _ _ _ _ _ _ _ _ ?_
      unfold carlinglaw15_LruHolds_B4
      rw [decide_eq_false (by rw [e']; omega), br_false]
      exact H
    | cons k rest ih =>
      intro acc e
      have hll : (pinnedX x).length = acc.length + (rest.length + 1) := by rw [e]; simp
      have hk : k ∈ pinnedX x := by rw [e]; simp
      have hk := pinned_mem.1 hk
      have next : carlinglaw15_LruHolds_K5 S2 (carlinglaw15_LruHolds_L4 S2 Q) Q n (some p) (some last) (some pins) (pinnedX x) l m i (pinnedX x) ((pinnedX x).length : Int) (acc.length : Int) false σ := by
        unfold carlinglaw15_LruHolds_K5
        rw [br_false, wrap64 (by omega) (by omega)]
        have := ih (acc ++ [k]) (by rw [e]; simp)
        simpa using this
      refine carlinglaw15_LruHolds_L4_in _ _ _ _ _ _ _ _ _ _ _ _ _ _ ?_
      unfold carlinglaw15_LruHolds_B4
      rw [decide_eq_true (by omega), br_true]
      refine ixP_nat (x := k) (by rw [e]; exact mid_get) ?_
      have hpin : pin pins k = true := by rw [B.hx.pi, decide_eq_true hk.1, hk.2]; rfl
      show br (!pin pins k) _ _
      rw [hpin, Bool.not_true, br_false]
      refine lru_has_spec B.hp B.hx.ok ?_
      rw [decide_eq_true hk.1, Bool.not_true, br_false, br_iff]
      constructor
      · intro h
        have h : 0 < acc.length := by simp at h; omega
        obtain ⟨acc', y, rfl⟩ : ∃ acc' y, acc = acc' ++ [y] := by
          rcases List.eq_nil_or_concat acc with h2 | ⟨a, b, h2⟩
          · subst h2; simp at h
          · exact ⟨a, b, by simpa using h2⟩
        have hs := pinned_sorted B.hx.ok
        rw [e, List.append_assoc, List.singleton_append] at hs
        have hlt : y < k := by
          have := (List.pairwise_append.1 hs).2.1
          rw [List.pairwise_cons] at this
          exact this.1 k (by simp)
        rw [wrap64 (by simp only [List.length_append, List.length_cons, List.length_nil]; omega) (by simp only [List.length_append, List.length_cons, List.length_nil] at hll ⊢; omega)]
        have e1 : (((acc' ++ [y]).length : Int) - 1) = (acc'.length : Int) := by simp
        rw [e1]
        refine ixP_nat (x := y) (by rw [e, List.append_assoc, List.singleton_append]; exact mid_get) ?_
        rw [decide_eq_false (by omega)]
        exact next
      · intro _
        exact next
  exact key _ [] rfl

theorem holds_K6 {S2 : Int → Option Addr → Option (List (Int × List Int)) → Option (List (Int × Bool)) → List carlinglaw15_Step → Int → Int → St Obj → Prop} {Q : Bool → St Obj → Prop} {l : List carlinglaw15_Step} {m i : Int}
    (B : Hold n p σ x last pins) (H : S2 n (some p) (some last) (some pins) l m (IntKind.wrap .i64 (i + 1)) σ) :
    carlinglaw15_LruHolds_K6 S2 Q n (some p) (some last) (some pins) l m i σ := by
  unfold carlinglaw15_LruHolds_K6
  refine lru_pinned_spec B.hp B.hx.ok (lru_len_spec B.hp B.hx.ok ?_)
  have h1 := @pinned_len x
  have h2 := B.cnt
  have h3 := B.n0
  rw [wrap64 (by omega) (by omega), h1, decide_eq_false (by omega), br_false]
  exact holds_L4 B H

theorem holds_L2 {Q : Bool → St Obj → Prop} (hQ : ∀ σ, Q true σ) {l : List carlinglaw15_Step} (hl : l.length ≤ 200) (hp : ∀ s ∈ l, s.Page.length ≤ 50) :
    ∀ (rest acc : List carlinglaw15_Step) (σ : St Obj) (x : lru_Cache) (last : List (Int × List Int)) (pins : List (Int × Bool)), l = acc ++ rest → Hold n p σ x last pins →
      carlinglaw15_LruHolds_L2 Q n (some p) (some last) (some pins) l (l.length : Int) (acc.length : Int) σ := by
  intro rest
  induction rest with
  | nil =>
    intro acc σ x last pins e B
    have e' : l = acc := by simpa using e
    refine carlinglaw15_LruHolds_L2_in _ _ _ _ _ _ _ _ _ ?_
    unfold carlinglaw15_LruHolds_B2
    rw [decide_eq_false (by rw [e']; omega), br_false]
    exact alive_spec hQ
  | cons s rest ih =>
    intro acc σ x last pins e B
    have hll : l.length = acc.length + (rest.length + 1) := by rw [e]; simp
    have hsp := hp s (by rw [e]; simp)
    have go : ∀ {σ' y last' pins'}, Hold n p σ' y last' pins' → carlinglaw15_LruHolds_K6 (carlinglaw15_LruHolds_L2 Q) Q n (some p) (some last') (some pins') l (l.length : Int) (acc.length : Int) σ' := by
      intro σ' y last' pins' B'
      refine holds_K6 B' ?_
      rw [wrap64 (by omega) (by omega)]
      have := ih (acc ++ [s]) σ' y last' pins' (by rw [e]; simp) B'
      simpa using this
    refine carlinglaw15_LruHolds_L2_in _ _ _ _ _ _ _ _ _ ?_
    unfold carlinglaw15_LruHolds_B2
    rw [decide_eq_true (by omega), br_true]
    refine ixP_nat (x := s) (by rw [e]; exact mid_get) ?_
    have hk : 0 ≤ (((BitVec.ofInt (IntKind.bits .i64) s.Item &&& BitVec.ofInt (IntKind.bits .i64) (15 : Int)).toNat : Nat) : Int) ∧ (((BitVec.ofInt (IntKind.bits .i64) s.Item &&& BitVec.ofInt (IntKind.bits .i64) (15 : Int)).toNat : Nat) : Int) < 16 := by
      rw [BitVec.toNat_and]
      have : (BitVec.ofInt (IntKind.bits .i64) (15 : Int)).toNat = 15 := by decide
      rw [this]
      have := @Nat.and_le_right (BitVec.ofInt (IntKind.bits .i64) s.Item).toNat 15
      omega
    generalize (((BitVec.ofInt (IntKind.bits .i64) s.Item &&& BitVec.ofInt (IntKind.bits .i64) (15 : Int)).toNat : Nat) : Int) = k at hk ⊢
    rw [wrap64 (n := k) (by omega) (by omega)]
    have hi : isItem k := ⟨by omega, by omega⟩
    have hn := B.n0
    have hrm := B.hx.rm
    rw [br_iff]
    refine ⟨fun _ => ?_, fun _ => ?_⟩
    · refine lru_get_spec B.hp B.hx.ok (B.hx.pb k) ?_
      by_cases hk2 : k ∈ x.order
      · rw [if_pos hk2, br_true]
        have hla : (Pu.look last k).getD [] = (heldOf x k).page := B.hx.la k hk2
        unfold lkP
        show carlingref02_Same (heldOf x k).page ((Pu.look last k).getD []) _
        rw [hla]
        refine same_spec (B.hx.pb k) ?_
        rw [decide_eq_true rfl, Bool.not_true, br_false]
        have B' := B.go (B.hx.touch hk2) (by rw [loose_touch B.hx.ok hk2]; exact B.cnt)
        show br (pin pins k) _ _
        unfold carlinglaw15_LruHolds_K3
        simp only [Bool.not_true, br_false]
        cases pin pins k with
        | true => rw [br_true]; exact go B'
        | false => rw [br_false]; exact go B'
      · rw [if_neg hk2, br_false]
        show br (pin pins k) _ _
        have : pin pins k = false := by rw [B.hx.pi, decide_eq_false hk2]; rfl
        unfold carlinglaw15_LruHolds_K3
        rw [this, br_false, br_false]
        exact go B
    rw [br_iff]
    refine ⟨fun _ => ?_, fun _ => ?_⟩
    · refine lru_pin_spec B.hp B.hx.ok (by omega) ?_
      rw [if_pos hi]
      refine ⟨last, rfl, pins, rfl, ?_⟩
      have := loose_add B.hx.ok k ⟨s.Page, true⟩
      exact go (B.go (B.hx.pin (by omega) hi) (by have := B.cnt; simp at *; omega))
    rw [br_iff]
    refine ⟨fun _ => ?_, fun _ => ?_⟩
    · refine lru_unpin_spec B.hp B.hx.ok (by omega) ?_
      by_cases hc : k ∈ x.order ∧ (heldOf x k).pinned = true
      · rw [if_pos hc]
        show br (!(true == pin pins k)) _ _
        rw [B.hx.pi, decide_eq_true hc.1, hc.2]
        show br false _ _
        rw [br_false]
        refine ⟨pins, rfl, ?_⟩
        have h2 := B.hx.unpin hc.1
        have hl2 := loose_add B.hx.ok k ⟨(heldOf x k).page, false⟩
        refine go (B.go (y := (unpinX x k).2) h2.fit ?_)
        have := loose_fit (x := addX x k ⟨(heldOf x k).page, false⟩) h2.ok (by rw [h2.rm]; have := B.cnt; simp at hl2; omega) (by rw [h2.rm]; omega)
        rw [h2.rm] at this
        exact this
      · rw [if_neg hc]
        show br (!(false == pin pins k)) _ _
        have : pin pins k = false := by
          rw [B.hx.pi]
          by_cases hk2 : k ∈ x.order
          · cases hp2 : (heldOf x k).pinned with
            | false => simp
            | true => exact absurd ⟨hk2, hp2⟩ hc
          · simp [hk2]
        rw [this]
        show br false _ _
        rw [br_false]
        exact ⟨pins, rfl, go ⟨B.hp, B.hx.unpinNo hc, B.n0, B.cnt⟩⟩
    rw [br_iff]
    refine ⟨fun _ => ?_, fun _ => ?_⟩
    · refine lru_drop_spec B.hp B.hx.ok ?_
      by_cases hk2 : k ∈ x.order
      · rw [if_pos hk2]
        exact ⟨pins, rfl, go (B.go (B.hx.drop k) (by have := loose_dropLe B.hx.ok k; have := B.cnt; omega))⟩
      · rw [if_neg hk2]
        exact ⟨pins, rfl, go ⟨B.hp, B.hx.unpinNo (fun h => hk2 h.1), B.n0, B.cnt⟩⟩
    · refine lru_put_spec B.hp B.hx.ok (by omega) (by omega) ?_
      rw [if_pos hi]
      refine ⟨last, rfl, ?_⟩
      have h2 := B.hx.put (page := s.Page) (by omega) hi
      have hl2 := loose_add B.hx.ok k ⟨s.Page, (heldOf x k).pinned⟩
      refine go (B.go (y := (putX x k s.Page).2) h2.fit ?_)
      have := loose_fit (x := addX x k ⟨s.Page, (heldOf x k).pinned⟩) h2.ok (by rw [h2.rm]; have := B.cnt; split at hl2 <;> omega) (by rw [h2.rm]; omega)
      rw [h2.rm] at this
      exact this

theorem carlinglaw15_LruHolds_ok (room : Int) (w : (Lit.int .u8 room).wf = true) (l : List carlinglaw15_Step) (n1 : l.length ≤ maxLen ∧ ∀ x ∈ l, N_carlinglaw15_Step x) : carlinglaw15_LruHolds room l st0 fun b _ => b = true := by
  have hr : 0 ≤ room ∧ room < 256 := by
    have e1 : IntKind.min .u8 = 0 := by decide
    have e2 : IntKind.max .u8 = 255 := by decide
    simp only [Lit.wf, e1, e2, Bool.and_eq_true, decide_eq_true_eq] at w
    omega
  have hm0 : 0 ≤ room.tmod 8 := Int.tmod_nonneg _ hr.1
  have hm1 : room.tmod 8 < 8 := Int.tmod_lt_of_pos _ (by decide)
  unfold carlinglaw15_LruHolds carlinglaw15_LruHolds_K1
  rw [wrap64 (n := room) (by omega) (by omega), wrap64 (by omega) (by omega)]
  refine lru_new_spec (by omega) fun p hp => ?_
  rw [Option.isNone_some, br_false, bne_self_eq_false, br_false]
  refine short_spec fun r hrl hpg => ?_
  refine holds_L2 (fun _ => rfl) hrl hpg r [] _ ⟨room.tmod 8 + 1, some [], []⟩ [] [] rfl ⟨sset_same _ _ _, ⟨new_ok _, fun k => by simp [heldOf, pagesOf, Pu.look], rfl, by simp, fun k => by simp [pin, Pu.look]⟩, by omega, by simp [loose]; omega⟩

end Go.Pt
