import Derived.Test.YtkbmoanoaakcpaaSp1
import Derived.Test.YtkbmoanoaakcpaaHb2
set_option linter.unusedVariables false
namespace Go.Tx
open Go Go.Wc

/-! ### Layer 15: the cache -/

abbrev byts (L : List Int) : List Value := L.map (Value.int .u8)

/-- What is held for an item: the page's slice, and whether it is pinned. -/
def heldV (p : Sl × Bool) : Value := .agg [.slice p.1.a p.1.len p.1.cap, .bool p.2].toArray

/-- The cache's own block. -/
def cacheBlk (T : Nat) (room : Int) (mb : Nat) (o : Sl) : Obj := .cells [.int .i64 room, .map (some mb), .slice o.a o.len o.cap].toArray T (0, 0)

def pgR (h : Hp) (F : List Nat) (a : Int × (Sl × Bool)) (b : Int × (List Int × Bool)) : Prop :=
  a.1 = b.1 ∧ a.2.2 = b.2.2 ∧ SlV h a.2.1 1 (byts b.2.1) ∧ b.2.1.length < 2 ^ 45 ∧ ∀ x, a.2.1.a = some x → x.block ∈ F

/-- The document's cache: pages by items, and the items by their use, the one that was used last the last. -/
structure Lru where
  room : Int
  A : List (Int × (List Int × Bool))
  ord : List Int

structure Lru.Ok (s : Lru) : Prop where
  ok : 1 ≤ s.room ∧ s.room ≤ 1024
  nodup : s.ord.Nodup
  keys : (s.A.map (·.1)).Nodup
  same : ∀ k, k ∈ s.ord ↔ k ∈ s.A.map (·.1)
  rng : ∀ k ∈ s.ord, 0 ≤ k ∧ k < 4096

structure LruR (ρ : Ids) (h : Hp) (cb mb : Nat) (s : Lru) (o : Sl) (FO FP : List Nat) : Prop where
  blk : h[cb]? = some (cacheBlk (ρ.T 2) s.room mb o)
  map : ∃ M, MapR heldV h mb M ∧ All2 (pgR h FP) M s.A
  own : Own h o (ρ.T 0) 1 (ints s.ord) FO
  ne : cb ≠ mb ∧ cb ∉ FO ∧ mb ∉ FO
  lt : ∀ b ∈ FP, b < h.size
  dis : ∀ b ∈ FP, b ∉ cb :: mb :: FO

theorem cache_room {T : Nat} {room : Int} {mb cb : Nat} {o : Sl} {h : Hp} (hb : h[cb]? = some (cacheBlk T room mb o)) : hcell h ⟨cb, 0, none⟩ = some (.int .i64 room) := by
  rw [hcell_of hb]; rfl
theorem cache_map {T : Nat} {room : Int} {mb cb : Nat} {o : Sl} {h : Hp} (hb : h[cb]? = some (cacheBlk T room mb o)) : hcell h ⟨cb, 1, none⟩ = some (.map (some mb)) := by
  rw [hcell_of hb]; rfl
theorem cache_ord {T : Nat} {room : Int} {mb cb : Nat} {o : Sl} {h : Hp} (hb : h[cb]? = some (cacheBlk T room mb o)) : hcell h ⟨cb, 2, none⟩ = some (.slice o.a o.len o.cap) := by
  rw [hcell_of hb]; rfl
theorem cache_st {T : Nat} {room : Int} {mb cb : Nat} {o o' : Sl} {h : Hp} {K : Hp → Prop} (hb : h[cb]? = some (cacheBlk T room mb o))
    (k : ∀ h', h'[cb]? = some (cacheBlk T room mb o') → Keep [cb] h h' → h'.size = h.size → K h') : st h ⟨cb, 2, none⟩ (.slice o'.a o'.len o'.cap) K :=
  st_mid (pre := [.int .i64 room, .map (some mb)]) (post := []) (u := .slice o.a o.len o.cap) hb rfl (.inr (Nat.zero_le _)) k

theorem lru_Cache_ok_spec {ρ : Ids} {h : Hp} {cb mb : Nat} {room : Int} {o : Sl} {T : Nat} {Q : Bool → Hp → Prop} (hb : h[cb]? = some (cacheBlk T room mb o)) (k : Q true h) :
    lru_Cache_ok ρ (some ⟨cb, 0, none⟩) h Q := by
  unfold lru_Cache_ok
  simp only [Option.isNone_some, Bool.not_false, br_true, nilW_some, add_mk, Nat.zero_add]
  rw [ldM_of (cache_map hb)]
  simpa using k

theorem lru_isItem_spec {ρ : Ids} {n : Int} {h : Hp} {Q : Bool → Hp → Prop} (k : Q (decide (0 ≤ n) && decide (n < 4096)) h) : lru_isItem ρ n h Q := by
  unfold lru_isItem
  rw [br_iff]
  constructor
  · intro e; have e : 0 ≤ n := by simpa using e
    simpa [e] using k
  · intro e; have e : ¬ 0 ≤ n := by simpa using e
    simpa [e] using k

/-- An item is the last. -/
def touch (L : List Int) (k : Int) : List Int := L.erase k ++ [k]

theorem fiI_erase {L : List Int} {k : Int} : (0 ≤ fiI (k == ·) L → L.take (fiI (k == ·) L).toNat ++ L.drop ((fiI (k == ·) L) + 1).toNat = L.erase k ∧ fiI (k == ·) L + 1 ≤ L.length ∧ k ∈ L) ∧
    (¬ 0 ≤ fiI (k == ·) L → L.erase k = L ∧ k ∉ L) := by
  unfold fiI
  cases hf : L.findIdx? (k == ·) with
  | none =>
    refine ⟨fun h => by simp at h, fun _ => ?_⟩
    rw [List.findIdx?_eq_none_iff] at hf
    have : k ∉ L := fun hk => by have := hf k hk; simp at this
    exact ⟨List.erase_of_not_mem this, this⟩
  | some i =>
    refine ⟨fun _ => ?_, fun h => by simp at h⟩
    rw [List.findIdx?_eq_some_iff_getElem] at hf
    obtain ⟨hi, h1, h2⟩ := hf
    have hk : L[i] = k := by have : k = L[i] := by simpa using h1
                             exact this.symm
    refine ⟨?_, by simp; omega, hk ▸ List.getElem_mem hi⟩
    have e1 : ((i : Int)).toNat = i := rfl
    have e2 : ((i : Int) + 1).toNat = i + 1 := rfl
    simp only [e1, e2]
    rw [← List.eraseIdx_eq_take_drop_succ]
    rw [List.erase_eq_eraseIdx]
    have : L.idxOf? k = some i := by
      rw [List.idxOf?, List.findIdx?_eq_some_iff_getElem]
      exact ⟨hi, by simp [hk], fun j hj => by
        have := h2 j hj
        simp at this ⊢
        exact fun e => this e.symm⟩
    rw [this]

theorem erase_length_le (L : List Int) (k : Int) : (L.erase k).length ≤ L.length := List.length_erase_le

theorem lru_Cache_touch_K1_spec {ρ : Ids} {h : Hp} {cb mb : Nat} {room : Int} {o : Sl} {FO : List Nat} {L : List Int} {k : Int} {Q : Hp → Prop}
    (hb : h[cb]? = some (cacheBlk (ρ.T 2) room mb o)) (hO : Own h o (ρ.T 0) 1 (ints L) FO) (hl : L.length < 2 ^ 40) (hne : cb ∉ FO)
    (hk : ∀ h' o' FO', h'[cb]? = some (cacheBlk (ρ.T 2) room mb o') → Own h' o' (ρ.T 0) 1 (ints (L ++ [k])) FO' → Keep (cb :: FO) h h' → (∀ b ∈ FO', b ∈ FO ∨ h.size ≤ b) → cb ∉ FO' → Q h') :
    lru_Cache_touch_K1 ρ Q (some ⟨cb, 0, none⟩) k h := by
  have hlen : o.len = L.length := by have := hO.1; simp at this; omega
  unfold lru_Cache_touch_K1
  simp only [nilW_some, add_mk, Nat.zero_add, Nat.add_zero]
  rw [ldS_of (cache_ord hb)]
  unfold alW
  have k1 : Keep [] h (h.push (.cells [Value.int .i64 k].toArray (ρ.T 0) (0, 0))) := Keep.push _ _ _
  have hO1 := hO.keep k1 (fun b _ => by simp)
  have hx := (own_new (h := h) (T := ρ.T 0) (m := 1) (n := 1) (vs := [Value.int .i64 k]) (by simp)).slv
  refine apW_own hO1 hx (by simp [Value.oneCell']) rfl (by decide) (by simp [hlen]; omega) fun o' h2 FO' hO2 hl2 k2 hF2 _ => ?_
  have hcb := lt_of_get hb
  have hne' : cb ∉ FO' := fun hc => by
    rcases hF2 cb hc with hc | hc
    · exact hne hc
    · simp at hc; omega
  have hb2 := k2.get (k1.get hb (by simp)) hne
  refine cache_st (o' := o') hb2 fun h3 hb3 k3 s3 => ?_
  refine hk h3 o' FO' hb3 ?_ ?_ ?_ hne'
  · have := hO2.keep k3 (fun b hb => by simp; exact fun e => hne' (e ▸ hb))
    simpa [ints] using this
  · refine ((k1.mono (by simp)).trans k2 (fun b hb => .inl (by simp [hb]))).trans k3 fun b hb => .inl (by simp at hb; simp [hb])
  · intro b hb'
    rcases hF2 b hb' with hc | hc
    · exact .inl hc
    · right; simp at hc; omega

theorem lru_Cache_touch_spec {ρ : Ids} {h : Hp} {cb mb : Nat} {room : Int} {o : Sl} {FO : List Nat} {L : List Int} {k : Int} {Q : Hp → Prop}
    (hb : h[cb]? = some (cacheBlk (ρ.T 2) room mb o)) (hO : Own h o (ρ.T 0) 1 (ints L) FO) (hl : L.length < 2 ^ 40) (hne : cb ∉ FO)
    (hk : ∀ h' o' FO', h'[cb]? = some (cacheBlk (ρ.T 2) room mb o') → Own h' o' (ρ.T 0) 1 (ints (touch L k)) FO' → Keep (cb :: FO) h h' → (∀ b ∈ FO', b ∈ FO ∨ h.size ≤ b) → cb ∉ FO' → Q h') :
    lru_Cache_touch ρ (some ⟨cb, 0, none⟩) k h Q := by
  unfold lru_Cache_touch
  simp only [nilW_some, add_mk, Nat.zero_add, Nat.add_zero]
  rw [ldS_of (cache_ord hb)]
  refine slices_Index_int_int_spec hO.slv (by omega) ?_
  obtain ⟨e1, e2⟩ := fiI_erase (L := L) (k := k)
  rw [br_iff]
  constructor
  · intro hge
    have hge : 0 ≤ fiI (k == ·) L := by simpa using hge
    obtain ⟨e1, e3, _⟩ := e1 hge
    rw [ldS_of (cache_ord hb), wrap64 (by omega) (by omega)]
    refine slices_Delete_int_int_spec hO hl hge (by omega) (by omega) rfl fun o1 h1 hO1 k1 s1 => ?_
    rw [e1] at hO1
    have hb1 := k1.get hb hne
    refine cache_st (o' := o1) hb1 fun h2 hb2 k2 s2 => ?_
    have hO2 := hO1.keep k2 (fun b hb' => by simp; exact fun e => hne (e ▸ hb'))
    have := erase_length_le L k
    refine lru_Cache_touch_K1_spec hb2 hO2 (by omega) hne fun h3 o3 FO3 hb3 hO3 k3 hF3 hn3 => ?_
    refine hk h3 o3 FO3 hb3 hO3 ?_ (fun b hb' => (hF3 b hb').imp id (by omega)) hn3
    refine (((k1.mono (fun b hb' => .inl (by simp [hb']))).trans k2 (fun b hb' => .inl (by simp at hb'; simp [hb']))).trans k3 fun b hb' => .inl hb')
  · intro hlt
    have hlt : ¬ 0 ≤ fiI (k == ·) L := by simpa using hlt
    obtain ⟨e2, _⟩ := e2 hlt
    refine lru_Cache_touch_K1_spec hb hO hl hne fun h3 o3 FO3 hb3 hO3 k3 hF3 hn3 => ?_
    exact hk h3 o3 FO3 hb3 (by rw [touch, e2]; exact hO3) k3 hF3 hn3

end Go.Tx
