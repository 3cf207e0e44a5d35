import Derived.Test.YtkbmoanoaakcpaaSp4
set_option linter.unusedVariables false
namespace Go.Tx
open Go Go.Wc

theorem Lru.Ok.drop {s : Lru} (h : s.Ok) (k : Int) : (drop s k).Ok := by
  refine ⟨h.ok, h.nodup.erase _, nodup_del h.keys k, fun k2 => ?_, fun k2 hk => h.rng k2 (List.mem_of_mem_erase hk)⟩
  show k2 ∈ s.ord.erase k ↔ k2 ∈ (del s.A k).map (·.1)
  rw [del_sub, h.nodup.mem_erase_iff, h.keys.mem_erase_iff, h.same]

theorem Lru.Ok.fit {s : Lru} (h : s.Ok) : (fit s).2.Ok := by
  unfold Tx.fit
  split
  · exact h
  · split
    · exact h.drop _
    · exact h

def held (s : Lru) (k : Int) (v : List Int × Bool) : Lru := { s with A := upd s.A k v, ord := touch s.ord k }

theorem Lru.Ok.held {s : Lru} (h : s.Ok) {k : Int} (h0 : 0 ≤ k) (h1 : k < 4096) (v : List Int × Bool) : (held s k v).Ok := by
  have hm : ∀ k2, k2 ∈ touch s.ord k ↔ k2 ∈ s.ord ∨ k2 = k := fun k2 => by
    simp only [touch, List.mem_append, List.mem_singleton, h.nodup.mem_erase_iff]
    by_cases e : k2 = k <;> simp [e]
  refine ⟨h.ok, ?_, nodup_upd h.keys _ _, fun k2 => ?_, fun k2 hk => ?_⟩
  · show (touch s.ord k).Nodup
    rw [touch, List.nodup_append]
    exact ⟨h.nodup.erase _, by simp, fun a ha b hb e => by simp at hb; subst hb; subst e; exact h.nodup.not_mem_erase ha⟩
  · show k2 ∈ touch s.ord k ↔ k2 ∈ (upd s.A k v).map (·.1)
    rw [hm, keys_upd, h.same]
    split
    · rename_i hk
      constructor
      · rintro (h | rfl)
        · exact h
        · exact hk
      · exact .inl
    · simp
  · have hk : k2 ∈ touch s.ord k := hk
    rcases (hm k2).1 hk with hk | rfl
    · exact h.rng k2 hk
    · exact ⟨h0, h1⟩

def put (s : Lru) (k : Int) (bs : List Int) : Int × Lru := fit (held s k (bs, pinned s.A k))
def pin (s : Lru) (k : Int) (bs : List Int) : Lru := held s k (bs, true)

theorem Lru.Ok.put {s : Lru} (h : s.Ok) {k : Int} (h0 : 0 ≤ k) (h1 : k < 4096) (bs : List Int) : (put s k bs).2.Ok := (h.held h0 h1 _).fit

/-- A page is laid into the map, and its item is the last. -/
theorem held_core {ρ : Ids} {h h2 : Hp} {cb mb : Nat} {s : Lru} {o : Sl} {FO FP : List Nat} {k : Int} {page : Sl} {bs : List Int} {pin : Bool} {Q : Hp → Prop} (H : LruR ρ h cb mb s o FO FP) (hs : s.Ok)
    (hp : SlV h2 page 1 (byts bs)) (hbl : bs.length < 2 ^ 45) {F2 : List Nat} (hpa : ∀ a, page.a = some a → a.block ∈ F2) (hF2 : ∀ b ∈ F2, h.size ≤ b ∧ b < h2.size) (k2 : Keep [] h h2)
    (hk : ∀ h' o' FO' FP', LruR ρ h' cb mb (held s k (bs, pin)) o' FO' FP' → Keep (cb :: mb :: FO) h h' → (∀ b ∈ FO' ++ FP', b ∈ FO ++ FP ∨ h.size ≤ b) → (∀ b ∈ FO', b ∈ FO ∨ h.size ≤ b) → Q h') :
    muW (.int .i64) h2 (some mb) (.int .i64 k) (.agg [(.slice page.a page.len page.cap), (.bool pin)].toArray) fun h3 => lru_Cache_touch ρ (some ⟨cb, 0, none⟩) k h3 Q := by
  have H2 := H.fresh k2 (by simp)
  obtain ⟨M, m1, m2⟩ := H2.map
  obtain ⟨n1, n2, n3⟩ := H.ne
  have hlen := hs.len
  have l1 := lt_of_get H.blk
  have l2 : mb < h.size := by obtain ⟨M, m1, _⟩ := H.map; exact m1.lt
  refine muW_of (v := (page, pin)) m1 fun h3 m3 k3 s3 => ?_
  have hb3 := k3.get H2.blk (by simpa using n1)
  have hO3 := H2.own.keep k3 (fun b hb => by simp; exact fun e => n3 (e ▸ hb))
  refine lru_Cache_touch_spec hb3 hO3 (by omega) n2 fun h4 o4 FO4 hb4 hO4 k4 hF4 hn4 => ?_
  have hmb4 : mb ∉ FO4 := fun e => by
    rcases hF4 _ e with e | e
    · exact n3 e
    · have := k2.1; omega
  have k34 : Keep (cb :: mb :: FO) h2 h4 := (k3.mono (by simp)).trans k4 (fun b hb => .inl (by simp at hb; rcases hb with rfl | hb <;> simp_all))
  have hF : ∀ b ∈ FO4, b ∈ FO ∨ h2.size ≤ b := fun b hb => (hF4 b hb).imp id (by omega)
  have hall : ∀ b ∈ F2, b ∉ cb :: mb :: FO := fun b hb e => by
    have := (hF2 b hb).1
    have := H.all_lt b (by simp only [List.mem_cons, List.mem_append] at e ⊢; rcases e with e | e | e <;> simp [e])
    omega
  have hd4 : ∀ x : Nat, x < h2.size → x ∉ cb :: mb :: FO → x ∉ cb :: mb :: FO4 := fun x hx hn e => by
    simp only [List.mem_cons] at e hn
    rcases e with e | e | e
    · exact hn (.inl e)
    · exact hn (.inr (.inl e))
    · rcases hF _ e with e | e
      · exact hn (.inr (.inr e))
      · omega
  have hF4' : ∀ b ∈ FO4, b ∈ FO ∨ h.size ≤ b := fun b hb => (hF b hb).imp id (by have := k2.1; omega)
  refine hk h4 o4 FO4 (F2 ++ FP) ⟨hb4, ⟨_, m3.keep k4 (by simp; exact ⟨fun e => n1 e.symm, n3⟩), ?_⟩, hO4, ⟨n1, hn4, hmb4⟩, fun b hb => ?_, fun b hb => ?_⟩ ((k2.mono (by simp)).trans k34 fun b hb => .inl hb) (fun b hb => ?_) hF4'
  · have m5 : All2 (pgR h4 (F2 ++ FP)) M s.A := m2.mono fun a b ⟨p1, p2, p3, p4, p5⟩ => ⟨p1, p2, p3.keep k34 (fun x hx => H.dis _ (p5 x hx)), p4, fun x hx => List.mem_append_right _ (p5 x hx)⟩
    exact m5.upd (fun a b h => h.1) ⟨rfl, rfl, hp.keep k34 (fun a ha => hall _ (hpa a ha)), hbl, fun x hx => List.mem_append_left _ (hpa x hx)⟩
  · rcases List.mem_append.1 hb with hb | hb
    · exact Nat.lt_of_lt_of_le (hF2 b hb).2 k34.1
    · exact Nat.lt_of_lt_of_le (H2.lt b hb) k34.1
  · rcases List.mem_append.1 hb with hb | hb
    · exact hd4 b (hF2 b hb).2 (hall b hb)
    · exact hd4 b (H2.lt b hb) (H.dis b hb)
  · simp only [List.mem_append] at hb ⊢
    rcases hb with hb | hb | hb
    · exact (hF4' b hb).imp .inl id
    · exact .inr (hF2 b hb).1
    · exact .inl (.inr hb)

theorem byts_one (L : List Int) : ∀ v ∈ byts L, v.oneCell' = true := by
  intro v hv
  obtain ⟨x, _, rfl⟩ := List.mem_map.1 hv
  rfl

theorem lru_Cache_Put_spec {ρ : Ids} {h : Hp} {cb mb : Nat} {s : Lru} {o : Sl} {FO FP : List Nat} {k : Int} {page : Sl} {bs : List Int} {Q : Int → Int → Hp → Prop} (H : LruR ρ h cb mb s o FO FP) (hs : s.Ok)
    (hp : SlV h page 1 (byts bs)) (hbl : bs.length < 2 ^ 45) (hbad : ¬ (0 ≤ k ∧ k < 4096) → Q (-1) 1 h)
    (hk : 0 ≤ k → k < 4096 → ∀ h' o' FO' FP', LruR ρ h' cb mb (put s k bs).2 o' FO' FP' → Keep (cb :: mb :: FO) h h' → (∀ b ∈ FO' ++ FP', b ∈ FO ++ FP ∨ h.size ≤ b) → Q (put s k bs).1 0 h') :
    lru_Cache_Put ρ (some ⟨cb, 0, none⟩) k page h Q := by
  unfold lru_Cache_Put
  refine lru_Cache_ok_spec H.blk ?_
  simp only [Bool.not_true, br_false]
  refine lru_isItem_spec ?_
  rw [br_iff]
  constructor
  · intro e
    exact hbad (by rintro ⟨h1, h2⟩; simp [h1, h2] at e)
  · intro e
    have e : 0 ≤ k ∧ k < 4096 := by simpa using e
    simp only [nilW_some, add_mk, Nat.zero_add]
    rw [ldM_of (cache_map H.blk), ldM_of (cache_map H.blk)]
    obtain ⟨M, m1, m2⟩ := H.map
    refine lkW_of m1 fun f hf => heldEx ?_
    rw [pinned_eq m2]
    refine bytes_Clone_spec hp (byts_one _) (by simp; omega) fun s2 h2 F2 hO2 k2 hF2 _ _ => ?_
    refine ⟨hf _ M (m1.keep k2 (by simp)) rfl, (H.fresh k2 (by simp)).blk |> cache_map, (H.fresh k2 (by simp)).blk |> cache_map, ?_⟩
    refine held_core (bs := bs) H hs hO2.slv hbl (fun a ha => by rw [hO2.sa a ha]; simp) (fun b hb => ⟨hF2 b hb, hO2.lt b hb⟩) k2 fun h3 o3 FO3 FP3 H3 k3 hF3 hO3 => ?_
    refine lru_Cache_fit_spec H3 (hs.held e.1 e.2 _) fun h4 o4 H4 k4 => ?_
    refine hk e.1 e.2 h4 o4 FO3 FP3 H4 (k3.trans k4 fun b hb => ?_) hF3
    simp only [List.mem_cons] at hb ⊢
    rcases hb with rfl | rfl | hb
    · simp
    · simp
    · exact (hO3 b hb).imp (fun h => .inr (.inr h)) id

theorem lru_Cache_Pin_spec {ρ : Ids} {h : Hp} {cb mb : Nat} {s : Lru} {o : Sl} {FO FP : List Nat} {k : Int} {page : Sl} {bs : List Int} {Q : Int → Hp → Prop} (H : LruR ρ h cb mb s o FO FP) (hs : s.Ok)
    (hp : SlV h page 1 (byts bs)) (hbl : bs.length < 2 ^ 45) (hbad : ¬ (0 ≤ k ∧ k < 4096) → Q 1 h)
    (hk : 0 ≤ k → k < 4096 → ∀ h' o' FO' FP', LruR ρ h' cb mb (pin s k bs) o' FO' FP' → Keep (cb :: mb :: FO) h h' → (∀ b ∈ FO' ++ FP', b ∈ FO ++ FP ∨ h.size ≤ b) → Q 0 h') :
    lru_Cache_Pin ρ (some ⟨cb, 0, none⟩) k page h Q := by
  unfold lru_Cache_Pin
  refine lru_Cache_ok_spec H.blk ?_
  simp only [Bool.not_true, br_false]
  refine lru_isItem_spec ?_
  rw [br_iff]
  constructor
  · intro e
    exact hbad (by rintro ⟨h1, h2⟩; simp [h1, h2] at e)
  · intro e
    have e : 0 ≤ k ∧ k < 4096 := by simpa using e
    simp only [nilW_some, add_mk, Nat.zero_add]
    rw [ldM_of (cache_map H.blk)]
    refine bytes_Clone_spec hp (byts_one _) (by simp; omega) fun s2 h2 F2 hO2 k2 hF2 _ _ => ?_
    refine ⟨(H.fresh k2 (by simp)).blk |> cache_map, ?_⟩
    exact held_core (bs := bs) H hs hO2.slv hbl (fun a ha => by rw [hO2.sa a ha]; simp) (fun b hb => ⟨hF2 b hb, hO2.lt b hb⟩) k2 fun h3 o3 FO3 FP3 H3 k3 hF3 _ => hk e.1 e.2 h3 o3 FO3 FP3 H3 k3 hF3

theorem lru_New_spec {ρ : Ids} {h : Hp} {room : Int} {Q : Option Addr → Int → Hp → Prop} (hbad : ¬ (1 ≤ room ∧ room ≤ 1024) → Q none 1 h)
    (hk : 1 ≤ room → room ≤ 1024 → ∀ h' cb mb, LruR ρ h' cb mb ⟨room, [], []⟩ ⟨none, 0, 0⟩ [] [] → Keep [] h h' → h.size ≤ cb → h.size ≤ mb → Q (some ⟨cb, 0, none⟩) 0 h') : lru_New ρ room h Q := by
  have main : ∀ b : Bool, (b = true ↔ ¬ (1 ≤ room ∧ room ≤ 1024)) → lru_New_K1 ρ Q room b h := by
    intro b hb
    unfold lru_New_K1
    rw [br_iff]
    constructor
    · intro e; exact hbad (hb.1 e)
    · intro e
      have e : 1 ≤ room ∧ room ≤ 1024 := by
        cases Classical.em (1 ≤ room ∧ room ≤ 1024) with
        | inl h => exact h
        | inr h => rw [hb.2 h] at e; cases e
      unfold amW alW
      refine hk e.1 e.2 _ _ h.size ⟨push_get _ _, ⟨[], (MapR.new heldV h).keep (Keep.push [] _ _) (by simp), .nil⟩, Own.nil _ _ _, by simp, by simp, by simp⟩ ((Keep.push [] _ _).trans (Keep.push [] _ _) (by simp)) (by simp) (Nat.le_refl _)
  unfold lru_New
  rw [br_iff]
  constructor
  · intro e; exact main true (by simp at e ⊢; omega)
  · intro e; exact main _ (by simp at e ⊢; omega)

theorem lru_Cache_Order_spec {ρ : Ids} {h : Hp} {cb mb : Nat} {s : Lru} {o : Sl} {FO FP : List Nat} {Q : Sl → Hp → Prop} (H : LruR ρ h cb mb s o FO FP) (hs : s.Ok)
    (hk : ∀ r h' FR, Own h' r (ρ.T 0) 1 (ints s.ord.reverse) FR → (∀ b ∈ FR, h.size ≤ b) → Keep [] h h' → Q r h') : lru_Cache_Order ρ (some ⟨cb, 0, none⟩) h Q := by
  have hlen := hs.len
  unfold lru_Cache_Order
  refine lru_Cache_ok_spec H.blk ?_
  simp only [Bool.not_true, br_false, nilW_some, add_mk, Nat.zero_add]
  rw [ldS_of (cache_ord H.blk)]
  refine slices_Clone_int_int_spec H.own.slv (ints_one _) (by simp; omega) fun s2 h2 F2 hO2 k2 hF2 _ _ => ?_
  refine slices_Reverse_int_int_spec hO2 (by omega) fun h3 hO3 k3 s3 => ?_
  exact hk s2 h3 F2 hO3 hF2 (k2.trans k3 fun b hb => .inr (hF2 b hb))

theorem lru_Cache_Len_spec {ρ : Ids} {h : Hp} {cb mb : Nat} {s : Lru} {o : Sl} {FO FP : List Nat} {Q : Int → Hp → Prop} (H : LruR ρ h cb mb s o FO FP) (hs : s.Ok)
    (hk : ∀ h', Keep [] h h' → Q s.ord.length h') : lru_Cache_Len ρ (some ⟨cb, 0, none⟩) h Q := by
  unfold lru_Cache_Len
  refine lru_Cache_Order_spec H hs fun r h2 FR hO hF k => ?_
  have : r.len = s.ord.length := by have := hO.1; simp at this; omega
  rw [this]
  exact hk h2 k

end Go.Tx
