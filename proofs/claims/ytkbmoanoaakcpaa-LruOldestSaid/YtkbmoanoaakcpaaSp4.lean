import Derived.Test.YtkbmoanoaakcpaaSp3
set_option linter.unusedVariables false
namespace Go.Tx
open Go Go.Wc

theorem phi_one {g : Nat} {S : Spec} {cs : Array Value} {args : List Value} {h : Hp} {K : Value → Hp → Prop} (H : S (args ++ cs.toList) h K) :
    phi [(g, S)] (.func (.func g) #[] cs) args h K := by
  have : (Specs.get [(g, S)] g) = some S := by simp [Specs.get]
  simp only [phi, this]
  simpa using H

theorem heldEx {o : Option (Sl × Bool)} {X : Sl → Bool → Prop} (hx : X (o.getD (⟨none, 0, 0⟩, false)).1 (o.getD (⟨none, 0, 0⟩, false)).2) :
    ∃ y : Sl, ∃ z : Bool, ((o.map heldV).getD (.agg [(.slice none 0 0), (.bool false)].toArray) = (.agg [(.slice y.a y.len y.cap), (.bool z)].toArray)) ∧ X y z := by
  refine ⟨_, _, ?_, hx⟩
  cases o <;> rfl

/-- Is an item pinned? -/
def pinned (A : List (Int × (List Int × Bool))) (k : Int) : Bool := ((Wc.look A k).map (·.2)).getD false

theorem pinned_eq {h : Hp} {F : List Nat} {M : List (Int × (Sl × Bool))} {A : List (Int × (List Int × Bool))} (H : All2 (pgR h F) M A) (k : Int) :
    ((Wc.look M k).getD (⟨none, 0, 0⟩, false)).2 = pinned A k := by
  rcases H.look (fun a b h => h.1) k with ⟨h1, h2⟩ | ⟨v, u, h1, h2, h3⟩
  · simp [pinned, h1, h2]
  · have := h3.2.1
    simp [pinned, h1, h2]; exact this

theorem some_eq {h : Hp} {F : List Nat} {M : List (Int × (Sl × Bool))} {A : List (Int × (List Int × Bool))} (H : All2 (pgR h F) M A) (k : Int) : (Wc.look M k).isSome = (Wc.look A k).isSome := by
  rcases H.look (fun a b h => h.1) k with ⟨h1, h2⟩ | ⟨v, u, h1, h2, h3⟩ <;> simp [h1, h2]

theorem LruR.keep {ρ : Ids} {h h' : Hp} {cb mb : Nat} {s : Lru} {o : Sl} {FO FP G : List Nat} (H : LruR ρ h cb mb s o FO FP) (k : Keep G h h') (hG : ∀ b ∈ G, b ∉ cb :: mb :: (FO ++ FP)) : LruR ρ h' cb mb s o FO FP := by
  obtain ⟨M, h1, h2⟩ := H.map
  have n1 : cb ∉ G := fun e => hG _ e (by simp)
  have n2 : mb ∉ G := fun e => hG _ e (by simp)
  exact ⟨k.get H.blk n1, ⟨M, h1.keep k n2, h2.mono fun a b ⟨p1, p2, p3, p4, p5⟩ => ⟨p1, p2, p3.keep k (fun x hx e => hG _ e (by simp [p5 x hx])), p4, p5⟩⟩, H.own.keep k (fun b hb e => hG _ e (by simp [hb])), H.ne,
    fun b hb => Nat.lt_of_lt_of_le (H.lt b hb) k.1, H.dis⟩

theorem LruR.all_lt {ρ : Ids} {h : Hp} {cb mb : Nat} {s : Lru} {o : Sl} {FO FP : List Nat} (H : LruR ρ h cb mb s o FO FP) : ∀ b ∈ cb :: mb :: (FO ++ FP), b < h.size := by
  intro b e
  obtain ⟨M, h1, _⟩ := H.map
  have := lt_of_get H.blk
  have := h1.lt
  simp only [List.mem_cons, List.mem_append] at e
  rcases e with e | e | e | e
  · omega
  · omega
  · exact H.own.lt b e
  · exact H.lt b e

theorem LruR.fresh {ρ : Ids} {h h' : Hp} {cb mb : Nat} {s : Lru} {o : Sl} {FO FP G : List Nat} (H : LruR ρ h cb mb s o FO FP) (k : Keep G h h') (hG : ∀ b ∈ G, h.size ≤ b) : LruR ρ h' cb mb s o FO FP :=
  H.keep k fun b hb e => by have := hG b hb; have := H.all_lt b e; omega

theorem Lru.Ok.len {s : Lru} (h : s.Ok) : s.ord.length ≤ 4096 := by
  have : ∀ (n : Nat) (L : List Int), L.Nodup → (∀ k ∈ L, 0 ≤ k ∧ k < (n : Int)) → L.length ≤ n := by
    intro n
    induction n with
    | zero => intro L _ hr; cases L with
      | nil => simp
      | cons a l => have := hr a (by simp); omega
    | succ n ih =>
      intro L hn hr
      have := ih (L.erase n) (hn.erase _) (fun k hk => by
        have h1 := hr k (List.mem_of_mem_erase hk)
        have h2 : k ≠ n := fun e => by subst e; exact (List.Nodup.not_mem_erase hn) hk
        omega)
      by_cases hm : (n : Int) ∈ L
      · rw [List.length_erase_of_mem hm] at this; omega
      · rw [List.erase_of_not_mem hm] at this; omega
  exact this 4096 s.ord h.nodup h.rng

theorem lru_Cache_Has_spec {ρ : Ids} {h : Hp} {cb mb : Nat} {s : Lru} {o : Sl} {FO FP : List Nat} {k : Int} {Q : Bool → Hp → Prop} (H : LruR ρ h cb mb s o FO FP)
    (hk : ∀ h', Keep [] h h' → Q (Wc.look s.A k).isSome h') : lru_Cache_Has ρ (some ⟨cb, 0, none⟩) k h Q := by
  obtain ⟨M, h1, h2⟩ := H.map
  unfold lru_Cache_Has
  refine lru_Cache_ok_spec H.blk ?_
  simp only [Bool.not_true, br_false, nilW_some, add_mk, Nat.zero_add]
  rw [ldM_of (cache_map H.blk)]
  refine lkW_of h1 fun f hf => ?_
  refine heldEx ?_
  simp only [Option.isSome_map, some_eq h2]
  unfold alW
  have hb := push_get h (.cells [Value.slice none 0 0, Value.bool false].toArray (ρ.T 4) (0, 0))
  refine st_mid (pre := []) (post := [.bool false]) (u := .slice none 0 0) hb rfl (.inr (Nat.zero_le _)) fun h3 hb3 k3 s3 => ?_
  refine st_mid (pre := [_]) (post := []) (u := .bool false) hb3 rfl (.inr (Nat.zero_le _)) fun h4 hb4 k4 s4 => ?_
  refine hk _ (((Keep.push [] _ _).trans k3 (by simp)).trans k4 (by simp))

def drop (s : Lru) (k : Int) : Lru := { s with A := del s.A k, ord := s.ord.erase k }

theorem lru_Cache_Drop_spec {ρ : Ids} {h : Hp} {cb mb : Nat} {s : Lru} {o : Sl} {FO FP : List Nat} {k : Int} {Q : Bool → Hp → Prop} (H : LruR ρ h cb mb s o FO FP) (hs : s.Ok)
    (hk : ∀ h' o', LruR ρ h' cb mb (if (Wc.look s.A k).isSome then drop s k else s) o' FO FP → Keep (cb :: mb :: FO) h h' → Q (Wc.look s.A k).isSome h') : lru_Cache_Drop ρ (some ⟨cb, 0, none⟩) k h Q := by
  unfold lru_Cache_Drop
  refine lru_Cache_Has_spec H fun h1 k1 => ?_
  have H1 := H.fresh k1 (by simp)
  have hlen := hs.len
  rw [br_iff]
  constructor
  · intro e
    have e : (Wc.look s.A k).isSome = false := by simpa using e
    rw [e] at hk
    exact hk h1 o (by simpa using H1) (k1.mono (by simp))
  · intro e
    have e : (Wc.look s.A k).isSome = true := by simpa using e
    rw [e, if_pos rfl] at hk
    obtain ⟨n1, n2, n3⟩ := H.ne
    simp only [nilW_some, add_mk, Nat.zero_add, Nat.add_zero]
    rw [ldM_of (cache_map H1.blk)]
    obtain ⟨M, m1, m2⟩ := H1.map
    refine dlW_of m1 fun h2 m3 k2 s2 => ?_
    have hb2 := k2.get H1.blk (by simpa using n1)
    have hO2 := H1.own.keep k2 (fun b hb => by simp; exact fun e => n3 (e ▸ hb))
    rw [ldS_of (cache_ord hb2)]
    refine slices_Index_int_int_spec hO2.slv (by omega) ?_
    rw [ldS_of (cache_ord hb2)]
    have hkm : k ∈ s.ord := (hs.same k).2 (look_isSome.1 e)
    have hge : 0 ≤ fiI (k == ·) s.ord := by
      cases Classical.em (0 ≤ fiI (k == ·) s.ord) with
      | inl h => exact h
      | inr h => exact absurd hkm (fiI_erase.2 h).2
    obtain ⟨e1, e3, _⟩ := fiI_erase.1 hge
    rw [wrap64 (by omega) (by omega)]
    refine slices_Delete_int_int_spec hO2 (by omega) hge (by omega) (by omega) rfl fun o3 h3 hO3 k3 s3 => ?_
    rw [e1] at hO3
    have hb3 := k3.get hb2 n2
    refine cache_st (o' := o3) hb3 fun h4 hb4 k4 s4 => ?_
    have kall : Keep (cb :: mb :: FO) h1 h4 := ((k2.mono (by simp)).trans k3 (fun b hb => .inl (by simp [hb]))).trans k4 (fun b hb => .inl (by simp at hb; simp [hb]))
    refine hk h4 o3 ⟨hb4, ?_, hO3.keep k4 (fun b hb => by simp; exact fun e => n2 (e ▸ hb)), H.ne, fun b hb => Nat.lt_of_lt_of_le (H1.lt b hb) kall.1, H.dis⟩ ((k1.mono (by simp)).trans kall fun b hb => .inl hb)
    refine ⟨_, (m3.keep k3 n3).keep k4 (by simpa using Ne.symm n1), ?_⟩
    refine (m2.del (fun a b h => h.1) k).mono fun a b ⟨p1, p2, p3, p4, p5⟩ => ⟨p1, p2, p3.keep kall (fun x hx => H.dis _ (p5 x hx)), p4, p5⟩

theorem lru_Cache_fit_1_spec {ρ : Ids} {h : Hp} {cb mb : Nat} {s : Lru} {o : Sl} {FO FP : List Nat} {v : Addr} {k : Int} {Q : Bool → Hp → Prop} (H : LruR ρ h cb mb s o FO FP)
    (hv : hcell h v = some (.pointer (some ⟨cb, 0, none⟩))) (hk : Q (!pinned s.A k) h) : lru_Cache_fit_1 ρ k v h Q := by
  obtain ⟨M, h1, h2⟩ := H.map
  unfold lru_Cache_fit_1
  rw [ldP_of hv]
  simp only [nilW_some, add_mk, Nat.zero_add]
  rw [ldM_of (cache_map H.blk)]
  refine lkW_of h1 fun f hf => heldEx ?_
  rw [pinned_eq h2]
  exact hk

/-- How many of a list's items are not pinned. -/
def loose (s : Lru) (L : List Int) : Nat := (L.filter fun k => !pinned s.A k).length

def fit (s : Lru) : Int × Lru :=
  if (loose s s.ord : Int) ≤ s.room then (-1, s)
  else match s.ord.find? (fun k => !pinned s.A k) with
    | some k => (k, drop s k)
    | none => (-1, s)

theorem loose_take {s : Lru} {L : List Int} {i : Nat} (hi : i < L.length) : loose s (L.take (i + 1)) = loose s (L.take i) + if pinned s.A L[i] then 0 else 1 := by
  unfold loose
  rw [List.take_succ_eq_append_getElem hi, List.filter_append, List.length_append]
  congr 1
  cases h : pinned s.A L[i] <;> simp [h]

theorem find_fiI {p : Int → Bool} {L : List Int} {k : Int} (h : L.find? p = some k) : ∃ i : Nat, ∃ hi : i < L.length, fiI p L = i ∧ L[i] = k := by
  rw [List.find?_eq_some_iff_getElem] at h
  obtain ⟨h1, i, hi, h2, h3⟩ := h
  exact ⟨i, hi, fiI_some hi (by rw [h2]; exact h1) (fun j hj => by simpa using h3 j hj), h2⟩

theorem lru_Cache_fit_spec {ρ : Ids} {h : Hp} {cb mb : Nat} {s : Lru} {o : Sl} {FO FP : List Nat} {Q : Int → Hp → Prop} (H : LruR ρ h cb mb s o FO FP) (hs : s.Ok)
    (hk : ∀ h' o', LruR ρ h' cb mb (fit s).2 o' FO FP → Keep (cb :: mb :: FO) h h' → Q (fit s).1 h') : lru_Cache_fit ρ (some ⟨cb, 0, none⟩) h Q := by
  unfold lru_Cache_fit alW
  have k0 : Keep [] h (h.push (.cells [Value.pointer (some ⟨cb, 0, none⟩)].toArray (ρ.T 3) (0, 0))) := Keep.push _ _ _
  have hb0 := push_get h (.cells [Value.pointer (some ⟨cb, 0, none⟩)].toArray (ρ.T 3) (0, 0))
  have hc0 : hcell (h.push (.cells [Value.pointer (some ⟨cb, 0, none⟩)].toArray (ρ.T 3) (0, 0))) ⟨h.size, 0, none⟩ = some (.pointer (some ⟨cb, 0, none⟩)) := by rw [hcell_of hb0]; rfl
  generalize h.push (.cells [Value.pointer (some ⟨cb, 0, none⟩)].toArray (ρ.T 3) (0, 0)) = h1 at *
  have H1 := H.fresh k0 (by simp)
  have hlen := hs.len
  have hol : o.len = s.ord.length := by have := H.own.1; simp at this; omega
  dsimp only
  rw [ldP_of hc0]
  simp only [nilW_some, add_mk, Nat.zero_add]
  rw [ldS_of (cache_ord H1.blk)]
  refine lru_Cache_fit_L1_rule ρ Q (fun c1 l3 many v12 n i h' => c1 = ⟨h.size, 0, none⟩ ∧ l3 = ⟨h.size, 0, none⟩ ∧ v12 = o ∧ n = s.ord.length ∧ h' = h1 ∧ 0 ≤ i ∧ i ≤ s.ord.length ∧ many = loose s (s.ord.take i.toNat))
    (fun _ _ _ _ _ i _ => s.ord.length - i.toNat) ?_ _ _ _ _ _ _ _ ⟨rfl, rfl, rfl, by simp [hol], rfl, Int.le_refl _, by simp, by simp [loose]⟩
  rintro c1 l3 many v12 n i h' ⟨rfl, rfl, rfl, rfl, rfl, h0, h2, rfl⟩
  unfold lru_Cache_fit_B1
  have hlo : ∀ L : List Int, loose s L ≤ L.length := fun L => by unfold loose; exact List.length_filter_le _ _
  rw [br_iff]
  constructor
  · intro hlt
    have hlt : i < s.ord.length := by simpa using hlt
    have hi : i.toNat < s.ord.length := by omega
    refine ix_of H1.own.slv h0 (by simpa using hlt) fun a ha => ?_
    rw [ldI_of (n := s.ord[i.toNat]) (by rw [ha]; simp [hi])]
    refine lru_Cache_fit_1_spec H1 hc0 ?_
    rw [isB_mk, br_iff]
    unfold lru_Cache_fit_K2
    have hl1 := hlo (s.ord.take i.toNat)
    have hl2 : (s.ord.take i.toNat).length ≤ 4096 := by simp; omega
    have e : (i + 1).toNat = i.toNat + 1 := by omega
    rw [wrap64 (by omega) (by omega), wrap64 (by omega) (by omega)]
    constructor
    · intro hp
      have hp : pinned s.A s.ord[i.toNat] = false := by simpa using hp
      exact ⟨⟨rfl, rfl, rfl, rfl, rfl, by omega, by omega, by rw [e, loose_take hi, hp]; simp⟩, by omega⟩
    · intro hp
      have hp : pinned s.A s.ord[i.toNat] = true := by simpa using hp
      exact ⟨⟨rfl, rfl, rfl, rfl, rfl, by omega, by omega, by rw [e, loose_take hi, hp]; simp⟩, by omega⟩
  · intro hge
    have hge : ¬ i < s.ord.length := by simpa using hge
    have ht : s.ord.take i.toNat = s.ord := List.take_of_length_le (by omega)
    rw [ht, ldP_of hc0]
    simp only [nilW_some, add_mk, Nat.zero_add]
    rw [ldI_of (cache_room H1.blk), br_iff]
    constructor
    · intro hle
      have hle : (loose s s.ord : Int) ≤ s.room := by simpa using hle
      have e : fit s = (-1, s) := by unfold fit; rw [if_pos hle]
      rw [e] at hk
      exact hk _ _ H1 (k0.mono (by simp))
    · intro hgt
      have hgt : ¬ (loose s s.ord : Int) ≤ s.room := by simpa using hgt
      rw [ldP_of hc0]
      simp only [nilW_some, add_mk, Nat.zero_add]
      rw [ldS_of (cache_ord H1.blk), ldP_of hc0]
      simp only [nilW_some, add_mk, Nat.zero_add]
      rw [ldS_of (cache_ord H1.blk)]
      refine slices_IndexFunc_int_int_spec (p := fun k => !pinned s.A k) H1.own.slv (by omega) (fun x _ K hK => phi_one ?_) ?_
      · exact lru_Cache_fit_1_spec (Q := fun r0 h => K (.bool r0) h) H1 hc0 hK
      · refine ⟨cache_ord H1.blk, hc0, ?_⟩
        cases hf : s.ord.find? (fun k => !pinned s.A k) with
        | none =>
          exfalso
          rw [List.find?_eq_none] at hf
          have : loose s s.ord = 0 := by
            unfold loose
            rw [List.length_eq_zero_iff, List.filter_eq_nil_iff]
            exact hf
          have := hs.ok.1
          omega
        | some k =>
          obtain ⟨i, hi, e1, e2⟩ := find_fiI hf
          rw [e1]
          refine ix_of H1.own.slv (by omega) (by simp; omega) fun a ha => ?_
          rw [ldI_of (n := k) (by rw [ha]; simp [hi, e2]), ldP_of hc0]
          refine lru_Cache_Drop_spec H1 hs fun h3 o3 H3 k3 => ?_
          have hm : k ∈ s.ord := e2 ▸ List.getElem_mem hi
          have hsome : (Wc.look s.A k).isSome = true := look_isSome.2 ((hs.same k).1 hm)
          rw [hsome, if_pos rfl] at H3
          have e : fit s = (k, drop s k) := by unfold fit; rw [if_neg hgt, hf]
          rw [e] at hk
          exact hk _ _ H3 ((k0.mono (by simp)).trans k3 fun b hb => .inl hb)

end Go.Tx
