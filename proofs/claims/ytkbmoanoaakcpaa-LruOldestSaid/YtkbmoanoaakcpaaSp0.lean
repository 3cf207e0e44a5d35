import Derived.Test.YtkbmoanoaakcpaaTx
import Derived.Test.YtkbmoanoaakcpaaHb1
set_option linter.unusedVariables false
namespace Go.Tx
open Go Go.Wc

/-- The first place where p holds; -1: nowhere. -/
def fiI (p : Int → Bool) (L : List Int) : Int :=
  match L.findIdx? p with
  | some i => i
  | none => -1

theorem fiI_some {p : Int → Bool} {L : List Int} {i : Nat} (hi : i < L.length) (h1 : p L[i] = true) (h2 : ∀ j (hj : j < i), p L[j] = false) : fiI p L = i := by
  have : L.findIdx? p = some i := by
    rw [List.findIdx?_eq_some_iff_getElem]
    exact ⟨hi, h1, fun j hj => by simp [h2 j hj]⟩
  simp [fiI, this]

theorem fiI_none {p : Int → Bool} {L : List Int} (h2 : ∀ j (hj : j < L.length), p L[j] = false) : fiI p L = -1 := by
  have : L.findIdx? p = none := by
    rw [List.findIdx?_eq_none_iff]
    intro x hx
    obtain ⟨j, hj, rfl⟩ := List.mem_iff_getElem.1 hx
    exact h2 j hj
  simp [fiI, this]

abbrev ints (L : List Int) : List Value := L.map (Value.int .i64)

theorem slices_Index_int_int_spec {ρ : Ids} {s : Sl} {v : Int} {h : Hp} {Q : Int → Hp → Prop} {L : List Int} (hs : SlV h s 1 (ints L)) (hl : L.length < 2 ^ 62)
    (k : Q (fiI (v == ·) L) h) : slices_Index_int_int ρ s v h Q := by
  have hlen : s.len = L.length := by have := hs.1; simp at this; omega
  refine slices_Index_int_int_L1_rule ρ Q (fun s' v' n i h' => s' = s ∧ v' = v ∧ n = L.length ∧ h' = h ∧ 0 ≤ i ∧ i ≤ L.length ∧ ∀ j (hj : j < L.length), (j : Int) < i → (v == L[j]) = false)
    (fun _ _ _ i _ => L.length - i.toNat) ?_ _ _ _ _ _ ⟨rfl, rfl, by simp [hlen], rfl, Int.le_refl _, by simp, fun j _ hj => by omega⟩
  rintro s' v' n i h' ⟨rfl, rfl, rfl, rfl, h0, h1, h2⟩
  unfold slices_Index_int_int_B1
  rw [br_iff]
  constructor
  · intro hlt
    have hlt : i < L.length := by simpa using hlt
    refine ix_of hs h0 (by simpa using hlt) fun a ha => ?_
    have hi : i.toNat < L.length := by omega
    rw [ldI_of (n := L[i.toNat]) (by rw [ha]; simp [hi]), br_iff]
    constructor
    · intro he
      have : fiI (v' == ·) L = i := by rw [fiI_some hi he (fun j hj => h2 j (by omega) (by omega))]; omega
      rw [← this]; exact k
    · intro he
      rw [wrap64 (by omega) (by omega)]
      refine ⟨⟨rfl, rfl, rfl, rfl, by omega, by omega, fun j hj hji => ?_⟩, by omega⟩
      rcases Int.lt_or_eq_of_le (Int.lt_add_one_iff.1 hji) with hj' | hj'
      · exact h2 j hj hj'
      · have : j = i.toNat := by omega
        subst this; exact he
  · intro hge
    have hge : ¬ i < L.length := by simpa using hge
    rw [← fiI_none (p := (v' == ·)) (L := L) (fun j hj => h2 j hj (by omega))]; exact k

theorem slices_IndexFunc_int_int_spec {ρ : Ids} {φ : Value → List Value → Hp → (Value → Hp → Prop) → Prop} {s : Sl} {f : Value} {h : Hp} {Q : Int → Hp → Prop} {L : List Int} {p : Int → Bool}
    (hs : SlV h s 1 (ints L)) (hl : L.length < 2 ^ 62) (hφ : ∀ x ∈ L, ∀ K : Value → Hp → Prop, K (.bool (p x)) h → φ f [.int .i64 x] h K)
    (k : Q (fiI p L) h) : slices_IndexFunc_int_int ρ φ s f h Q := by
  have hlen : s.len = L.length := by have := hs.1; simp at this; omega
  refine slices_IndexFunc_int_int_L1_rule ρ φ Q (fun s' f' n i h' => s' = s ∧ f' = f ∧ n = L.length ∧ h' = h ∧ 0 ≤ i ∧ i ≤ L.length ∧ ∀ j (hj : j < L.length), (j : Int) < i → p L[j] = false)
    (fun _ _ _ i _ => L.length - i.toNat) ?_ _ _ _ _ _ ⟨rfl, rfl, by simp [hlen], rfl, Int.le_refl _, by simp, fun j _ hj => by omega⟩
  rintro s' v' n i h' ⟨rfl, rfl, rfl, rfl, h0, h1, h2⟩
  unfold slices_IndexFunc_int_int_B1
  rw [br_iff]
  constructor
  · intro hlt
    have hlt : i < L.length := by simpa using hlt
    refine ix_of hs h0 (by simpa using hlt) fun a ha => ?_
    have hi : i.toNat < L.length := by omega
    rw [ldI_of (n := L[i.toNat]) (by rw [ha]; simp [hi])]
    refine hφ _ (List.getElem_mem hi) _ ?_
    rw [isB_mk, br_iff]
    constructor
    · intro he
      have : fiI p L = i := by rw [fiI_some hi he (fun j hj => h2 j (by omega) (by omega))]; omega
      rw [← this]; exact k
    · intro he
      rw [wrap64 (by omega) (by omega)]
      refine ⟨⟨rfl, rfl, rfl, rfl, by omega, by omega, fun j hj hji => ?_⟩, by omega⟩
      rcases Int.lt_or_eq_of_le (Int.lt_add_one_iff.1 hji) with hj' | hj'
      · exact h2 j hj hj'
      · have : j = i.toNat := by omega
        subst this; exact he
  · intro hge
    have hge : ¬ i < L.length := by simpa using hge
    rw [← fiI_none (p := p) (L := L) (fun j hj => h2 j hj (by omega))]; exact k

theorem ints_one (L : List Int) : ∀ v ∈ ints L, v.oneCell' = true := by
  intro v hv
  obtain ⟨x, _, rfl⟩ := List.mem_map.1 hv
  rfl

/-- Over the spare places behind an owned slice. -/
theorem own_clear {h : Hp} {s : Sl} {T : Nat} {vs : List Value} {F : List Nat} {n : Nat} {K : Hp → Prop} (H : Own h s T 1 vs F) (h0 : s.len ≤ n) (hn : n ≤ s.cap)
    (k : ∀ h', Own h' s T 1 vs F → Keep F h h' → h'.size = h.size → K h') : slW s (s.len : Int) (n : Int) 1 fun s' => clW (.int .i64 (0 : Int)) h s' K := by
  obtain ⟨h1, h2, h3⟩ := H
  refine ⟨⟨by omega, by omega⟩, ⟨by omega, by omega⟩, ?_⟩
  simp only [Int.toNat_natCast]
  unfold clW
  cases ha : s.a with
  | none =>
    simp only [Option.map_none, ite_self]
    exact k h ⟨h1, h2, h3⟩ (Keep.refl _ _) rfl
  | some a =>
    have h3' := h3
    rw [ha] at h3
    obtain ⟨b, o, sp⟩ := a
    obtain ⟨hf, hs, pre, post, z, hb, hp, hl, hz⟩ := h3
    simp only at hs hb hp hf hz; subst hs
    have hzl : (zeros (.int .i64 (0 : Int)) (n - s.len)).length = n - s.len := by rw [zeros_len]; simp [Value.cells]
    have h1z : ∀ v ∈ zeros (.int .i64 (0 : Int)) (n - s.len), v.oneCell' = true := by
      intro v hv
      simp only [zeros, List.mem_flatten, List.mem_replicate] at hv
      obtain ⟨l, ⟨_, rfl⟩, hv⟩ := hv
      simp [Value.cells] at hv; subst hv; rfl
    by_cases e : s.cap = s.len
    · rw [if_pos e]
      have : n - s.len = 0 := by omega
      simp only [this, zeros, List.replicate_zero, List.flatten_nil, stAll]
      exact k h ⟨h1, h2, h3'⟩ (Keep.refl _ _) rfl
    · rw [if_neg e]
      simp only [Option.map_some, add_mk, Nat.mul_one]
      refine stAll_mid _ (post.take (n - s.len)) h (pre ++ vs) (post.drop (n - s.len)) 0 (T := T) (z := z) ?_ (by simp [hzl]; omega) (by simp; omega) (by omega) h1z fun h' hb' k' hs' => ?_
      · rw [List.append_assoc (pre ++ vs), List.take_append_drop]; exact hb
      · refine k h' ⟨h1, h2, ?_⟩ (by rw [hf]; exact k') hs'
        rw [ha]
        refine ⟨hf, rfl, pre, zeros (.int .i64 (0 : Int)) (n - s.len) ++ post.drop (n - s.len), z, ?_, hp, by simp [hzl]; omega, hz⟩
        rw [hb']
        simp only [List.append_assoc]

theorem slices_Delete_int_int_spec {ρ : Ids} {s : Sl} {i j : Int} {h : Hp} {Q : Sl → Hp → Prop} {L : List Int} {T : Nat} {F : List Nat} (H : Own h s T 1 (ints L) F) (hl : L.length < 2 ^ 40)
    (h0 : 0 ≤ i) (h1 : i ≤ j) (h2 : j ≤ L.length) (hT : T = ρ.T 0)
    (k : ∀ s' h', Own h' s' T 1 (ints (L.take i.toNat ++ L.drop j.toNat)) F → Keep F h h' → h'.size = h.size → Q s' h') : slices_Delete_int_int ρ s i j h Q := by
  have hlen : s.len = L.length := by have := H.1; simp at this; omega
  have hcap := H.2.1
  unfold slices_Delete_int_int
  refine ⟨⟨by omega, by omega⟩, ⟨by omega, by omega⟩, ⟨by omega, by omega⟩, ?_⟩
  rw [br_iff]
  constructor
  · intro e
    have e : i = j := by simpa using e
    subst e
    exact k s h (by rw [List.take_append_drop]; exact H) (Keep.refl _ _) rfl
  · intro e
    have e : i ≠ j := by simpa using e
    refine ⟨⟨by omega, by omega⟩, ⟨by omega, by omega⟩, ?_⟩
    refine ⟨⟨by omega, by omega⟩, ⟨by omega, by omega⟩, ?_⟩
    have hO := H.take (i := i.toNat) (by omega)
    have hsa : (if s.cap = (0 : Int).toNat then s.a else s.a.map (·.add ((0 : Int).toNat * 1))) = s.a := by
      split
      · rfl
      · cases ha : s.a with
        | none => rfl
        | some a => simp [Addr.add]
    have hR : SlV h ⟨if s.cap = j.toNat then s.a else s.a.map (·.add (j.toNat * 1)), (s.len : Int).toNat - j.toNat, s.cap - j.toNat⟩ 1 (ints (L.drop j.toNat)) := by
      by_cases e2 : s.cap = j.toNat
      · have hz : (s.len : Int).toNat - j.toNat = 0 := by omega
        rw [if_pos e2, hz]
        have : L.drop j.toNat = [] := List.drop_eq_nil_of_le (by omega)
        rw [this]
        exact H.slv.zero _
      · rw [if_neg e2]
        have := H.slv.drop (j := j.toNat) (s.cap - j.toNat)
        simpa [ints, List.map_drop] using this
    rw [hsa]
    simp only [Int.toNat_zero, Nat.sub_zero]
    rw [← hT]
    refine apW_own (vs := ints (L.take i.toNat)) (ws := ints (L.drop j.toNat)) (F := F) (by simpa [ints, List.map_take] using hO) hR (ints_one _) rfl (by decide) (by simp; omega) fun s' h' F' hO' hl' k' _ hin => ?_
    simp only at hl' hin
    obtain ⟨rfl, rfl, hsz⟩ := hin (by omega)
    refine own_clear (s := ⟨s.a, i.toNat + ((s.len : Int).toNat - j.toNat), s.cap⟩) hO' (by simp; omega) (by simpa using hcap) fun h'' hO'' k'' hs'' => ?_
    refine k _ _ ?_ (k'.trans k'' fun b hb => .inl hb) (by omega)
    simpa [ints] using hO''

end Go.Tx
