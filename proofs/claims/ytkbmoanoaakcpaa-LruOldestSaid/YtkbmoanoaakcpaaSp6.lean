import Derived.Test.YtkbmoanoaakcpaaSp5
set_option linter.unusedVariables false
namespace Go.Tx
open Go Go.Wc

/-- A cache and its blocks. -/
def LruD (ρ : Ids) (h : Hp) (c : Option Addr) (s : Lru) (D : List Nat) : Prop :=
  ∃ cb mb o FO FP, c = some ⟨cb, 0, none⟩ ∧ LruR ρ h cb mb s o FO FP ∧ D = cb :: mb :: (FO ++ FP)

def Grow (D D' : List Nat) (n : Nat) : Prop := ∀ b ∈ D', b ∈ D ∨ n ≤ b
theorem Grow.refl (D : List Nat) (n : Nat) : Grow D D n := fun _ h => .inl h
theorem Grow.trans {D D' D'' : List Nat} {n m : Nat} (h1 : Grow D D' n) (h2 : Grow D' D'' m) (hnm : n ≤ m) : Grow D D'' n := fun b hb =>
  (h2 b hb).elim (h1 b) fun h => .inr (Nat.le_trans hnm h)

variable {ρ : Ids} {h : Hp} {c : Option Addr} {s : Lru} {D : List Nat}

theorem LruD.keep {h' : Hp} {G : List Nat} (H : LruD ρ h c s D) (k : Keep G h h') (hG : ∀ b ∈ G, b ∉ D) : LruD ρ h' c s D := by
  obtain ⟨cb, mb, o, FO, FP, rfl, H, rfl⟩ := H
  exact ⟨cb, mb, o, FO, FP, rfl, H.keep k hG, rfl⟩
theorem LruD.lt (H : LruD ρ h c s D) : ∀ b ∈ D, b < h.size := by
  obtain ⟨cb, mb, o, FO, FP, rfl, H, rfl⟩ := H
  exact H.all_lt
theorem LruD.fresh {h' : Hp} {G : List Nat} (H : LruD ρ h c s D) (k : Keep G h h') (hG : ∀ b ∈ G, h.size ≤ b) : LruD ρ h' c s D :=
  H.keep k fun b hb e => by have := hG b hb; have := H.lt b e; omega

theorem grow_of {cb mb n : Nat} {FO FP FO' FP' : List Nat} (h : ∀ b ∈ FO' ++ FP', b ∈ FO ++ FP ∨ n ≤ b) : Grow (cb :: mb :: (FO ++ FP)) (cb :: mb :: (FO' ++ FP')) n := by
  intro b hb
  simp only [List.mem_cons] at hb ⊢
  rcases hb with rfl | rfl | hb
  · exact .inl (.inl rfl)
  · exact .inl (.inr (.inl rfl))
  · exact (h b hb).imp (fun h => .inr (.inr h)) id

theorem keep_of {cb mb : Nat} {FO FP : List Nat} {h h' : Hp} (k : Keep (cb :: mb :: FO) h h') : Keep (cb :: mb :: (FO ++ FP)) h h' :=
  k.mono fun b hb => .inl (by simp only [List.mem_cons, List.mem_append] at hb ⊢; rcases hb with h | h | h <;> simp [h])

theorem Put_D {k : Int} {page : Sl} {bs : List Int} {Q : Int → Int → Hp → Prop} (H : LruD ρ h c s D) (hs : s.Ok) (hp : SlV h page 1 (byts bs)) (hbl : bs.length < 2 ^ 45)
    (hbad : ¬ (0 ≤ k ∧ k < 4096) → Q (-1) 1 h)
    (hk : 0 ≤ k → k < 4096 → ∀ h' D', LruD ρ h' c (put s k bs).2 D' → Keep D h h' → Grow D D' h.size → Q (put s k bs).1 0 h') : lru_Cache_Put ρ c k page h Q := by
  obtain ⟨cb, mb, o, FO, FP, rfl, H, rfl⟩ := H
  exact lru_Cache_Put_spec H hs hp hbl hbad fun h0 h1 h' o' FO' FP' H' k' g => hk h0 h1 h' _ ⟨cb, mb, o', FO', FP', rfl, H', rfl⟩ (keep_of k') (grow_of g)

theorem Pin_D {k : Int} {page : Sl} {bs : List Int} {Q : Int → Hp → Prop} (H : LruD ρ h c s D) (hs : s.Ok) (hp : SlV h page 1 (byts bs)) (hbl : bs.length < 2 ^ 45)
    (hbad : ¬ (0 ≤ k ∧ k < 4096) → Q 1 h)
    (hk : 0 ≤ k → k < 4096 → ∀ h' D', LruD ρ h' c (pin s k bs) D' → Keep D h h' → Grow D D' h.size → Q 0 h') : lru_Cache_Pin ρ c k page h Q := by
  obtain ⟨cb, mb, o, FO, FP, rfl, H, rfl⟩ := H
  exact lru_Cache_Pin_spec H hs hp hbl hbad fun h0 h1 h' o' FO' FP' H' k' g => hk h0 h1 h' _ ⟨cb, mb, o', FO', FP', rfl, H', rfl⟩ (keep_of k') (grow_of g)

theorem Has_D {k : Int} {Q : Bool → Hp → Prop} (H : LruD ρ h c s D) (hk : ∀ h', Keep [] h h' → Q (Wc.look s.A k).isSome h') : lru_Cache_Has ρ c k h Q := by
  obtain ⟨cb, mb, o, FO, FP, rfl, H, rfl⟩ := H
  exact lru_Cache_Has_spec H hk

theorem Order_D {Q : Sl → Hp → Prop} (H : LruD ρ h c s D) (hs : s.Ok) (hk : ∀ r h' FR, Own h' r (ρ.T 0) 1 (ints s.ord.reverse) FR → (∀ b ∈ FR, h.size ≤ b) → Keep [] h h' → Q r h') : lru_Cache_Order ρ c h Q := by
  obtain ⟨cb, mb, o, FO, FP, rfl, H, rfl⟩ := H
  exact lru_Cache_Order_spec H hs hk

theorem Len_D {Q : Int → Hp → Prop} (H : LruD ρ h c s D) (hs : s.Ok) (hk : ∀ h', Keep [] h h' → Q s.ord.length h') : lru_Cache_Len ρ c h Q := by
  obtain ⟨cb, mb, o, FO, FP, rfl, H, rfl⟩ := H
  exact lru_Cache_Len_spec H hs hk

theorem New_D {room : Int} {Q : Option Addr → Int → Hp → Prop} (hbad : ¬ (1 ≤ room ∧ room ≤ 1024) → Q none 1 h)
    (hk : 1 ≤ room → room ≤ 1024 → ∀ h' c D, LruD ρ h' c ⟨room, [], []⟩ D → c ≠ none → Keep [] h h' → (∀ b ∈ D, h.size ≤ b) → Q c 0 h') : lru_New ρ room h Q :=
  lru_New_spec hbad fun h0 h1 h' cb mb H k l1 l2 => hk h0 h1 h' _ _ ⟨cb, mb, _, _, _, rfl, H, rfl⟩ (by simp) k (by simp; omega)

theorem ok_empty {room : Int} (h0 : 1 ≤ room) (h1 : room ≤ 1024) : (⟨room, [], []⟩ : Lru).Ok := ⟨⟨h0, h1⟩, by simp, by simp, by simp, by simp⟩

theorem alive_spec {Q : Bool → Hp → Prop} (hk : ∀ h', Keep [] h h' → Q true h') : carlinglaw15_alive ρ h Q := by
  unfold carlinglaw15_alive
  refine New_D (fun h => absurd h (by decide)) fun _ _ h1 c D H hc k1 d1 => ?_
  have hc' : Option.isNone c = false := by cases c with
    | none => exact absurd rfl hc
    | some a => rfl
  simp only [hc', br_false, bne_self_eq_false]
  unfold carlinglaw15_alive_K1
  simp only [br_false]
  unfold alW
  have hs0 : (⟨1, [], []⟩ : Lru).Ok := ok_empty (by decide) (by decide)
  have kp := Keep.push [] h1 (.cells [Value.int .u8 5].toArray (ρ.T 1) (0, 0))
  have H2 := H.fresh kp (by simp)
  have hp := (own_new (h := h1) (T := ρ.T 1) (m := 1) (n := 1) (vs := byts [5]) (by simp)).slv
  refine Put_D (bs := [5]) H2 hs0 hp (by decide) (fun h => absurd h (by decide)) fun _ _ h3 D3 H3 k3 g3 => ?_
  have hs1 := hs0.put (k := 1) (by decide) (by decide) [5]
  refine Put_D (bs := []) H3 hs1 (SlV.nil _ _) (by decide) (fun h => absurd h (by decide)) fun _ _ h4 D4 H4 k4 g4 => ?_
  have hs2 := hs1.put (k := 2) (by decide) (by decide) []
  refine Pin_D (bs := []) H4 hs2 (SlV.nil _ _) (by decide) (fun h => absurd h (by decide)) fun _ _ h5 D5 H5 k5 g5 => ?_
  have hs3 := hs2.held (k := 3) (by decide) (by decide) ([], true)
  refine Order_D H5 hs3 fun r h6 FR hO6 f6 k6 => ?_
  have e1 : (put ⟨1, [], []⟩ 1 [5]).1 = -1 := by decide
  have e2 : (put (put ⟨1, [], []⟩ 1 [5]).2 2 []).1 = 1 := by decide
  have e3 : (pin (put (put ⟨1, [], []⟩ 1 [5]).2 2 []).2 3 []).ord.reverse = [3, 2] := by decide
  have e4 : (Wc.look (pin (put (put ⟨1, [], []⟩ 1 [5]).2 2 []).2 3 []).A 1).isSome = false := by decide
  rw [e3] at hO6
  have hl : r.len = 2 := by have := hO6.1; simp at this; omega
  have hs6 := hO6.slv
  have b2 : (((r.len : Nat) : Int) == 2) = true := by rw [hl]; decide
  rw [e1, e2, b2]
  simp only [beq_self_eq_true, br_true]
  refine ix_of hs6 (by decide) (by decide) fun a ha => ?_
  rw [ldI_of (n := 3) (by rw [ha]; rfl)]
  simp only [beq_self_eq_true, br_true]
  refine ix_of hs6 (by decide) (by decide) fun a ha => ?_
  rw [ldI_of (n := 2) (by rw [ha]; rfl)]
  simp only [beq_self_eq_true, br_true]
  refine Has_D (H5.fresh k6 (by simp)) fun h7 k7 => ?_
  rw [e4]
  refine hk h7 ?_
  have dd : ∀ b ∈ D, h.size ≤ b := d1
  have d3 : ∀ b ∈ D3, h.size ≤ b := fun b hb => (g3 b hb).elim (d1 b) fun h => by have := k1.1; have := kp.1; omega
  have d4 : ∀ b ∈ D4, h.size ≤ b := fun b hb => (g4 b hb).elim (d3 b) fun h => by have := k1.1; have := kp.1; have := k3.1; omega
  exact (((((k1.trans kp (by simp)).trans k3 fun b hb => .inr (d1 b hb)).trans k4 fun b hb => .inr (d3 b hb)).trans k5 fun b hb => .inr (d4 b hb)).trans k6 (by simp)).trans k7 (by simp)

end Go.Tx
