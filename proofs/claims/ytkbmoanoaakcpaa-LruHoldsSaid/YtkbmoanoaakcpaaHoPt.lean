import Derived.Test.YtkbmoanoaakcpaaHoTx
import Derived.Test.YtkbmoanoaakcpaaHoPu6
set_option linter.unusedVariables false
set_option linter.unusedSimpArgs false
namespace Go.Pt
open Go Go.Wc Go.Pu

structure lru_held where
  page : List Int
  pinned : Bool
  deriving DecidableEq

def R_lru_held : Rp lru_held where
  n := 2
  P := fun h M vs x => ∃ (a0 : Option Addr) (c0 : Nat), vs = [.slice a0 x.page.length c0, .bool x.pinned] ∧ SlE (rI .u8) h M a0 c0 x.page
  len := by
    rintro _ _ _ x ⟨a0, c0, rfl, h0⟩
    rfl
  one := by
    rintro _ _ _ x ⟨a0, c0, rfl, h0⟩
    exact all_one rfl
  mono := by
    rintro _ _ _ _ _ x hL ⟨a0, c0, rfl, h0⟩
    exact ⟨a0, c0, rfl, h0.mono hL⟩
theorem olru_held {h : Hp} {A : List At} {vs : List Value} {x : lru_held} {G : Prop} (I : Inv h (repA R_lru_held vs x :: A)) (k : ∀ a0 c0, vs = [.slice a0 x.page.length c0, .bool x.pinned] → Inv h (roS (rI .u8) a0 x.page.length c0 x.page :: A) → G) : G := by
  obtain ⟨F, M, ⟨hF, a0, c0, e, h0⟩, hFM, hn, hlt, HH⟩ := I.turn
  exact k a0 c0 e (HH h [roS (rI .u8) a0 x.page.length c0 x.page] [[]] (Keep.refl _ _) (by simp) (by simp) fun M' hL _ _ => ⟨⟨rfl, rfl, h0.mono hL⟩, trivial⟩)
theorem ixlru_held {h : Hp} {A : List At} {a' : At} {a : Option Addr} {nl c : Nat} {l : List lru_held} {i : Int} {K' : lru_held → Prop} {K : Addr → Prop} (hX : Rd R_lru_held a' a nl c l) (I : Inv h (a' :: A)) (H : ixP l i K')
    (k : ∀ p x a0 c0, EAdr a 2 i p → (0 ≤ i ∧ i < l.length) → hcell h (p.add 0) = some (.slice a0 x.page.length c0) → hcell h (p.add 1) = some (.bool x.pinned) → Inv h (roS (rI .u8) a0 x.page.length c0 x.page :: a' :: A) → K' x → K p) : ixW a nl i 2 K :=
  ix_r hX I (by decide) H fun p vs x he _ hc I hx => olru_held I fun a0 c0 e I => k p x a0 c0 he (ixP_lt H) (hc 0 _ (by subst e; rfl)) (hc 1 _ (by subst e; rfl)) I hx
theorem mlru_held {h : Hp} {A : List At} {a0 : Option Addr} {n0 c0 : Nat} (x : lru_held) (I : Inv h (roS (rI .u8) a0 n0 c0 x.page :: A)) : Inv h (repA R_lru_held ([.slice a0 n0 c0, .bool x.pinned]) x :: A) := by
  refine I.conv fun F M ⟨hF, e0, h0⟩ => ⟨hF, a0, c0, by rw [e0], h0⟩
theorem zlru_held (h : Hp) (M : List Nat) : R_lru_held.P h M [(.slice none 0 0), (.bool false)] (⟨[], false⟩ : lru_held) := ⟨none, 0, rfl, sle_nil⟩
theorem lklru_held {κ : Type} [DecidableEq κ] {Kx : Ky κ} {h : Hp} {A : List At} {m : Option Nat} {o : Option (Array MapEntry × Nat)} {L : Option (List (κ × lru_held))} {key : κ} {K : (Hp → Prop) → Sl → Bool → Bool → Prop}
    {K' : lru_held → Bool → Prop} (I : Inv h (mapX Kx R_lru_held true m o L :: A)) (H : lkP L key (⟨[], false⟩ : lru_held) K') (k : ∀ f a0 c0 x ok, (∀ {h' A'}, Inv h' (mapX Kx R_lru_held true m o L :: A') → f h') → Inv h (roS (rI .u8) a0 x.page.length c0 x.page :: mapX Kx R_lru_held true m o L :: A) → K' x ok → K f ⟨a0, x.page.length, c0⟩ x.pinned ok) :
    lkW Kx.kd h m (Kx.enc key) fun f ov => ∃ y0 : Sl, ∃ y1 : Bool, (ov.getD (.agg [(.slice none 0 0), (.bool false)].toArray) = .agg [(.slice y0.a y0.len y0.cap), (.bool y1)].toArray) ∧ letB ov.isSome fun ok => K f y0 y1 ok :=
  lk_r (zvs := [(.slice none 0 0), (.bool false)]) (z0 := (⟨[], false⟩ : lru_held)) I rfl zlru_held fun f ov vs h1 h2 hf J => olru_held J fun a0 c0 e J2 => by
    subst e
    refine ⟨⟨a0, _, c0⟩, _, h1, ?_⟩
    show K f _ _ ov.isSome
    rw [h2]; exact k f a0 c0 _ _ hf J2 H

structure lru_Cache where
  room : Int
  pages : Option (List (Int × lru_held))
  order : List Int

structure carlinglaw15_Step where
  Kind : Int
  Item : Int
  Page : List Int
  deriving DecidableEq

def R_carlinglaw15_Step : Rp carlinglaw15_Step where
  n := 3
  P := fun h M vs x => ∃ (a0 : Option Addr) (c0 : Nat), vs = [.int .u8 x.Kind, .int .i64 x.Item, .slice a0 x.Page.length c0] ∧ SlE (rI .u8) h M a0 c0 x.Page
  len := by
    rintro _ _ _ x ⟨a0, c0, rfl, h0⟩
    rfl
  one := by
    rintro _ _ _ x ⟨a0, c0, rfl, h0⟩
    exact all_one rfl
  mono := by
    rintro _ _ _ _ _ x hL ⟨a0, c0, rfl, h0⟩
    exact ⟨a0, c0, rfl, h0.mono hL⟩
theorem ocarlinglaw15_Step {h : Hp} {A : List At} {vs : List Value} {x : carlinglaw15_Step} {G : Prop} (I : Inv h (repA R_carlinglaw15_Step vs x :: A)) (k : ∀ a0 c0, vs = [.int .u8 x.Kind, .int .i64 x.Item, .slice a0 x.Page.length c0] → Inv h (roS (rI .u8) a0 x.Page.length c0 x.Page :: A) → G) : G := by
  obtain ⟨F, M, ⟨hF, a0, c0, e, h0⟩, hFM, hn, hlt, HH⟩ := I.turn
  exact k a0 c0 e (HH h [roS (rI .u8) a0 x.Page.length c0 x.Page] [[]] (Keep.refl _ _) (by simp) (by simp) fun M' hL _ _ => ⟨⟨rfl, rfl, h0.mono hL⟩, trivial⟩)
theorem ixcarlinglaw15_Step {h : Hp} {A : List At} {a' : At} {a : Option Addr} {nl c : Nat} {l : List carlinglaw15_Step} {i : Int} {K' : carlinglaw15_Step → Prop} {K : Addr → Prop} (hX : Rd R_carlinglaw15_Step a' a nl c l) (I : Inv h (a' :: A)) (H : ixP l i K')
    (k : ∀ p x a0 c0, EAdr a 3 i p → (0 ≤ i ∧ i < l.length) → hcell h (p.add 0) = some (.int .u8 x.Kind) → hcell h (p.add 1) = some (.int .i64 x.Item) → hcell h (p.add 2) = some (.slice a0 x.Page.length c0) → Inv h (roS (rI .u8) a0 x.Page.length c0 x.Page :: a' :: A) → K' x → K p) : ixW a nl i 3 K :=
  ix_r hX I (by decide) H fun p vs x he _ hc I hx => ocarlinglaw15_Step I fun a0 c0 e I => k p x a0 c0 he (ixP_lt H) (hc 0 _ (by subst e; rfl)) (hc 1 _ (by subst e; rfl)) (hc 2 _ (by subst e; rfl)) I hx
theorem mcarlinglaw15_Step {h : Hp} {A : List At} {a0 : Option Addr} {n0 c0 : Nat} (x : carlinglaw15_Step) (I : Inv h (roS (rI .u8) a0 n0 c0 x.Page :: A)) : Inv h (repA R_carlinglaw15_Step ([.int .u8 x.Kind, .int .i64 x.Item, .slice a0 n0 c0]) x :: A) := by
  refine I.conv fun F M ⟨hF, e0, h0⟩ => ⟨hF, a0, c0, by rw [e0], h0⟩
theorem zcarlinglaw15_Step (h : Hp) (M : List Nat) : R_carlinglaw15_Step.P h M [(.int .u8 (0 : Int)), (.int .i64 (0 : Int)), (.slice none 0 0)] (⟨(0 : Int), (0 : Int), []⟩ : carlinglaw15_Step) := ⟨none, 0, rfl, sle_nil⟩
theorem lkcarlinglaw15_Step {κ : Type} [DecidableEq κ] {Kx : Ky κ} {h : Hp} {A : List At} {m : Option Nat} {o : Option (Array MapEntry × Nat)} {L : Option (List (κ × carlinglaw15_Step))} {key : κ} {K : (Hp → Prop) → Int → Int → Sl → Bool → Prop}
    {K' : carlinglaw15_Step → Bool → Prop} (I : Inv h (mapX Kx R_carlinglaw15_Step true m o L :: A)) (H : lkP L key (⟨(0 : Int), (0 : Int), []⟩ : carlinglaw15_Step) K') (k : ∀ f a0 c0 x ok, (∀ {h' A'}, Inv h' (mapX Kx R_carlinglaw15_Step true m o L :: A') → f h') → Inv h (roS (rI .u8) a0 x.Page.length c0 x.Page :: mapX Kx R_carlinglaw15_Step true m o L :: A) → K' x ok → K f x.Kind x.Item ⟨a0, x.Page.length, c0⟩ ok) :
    lkW Kx.kd h m (Kx.enc key) fun f ov => ∃ y0 : Int, ∃ y1 : Int, ∃ y2 : Sl, (ov.getD (.agg [(.int .u8 (0 : Int)), (.int .i64 (0 : Int)), (.slice none 0 0)].toArray) = .agg [(.int .u8 y0), (.int .i64 y1), (.slice y2.a y2.len y2.cap)].toArray) ∧ letB ov.isSome fun ok => K f y0 y1 y2 ok :=
  lk_r (zvs := [(.int .u8 (0 : Int)), (.int .i64 (0 : Int)), (.slice none 0 0)]) (z0 := (⟨(0 : Int), (0 : Int), []⟩ : carlinglaw15_Step)) I rfl zcarlinglaw15_Step fun f ov vs h1 h2 hf J => ocarlinglaw15_Step J fun a0 c0 e J2 => by
    subst e
    refine ⟨_, _, ⟨a0, _, c0⟩, h1, ?_⟩
    show K f _ _ _ ov.isSome
    rw [h2]; exact k f a0 c0 _ _ hf J2 H

structure carlingref15_Held where
  Item : Int
  Page : List Int
  Pinned : Bool
  deriving DecidableEq

structure carlingref15_Cache where
  Room : Int
  L : List carlingref15_Held
  deriving DecidableEq

def R_carlingref15_Held : Rp carlingref15_Held where
  n := 3
  P := fun h M vs x => ∃ (a0 : Option Addr) (c0 : Nat), vs = [.int .i64 x.Item, .slice a0 x.Page.length c0, .bool x.Pinned] ∧ SlE (rI .u8) h M a0 c0 x.Page
  len := by
    rintro _ _ _ x ⟨a0, c0, rfl, h0⟩
    rfl
  one := by
    rintro _ _ _ x ⟨a0, c0, rfl, h0⟩
    exact all_one rfl
  mono := by
    rintro _ _ _ _ _ x hL ⟨a0, c0, rfl, h0⟩
    exact ⟨a0, c0, rfl, h0.mono hL⟩
theorem ocarlingref15_Held {h : Hp} {A : List At} {vs : List Value} {x : carlingref15_Held} {G : Prop} (I : Inv h (repA R_carlingref15_Held vs x :: A)) (k : ∀ a0 c0, vs = [.int .i64 x.Item, .slice a0 x.Page.length c0, .bool x.Pinned] → Inv h (roS (rI .u8) a0 x.Page.length c0 x.Page :: A) → G) : G := by
  obtain ⟨F, M, ⟨hF, a0, c0, e, h0⟩, hFM, hn, hlt, HH⟩ := I.turn
  exact k a0 c0 e (HH h [roS (rI .u8) a0 x.Page.length c0 x.Page] [[]] (Keep.refl _ _) (by simp) (by simp) fun M' hL _ _ => ⟨⟨rfl, rfl, h0.mono hL⟩, trivial⟩)
theorem ixcarlingref15_Held {h : Hp} {A : List At} {a' : At} {a : Option Addr} {nl c : Nat} {l : List carlingref15_Held} {i : Int} {K' : carlingref15_Held → Prop} {K : Addr → Prop} (hX : Rd R_carlingref15_Held a' a nl c l) (I : Inv h (a' :: A)) (H : ixP l i K')
    (k : ∀ p x a0 c0, EAdr a 3 i p → (0 ≤ i ∧ i < l.length) → hcell h (p.add 0) = some (.int .i64 x.Item) → hcell h (p.add 1) = some (.slice a0 x.Page.length c0) → hcell h (p.add 2) = some (.bool x.Pinned) → Inv h (roS (rI .u8) a0 x.Page.length c0 x.Page :: a' :: A) → K' x → K p) : ixW a nl i 3 K :=
  ix_r hX I (by decide) H fun p vs x he _ hc I hx => ocarlingref15_Held I fun a0 c0 e I => k p x a0 c0 he (ixP_lt H) (hc 0 _ (by subst e; rfl)) (hc 1 _ (by subst e; rfl)) (hc 2 _ (by subst e; rfl)) I hx
theorem mcarlingref15_Held {h : Hp} {A : List At} {a0 : Option Addr} {n0 c0 : Nat} (x : carlingref15_Held) (I : Inv h (roS (rI .u8) a0 n0 c0 x.Page :: A)) : Inv h (repA R_carlingref15_Held ([.int .i64 x.Item, .slice a0 n0 c0, .bool x.Pinned]) x :: A) := by
  refine I.conv fun F M ⟨hF, e0, h0⟩ => ⟨hF, a0, c0, by rw [e0], h0⟩
theorem zcarlingref15_Held (h : Hp) (M : List Nat) : R_carlingref15_Held.P h M [(.int .i64 (0 : Int)), (.slice none 0 0), (.bool false)] (⟨(0 : Int), [], false⟩ : carlingref15_Held) := ⟨none, 0, rfl, sle_nil⟩
theorem lkcarlingref15_Held {κ : Type} [DecidableEq κ] {Kx : Ky κ} {h : Hp} {A : List At} {m : Option Nat} {o : Option (Array MapEntry × Nat)} {L : Option (List (κ × carlingref15_Held))} {key : κ} {K : (Hp → Prop) → Int → Sl → Bool → Bool → Prop}
    {K' : carlingref15_Held → Bool → Prop} (I : Inv h (mapX Kx R_carlingref15_Held true m o L :: A)) (H : lkP L key (⟨(0 : Int), [], false⟩ : carlingref15_Held) K') (k : ∀ f a0 c0 x ok, (∀ {h' A'}, Inv h' (mapX Kx R_carlingref15_Held true m o L :: A') → f h') → Inv h (roS (rI .u8) a0 x.Page.length c0 x.Page :: mapX Kx R_carlingref15_Held true m o L :: A) → K' x ok → K f x.Item ⟨a0, x.Page.length, c0⟩ x.Pinned ok) :
    lkW Kx.kd h m (Kx.enc key) fun f ov => ∃ y0 : Int, ∃ y1 : Sl, ∃ y2 : Bool, (ov.getD (.agg [(.int .i64 (0 : Int)), (.slice none 0 0), (.bool false)].toArray) = .agg [(.int .i64 y0), (.slice y1.a y1.len y1.cap), (.bool y2)].toArray) ∧ letB ov.isSome fun ok => K f y0 y1 y2 ok :=
  lk_r (zvs := [(.int .i64 (0 : Int)), (.slice none 0 0), (.bool false)]) (z0 := (⟨(0 : Int), [], false⟩ : carlingref15_Held)) I rfl zcarlingref15_Held fun f ov vs h1 h2 hf J => ocarlingref15_Held J fun a0 c0 e J2 => by
    subst e
    refine ⟨_, ⟨a0, _, c0⟩, _, h1, ?_⟩
    show K f _ _ _ ov.isSome
    rw [h2]; exact k f a0 c0 _ _ hf J2 H

inductive Obj where
  | lru_Cache (x : Pt.lru_Cache)
  | carlingref15_Cache (x : Pt.carlingref15_Cache)

def ob_lru_Cache (ρ : Ids) (x : lru_Cache) (p : Addr) : At := exA fun m2 : Option Nat => exA fun o2 : Option (Array MapEntry × Nat) => exA fun a3 : Option Addr => exA fun c3 : Nat => bigA [blk p (ρ.T 2) [.one (.int .i64 x.room), .one (.map m2), .one (.slice a3 x.order.length c3)], mapX (kI .i64) R_lru_held true m2 o2 x.pages, ownS (rI .i64) a3 x.order.length c3 x.order]

theorem op_lru_Cache {ρ : Ids} {x : lru_Cache} {p : Addr} {h : Hp} {A : List At} (I : Inv h (ob_lru_Cache ρ x p :: A)) : ∃ m2 : Option Nat, ∃ o2 : Option (Array MapEntry × Nat), ∃ a3 : Option Addr, ∃ c3 : Nat, Inv h (blk p (ρ.T 2) [.one (.int .i64 x.room), .one (.map m2), .one (.slice a3 x.order.length c3)] :: mapX (kI .i64) R_lru_held true m2 o2 x.pages :: ownS (rI .i64) a3 x.order.length c3 x.order :: A) := by
  unfold ob_lru_Cache at I
  obtain ⟨m2, I⟩ := I.exE
  obtain ⟨o2, I⟩ := I.exE
  obtain ⟨a3, I⟩ := I.exE
  obtain ⟨c3, I⟩ := I.exE
  exact ⟨m2, o2, a3, c3, I.bigE⟩

abbrev at_lru_Cache (σ : St Obj) (p : Addr) (K : lru_Cache → Prop) : Prop := ∃ x, σ p = some (.lru_Cache x) ∧ K x

def ob_carlingref15_Cache (ρ : Ids) (x : carlingref15_Cache) (p : Addr) : At := exA fun a2 : Option Addr => exA fun c2 : Nat => bigA [blk p (ρ.T 6) [.one (.int .i64 x.Room), .one (.slice a2 x.L.length c2)], roS R_carlingref15_Held a2 x.L.length c2 x.L]

theorem op_carlingref15_Cache {ρ : Ids} {x : carlingref15_Cache} {p : Addr} {h : Hp} {A : List At} (I : Inv h (ob_carlingref15_Cache ρ x p :: A)) : ∃ a2 : Option Addr, ∃ c2 : Nat, Inv h (blk p (ρ.T 6) [.one (.int .i64 x.Room), .one (.slice a2 x.L.length c2)] :: roS R_carlingref15_Held a2 x.L.length c2 x.L :: A) := by
  unfold ob_carlingref15_Cache at I
  obtain ⟨a2, I⟩ := I.exE
  obtain ⟨c2, I⟩ := I.exE
  exact ⟨a2, c2, I.bigE⟩

abbrev at_carlingref15_Cache (σ : St Obj) (p : Addr) (K : carlingref15_Cache → Prop) : Prop := ∃ x, σ p = some (.carlingref15_Cache x) ∧ K x

def obA (ρ : Ids) : Obj → Addr → At
  | .lru_Cache x, p => ob_lru_Cache ρ x p
  | .carlingref15_Cache x, p => ob_carlingref15_Cache ρ x p

theorem cl_lru_Cache {ρ : Ids} (x : lru_Cache) {p : Addr} {h : Hp} {A : List At} {m2 : Option Nat} {o2 : Option (Array MapEntry × Nat)} {a3 : Option Addr} {c3 : Nat} {n3 : Nat} (I : Inv h (blk p (ρ.T 2) [.one (.int .i64 x.room), .one (.map m2), .one (.slice a3 n3 c3)] :: mapX (kI .i64) R_lru_held true m2 o2 x.pages :: ownS (rI .i64) a3 n3 c3 x.order :: A)) : Inv h (obA ρ (.lru_Cache x) p :: A) := by
  obtain rfl := own_len I.pull2
  exact (Inv.bigI (As := [blk p (ρ.T 2) [.one (.int .i64 x.room), .one (.map m2), .one (.slice a3 x.order.length c3)], mapX (kI .i64) R_lru_held true m2 o2 x.pages, ownS (rI .i64) a3 x.order.length c3 x.order]) I).conv fun F M H => ⟨m2, o2, a3, c3, H⟩

theorem cl_carlingref15_Cache {ρ : Ids} (x : carlingref15_Cache) {p : Addr} {h : Hp} {A : List At} {a2 : Option Addr} {c2 : Nat} {n2 : Nat} (I : Inv h (blk p (ρ.T 6) [.one (.int .i64 x.Room), .one (.slice a2 n2 c2)] :: roS R_carlingref15_Held a2 n2 c2 x.L :: A)) : Inv h (obA ρ (.carlingref15_Cache x) p :: A) := by
  obtain rfl := ro_len I.pull1
  exact (Inv.bigI (As := [blk p (ρ.T 6) [.one (.int .i64 x.Room), .one (.slice a2 x.L.length c2)], roS R_carlingref15_Held a2 x.L.length c2 x.L]) I).conv fun F M H => ⟨a2, c2, H⟩

instance obHeads (ρ : Ids) : Heads (obA ρ) where
  head := by
    intro o p h F M H
    cases o with
    | lru_Cache x =>
      obtain ⟨_, _, _, _, Fs, e, H⟩ := H
      match Fs, e, H with
      | [F0, F1, F2], e, H => exact head_blk e H.1
    | carlingref15_Cache x =>
      obtain ⟨_, _, Fs, e, H⟩ := H
      match Fs, e, H with
      | [F0, F1], e, H => exact head_blk e H.1

def lru_New_K1 (Q : (Option Addr) → Int → St Obj → Prop) (room0 : Int) (v9 : Bool) (σ : St Obj) : Prop :=
  br v9
  (Q none (1 : Int) σ)
  (∀ p_6 : Addr,
  (σ p_6 = none) →
  Q (some p_6) (0 : Int) (sset σ p_6 (.lru_Cache (⟨room0, (some [] : Option (List (Int × lru_held))), ([] : List Int)⟩ : lru_Cache))))

theorem lru_New_K1_r {ρ : Ids} {h : Hp} {A : List At}  {room0 : Int} {v9 : Bool}  {σ : St Obj} {Q' : (Option Addr) → Int → St Obj → Prop} {Q : Option Addr → Int → Hp → Prop} (I : Inv h (hpA (obA ρ) σ :: A)) (H : lru_New_K1 Q' room0 v9 σ)
    (k : ∀ (r0 : Option Addr) (r1 : Int) (h' : Hp) (σ' : St Obj), Inv h' (hpA (obA ρ) σ' :: A) → Q' r0 r1 σ' → Q r0 r1 h') : Tx.lru_New_K1 ρ Q room0 v9 h := by
  unfold Tx.lru_New_K1
  unfold lru_New_K1 at H
  refine br_r H (fun hb H => ?_) (fun hb H => ?_)
  · exact k none (1 : Int) _ σ I H
  · refine amW_r (kI .i64) R_lru_held true I fun m_3 h o_4 I => ?_
    refine al_r [.one (.int .i64 room0), .one (.map (some m_3)), .one (.slice none 0 0)] rfl I fun p_6 h I => ?_
    replace H := H p_6
    replace I := I.nilO (rI .i64)
    replace I := I.pull3.pull1.pull3.pull3
    obtain ⟨e_9, I⟩ := (cl_lru_Cache (⟨room0, (some [] : Option (List (Int × lru_held))), ([] : List Int)⟩ : lru_Cache) I).new
    replace H := H e_9
    exact k (some p_6) (0 : Int) _ (sset σ p_6 (.lru_Cache (⟨room0, (some [] : Option (List (Int × lru_held))), ([] : List Int)⟩ : lru_Cache))) I H

def lru_New (room0 : Int) (σ : St Obj) (Q : (Option Addr) → Int → St Obj → Prop) : Prop :=
  br (decide (room0 < (1 : Int)))
  (lru_New_K1 Q room0 true σ)
  (lru_New_K1 Q room0 (decide (room0 > (1024 : Int))) σ)

theorem lru_New_r {ρ : Ids} {h : Hp} {A : List At} {room0 : Int}  {σ : St Obj} {Q' : (Option Addr) → Int → St Obj → Prop} {Q : Option Addr → Int → Hp → Prop} (I : Inv h (hpA (obA ρ) σ :: A)) (H : lru_New room0 σ Q')
    (k : ∀ (r0 : Option Addr) (r1 : Int) (h' : Hp) (σ' : St Obj), Inv h' (hpA (obA ρ) σ' :: A) → Q' r0 r1 σ' → Q r0 r1 h') : Tx.lru_New ρ room0 h Q := by
  unfold Tx.lru_New
  unfold lru_New at H
  refine br_r H (fun hb H => ?_) (fun hb H => ?_)
  · exact lru_New_K1_r (room0 := room0) (v9 := true) (σ := σ) I H k
  · exact lru_New_K1_r (room0 := room0) (v9 := (decide (room0 > (1024 : Int)))) (σ := σ) I H k

def lru_Cache_ok (c0 : Option Addr) (σ : St Obj) (Q : Bool → St Obj → Prop) : Prop :=
  br (!(Option.isNone c0))
  (nilW c0 fun p_2 =>
  at_lru_Cache σ p_2 fun x_4 =>
  Q (!(Option.isNone x_4.pages)) σ)
  (Q false σ)

theorem lru_Cache_ok_r {ρ : Ids} {h : Hp} {A : List At} {c0 : Option Addr}  {σ : St Obj} {Q' : Bool → St Obj → Prop} {Q : Bool → Hp → Prop} (I : Inv h (hpA (obA ρ) σ :: A)) (H : lru_Cache_ok c0 σ Q')
    (k : ∀ (r0 : Bool) (h' : Hp) (σ' : St Obj), Inv h' (hpA (obA ρ) σ' :: A) → Q' r0 σ' → Q r0 h') : Tx.lru_Cache_ok ρ c0 h Q := by
  unfold Tx.lru_Cache_ok
  unfold lru_Cache_ok at H
  refine br_r H (fun hb H => ?_) (fun hb H => ?_)
  · refine nil_r H fun p_2 hp_3 H => ?_
    obtain ⟨x_4, hx_5, H⟩ := H
    obtain ⟨m2_6, o2_7, a3_8, c3_9, I⟩ := op_lru_Cache (I.take hx_5)
    refine ldM_r (I.cell 1 1 rfl) ?_
    rw [map_none I.pull1]
    replace I := I.pull3.pull3.pull3.pull3
    replace I := (cl_lru_Cache x_4 I).putS hx_5
    exact k (!(Option.isNone x_4.pages)) _ σ I H
  · exact k false _ σ I H

def lru_isItem (n0 : Int) (Q : Bool → Prop) : Prop :=
  br (decide (n0 ≥ (0 : Int)))
  (Q (decide (n0 < (4096 : Int))))
  (Q false)

theorem lru_isItem_r {ρ : Ids} {h : Hp} {A : List At} {n0 : Int}  {Q' : Bool → Prop} {Q : Bool → Hp → Prop} (I : Inv h (A)) (H : lru_isItem n0 Q')
    (k : ∀ (r0 : Bool) (h' : Hp), Inv h' (A) → Q' r0 → Q r0 h') : Tx.lru_isItem ρ n0 h Q := by
  unfold Tx.lru_isItem
  unfold lru_isItem at H
  refine br_r H (fun hb H => ?_) (fun hb H => ?_)
  · exact k (decide (n0 < (4096 : Int))) _ I H
  · exact k false _ I H

def bytes_Clone (s0 : List Int) (Q : List Int → Prop) : Prop := cloneP s0 Q
theorem bytes_Clone_r {ρ : Ids} {h : Hp} {A : List At} {s0 : List Int} {a : Option Addr} {nl c : Nat} {X : At} {Q' : List Int → Prop} {Q : Sl → Hp → Prop} (hX : Rd (rI .u8) X a nl c s0) (I : Inv h (X :: A)) (H : bytes_Clone s0 Q')
    (k : ∀ (r : List Int) (ra : Option Addr) (rc : Nat) (h' : Hp), Inv h' (ownS (rI .u8) ra r.length rc r :: X :: A) → Q' r → Q ⟨ra, r.length, rc⟩ h') : Tx.bytes_Clone ρ ⟨a, nl, c⟩ h Q := by
  unfold Tx.bytes_Clone
  exact clone_r hX I (by decide) rfl (by decide) (by decide) H k

def slices_Index_int_int_B1 (S1 : (List Int) → Int → Int → Int → Prop) (Q : Int → Prop) (s0 : List Int) (v1 : Int) (v7 : Int) (v8 : Int) : Prop :=
  br (decide (v8 < v7))
  (ixP s0 v8 fun x_3 =>
  br (v1 == x_3)
  (Q v8)
  (S1 s0 v1 v7 (IntKind.wrap .i64 (v8 + (1 : Int)))))
  (Q (-1 : Int))

def slices_Index_int_int_L1 (Q : Int → Prop) (s0 : List Int) (v1 : Int) (v7 : Int) (v8 : Int) : Prop :=
  Lf (fun S (v : (List Int) × Int × Int × Int) => slices_Index_int_int_B1 (fun s0 v1 v7 v8 => S (s0, v1, v7, v8)) Q v.1 v.2.1 v.2.2.1 v.2.2.2) (s0, v1, v7, v8)

theorem slices_Index_int_int_L1_in (Q : Int → Prop) (s0 : List Int) (v1 : Int) (v7 : Int) (v8 : Int) (H : slices_Index_int_int_B1 (slices_Index_int_int_L1 Q) Q s0 v1 v7 v8) : slices_Index_int_int_L1 Q s0 v1 v7 v8 := Lf.fold H

theorem slices_Index_int_int_B1_r {ρ : Ids} {h : Hp} {A : List At} {X_s0 : At} {s0 : List Int} {v1 : Int} {v7 : Int} {v8 : Int} {a_s0 : Option Addr} {n_s0 c_s0 : Nat} {Q' : Int → Prop} {Q : Int → Hp → Prop} {S1' : (List Int) → Int → Int → Int → Prop} {S1 : Sl → Int → Int → Int → Hp → Prop} (hX_s0 : Rd (rI .i64) X_s0 a_s0 n_s0 c_s0 s0) (I : Inv h (X_s0 :: A)) (H : slices_Index_int_int_B1 S1' Q' s0 v1 v7 v8) (kS1 : ∀ {s0 : List Int} {v1 : Int} {v7 : Int} {v8 : Int} {a_s0 : Option Addr} {n_s0 c_s0 : Nat} {h : Hp} (hX_s0 : Rd (rI .i64) X_s0 a_s0 n_s0 c_s0 s0), Inv h (X_s0 :: A) → S1' s0 v1 v7 v8 → S1 ⟨a_s0, n_s0, c_s0⟩ v1 v7 v8 h)
    (k : ∀ (r0 : Int) (h' : Hp), Inv h' (X_s0 :: A) → Q' r0 → Q r0 h') : Tx.slices_Index_int_int_B1 ρ S1 Q ⟨a_s0, n_s0, c_s0⟩ v1 v7 v8 h := by
  obtain rfl := rd_len hX_s0 I
  unfold Tx.slices_Index_int_int_B1
  unfold slices_Index_int_int_B1 at H
  refine br_r H (fun hb H => ?_) (fun hb H => ?_)
  · refine ixI_a hX_s0 I H fun p_4 x_3 he_5 hb_6 hc_7 H => ?_
    refine ldI_r hc_7 ?_
    refine br_r H (fun hb H => ?_) (fun hb H => ?_)
    · exact k v8 _ I H
    · exact kS1 (s0 := s0) (v1 := v1) (v7 := v7) (v8 := (IntKind.wrap .i64 (v8 + (1 : Int)))) hX_s0 I H
  · exact k (-1 : Int) _ I H

theorem slices_Index_int_int_L1_r {ρ : Ids} {h : Hp} {A : List At} {X_s0 : At} {s0 : List Int} {v1 : Int} {v7 : Int} {v8 : Int} {a_s0 : Option Addr} {n_s0 c_s0 : Nat} {Q' : Int → Prop} {Q : Int → Hp → Prop} (hX_s0 : Rd (rI .i64) X_s0 a_s0 n_s0 c_s0 s0) (I : Inv h (X_s0 :: A)) (H : slices_Index_int_int_L1 Q' s0 v1 v7 v8)
    (k : ∀ (r0 : Int) (h' : Hp), Inv h' (X_s0 :: A) → Q' r0 → Q r0 h') : Tx.slices_Index_int_int_L1 ρ Q ⟨a_s0, n_s0, c_s0⟩ v1 v7 v8 h := by
  refine Lf.ind H (fun v => ∀ (a_s0 : Option Addr) (n_s0 c_s0 : Nat) (h : Hp) (hX_s0 : Rd (rI .i64) X_s0 a_s0 n_s0 c_s0 v.1), Inv h (X_s0 :: A) → Tx.slices_Index_int_int_L1 ρ Q ⟨a_s0, n_s0, c_s0⟩ v.2.1 v.2.2.1 v.2.2.2 h) ?_ _ _ _ _ hX_s0 I
  rintro ⟨s0, v1, v7, v8⟩ S hS HB a_s0 n_s0 c_s0 h hX_s0 I
  refine Tx.slices_Index_int_int_L1_in _ _ _ _ _ _ _ ?_
  try simp only [nrm_v]
  exact slices_Index_int_int_B1_r (s0 := s0) (v1 := v1) (v7 := v7) (v8 := v8) hX_s0 I HB (fun {s0 v1 v7 v8 a_s0 n_s0 c_s0 h} hX_s0 I H => hS _ H a_s0 n_s0 c_s0 _ hX_s0 I) k

def slices_Index_int_int (s0 : List Int) (v1 : Int) (Q : Int → Prop) : Prop :=
  slices_Index_int_int_L1 Q s0 v1 (s0.length : Int) (0 : Int)

theorem slices_Index_int_int_r {ρ : Ids} {h : Hp} {A : List At} {s0 : List Int} {v1 : Int} {a_s00 : Option Addr} {n_s00 c_s00 : Nat} {X_s0 : At} {Q' : Int → Prop} {Q : Int → Hp → Prop} (hX_s0 : Rd (rI .i64) X_s0 a_s00 n_s00 c_s00 s0) (I : Inv h (X_s0 :: A)) (H : slices_Index_int_int s0 v1 Q')
    (k : ∀ (r0 : Int) (h' : Hp), Inv h' (X_s0 :: A) → Q' r0 → Q r0 h') : Tx.slices_Index_int_int ρ ⟨a_s00, n_s00, c_s00⟩ v1 h Q := by
  obtain rfl := rd_len hX_s0 I
  unfold Tx.slices_Index_int_int
  unfold slices_Index_int_int at H
  exact slices_Index_int_int_L1_r (s0 := s0) (v1 := v1) (v7 := (s0.length : Int)) (v8 := (0 : Int)) hX_s0 I H k

def slices_Delete_int_int (s0 : List Int) (i1 j2 : Int) (Q : List Int → Prop) : Prop := deleteP s0 i1 j2 Q
theorem slices_Delete_int_int_r {ρ : Ids} {h : Hp} {A : List At} {s0 : List Int} {i1 j2 : Int} {a : Option Addr} {nl c : Nat} {Q' : List Int → Prop} {Q : Sl → Hp → Prop} (I : Inv h (ownS (rI .i64) a nl c s0 :: A)) (H : slices_Delete_int_int s0 i1 j2 Q')
    (k : ∀ (r : List Int) (ra : Option Addr) (rc : Nat) (h' : Hp), Inv h' (ownS (rI .i64) ra r.length rc r :: A) → Q' r → Q ⟨ra, r.length, rc⟩ h') : Tx.slices_Delete_int_int ρ ⟨a, nl, c⟩ i1 j2 h Q := by
  unfold Tx.slices_Delete_int_int
  exact delete_r (z0 := (0 : Int)) I (fun _ _ => rfl) (by decide) (by decide) H k

def lru_Cache_touch_K1 (Q : St Obj → Prop) (c0 : Option Addr) (item1 : Int) (σ : St Obj) : Prop :=
  nilW c0 fun p_19 =>
  at_lru_Cache σ p_19 fun x_21 =>
  (Bnd (x_21.order.length + ([item1]).length)) ∧
  Q (sset σ p_19 (.lru_Cache (⟨x_21.room, x_21.pages, (x_21.order ++ [item1])⟩ : lru_Cache)))

theorem lru_Cache_touch_K1_r {ρ : Ids} {h : Hp} {A : List At}  {c0 : Option Addr} {item1 : Int}  {σ : St Obj} {Q' : St Obj → Prop} {Q : Hp → Prop} (I : Inv h (hpA (obA ρ) σ :: A)) (H : lru_Cache_touch_K1 Q' c0 item1 σ)
    (k : ∀ (h' : Hp) (σ' : St Obj), Inv h' (hpA (obA ρ) σ' :: A) → Q' σ' → Q h') : Tx.lru_Cache_touch_K1 ρ Q c0 item1 h := by
  unfold Tx.lru_Cache_touch_K1
  unfold lru_Cache_touch_K1 at H
  refine nil_r H fun p_19 hp_20 H => ?_
  obtain ⟨x_21, hx_22, H⟩ := H
  obtain ⟨m2_23, o2_24, a3_25, c3_26, I⟩ := op_lru_Cache (I.take hx_22)
  refine ldS_r (I.cell 2 2 rfl) ?_
  refine al_r [.one (.int .i64 item1)] rfl I fun p_30 h I => ?_
  replace I := I.litN (rI .i64)
  replace I := I.repI (k := .i64) item1
  replace I := I.pull1.pull1
  replace I := I.litC
  replace I := I.pull1.pull1
  replace I := Inv.litL (l := [item1]) I rfl rfl
  refine ap_r rd_own I.pull3 rfl (by decide) (by decide) H.1 fun a_35 c_36 h I => ?_
  replace H := H.2
  replace I := I.pull1.drop1
  refine nil_e hp_20 ?_
  refine st_r I.pull1 2 2 rfl fun h (I : Inv h (blk p_19 (ρ.T 2) [.one (.int .i64 x_21.room), .one (.map m2_23), .one (.slice a_35 (x_21.order ++ [item1]).length c_36)] :: _)) => ?_
  replace I := I.pull3.pull2.pull3.pull3
  replace I := (cl_lru_Cache (⟨x_21.room, x_21.pages, (x_21.order ++ [item1])⟩ : lru_Cache) I).putB
  exact k _ (sset σ p_19 (.lru_Cache (⟨x_21.room, x_21.pages, (x_21.order ++ [item1])⟩ : lru_Cache))) I H

def lru_Cache_touch (c0 : Option Addr) (item1 : Int) (σ : St Obj) (Q : St Obj → Prop) : Prop :=
  nilW c0 fun p_2 =>
  at_lru_Cache σ p_2 fun x_4 =>
  slices_Index_int_int x_4.order item1 fun r_13 =>
  br (decide (r_13 ≥ (0 : Int)))
  (slices_Delete_int_int x_4.order r_13 (IntKind.wrap .i64 (r_13 + (1 : Int))) fun r_14 =>
  lru_Cache_touch_K1 Q c0 item1 (sset σ p_2 (.lru_Cache (⟨x_4.room, x_4.pages, r_14⟩ : lru_Cache))))
  (lru_Cache_touch_K1 Q c0 item1 σ)

theorem lru_Cache_touch_r {ρ : Ids} {h : Hp} {A : List At} {c0 : Option Addr} {item1 : Int}  {σ : St Obj} {Q' : St Obj → Prop} {Q : Hp → Prop} (I : Inv h (hpA (obA ρ) σ :: A)) (H : lru_Cache_touch c0 item1 σ Q')
    (k : ∀ (h' : Hp) (σ' : St Obj), Inv h' (hpA (obA ρ) σ' :: A) → Q' σ' → Q h') : Tx.lru_Cache_touch ρ c0 item1 h Q := by
  unfold Tx.lru_Cache_touch
  unfold lru_Cache_touch at H
  refine nil_r H fun p_2 hp_3 H => ?_
  obtain ⟨x_4, hx_5, H⟩ := H
  obtain ⟨m2_6, o2_7, a3_8, c3_9, I⟩ := op_lru_Cache (I.take hx_5)
  refine ldS_r (I.cell 2 2 rfl) ?_
  replace I := I.pull2
  refine slices_Index_int_int_r (s0 := x_4.order) (v1 := item1) rd_own I H fun r_13 h I H => ?_
  refine br_r H (fun hb H => ?_) (fun hb H => ?_)
  · refine nil_e hp_3 ?_
    refine ldS_r (I.pull1.cell 2 2 rfl) ?_
    refine slices_Delete_int_int_r (s0 := x_4.order) (i1 := r_13) (j2 := (IntKind.wrap .i64 (r_13 + (1 : Int)))) I H fun r_14 a_15 c_16 h I H => ?_
    refine nil_e hp_3 ?_
    refine st_r I.pull1 2 2 rfl fun h (I : Inv h (blk p_2 (ρ.T 2) [.one (.int .i64 x_4.room), .one (.map m2_6), .one (.slice a_15 r_14.length c_16)] :: _)) => ?_
    replace I := I.pull3.pull2.pull3.pull3
    replace I := (cl_lru_Cache (⟨x_4.room, x_4.pages, r_14⟩ : lru_Cache) I).putB
    exact lru_Cache_touch_K1_r (c0 := c0) (item1 := item1) (σ := (sset σ p_2 (.lru_Cache (⟨x_4.room, x_4.pages, r_14⟩ : lru_Cache)))) I H k
  · replace I := I.pull3.pull1.pull3.pull3
    replace I := (cl_lru_Cache x_4 I).putS hx_5
    exact lru_Cache_touch_K1_r (c0 := c0) (item1 := item1) (σ := σ) I H k

def lru_Cache_Has (c0 : Option Addr) (item1 : Int) (σ : St Obj) (Q : Bool → St Obj → Prop) : Prop :=
  lru_Cache_ok c0 σ fun r_2 σ_3 =>
  br (!r_2)
  (Q false σ_3)
  (nilW c0 fun p_4 =>
  at_lru_Cache σ_3 p_4 fun x_6 =>
  lkP x_6.pages item1 (⟨[], false⟩ : lru_held) fun y_15 ok_16 =>
  Q ok_16 σ_3)

theorem lru_Cache_Has_r {ρ : Ids} {h : Hp} {A : List At} {c0 : Option Addr} {item1 : Int}  {σ : St Obj} {Q' : Bool → St Obj → Prop} {Q : Bool → Hp → Prop} (I : Inv h (hpA (obA ρ) σ :: A)) (H : lru_Cache_Has c0 item1 σ Q')
    (k : ∀ (r0 : Bool) (h' : Hp) (σ' : St Obj), Inv h' (hpA (obA ρ) σ' :: A) → Q' r0 σ' → Q r0 h') : Tx.lru_Cache_Has ρ c0 item1 h Q := by
  unfold Tx.lru_Cache_Has
  unfold lru_Cache_Has at H
  refine lru_Cache_ok_r (c0 := c0) (σ := σ) I H fun r_2 h σ_3 I H => ?_
  refine br_r H (fun hb H => ?_) (fun hb H => ?_)
  · exact k false _ σ_3 I H
  · refine nil_r H fun p_4 hp_5 H => ?_
    obtain ⟨x_6, hx_7, H⟩ := H
    obtain ⟨m2_8, o2_9, a3_10, c3_11, I⟩ := op_lru_Cache (I.take hx_7)
    refine ldM_r (I.cell 1 1 rfl) ?_
    refine lklru_held (Kx := (kI .i64)) (key := item1) I.pull1 H fun f_18 a_19 c_20 y_15 ok_16 hf_17 I H => ?_
    refine al_r [.one (.slice none 0 0), .one (.bool false)] rfl I fun p_22 h I => ?_
    refine stA_r I 0 2 0 [.one (.slice a_19 y_15.page.length c_20), .one (.bool y_15.pinned)] rfl rfl rfl (all_one (by simp [segs, Seg.cells, allOne, allOne_append, allOne_lump, Value.oneCell'])) fun h (I : Inv h (blk p_22 (ρ.T 4) [.one (.slice a_19 y_15.page.length c_20), .one (.bool y_15.pinned)] :: _)) => ?_
    replace I := I.pull5.pull5.pull4.pull5
    replace I := (cl_lru_Cache x_6 I).putS hx_7
    replace I := I.pull1.drop1
    replace I := I.pull1.drop1
    exact k ok_16 _ σ_3 I H

def lru_Cache_Drop (c0 : Option Addr) (item1 : Int) (σ : St Obj) (Q : Bool → St Obj → Prop) : Prop :=
  lru_Cache_Has c0 item1 σ fun r_2 σ_3 =>
  br (!r_2)
  (Q false σ_3)
  (nilW c0 fun p_4 =>
  at_lru_Cache σ_3 p_4 fun x_6 =>
  dlP x_6.pages item1 fun L_15 =>
  slices_Index_int_int x_6.order item1 fun r_17 =>
  slices_Delete_int_int x_6.order r_17 (IntKind.wrap .i64 (r_17 + (1 : Int))) fun r_18 =>
  Q true (sset σ_3 p_4 (.lru_Cache (⟨x_6.room, L_15, r_18⟩ : lru_Cache))))

theorem lru_Cache_Drop_r {ρ : Ids} {h : Hp} {A : List At} {c0 : Option Addr} {item1 : Int}  {σ : St Obj} {Q' : Bool → St Obj → Prop} {Q : Bool → Hp → Prop} (I : Inv h (hpA (obA ρ) σ :: A)) (H : lru_Cache_Drop c0 item1 σ Q')
    (k : ∀ (r0 : Bool) (h' : Hp) (σ' : St Obj), Inv h' (hpA (obA ρ) σ' :: A) → Q' r0 σ' → Q r0 h') : Tx.lru_Cache_Drop ρ c0 item1 h Q := by
  unfold Tx.lru_Cache_Drop
  unfold lru_Cache_Drop at H
  refine lru_Cache_Has_r (c0 := c0) (item1 := item1) (σ := σ) I H fun r_2 h σ_3 I H => ?_
  refine br_r H (fun hb H => ?_) (fun hb H => ?_)
  · exact k false _ σ_3 I H
  · refine nil_r H fun p_4 hp_5 H => ?_
    obtain ⟨x_6, hx_7, H⟩ := H
    obtain ⟨m2_8, o2_9, a3_10, c3_11, I⟩ := op_lru_Cache (I.take hx_7)
    refine ldM_r (I.cell 1 1 rfl) ?_
    refine dl_r (Kx := (kI .i64)) (key := item1) I.pull1 H fun h o_16 L_15 I H => ?_
    refine nil_e hp_5 ?_
    refine ldS_r (I.pull1.cell 2 2 rfl) ?_
    replace I := I.pull2
    refine slices_Index_int_int_r (s0 := x_6.order) (v1 := item1) rd_own I H fun r_17 h I H => ?_
    refine nil_e hp_5 ?_
    refine ldS_r (I.pull2.cell 2 2 rfl) ?_
    refine slices_Delete_int_int_r (s0 := x_6.order) (i1 := r_17) (j2 := (IntKind.wrap .i64 (r_17 + (1 : Int)))) I H fun r_18 a_19 c_20 h I H => ?_
    refine nil_e hp_5 ?_
    refine st_r I.pull2 2 2 rfl fun h (I : Inv h (blk p_4 (ρ.T 2) [.one (.int .i64 x_6.room), .one (.map m2_8), .one (.slice a_19 r_18.length c_20)] :: _)) => ?_
    replace I := I.pull3.pull2.pull3.pull3
    replace I := (cl_lru_Cache (⟨x_6.room, L_15, r_18⟩ : lru_Cache) I).putB
    exact k true _ (sset σ_3 p_4 (.lru_Cache (⟨x_6.room, L_15, r_18⟩ : lru_Cache))) I H

def lru_Cache_fit_1 (item0 : Int) (v1_0 : Option Addr) (σ : St Obj) (Q : Bool → St Obj → Prop) : Prop :=
  nilW v1_0 fun p_3 =>
  at_lru_Cache σ p_3 fun x_5 =>
  lkP x_5.pages item0 (⟨[], false⟩ : lru_held) fun y_14 ok_15 =>
  Q (!y_14.pinned) σ

theorem lru_Cache_fit_1_r {ρ : Ids} {h : Hp} {A : List At} {item0 : Int} {v1_0 : Option Addr} {p_v1 : Addr} {σ : St Obj} {Q' : Bool → St Obj → Prop} {Q : Bool → Hp → Prop} (I : Inv h (blk p_v1 (ρ.T 3) [.one (.pointer v1_0)] :: hpA (obA ρ) σ :: A)) (H : lru_Cache_fit_1 item0 v1_0 σ Q')
    (k : ∀ (r0 : Bool) (h' : Hp) (σ' : St Obj), Inv h' (blk p_v1 (ρ.T 3) [.one (.pointer v1_0)] :: hpA (obA ρ) σ' :: A) → Q' r0 σ' → Q r0 h') : Tx.lru_Cache_fit_1 ρ item0 p_v1 h Q := by
  unfold Tx.lru_Cache_fit_1
  unfold lru_Cache_fit_1 at H
  refine ldP_r (I.cell 0 0 rfl) ?_
  refine nil_r H fun p_3 hp_4 H => ?_
  obtain ⟨x_5, hx_6, H⟩ := H
  obtain ⟨m2_7, o2_8, a3_9, c3_10, I⟩ := op_lru_Cache (I.pull1.take hx_6)
  refine ldM_r (I.cell 1 1 rfl) ?_
  refine lklru_held (Kx := (kI .i64)) (key := item0) I.pull1 H fun f_17 a_18 c_19 y_14 ok_15 hf_16 I H => ?_
  replace I := I.pull4.pull4.pull3.pull4
  replace I := (cl_lru_Cache x_5 I).putS hx_6
  replace I := I.pull1.drop1
  replace I := I.pull1
  exact k (!y_14.pinned) _ σ I H

def slices_IndexFunc_int_int_B1 {Z : Type} (φ : Int → Z → (Bool → Z → Prop) → Prop) (S1 : (List Int) → Int → Int → Z → Prop) (Q : Int → Z → Prop) (s0 : List Int) (v7 : Int) (v8 : Int) (z : Z) : Prop :=
  br (decide (v8 < v7))
  (ixP s0 v8 fun x_5 =>
  φ x_5 z fun y_10 z_11 =>
  br y_10
  (Q v8 z_11)
  (S1 s0 v7 (IntKind.wrap .i64 (v8 + (1 : Int))) z_11))
  (Q (-1 : Int) z)

def slices_IndexFunc_int_int_L1 {Z : Type} (φ : Int → Z → (Bool → Z → Prop) → Prop) (Q : Int → Z → Prop) (s0 : List Int) (v7 : Int) (v8 : Int) (z : Z) : Prop :=
  Lf (fun S (v : (List Int) × Int × Int × Z) => slices_IndexFunc_int_int_B1 φ (fun s0 v7 v8 z => S (s0, v7, v8, z)) Q v.1 v.2.1 v.2.2.1 v.2.2.2) (s0, v7, v8, z)

theorem slices_IndexFunc_int_int_L1_in {Z : Type} (φ : Int → Z → (Bool → Z → Prop) → Prop) (Q : Int → Z → Prop) (s0 : List Int) (v7 : Int) (v8 : Int) (z : Z) (H : slices_IndexFunc_int_int_B1 φ (slices_IndexFunc_int_int_L1 φ Q) Q s0 v7 v8 z) : slices_IndexFunc_int_int_L1 φ Q s0 v7 v8 z := Lf.fold H

theorem slices_IndexFunc_int_int_B1_r {ρ : Ids} {h : Hp} {A : List At} {Z : Type} {C : Z → At} {φ' : Int → Z → (Bool → Z → Prop) → Prop} {φ : Value → List Value → Hp → (Value → Hp → Prop) → Prop} {X_s0 : At} {f1 : Value} {s0 : List Int} {v7 : Int} {v8 : Int} {a_s0 : Option Addr} {n_s0 c_s0 : Nat} {z : Z} {Q' : Int → Z → Prop} {Q : Int → Hp → Prop} {S1' : (List Int) → Int → Int → Z → Prop} {S1 : Sl → Value → Int → Int → Hp → Prop} (hφ : ∀ {x0 : Int} {z : Z} {h : Hp} {A : List At} {K' : Bool → Z → Prop} {K : Bool → Hp → Prop}, Inv h (C z :: A) → φ' x0 z K' → (∀ (y : Bool) (h' : Hp) (z' : Z), Inv h' (C z' :: A) → K' y z' → K y h') → φ f1 [(.int .i64 x0)] h (fun v h' => isB v fun y => K y h')) (hX_s0 : Rd (rI .i64) X_s0 a_s0 n_s0 c_s0 s0) (I : Inv h (X_s0 :: C z :: A)) (H : slices_IndexFunc_int_int_B1 φ' S1' Q' s0 v7 v8 z) (kS1 : ∀ {s0 : List Int} {v7 : Int} {v8 : Int} {a_s0 : Option Addr} {n_s0 c_s0 : Nat} {z : Z} {h : Hp} (hX_s0 : Rd (rI .i64) X_s0 a_s0 n_s0 c_s0 s0), Inv h (X_s0 :: C z :: A) → S1' s0 v7 v8 z → S1 ⟨a_s0, n_s0, c_s0⟩ f1 v7 v8 h)
    (k : ∀ (r0 : Int) (h' : Hp) (z' : Z), Inv h' (X_s0 :: C z' :: A) → Q' r0 z' → Q r0 h') : Tx.slices_IndexFunc_int_int_B1 ρ φ S1 Q ⟨a_s0, n_s0, c_s0⟩ f1 v7 v8 h := by
  obtain rfl := rd_len hX_s0 I
  unfold Tx.slices_IndexFunc_int_int_B1
  unfold slices_IndexFunc_int_int_B1 at H
  refine br_r H (fun hb H => ?_) (fun hb H => ?_)
  · refine ixI_a hX_s0 I H fun p_6 x_5 he_7 hb_8 hc_9 H => ?_
    refine ldI_r hc_9 ?_
    replace I := I.pull1
    refine hφ (x0 := x_5) (z := z) I H fun y_10 h z_11 I H => ?_
    refine br_r H (fun hb H => ?_) (fun hb H => ?_)
    · replace I := I.pull1
      exact k v8 _ z_11 I H
    · replace I := I.pull1
      exact kS1 (s0 := s0) (v7 := v7) (v8 := (IntKind.wrap .i64 (v8 + (1 : Int)))) (z := z_11) hX_s0 I H
  · replace I := I.pull1.pull1
    exact k (-1 : Int) _ z I H

theorem slices_IndexFunc_int_int_L1_r {ρ : Ids} {h : Hp} {A : List At} {Z : Type} {C : Z → At} {φ' : Int → Z → (Bool → Z → Prop) → Prop} {φ : Value → List Value → Hp → (Value → Hp → Prop) → Prop} {X_s0 : At} {f1 : Value} {s0 : List Int} {v7 : Int} {v8 : Int} {a_s0 : Option Addr} {n_s0 c_s0 : Nat} {z : Z} {Q' : Int → Z → Prop} {Q : Int → Hp → Prop} (hφ : ∀ {x0 : Int} {z : Z} {h : Hp} {A : List At} {K' : Bool → Z → Prop} {K : Bool → Hp → Prop}, Inv h (C z :: A) → φ' x0 z K' → (∀ (y : Bool) (h' : Hp) (z' : Z), Inv h' (C z' :: A) → K' y z' → K y h') → φ f1 [(.int .i64 x0)] h (fun v h' => isB v fun y => K y h')) (hX_s0 : Rd (rI .i64) X_s0 a_s0 n_s0 c_s0 s0) (I : Inv h (X_s0 :: C z :: A)) (H : slices_IndexFunc_int_int_L1 φ' Q' s0 v7 v8 z)
    (k : ∀ (r0 : Int) (h' : Hp) (z' : Z), Inv h' (X_s0 :: C z' :: A) → Q' r0 z' → Q r0 h') : Tx.slices_IndexFunc_int_int_L1 ρ φ Q ⟨a_s0, n_s0, c_s0⟩ f1 v7 v8 h := by
  refine Lf.ind H (fun v => ∀ (a_s0 : Option Addr) (n_s0 c_s0 : Nat) (h : Hp) (hX_s0 : Rd (rI .i64) X_s0 a_s0 n_s0 c_s0 v.1), Inv h (X_s0 :: C v.2.2.2 :: A) → Tx.slices_IndexFunc_int_int_L1 ρ φ Q ⟨a_s0, n_s0, c_s0⟩ f1 v.2.1 v.2.2.1 h) ?_ _ _ _ _ hX_s0 I
  rintro ⟨s0, v7, v8, z⟩ S hS HB a_s0 n_s0 c_s0 h hX_s0 I
  refine Tx.slices_IndexFunc_int_int_L1_in _ _ _ _ _ _ _ _ ?_
  try simp only [nrm_v]
  exact slices_IndexFunc_int_int_B1_r (s0 := s0) (v7 := v7) (v8 := v8) (z := z) hφ hX_s0 I HB (fun {s0 v7 v8 a_s0 n_s0 c_s0 z h} hX_s0 I H => hS _ H a_s0 n_s0 c_s0 _ hX_s0 I) k

def slices_IndexFunc_int_int {Z : Type} (φ : Int → Z → (Bool → Z → Prop) → Prop) (s0 : List Int) (z : Z) (Q : Int → Z → Prop) : Prop :=
  slices_IndexFunc_int_int_L1 φ Q s0 (s0.length : Int) (0 : Int) z

theorem slices_IndexFunc_int_int_r {ρ : Ids} {h : Hp} {A : List At} {Z : Type} {C : Z → At} {φ' : Int → Z → (Bool → Z → Prop) → Prop} {φ : Value → List Value → Hp → (Value → Hp → Prop) → Prop} {s0 : List Int} {a_s00 : Option Addr} {n_s00 c_s00 : Nat} {X_s0 : At} {f1 : Value} {z : Z} {Q' : Int → Z → Prop} {Q : Int → Hp → Prop} (hφ : ∀ {x0 : Int} {z : Z} {h : Hp} {A : List At} {K' : Bool → Z → Prop} {K : Bool → Hp → Prop}, Inv h (C z :: A) → φ' x0 z K' → (∀ (y : Bool) (h' : Hp) (z' : Z), Inv h' (C z' :: A) → K' y z' → K y h') → φ f1 [(.int .i64 x0)] h (fun v h' => isB v fun y => K y h')) (hX_s0 : Rd (rI .i64) X_s0 a_s00 n_s00 c_s00 s0) (I : Inv h (X_s0 :: C z :: A)) (H : slices_IndexFunc_int_int φ' s0 z Q')
    (k : ∀ (r0 : Int) (h' : Hp) (z' : Z), Inv h' (X_s0 :: C z' :: A) → Q' r0 z' → Q r0 h') : Tx.slices_IndexFunc_int_int ρ φ ⟨a_s00, n_s00, c_s00⟩ f1 h Q := by
  obtain rfl := rd_len hX_s0 I
  unfold Tx.slices_IndexFunc_int_int
  unfold slices_IndexFunc_int_int at H
  replace I := I.pull1.pull1
  exact slices_IndexFunc_int_int_L1_r (s0 := s0) (v7 := (s0.length : Int)) (v8 := (0 : Int)) (z := z) hφ hX_s0 I H k

def lru_loose (x : lru_Cache) (k : Int) : Bool := !((lkO x.pages k).getD ⟨[], false⟩).pinned

def lru_Cache_fit (c0 : Option Addr) (σ : St Obj) (Q : Int → St Obj → Prop) : Prop :=
  nilW c0 fun p => at_lru_Cache σ p fun x =>
  Bnd x.order.length ∧
  br (decide ((x.order.countP (lru_loose x) : Int) ≤ x.room)) (Q (-1) σ)
    (∃ item, x.order.find? (lru_loose x) = some item ∧ lru_Cache_Drop (some p) item σ fun _ σ' => Q item σ')

abbrev fitA (ρ : Ids) (x : lru_Cache) (p pc : Addr) (m2 : Option Nat) (o2 : Option (Array MapEntry × Nat)) (a3 : Option Addr) (c3 : Nat) (A : List At) : List At :=
  ownS (rI .i64) a3 x.order.length c3 x.order :: blk pc (ρ.T 3) [.one (.pointer (some p))] :: blk p (ρ.T 2) [.one (.int .i64 x.room), .one (.map m2), .one (.slice a3 x.order.length c3)] :: mapX (kI .i64) R_lru_held true m2 o2 x.pages :: A

theorem fit_1_open {ρ : Ids} {h : Hp} {A : List At} {x : lru_Cache} {p pc : Addr} {m2 : Option Nat} {o2 : Option (Array MapEntry × Nat)} {a3 : Option Addr} {c3 : Nat} {item : Int} {Q : Bool → Hp → Prop}
    (I : Inv h (fitA ρ x p pc m2 o2 a3 c3 A)) (k : Q (lru_loose x item) h) : Tx.lru_Cache_fit_1 ρ item pc h Q := by
  unfold Tx.lru_Cache_fit_1
  refine ldP_r (I.pull1.cell 0 0 rfl) ?_
  rw [nilW_some]
  refine ldM_r (I.pull2.cell 1 1 rfl) ?_
  exact lklru_held (Kx := (kI .i64)) (key := item) (K' := fun y _ => y = (lkO x.pages item).getD ⟨[], false⟩) I.pull3 rfl fun f a c y ok hf I H => by
    subst H; exact k

theorem fit_phi {ρ : Ids} {h : Hp} {A : List At} {x : lru_Cache} {p pc : Addr} {m2 : Option Nat} {o2 : Option (Array MapEntry × Nat)} {a3 : Option Addr} {c3 : Nat} {item : Int} {K : Value → Hp → Prop}
    (I : Inv h (fitA ρ x p pc m2 o2 a3 c3 A)) (k : K (.bool (lru_loose x item)) h) : phi [(ρ.G 12, Tx.lru_Cache_fit_1_S ρ)] (.func (.func (ρ.G 12)) #[] #[(.pointer (some pc))]) [.int .i64 item] h K := by
  refine phi_one (caps := [_]) ?_
  unfold Tx.lru_Cache_fit_1_S
  dsimp only [List.cons_append, List.nil_append, tI, tA, tN, cnd, sameKind]
  exact fit_1_open I k

theorem fit_idx {ρ : Ids} {h : Hp} {A : List At} {x : lru_Cache} {p pc : Addr} {m2 : Option Nat} {o2 : Option (Array MapEntry × Nat)} {a3 : Option Addr} {c3 : Nat} {Q : Int → Hp → Prop}
    (I : Inv h (fitA ρ x p pc m2 o2 a3 c3 A)) (hB : Bnd x.order.length) : ∀ (rest acc : List Int), x.order = acc ++ rest → ∀ item, rest.find? (lru_loose x) = some item → (∀ r : Nat, x.order[r]? = some item → Q r h) →
    Tx.slices_IndexFunc_int_int_L1 ρ (phi [(ρ.G 12, Tx.lru_Cache_fit_1_S ρ)]) Q ⟨a3, x.order.length, c3⟩ (.func (.func (ρ.G 12)) #[] #[(.pointer (some pc))]) (x.order.length : Int) (acc.length : Int) h := by
  unfold Bnd at hB
  intro rest
  induction rest with
  | nil => intro acc _ item hf; cases hf
  | cons y rest ih =>
    intro acc e item hf k
    refine Tx.slices_IndexFunc_int_int_L1_in _ _ _ _ _ _ _ _ ?_
    unfold Tx.slices_IndexFunc_int_int_B1
    have hl : x.order.length = acc.length + (rest.length + 1) := by rw [e]; simp
    have e1 : decide ((acc.length : Int) < (x.order.length : Int)) = true := by rw [decide_eq_true_iff]; omega
    have hy : x.order[acc.length]? = some y := by rw [e, List.getElem?_append_right (by omega)]; simp
    rw [e1, br_true]
    refine ixI_a (K' := fun z => z = y) rd_own I ⟨by omega, y, by rw [Int.toNat_natCast]; exact hy, rfl⟩ fun q z he hb hc e2 => ?_
    subst e2
    refine ldI_r hc ?_
    refine fit_phi I ?_
    refine ⟨_, rfl, ?_⟩
    show br (lru_loose x z) _ _
    rw [List.find?_cons] at hf
    cases hb : lru_loose x z with
    | true =>
      rw [hb] at hf
      cases hf
      rw [br_true]
      exact k _ hy
    | false =>
      rw [hb] at hf
      rw [br_false, wrap64 (by omega) (by omega)]
      have := ih (acc ++ [z]) (by rw [e]; simp) item hf k
      simpa using this

theorem fit_loop {ρ : Ids} {h : Hp} {A : List At} {x : lru_Cache} {p pc : Addr} {m2 : Option Nat} {o2 : Option (Array MapEntry × Nat)} {a3 : Option Addr} {c3 : Nat} {Q : Int → Hp → Prop}
    (I : Inv h (fitA ρ x p pc m2 o2 a3 c3 A)) (hB : Bnd x.order.length) : ∀ (rest acc : List Int), x.order = acc ++ rest →
    (∀ S, Tx.lru_Cache_fit_B1 ρ S Q pc pc ((x.order.countP (lru_loose x) : Nat) : Int) ⟨a3, x.order.length, c3⟩ (x.order.length : Int) (x.order.length : Int) h) →
    Tx.lru_Cache_fit_L1 ρ Q pc pc ((acc.countP (lru_loose x) : Nat) : Int) ⟨a3, x.order.length, c3⟩ (x.order.length : Int) (acc.length : Int) h := by
  unfold Bnd at hB
  intro rest
  induction rest with
  | nil =>
    intro acc e k
    have e' : x.order = acc := by simpa using e
    refine Tx.lru_Cache_fit_L1_in _ _ _ _ _ _ _ _ _ ?_
    have := k (Tx.lru_Cache_fit_L1 ρ Q)
    rw [e'] at this ⊢
    exact this
  | cons y rest ih =>
    intro acc e k
    refine Tx.lru_Cache_fit_L1_in _ _ _ _ _ _ _ _ _ ?_
    unfold Tx.lru_Cache_fit_B1
    have hl : x.order.length = acc.length + (rest.length + 1) := by rw [e]; simp
    have e1 : decide ((acc.length : Int) < (x.order.length : Int)) = true := by rw [decide_eq_true_iff]; omega
    have hy : x.order[acc.length]? = some y := by rw [e, List.getElem?_append_right (by omega)]; simp
    rw [e1, br_true]
    refine ixI_a (K' := fun z => z = y) rd_own I ⟨by omega, y, by rw [Int.toNat_natCast]; exact hy, rfl⟩ fun q z he hb hc e2 => ?_
    subst e2
    refine ldI_r hc ?_
    refine fit_1_open I ?_
    refine ⟨_, rfl, ?_⟩
    show br (lru_loose x z) _ _
    have hc := List.countP_le_length (p := lru_loose x) (l := acc)
    have := ih (acc ++ [z]) (by rw [e]; simp) k
    unfold Tx.lru_Cache_fit_K2
    rw [wrap64 (n := (acc.length : Int) + 1) (by omega) (by omega)]
    cases hb : lru_loose x z with
    | true =>
      rw [br_true, wrap64 (by omega) (by omega)]
      simpa [hb] using this
    | false =>
      rw [br_false]
      simpa [hb] using this

theorem lru_Cache_fit_r {ρ : Ids} {h : Hp} {A : List At} {c0 : Option Addr} {σ : St Obj} {Q' : Int → St Obj → Prop} {Q : Int → Hp → Prop} (I : Inv h (hpA (obA ρ) σ :: A)) (H : lru_Cache_fit c0 σ Q')
    (k : ∀ (r0 : Int) (h' : Hp) (σ' : St Obj), Inv h' (hpA (obA ρ) σ' :: A) → Q' r0 σ' → Q r0 h') : Tx.lru_Cache_fit ρ c0 h Q := by
  unfold Tx.lru_Cache_fit
  unfold lru_Cache_fit at H
  refine al_r [.one (.pointer c0)] rfl I fun pc h I => ?_
  refine ldP_r (I.cell 0 0 rfl) ?_
  replace I := I.pull1
  refine nil_r H fun p hp H => ?_
  subst hp
  obtain ⟨x, hx, hB, H⟩ := H
  obtain ⟨m2, o2, a3, c3, I⟩ := op_lru_Cache (I.take hx)
  refine ldS_r (I.cell 2 2 rfl) ?_
  replace I : Inv h (fitA ρ x p pc m2 o2 a3 c3 (hpA (obA ρ) (sdel σ p) :: A)) := I.pull4.pull3
  refine fit_loop I hB x.order [] rfl fun S => ?_
  unfold Tx.lru_Cache_fit_B1
  have e1 : decide ((x.order.length : Int) < (x.order.length : Int)) = false := by rw [decide_eq_false_iff_not]; omega
  rw [e1, br_false]
  refine ldP_r (I.pull1.cell 0 0 rfl) ?_
  rw [nilW_some]
  refine ldI_r (I.pull2.cell 0 0 rfl) ?_
  refine br_r H (fun hb H => ?_) (fun hb H => ?_)
  · replace I := I.pull1.drop1
    replace I := (cl_lru_Cache x I.pull2.pull2).putS hx
    exact k (-1) _ σ I H
  · obtain ⟨item, hf, H⟩ := H
    refine ldP_r (I.pull1.cell 0 0 rfl) ?_
    rw [nilW_some]
    refine ldS_r (I.pull2.cell 2 2 rfl) ?_
    refine ldP_r (I.pull1.cell 0 0 rfl) ?_
    rw [nilW_some]
    refine ldS_r (I.pull2.cell 2 2 rfl) ?_
    unfold Tx.slices_IndexFunc_int_int
    refine fit_idx I hB x.order [] rfl item hf fun r hr => ?_
    refine ⟨I.pull2.cell 2 2 rfl, I.pull1.cell 0 0 rfl, ?_⟩
    refine ixI_a (K' := fun z => z = item) rd_own I ⟨by omega, item, by rw [Int.toNat_natCast]; exact hr, rfl⟩ fun q z he hb hc e2 => ?_
    subst e2
    refine ldI_r hc ?_
    refine ldP_r (I.pull1.cell 0 0 rfl) ?_
    replace I := I.pull1.drop1
    replace I := (cl_lru_Cache x I.pull2.pull2).putS hx
    refine lru_Cache_Drop_r (c0 := some p) (item1 := z) (σ := σ) I H fun b h σ' I H => ?_
    exact k z _ σ' I H

def lru_Cache_Put (c0 : Option Addr) (item1 : Int) (page2 : List Int) (σ : St Obj) (Q : Int → Int → St Obj → Prop) : Prop :=
  lru_Cache_ok c0 σ fun r_3 σ_4 =>
  br (!r_3)
  (Q (-1 : Int) (2 : Int) σ_4)
  (lru_isItem item1 fun r_5 =>
  br (!r_5)
  (Q (-1 : Int) (1 : Int) σ_4)
  (nilW c0 fun p_6 =>
  at_lru_Cache σ_4 p_6 fun x_8 =>
  lkP x_8.pages item1 (⟨[], false⟩ : lru_held) fun y_17 ok_18 =>
  bytes_Clone page2 fun r_24 =>
  muP x_8.pages item1 (⟨r_24, y_17.pinned⟩ : lru_held) fun L_30 =>
  lru_Cache_touch c0 item1 (sset σ_4 p_6 (.lru_Cache (⟨x_8.room, L_30, x_8.order⟩ : lru_Cache))) fun σ_32 =>
  lru_Cache_fit c0 σ_32 fun r_33 σ_34 =>
  Q r_33 (0 : Int) σ_34))

theorem lru_Cache_Put_r {ρ : Ids} {h : Hp} {A : List At} {c0 : Option Addr} {item1 : Int} {page2 : List Int} {a_page20 : Option Addr} {n_page20 c_page20 : Nat} {X_page2 : At} {σ : St Obj} {Q' : Int → Int → St Obj → Prop} {Q : Int → Int → Hp → Prop} (hX_page2 : Rd (rI .u8) X_page2 a_page20 n_page20 c_page20 page2) (I : Inv h (X_page2 :: hpA (obA ρ) σ :: A)) (H : lru_Cache_Put c0 item1 page2 σ Q')
    (k : ∀ (r0 : Int) (r1 : Int) (h' : Hp) (σ' : St Obj), Inv h' (X_page2 :: hpA (obA ρ) σ' :: A) → Q' r0 r1 σ' → Q r0 r1 h') : Tx.lru_Cache_Put ρ c0 item1 ⟨a_page20, n_page20, c_page20⟩ h Q := by
  obtain rfl := rd_len hX_page2 I
  unfold Tx.lru_Cache_Put
  unfold lru_Cache_Put at H
  replace I := I.pull1
  refine lru_Cache_ok_r (c0 := c0) (σ := σ) I H fun r_3 h σ_4 I H => ?_
  refine br_r H (fun hb H => ?_) (fun hb H => ?_)
  · replace I := I.pull1
    exact k (-1 : Int) (2 : Int) _ σ_4 I H
  · refine lru_isItem_r (n0 := item1) I H fun r_5 h I H => ?_
    refine br_r H (fun hb H => ?_) (fun hb H => ?_)
    · replace I := I.pull1
      exact k (-1 : Int) (1 : Int) _ σ_4 I H
    · refine nil_r H fun p_6 hp_7 H => ?_
      obtain ⟨x_8, hx_9, H⟩ := H
      obtain ⟨m2_10, o2_11, a3_12, c3_13, I⟩ := op_lru_Cache (I.take hx_9)
      refine ldM_r (I.cell 1 1 rfl) ?_
      refine nil_e hp_7 ?_
      refine ldM_r (I.cell 1 1 rfl) ?_
      refine lklru_held (Kx := (kI .i64)) (key := item1) I.pull1 H fun f_20 a_21 c_22 y_17 ok_18 hf_19 I H => ?_
      replace I := I.pull5
      refine bytes_Clone_r (s0 := page2) hX_page2 I H fun r_24 a_25 c_26 h I H => ?_
      refine ⟨(hf_19 I.pull3), ?_⟩
      refine ⟨I.pull4.cell 1 1 rfl, ?_⟩
      refine ⟨I.pull4.cell 1 1 rfl, ?_⟩
      replace I := I.freeze
      replace I := I.dupR
      replace I := mlru_held (⟨r_24, y_17.pinned⟩ : lru_held) I
      replace I := I.pull4.pull1
      refine mu_r (Kx := (kI .i64)) (key := item1) (x := (⟨r_24, y_17.pinned⟩ : lru_held)) I rfl H fun h o_31 L_30 I H => ?_
      replace I := I.pull6.pull6.pull2.pull6
      replace I := (cl_lru_Cache (⟨x_8.room, L_30, x_8.order⟩ : lru_Cache) I).putB
      refine lru_Cache_touch_r (c0 := c0) (item1 := item1) (σ := (sset σ_4 p_6 (.lru_Cache (⟨x_8.room, L_30, x_8.order⟩ : lru_Cache)))) I H fun h σ_32 I H => ?_
      refine lru_Cache_fit_r (c0 := c0) (σ := σ_32) I H fun r_33 h σ_34 I H => ?_
      replace I := I.pull1.drop1
      replace I := I.pull2.drop1
      replace I := I.pull1
      exact k r_33 (0 : Int) _ σ_34 I H

def slices_Clone_int_int (s0 : List Int) (Q : List Int → Prop) : Prop := cloneP s0 Q
theorem slices_Clone_int_int_r {ρ : Ids} {h : Hp} {A : List At} {s0 : List Int} {a : Option Addr} {nl c : Nat} {X : At} {Q' : List Int → Prop} {Q : Sl → Hp → Prop} (hX : Rd (rI .i64) X a nl c s0) (I : Inv h (X :: A)) (H : slices_Clone_int_int s0 Q')
    (k : ∀ (r : List Int) (ra : Option Addr) (rc : Nat) (h' : Hp), Inv h' (ownS (rI .i64) ra r.length rc r :: X :: A) → Q' r → Q ⟨ra, r.length, rc⟩ h') : Tx.slices_Clone_int_int ρ ⟨a, nl, c⟩ h Q := by
  unfold Tx.slices_Clone_int_int
  exact clone_r hX I (by decide) rfl (by decide) (by decide) H k

def slices_Reverse_int_int_B1 (S1 : (List Int) → Int → Int → Prop) (Q : (List Int) → Prop) (s0_m : List Int) (i2 : Int) (j3 : Int) : Prop :=
  br (decide (i2 < j3))
  (ixP s0_m j3 fun x_3 =>
  ixP s0_m i2 fun x_8 =>
  ixP s0_m i2 fun x_13 =>
  ixP (s0_m.set (Int.toNat i2) x_3) j3 fun x_19 =>
  S1 ((s0_m.set (Int.toNat i2) x_3).set (Int.toNat j3) x_8) (IntKind.wrap .i64 (i2 + (1 : Int))) (IntKind.wrap .i64 (j3 - (1 : Int))))
  (Q s0_m)

def slices_Reverse_int_int_L1 (Q : (List Int) → Prop) (s0_m : List Int) (i2 : Int) (j3 : Int) : Prop :=
  Lf (fun S (v : (List Int) × Int × Int) => slices_Reverse_int_int_B1 (fun s0_m i2 j3 => S (s0_m, i2, j3)) Q v.1 v.2.1 v.2.2) (s0_m, i2, j3)

theorem slices_Reverse_int_int_L1_in (Q : (List Int) → Prop) (s0_m : List Int) (i2 : Int) (j3 : Int) (H : slices_Reverse_int_int_B1 (slices_Reverse_int_int_L1 Q) Q s0_m i2 j3) : slices_Reverse_int_int_L1 Q s0_m i2 j3 := Lf.fold H

theorem slices_Reverse_int_int_B1_r {ρ : Ids} {h : Hp} {A : List At} {a_s00 : Option Addr} {n_s00 c_s00 : Nat} {s0_m : List Int} {i2 : Int} {j3 : Int}  {Q' : (List Int) → Prop} {Q : Hp → Prop} {S1' : (List Int) → Int → Int → Prop} {S1 : Sl → Int → Int → Hp → Prop} (I : Inv h (ownS (rI .i64) a_s00 n_s00 c_s00 s0_m :: A)) (H : slices_Reverse_int_int_B1 S1' Q' s0_m i2 j3) (kS1 : ∀ {s0_m : List Int} {i2 : Int} {j3 : Int}  {h : Hp}, Inv h (ownS (rI .i64) a_s00 n_s00 c_s00 s0_m :: A) → S1' s0_m i2 j3 → S1 ⟨a_s00, n_s00, c_s00⟩ i2 j3 h)
    (k : ∀ (s0_r : List Int) (h' : Hp), Inv h' (ownS (rI .i64) a_s00 n_s00 c_s00 s0_r :: A) → Q' s0_r → Q h') : Tx.slices_Reverse_int_int_B1 ρ S1 Q ⟨a_s00, n_s00, c_s00⟩ i2 j3 h := by
  obtain rfl := own_len I
  unfold Tx.slices_Reverse_int_int_B1
  unfold slices_Reverse_int_int_B1 at H
  refine br_r H (fun hb H => ?_) (fun hb H => ?_)
  · refine ixI_a rd_own I H fun p_4 x_3 he_5 hb_6 hc_7 H => ?_
    refine ldI_r hc_7 ?_
    refine ixI_a rd_own I H fun p_9 x_8 he_10 hb_11 hc_12 H => ?_
    refine ldI_r hc_12 ?_
    refine ixI_a rd_own I H fun p_14 x_13 he_15 hb_16 hc_17 H => ?_
    replace I := I.repI (k := .i64) x_3
    replace I := I.pull1.pull1
    refine st1_r (x := x_3) I he_15 hb_16 fun h I => ?_
    refine ixI_a rd_own I H fun p_20 x_19 he_21 hb_22 hc_23 H => ?_
    replace I := I.repI (k := .i64) x_8
    replace I := I.pull1.pull1
    refine st1_r (x := x_8) I he_21 hb_22 fun h I => ?_
    exact kS1 (s0_m := ((s0_m.set (Int.toNat i2) x_3).set (Int.toNat j3) x_8)) (i2 := (IntKind.wrap .i64 (i2 + (1 : Int)))) (j3 := (IntKind.wrap .i64 (j3 - (1 : Int)))) I H
  · exact k s0_m _ I H

theorem slices_Reverse_int_int_L1_r {ρ : Ids} {h : Hp} {A : List At} {a_s00 : Option Addr} {n_s00 c_s00 : Nat} {s0_m : List Int} {i2 : Int} {j3 : Int}  {Q' : (List Int) → Prop} {Q : Hp → Prop} (I : Inv h (ownS (rI .i64) a_s00 n_s00 c_s00 s0_m :: A)) (H : slices_Reverse_int_int_L1 Q' s0_m i2 j3)
    (k : ∀ (s0_r : List Int) (h' : Hp), Inv h' (ownS (rI .i64) a_s00 n_s00 c_s00 s0_r :: A) → Q' s0_r → Q h') : Tx.slices_Reverse_int_int_L1 ρ Q ⟨a_s00, n_s00, c_s00⟩ i2 j3 h := by
  refine Lf.ind H (fun v => ∀  (h : Hp), Inv h (ownS (rI .i64) a_s00 n_s00 c_s00 v.1 :: A) → Tx.slices_Reverse_int_int_L1 ρ Q ⟨a_s00, n_s00, c_s00⟩ v.2.1 v.2.2 h) ?_  _  I
  rintro ⟨s0_m, i2, j3⟩ S hS HB  h I
  refine Tx.slices_Reverse_int_int_L1_in _ _ _ _ _ _ ?_
  try simp only [nrm_v]
  exact slices_Reverse_int_int_B1_r (s0_m := s0_m) (i2 := i2) (j3 := j3) I HB (fun {s0_m i2 j3 h} I H => hS _ H  _ I) k

def slices_Reverse_int_int (s0 : List Int) (Q : (List Int) → Prop) : Prop :=
  slices_Reverse_int_int_L1 Q s0 (0 : Int) (IntKind.wrap .i64 ((s0.length : Int) - (1 : Int)))

theorem slices_Reverse_int_int_r {ρ : Ids} {h : Hp} {A : List At} {s0 : List Int} {a_s00 : Option Addr} {n_s00 c_s00 : Nat} {Q' : (List Int) → Prop} {Q : Hp → Prop} (I : Inv h (ownS (rI .i64) a_s00 n_s00 c_s00 s0 :: A)) (H : slices_Reverse_int_int s0 Q')
    (k : ∀ (s0_r : List Int) (h' : Hp), Inv h' (ownS (rI .i64) a_s00 n_s00 c_s00 s0_r :: A) → Q' s0_r → Q h') : Tx.slices_Reverse_int_int ρ ⟨a_s00, n_s00, c_s00⟩ h Q := by
  obtain rfl := own_len I
  unfold Tx.slices_Reverse_int_int
  unfold slices_Reverse_int_int at H
  exact slices_Reverse_int_int_L1_r (s0_m := s0) (i2 := (0 : Int)) (j3 := (IntKind.wrap .i64 ((s0.length : Int) - (1 : Int)))) I H k

def lru_Cache_Order (c0 : Option Addr) (σ : St Obj) (Q : (List Int) → St Obj → Prop) : Prop :=
  lru_Cache_ok c0 σ fun r_2 σ_3 =>
  br (!r_2)
  (Q ([] : List Int) σ_3)
  (nilW c0 fun p_5 =>
  at_lru_Cache σ_3 p_5 fun x_7 =>
  slices_Clone_int_int x_7.order fun r_16 =>
  slices_Reverse_int_int r_16 fun l_20 =>
  Q l_20 σ_3)

theorem lru_Cache_Order_r {ρ : Ids} {h : Hp} {A : List At} {c0 : Option Addr}  {σ : St Obj} {Q' : (List Int) → St Obj → Prop} {Q : Sl → Hp → Prop} (I : Inv h (hpA (obA ρ) σ :: A)) (H : lru_Cache_Order c0 σ Q')
    (k : ∀ (r0 : List Int) (ra0 : Option Addr) (rc0 : Nat) (h' : Hp) (σ' : St Obj), Inv h' (ownS (rI .i64) ra0 r0.length rc0 r0 :: hpA (obA ρ) σ' :: A) → Q' r0 σ' → Q ⟨ra0, r0.length, rc0⟩ h') : Tx.lru_Cache_Order ρ c0 h Q := by
  unfold Tx.lru_Cache_Order
  unfold lru_Cache_Order at H
  refine lru_Cache_ok_r (c0 := c0) (σ := σ) I H fun r_2 h σ_3 I H => ?_
  refine br_r H (fun hb H => ?_) (fun hb H => ?_)
  · replace I := I.nilO (rI .i64)
    replace I := I.pull1.pull1
    exact k ([] : List Int) none 0 _ σ_3 I H
  · refine nil_r H fun p_5 hp_6 H => ?_
    obtain ⟨x_7, hx_8, H⟩ := H
    obtain ⟨m2_9, o2_10, a3_11, c3_12, I⟩ := op_lru_Cache (I.take hx_8)
    refine ldS_r (I.cell 2 2 rfl) ?_
    replace I := I.pull2
    refine slices_Clone_int_int_r (s0 := x_7.order) rd_own I H fun r_16 a_17 c_18 h I H => ?_
    refine slices_Reverse_int_int_r (s0 := r_16) I H fun l_20 h I H => ?_
    replace I := I.pull4.pull2.pull4.pull4
    replace I := (cl_lru_Cache x_7 I).putS hx_8
    have en := own_len I.pull1
    rw [en] at I ⊢
    clear en
    replace I := I.pull1
    exact k l_20 a_17 c_18 _ σ_3 I H

def lru_Cache_Len (c0 : Option Addr) (σ : St Obj) (Q : Int → St Obj → Prop) : Prop :=
  lru_Cache_Order c0 σ fun r_2 σ_6 =>
  Q (r_2.length : Int) σ_6

theorem lru_Cache_Len_r {ρ : Ids} {h : Hp} {A : List At} {c0 : Option Addr}  {σ : St Obj} {Q' : Int → St Obj → Prop} {Q : Int → Hp → Prop} (I : Inv h (hpA (obA ρ) σ :: A)) (H : lru_Cache_Len c0 σ Q')
    (k : ∀ (r0 : Int) (h' : Hp) (σ' : St Obj), Inv h' (hpA (obA ρ) σ' :: A) → Q' r0 σ' → Q r0 h') : Tx.lru_Cache_Len ρ c0 h Q := by
  unfold Tx.lru_Cache_Len
  unfold lru_Cache_Len at H
  refine lru_Cache_Order_r (c0 := c0) (σ := σ) I H fun r_2 a_3 c_4 h σ_6 I H => ?_
  replace I := I.drop1
  exact k (r_2.length : Int) _ σ_6 I H

def lru_Cache_Pin (c0 : Option Addr) (item1 : Int) (page2 : List Int) (σ : St Obj) (Q : Int → St Obj → Prop) : Prop :=
  lru_Cache_ok c0 σ fun r_3 σ_4 =>
  br (!r_3)
  (Q (2 : Int) σ_4)
  (lru_isItem item1 fun r_5 =>
  br (!r_5)
  (Q (1 : Int) σ_4)
  (nilW c0 fun p_6 =>
  at_lru_Cache σ_4 p_6 fun x_8 =>
  bytes_Clone page2 fun r_17 =>
  muP x_8.pages item1 (⟨r_17, true⟩ : lru_held) fun L_23 =>
  lru_Cache_touch c0 item1 (sset σ_4 p_6 (.lru_Cache (⟨x_8.room, L_23, x_8.order⟩ : lru_Cache))) fun σ_25 =>
  Q (0 : Int) σ_25))

theorem lru_Cache_Pin_r {ρ : Ids} {h : Hp} {A : List At} {c0 : Option Addr} {item1 : Int} {page2 : List Int} {a_page20 : Option Addr} {n_page20 c_page20 : Nat} {X_page2 : At} {σ : St Obj} {Q' : Int → St Obj → Prop} {Q : Int → Hp → Prop} (hX_page2 : Rd (rI .u8) X_page2 a_page20 n_page20 c_page20 page2) (I : Inv h (X_page2 :: hpA (obA ρ) σ :: A)) (H : lru_Cache_Pin c0 item1 page2 σ Q')
    (k : ∀ (r0 : Int) (h' : Hp) (σ' : St Obj), Inv h' (X_page2 :: hpA (obA ρ) σ' :: A) → Q' r0 σ' → Q r0 h') : Tx.lru_Cache_Pin ρ c0 item1 ⟨a_page20, n_page20, c_page20⟩ h Q := by
  obtain rfl := rd_len hX_page2 I
  unfold Tx.lru_Cache_Pin
  unfold lru_Cache_Pin at H
  replace I := I.pull1
  refine lru_Cache_ok_r (c0 := c0) (σ := σ) I H fun r_3 h σ_4 I H => ?_
  refine br_r H (fun hb H => ?_) (fun hb H => ?_)
  · replace I := I.pull1
    exact k (2 : Int) _ σ_4 I H
  · refine lru_isItem_r (n0 := item1) I H fun r_5 h I H => ?_
    refine br_r H (fun hb H => ?_) (fun hb H => ?_)
    · replace I := I.pull1
      exact k (1 : Int) _ σ_4 I H
    · refine nil_r H fun p_6 hp_7 H => ?_
      obtain ⟨x_8, hx_9, H⟩ := H
      obtain ⟨m2_10, o2_11, a3_12, c3_13, I⟩ := op_lru_Cache (I.take hx_9)
      refine ldM_r (I.cell 1 1 rfl) ?_
      replace I := I.pull4
      refine bytes_Clone_r (s0 := page2) hX_page2 I H fun r_17 a_18 c_19 h I H => ?_
      refine ⟨I.pull2.cell 1 1 rfl, ?_⟩
      replace I := I.freeze
      replace I := I.dupR
      replace I := mlru_held (⟨r_17, true⟩ : lru_held) I
      replace I := I.pull4.pull1
      refine mu_r (Kx := (kI .i64)) (key := item1) (x := (⟨r_17, true⟩ : lru_held)) I rfl H fun h o_24 L_23 I H => ?_
      replace I := I.pull5.pull5.pull2.pull5
      replace I := (cl_lru_Cache (⟨x_8.room, L_23, x_8.order⟩ : lru_Cache) I).putB
      refine lru_Cache_touch_r (c0 := c0) (item1 := item1) (σ := (sset σ_4 p_6 (.lru_Cache (⟨x_8.room, L_23, x_8.order⟩ : lru_Cache)))) I H fun h σ_25 I H => ?_
      replace I := I.pull1.drop1
      replace I := I.pull1
      exact k (0 : Int) _ σ_25 I H

def carlinglaw15_alive_K1 (Q : Bool → St Obj → Prop) (c1 : Option Addr) (v18 : Bool) (σ : St Obj) : Prop :=
  br v18
  (Q false σ)
  (lru_Cache_Put c1 (1 : Int) ([(5 : Int)]) σ fun r_11 r_12 σ_13 =>
  lru_Cache_Put c1 (2 : Int) ([] : List Int) σ_13 fun r_15 r_16 σ_17 =>
  lru_Cache_Pin c1 (3 : Int) ([] : List Int) σ_17 fun r_19 σ_20 =>
  lru_Cache_Order c1 σ_20 fun r_21 σ_25 =>
  br (r_11 == (-1 : Int))
  (br (r_15 == (1 : Int))
  (br (r_19 == (0 : Int))
  (br ((r_21.length : Int) == (2 : Int))
  (ixP r_21 (0 : Int) fun x_26 =>
  br (x_26 == (3 : Int))
  (ixP r_21 (1 : Int) fun x_31 =>
  br (x_31 == (2 : Int))
  (lru_Cache_Has c1 (1 : Int) σ_25 fun r_36 σ_37 =>
  Q (!r_36) σ_37)
  (Q false σ_25))
  (Q false σ_25))
  (Q false σ_25))
  (Q false σ_25))
  (Q false σ_25))
  (Q false σ_25))

theorem carlinglaw15_alive_K1_r {ρ : Ids} {h : Hp} {A : List At}  {c1 : Option Addr} {v18 : Bool}  {σ : St Obj} {Q' : Bool → St Obj → Prop} {Q : Bool → Hp → Prop} (I : Inv h (hpA (obA ρ) σ :: A)) (H : carlinglaw15_alive_K1 Q' c1 v18 σ)
    (k : ∀ (r0 : Bool) (h' : Hp) (σ' : St Obj), Inv h' (hpA (obA ρ) σ' :: A) → Q' r0 σ' → Q r0 h') : Tx.carlinglaw15_alive_K1 ρ Q c1 v18 h := by
  unfold Tx.carlinglaw15_alive_K1
  unfold carlinglaw15_alive_K1 at H
  refine br_r H (fun hb H => ?_) (fun hb H => ?_)
  · exact k false _ σ I H
  · refine al_r [.one (.int .u8 (5 : Int))] rfl I fun p_6 h I => ?_
    replace I := I.litN (rI .u8)
    replace I := I.repI (k := .u8) (5 : Int)
    replace I := I.pull1.pull1
    replace I := I.litC
    replace I := I.pull1.pull1
    replace I := Inv.litL (l := [(5 : Int)]) I rfl rfl
    replace I := I.pull1.pull1
    refine lru_Cache_Put_r (c0 := c1) (item1 := (1 : Int)) (page2 := [(5 : Int)]) (σ := σ) rd_own I H fun r_11 r_12 h σ_13 I H => ?_
    replace I := I.nilR (rI .u8)
    replace I := I.pull2.pull1
    refine lru_Cache_Put_r (c0 := c1) (item1 := (2 : Int)) (page2 := ([] : List Int)) (σ := σ_13) rd_ro I H fun r_15 r_16 h σ_17 I H => ?_
    replace I := I.nilR (rI .u8)
    replace I := I.pull2.pull1
    refine lru_Cache_Pin_r (c0 := c1) (item1 := (3 : Int)) (page2 := ([] : List Int)) (σ := σ_17) rd_ro I H fun r_19 h σ_20 I H => ?_
    replace I := I.pull1
    refine lru_Cache_Order_r (c0 := c1) (σ := σ_20) I H fun r_21 a_22 c_23 h σ_25 I H => ?_
    refine br_r H (fun hb H => ?_) (fun hb H => ?_)
    · refine br_r H (fun hb H => ?_) (fun hb H => ?_)
      · refine br_r H (fun hb H => ?_) (fun hb H => ?_)
        · refine br_r H (fun hb H => ?_) (fun hb H => ?_)
          · refine ixI_a rd_own I H fun p_27 x_26 he_28 hb_29 hc_30 H => ?_
            refine ldI_r hc_30 ?_
            refine br_r H (fun hb H => ?_) (fun hb H => ?_)
            · refine ixI_a rd_own I H fun p_32 x_31 he_33 hb_34 hc_35 H => ?_
              refine ldI_r hc_35 ?_
              refine br_r H (fun hb H => ?_) (fun hb H => ?_)
              · replace I := I.pull1
                refine lru_Cache_Has_r (c0 := c1) (item1 := (1 : Int)) (σ := σ_25) I H fun r_36 h σ_37 I H => ?_
                replace I := I.pull1.drop1
                replace I := I.pull1.drop1
                replace I := I.pull1.drop1
                replace I := I.pull1.drop1
                exact k (!r_36) _ σ_37 I H
              · replace I := I.drop1
                replace I := I.pull1.drop1
                replace I := I.pull1.drop1
                replace I := I.pull1.drop1
                exact k false _ σ_25 I H
            · replace I := I.drop1
              replace I := I.pull1.drop1
              replace I := I.pull1.drop1
              replace I := I.pull1.drop1
              exact k false _ σ_25 I H
          · replace I := I.drop1
            replace I := I.pull1.drop1
            replace I := I.pull1.drop1
            replace I := I.pull1.drop1
            exact k false _ σ_25 I H
        · replace I := I.drop1
          replace I := I.pull1.drop1
          replace I := I.pull1.drop1
          replace I := I.pull1.drop1
          exact k false _ σ_25 I H
      · replace I := I.drop1
        replace I := I.pull1.drop1
        replace I := I.pull1.drop1
        replace I := I.pull1.drop1
        exact k false _ σ_25 I H
    · replace I := I.drop1
      replace I := I.pull1.drop1
      replace I := I.pull1.drop1
      replace I := I.pull1.drop1
      exact k false _ σ_25 I H

def carlinglaw15_alive (σ : St Obj) (Q : Bool → St Obj → Prop) : Prop :=
  lru_New (1 : Int) σ fun r_2 r_3 σ_4 =>
  br (Option.isNone r_2)
  (carlinglaw15_alive_K1 Q r_2 true σ_4)
  (carlinglaw15_alive_K1 Q r_2 (r_3 != (0 : Int)) σ_4)

theorem carlinglaw15_alive_r {ρ : Ids} {h : Hp} {A : List At}   {σ : St Obj} {Q' : Bool → St Obj → Prop} {Q : Bool → Hp → Prop} (I : Inv h (hpA (obA ρ) σ :: A)) (H : carlinglaw15_alive σ Q')
    (k : ∀ (r0 : Bool) (h' : Hp) (σ' : St Obj), Inv h' (hpA (obA ρ) σ' :: A) → Q' r0 σ' → Q r0 h') : Tx.carlinglaw15_alive ρ h Q := by
  unfold Tx.carlinglaw15_alive
  unfold carlinglaw15_alive at H
  refine lru_New_r (room0 := (1 : Int)) (σ := σ) I H fun r_2 r_3 h σ_4 I H => ?_
  refine br_r H (fun hb H => ?_) (fun hb H => ?_)
  · exact carlinglaw15_alive_K1_r (c1 := r_2) (v18 := true) (σ := σ_4) I H k
  · exact carlinglaw15_alive_K1_r (c1 := r_2) (v18 := (r_3 != (0 : Int))) (σ := σ_4) I H k

def carlinglaw15_short_B1 (S1 : (List carlinglaw15_Step) → (List carlinglaw15_Step) → Int → Int → Prop) (Q : (List carlinglaw15_Step) → Prop) (out3 : List carlinglaw15_Step) (v10 : List carlinglaw15_Step) (v11 : Int) (v12 : Int) : Prop :=
  br (decide (v12 < v11))
  (ixP v10 v12 fun x_8 =>
  (SlOk x_8.Page (0 : Int) (if (50 : Int) < (x_8.Page.length : Int) then (50 : Int) else (x_8.Page.length : Int))) ∧
  (Bnd (out3.length + ([(⟨x_8.Kind, x_8.Item, (sub x_8.Page (0 : Int) (if (50 : Int) < (x_8.Page.length : Int) then (50 : Int) else (x_8.Page.length : Int)))⟩ : carlinglaw15_Step)]).length)) ∧
  S1 (out3 ++ [(⟨x_8.Kind, x_8.Item, (sub x_8.Page (0 : Int) (if (50 : Int) < (x_8.Page.length : Int) then (50 : Int) else (x_8.Page.length : Int)))⟩ : carlinglaw15_Step)]) v10 v11 (IntKind.wrap .i64 (v12 + (1 : Int))))
  (Q out3)

def carlinglaw15_short_L1 (Q : (List carlinglaw15_Step) → Prop) (out3 : List carlinglaw15_Step) (v10 : List carlinglaw15_Step) (v11 : Int) (v12 : Int) : Prop :=
  Lf (fun S (v : (List carlinglaw15_Step) × (List carlinglaw15_Step) × Int × Int) => carlinglaw15_short_B1 (fun out3 v10 v11 v12 => S (out3, v10, v11, v12)) Q v.1 v.2.1 v.2.2.1 v.2.2.2) (out3, v10, v11, v12)

theorem carlinglaw15_short_L1_in (Q : (List carlinglaw15_Step) → Prop) (out3 : List carlinglaw15_Step) (v10 : List carlinglaw15_Step) (v11 : Int) (v12 : Int) (H : carlinglaw15_short_B1 (carlinglaw15_short_L1 Q) Q out3 v10 v11 v12) : carlinglaw15_short_L1 Q out3 v10 v11 v12 := Lf.fold H

theorem carlinglaw15_short_B1_r {ρ : Ids} {h : Hp} {A : List At} {X_l0 : At} {out3 : List carlinglaw15_Step} {v10 : List carlinglaw15_Step} {v11 : Int} {v12 : Int} {a_out31 : Option Addr} {n_out31 c_out31 : Nat} {a_v10 : Option Addr} {n_v10 c_v10 : Nat} {Q' : (List carlinglaw15_Step) → Prop} {Q : Sl → Hp → Prop} {S1' : (List carlinglaw15_Step) → (List carlinglaw15_Step) → Int → Int → Prop} {S1 : Sl → Sl → Int → Int → Hp → Prop} (hX_v10 : Rd R_carlinglaw15_Step X_l0 a_v10 n_v10 c_v10 v10) (I : Inv h (X_l0 :: ownS R_carlinglaw15_Step a_out31 n_out31 c_out31 out3 :: A)) (H : carlinglaw15_short_B1 S1' Q' out3 v10 v11 v12) (kS1 : ∀ {out3 : List carlinglaw15_Step} {v10 : List carlinglaw15_Step} {v11 : Int} {v12 : Int} {a_out31 : Option Addr} {n_out31 c_out31 : Nat} {a_v10 : Option Addr} {n_v10 c_v10 : Nat} {h : Hp} (hX_v10 : Rd R_carlinglaw15_Step X_l0 a_v10 n_v10 c_v10 v10), Inv h (X_l0 :: ownS R_carlinglaw15_Step a_out31 n_out31 c_out31 out3 :: A) → S1' out3 v10 v11 v12 → S1 ⟨a_out31, n_out31, c_out31⟩ ⟨a_v10, n_v10, c_v10⟩ v11 v12 h)
    (k : ∀ (r0 : List carlinglaw15_Step) (ra0 : Option Addr) (rc0 : Nat) (h' : Hp), Inv h' (ownS R_carlinglaw15_Step ra0 r0.length rc0 r0 :: X_l0 :: A) → Q' r0 → Q ⟨ra0, r0.length, rc0⟩ h') : Tx.carlinglaw15_short_B1 ρ S1 Q ⟨a_out31, n_out31, c_out31⟩ ⟨a_v10, n_v10, c_v10⟩ v11 v12 h := by
  obtain rfl := own_len I.pull1
  obtain rfl := rd_len hX_v10 I
  unfold Tx.carlinglaw15_short_B1
  unfold carlinglaw15_short_B1 at H
  refine br_r H (fun hb H => ?_) (fun hb H => ?_)
  · refine ixcarlinglaw15_Step hX_v10 I H fun p_9 x_8 a_15 c_16 he_10 hb_11 hc_12 hc_13 hc_14 I H => ?_
    refine ldI_r hc_12 ?_
    refine ldI_r hc_13 ?_
    refine ldS_r hc_14 ?_
    refine al_r [.one (.int .u8 (0 : Int)), .one (.int .i64 (0 : Int)), .one (.slice none 0 0)] rfl I fun p_18 h I => ?_
    refine stA_r I 0 3 0 [.one (.int .u8 x_8.Kind), .one (.int .i64 x_8.Item), .one (.slice a_15 x_8.Page.length c_16)] rfl rfl rfl (all_one (by simp [segs, Seg.cells, allOne, allOne_append, allOne_lump, Value.oneCell'])) fun h (I : Inv h (blk p_18 (ρ.T 5) [.one (.int .u8 x_8.Kind), .one (.int .i64 x_8.Item), .one (.slice a_15 x_8.Page.length c_16)] :: _)) => ?_
    refine ldS_r (I.cell 2 2 rfl) ?_
    refine ldS_r (I.cell 2 2 rfl) ?_
    replace I := I.pull1.dupR
    refine sl_ro I H.1 fun a_20 c_21 I => ?_
    replace H := H.2
    refine st_r I.pull2 2 2 rfl fun h (I : Inv h (blk p_18 (ρ.T 5) [.one (.int .u8 x_8.Kind), .one (.int .i64 x_8.Item), .one (.slice a_20 (sub x_8.Page (0 : Int) (if (50 : Int) < (x_8.Page.length : Int) then (50 : Int) else (x_8.Page.length : Int))).length c_21)] :: _)) => ?_
    refine ldI_r (I.cell 0 0 rfl) ?_
    refine ldI_r (I.cell 1 1 rfl) ?_
    refine ldS_r (I.cell 2 2 rfl) ?_
    refine al_r [.one (.int .u8 x_8.Kind), .one (.int .i64 x_8.Item), .one (.slice a_20 (sub x_8.Page (0 : Int) (if (50 : Int) < (x_8.Page.length : Int) then (50 : Int) else (x_8.Page.length : Int))).length c_21)] rfl I fun p_23 h I => ?_
    replace I := I.litN R_carlinglaw15_Step
    replace I := I.pull3.dupR
    replace I := mcarlinglaw15_Step (⟨x_8.Kind, x_8.Item, (sub x_8.Page (0 : Int) (if (50 : Int) < (x_8.Page.length : Int) then (50 : Int) else (x_8.Page.length : Int)))⟩ : carlinglaw15_Step) I
    replace I := I.pull2.pull1
    replace I := I.litC
    replace I := I.pull2.pull1
    replace I := Inv.litL (l := [(⟨x_8.Kind, x_8.Item, (sub x_8.Page (0 : Int) (if (50 : Int) < (x_8.Page.length : Int) then (50 : Int) else (x_8.Page.length : Int)))⟩ : carlinglaw15_Step)]) I rfl rfl
    refine ap_r rd_own I.pull5 rfl (by decide) (by decide) H.1 fun a_29 c_30 h I => ?_
    replace H := H.2
    replace I := I.pull1.drop1
    replace I := I.pull1.drop1
    replace I := I.pull1.drop1
    replace I := I.pull1.drop1
    replace I := I.pull1
    exact kS1 (out3 := (out3 ++ [(⟨x_8.Kind, x_8.Item, (sub x_8.Page (0 : Int) (if (50 : Int) < (x_8.Page.length : Int) then (50 : Int) else (x_8.Page.length : Int)))⟩ : carlinglaw15_Step)])) (v10 := v10) (v11 := v11) (v12 := (IntKind.wrap .i64 (v12 + (1 : Int)))) hX_v10 I H
  · replace I := I.pull1
    exact k out3 a_out31 c_out31 _ I H

theorem carlinglaw15_short_L1_r {ρ : Ids} {h : Hp} {A : List At} {X_l0 : At} {out3 : List carlinglaw15_Step} {v10 : List carlinglaw15_Step} {v11 : Int} {v12 : Int} {a_out31 : Option Addr} {n_out31 c_out31 : Nat} {a_v10 : Option Addr} {n_v10 c_v10 : Nat} {Q' : (List carlinglaw15_Step) → Prop} {Q : Sl → Hp → Prop} (hX_v10 : Rd R_carlinglaw15_Step X_l0 a_v10 n_v10 c_v10 v10) (I : Inv h (X_l0 :: ownS R_carlinglaw15_Step a_out31 n_out31 c_out31 out3 :: A)) (H : carlinglaw15_short_L1 Q' out3 v10 v11 v12)
    (k : ∀ (r0 : List carlinglaw15_Step) (ra0 : Option Addr) (rc0 : Nat) (h' : Hp), Inv h' (ownS R_carlinglaw15_Step ra0 r0.length rc0 r0 :: X_l0 :: A) → Q' r0 → Q ⟨ra0, r0.length, rc0⟩ h') : Tx.carlinglaw15_short_L1 ρ Q ⟨a_out31, n_out31, c_out31⟩ ⟨a_v10, n_v10, c_v10⟩ v11 v12 h := by
  refine Lf.ind H (fun v => ∀ (a_out31 : Option Addr) (n_out31 c_out31 : Nat) (a_v10 : Option Addr) (n_v10 c_v10 : Nat) (h : Hp) (hX_v10 : Rd R_carlinglaw15_Step X_l0 a_v10 n_v10 c_v10 v.2.1), Inv h (X_l0 :: ownS R_carlinglaw15_Step a_out31 n_out31 c_out31 v.1 :: A) → Tx.carlinglaw15_short_L1 ρ Q ⟨a_out31, n_out31, c_out31⟩ ⟨a_v10, n_v10, c_v10⟩ v.2.2.1 v.2.2.2 h) ?_ _ _ _ _ _ _ _ hX_v10 I
  rintro ⟨out3, v10, v11, v12⟩ S hS HB a_out31 n_out31 c_out31 a_v10 n_v10 c_v10 h hX_v10 I
  refine Tx.carlinglaw15_short_L1_in _ _ _ _ _ _ _ ?_
  try simp only [nrm_v]
  exact carlinglaw15_short_B1_r (out3 := out3) (v10 := v10) (v11 := v11) (v12 := v12) hX_v10 I HB (fun {out3 v10 v11 v12 a_out31 n_out31 c_out31 a_v10 n_v10 c_v10 h} hX_v10 I H => hS _ H a_out31 n_out31 c_out31 a_v10 n_v10 c_v10 _ hX_v10 I) k

def carlinglaw15_short (l0 : List carlinglaw15_Step) (Q : (List carlinglaw15_Step) → Prop) : Prop :=
  (SlOk l0 (0 : Int) (if (200 : Int) < (l0.length : Int) then (200 : Int) else (l0.length : Int))) ∧
  carlinglaw15_short_L1 Q ([] : List carlinglaw15_Step) (sub l0 (0 : Int) (if (200 : Int) < (l0.length : Int) then (200 : Int) else (l0.length : Int))) ((sub l0 (0 : Int) (if (200 : Int) < (l0.length : Int) then (200 : Int) else (l0.length : Int))).length : Int) (0 : Int)

theorem carlinglaw15_short_r {ρ : Ids} {h : Hp} {A : List At} {l0 : List carlinglaw15_Step} {a_l00 : Option Addr} {n_l00 c_l00 : Nat} {X_l0 : At} {Q' : (List carlinglaw15_Step) → Prop} {Q : Sl → Hp → Prop} (hX_l0 : Rd R_carlinglaw15_Step X_l0 a_l00 n_l00 c_l00 l0) (I : Inv h (X_l0 :: A)) (H : carlinglaw15_short l0 Q')
    (k : ∀ (r0 : List carlinglaw15_Step) (ra0 : Option Addr) (rc0 : Nat) (h' : Hp), Inv h' (ownS R_carlinglaw15_Step ra0 r0.length rc0 r0 :: X_l0 :: A) → Q' r0 → Q ⟨ra0, r0.length, rc0⟩ h') : Tx.carlinglaw15_short ρ ⟨a_l00, n_l00, c_l00⟩ h Q := by
  obtain rfl := rd_len hX_l0 I
  unfold Tx.carlinglaw15_short
  unfold carlinglaw15_short at H
  refine sl_rd hX_l0 I H.1 fun a_2 c_3 hr_4 => ?_
  replace H := H.2
  replace I := I.nilO R_carlinglaw15_Step
  replace I := I.pull1
  exact carlinglaw15_short_L1_r (out3 := ([] : List carlinglaw15_Step)) (v10 := (sub l0 (0 : Int) (if (200 : Int) < (l0.length : Int) then (200 : Int) else (l0.length : Int)))) (v11 := ((sub l0 (0 : Int) (if (200 : Int) < (l0.length : Int) then (200 : Int) else (l0.length : Int))).length : Int)) (v12 := (0 : Int)) hr_4 I H k

def lru_Cache_Get (c0 : Option Addr) (item1 : Int) (σ : St Obj) (Q : (List Int) → Bool → St Obj → Prop) : Prop :=
  lru_Cache_Has c0 item1 σ fun r_2 σ_3 =>
  br (!r_2)
  (Q ([] : List Int) false σ_3)
  (lru_Cache_touch c0 item1 σ_3 fun σ_5 =>
  nilW c0 fun p_6 =>
  at_lru_Cache σ_5 p_6 fun x_8 =>
  lkP x_8.pages item1 (⟨[], false⟩ : lru_held) fun y_17 ok_18 =>
  bytes_Clone y_17.page fun r_24 =>
  Q r_24 true σ_5)

theorem lru_Cache_Get_r {ρ : Ids} {h : Hp} {A : List At} {c0 : Option Addr} {item1 : Int}  {σ : St Obj} {Q' : (List Int) → Bool → St Obj → Prop} {Q : Sl → Bool → Hp → Prop} (I : Inv h (hpA (obA ρ) σ :: A)) (H : lru_Cache_Get c0 item1 σ Q')
    (k : ∀ (r0 : List Int) (ra0 : Option Addr) (rc0 : Nat) (r1 : Bool) (h' : Hp) (σ' : St Obj), Inv h' (ownS (rI .u8) ra0 r0.length rc0 r0 :: hpA (obA ρ) σ' :: A) → Q' r0 r1 σ' → Q ⟨ra0, r0.length, rc0⟩ r1 h') : Tx.lru_Cache_Get ρ c0 item1 h Q := by
  unfold Tx.lru_Cache_Get
  unfold lru_Cache_Get at H
  refine lru_Cache_Has_r (c0 := c0) (item1 := item1) (σ := σ) I H fun r_2 h σ_3 I H => ?_
  refine br_r H (fun hb H => ?_) (fun hb H => ?_)
  · replace I := I.nilO (rI .u8)
    replace I := I.pull1.pull1
    exact k ([] : List Int) none 0 false _ σ_3 I H
  · refine lru_Cache_touch_r (c0 := c0) (item1 := item1) (σ := σ_3) I H fun h σ_5 I H => ?_
    refine nil_r H fun p_6 hp_7 H => ?_
    obtain ⟨x_8, hx_9, H⟩ := H
    obtain ⟨m2_10, o2_11, a3_12, c3_13, I⟩ := op_lru_Cache (I.take hx_9)
    refine ldM_r (I.cell 1 1 rfl) ?_
    refine lklru_held (Kx := (kI .i64)) (key := item1) I.pull1 H fun f_20 a_21 c_22 y_17 ok_18 hf_19 I H => ?_
    refine bytes_Clone_r (s0 := y_17.page) rd_ro I H fun r_24 a_25 c_26 h I H => ?_
    replace I := I.pull5.pull5.pull4.pull5
    replace I := (cl_lru_Cache x_8 I).putS hx_9
    replace I := I.pull2.drop1
    replace I := I.pull1
    exact k r_24 a_25 c_26 true _ σ_5 I H

def carlingref02_Same_B1 (S1 : (List Int) → (List Int) → Int → Prop) (Q : Bool → Prop) (a0 : List Int) (b1 : List Int) (i5 : Int) : Prop :=
  br (decide (i5 < (a0.length : Int)))
  (ixP a0 i5 fun x_5 =>
  ixP b1 i5 fun x_10 =>
  br (x_5 != x_10)
  (Q false)
  (S1 a0 b1 (IntKind.wrap .i64 (i5 + (1 : Int)))))
  (Q true)

def carlingref02_Same_L1 (Q : Bool → Prop) (a0 : List Int) (b1 : List Int) (i5 : Int) : Prop :=
  Lf (fun S (v : (List Int) × (List Int) × Int) => carlingref02_Same_B1 (fun a0 b1 i5 => S (a0, b1, i5)) Q v.1 v.2.1 v.2.2) (a0, b1, i5)

theorem carlingref02_Same_L1_in (Q : Bool → Prop) (a0 : List Int) (b1 : List Int) (i5 : Int) (H : carlingref02_Same_B1 (carlingref02_Same_L1 Q) Q a0 b1 i5) : carlingref02_Same_L1 Q a0 b1 i5 := Lf.fold H

theorem carlingref02_Same_B1_r {ρ : Ids} {h : Hp} {A : List At} {X_a0 : At} {X_b1 : At} {a0 : List Int} {b1 : List Int} {i5 : Int} {a_a0 : Option Addr} {n_a0 c_a0 : Nat} {a_b1 : Option Addr} {n_b1 c_b1 : Nat} {Q' : Bool → Prop} {Q : Bool → Hp → Prop} {S1' : (List Int) → (List Int) → Int → Prop} {S1 : Sl → Sl → Int → Hp → Prop} (hX_a0 : Rd (rI .u8) X_a0 a_a0 n_a0 c_a0 a0) (hX_b1 : Rd (rI .u8) X_b1 a_b1 n_b1 c_b1 b1) (I : Inv h (X_a0 :: X_b1 :: A)) (H : carlingref02_Same_B1 S1' Q' a0 b1 i5) (kS1 : ∀ {a0 : List Int} {b1 : List Int} {i5 : Int} {a_a0 : Option Addr} {n_a0 c_a0 : Nat} {a_b1 : Option Addr} {n_b1 c_b1 : Nat} {h : Hp} (hX_a0 : Rd (rI .u8) X_a0 a_a0 n_a0 c_a0 a0) (hX_b1 : Rd (rI .u8) X_b1 a_b1 n_b1 c_b1 b1), Inv h (X_a0 :: X_b1 :: A) → S1' a0 b1 i5 → S1 ⟨a_a0, n_a0, c_a0⟩ ⟨a_b1, n_b1, c_b1⟩ i5 h)
    (k : ∀ (r0 : Bool) (h' : Hp), Inv h' (X_a0 :: X_b1 :: A) → Q' r0 → Q r0 h') : Tx.carlingref02_Same_B1 ρ S1 Q ⟨a_a0, n_a0, c_a0⟩ ⟨a_b1, n_b1, c_b1⟩ i5 h := by
  obtain rfl := rd_len hX_a0 I
  obtain rfl := rd_len hX_b1 I.pull1
  unfold Tx.carlingref02_Same_B1
  unfold carlingref02_Same_B1 at H
  refine br_r H (fun hb H => ?_) (fun hb H => ?_)
  · refine ixI_a hX_a0 I H fun p_6 x_5 he_7 hb_8 hc_9 H => ?_
    refine ldI_r hc_9 ?_
    refine ixI_a hX_b1 I.pull1 H fun p_11 x_10 he_12 hb_13 hc_14 H => ?_
    refine ldI_r hc_14 ?_
    refine br_r H (fun hb H => ?_) (fun hb H => ?_)
    · replace I := I.pull1.pull1
      exact k false _ I H
    · replace I := I.pull1.pull1
      exact kS1 (a0 := a0) (b1 := b1) (i5 := (IntKind.wrap .i64 (i5 + (1 : Int)))) hX_a0 hX_b1 I H
  · replace I := I.pull1.pull1
    exact k true _ I H

theorem carlingref02_Same_L1_r {ρ : Ids} {h : Hp} {A : List At} {X_a0 : At} {X_b1 : At} {a0 : List Int} {b1 : List Int} {i5 : Int} {a_a0 : Option Addr} {n_a0 c_a0 : Nat} {a_b1 : Option Addr} {n_b1 c_b1 : Nat} {Q' : Bool → Prop} {Q : Bool → Hp → Prop} (hX_a0 : Rd (rI .u8) X_a0 a_a0 n_a0 c_a0 a0) (hX_b1 : Rd (rI .u8) X_b1 a_b1 n_b1 c_b1 b1) (I : Inv h (X_a0 :: X_b1 :: A)) (H : carlingref02_Same_L1 Q' a0 b1 i5)
    (k : ∀ (r0 : Bool) (h' : Hp), Inv h' (X_a0 :: X_b1 :: A) → Q' r0 → Q r0 h') : Tx.carlingref02_Same_L1 ρ Q ⟨a_a0, n_a0, c_a0⟩ ⟨a_b1, n_b1, c_b1⟩ i5 h := by
  refine Lf.ind H (fun v => ∀ (a_a0 : Option Addr) (n_a0 c_a0 : Nat) (a_b1 : Option Addr) (n_b1 c_b1 : Nat) (h : Hp) (hX_a0 : Rd (rI .u8) X_a0 a_a0 n_a0 c_a0 v.1) (hX_b1 : Rd (rI .u8) X_b1 a_b1 n_b1 c_b1 v.2.1), Inv h (X_a0 :: X_b1 :: A) → Tx.carlingref02_Same_L1 ρ Q ⟨a_a0, n_a0, c_a0⟩ ⟨a_b1, n_b1, c_b1⟩ v.2.2 h) ?_ _ _ _ _ _ _ _ hX_a0 hX_b1 I
  rintro ⟨a0, b1, i5⟩ S hS HB a_a0 n_a0 c_a0 a_b1 n_b1 c_b1 h hX_a0 hX_b1 I
  refine Tx.carlingref02_Same_L1_in _ _ _ _ _ _ ?_
  try simp only [nrm_v]
  exact carlingref02_Same_B1_r (a0 := a0) (b1 := b1) (i5 := i5) hX_a0 hX_b1 I HB (fun {a0 b1 i5 a_a0 n_a0 c_a0 a_b1 n_b1 c_b1 h} hX_a0 hX_b1 I H => hS _ H a_a0 n_a0 c_a0 a_b1 n_b1 c_b1 _ hX_a0 hX_b1 I) k

def carlingref02_Same (a0 : List Int) (b1 : List Int) (Q : Bool → Prop) : Prop :=
  br ((a0.length : Int) != (b1.length : Int))
  (Q false)
  (carlingref02_Same_L1 Q a0 b1 (0 : Int))

theorem carlingref02_Same_r {ρ : Ids} {h : Hp} {A : List At} {a0 : List Int} {b1 : List Int} {a_a00 : Option Addr} {n_a00 c_a00 : Nat} {X_a0 : At} {a_b11 : Option Addr} {n_b11 c_b11 : Nat} {X_b1 : At} {Q' : Bool → Prop} {Q : Bool → Hp → Prop} (hX_a0 : Rd (rI .u8) X_a0 a_a00 n_a00 c_a00 a0) (hX_b1 : Rd (rI .u8) X_b1 a_b11 n_b11 c_b11 b1) (I : Inv h (X_a0 :: X_b1 :: A)) (H : carlingref02_Same a0 b1 Q')
    (k : ∀ (r0 : Bool) (h' : Hp), Inv h' (X_a0 :: X_b1 :: A) → Q' r0 → Q r0 h') : Tx.carlingref02_Same ρ ⟨a_a00, n_a00, c_a00⟩ ⟨a_b11, n_b11, c_b11⟩ h Q := by
  obtain rfl := rd_len hX_a0 I
  obtain rfl := rd_len hX_b1 I.pull1
  unfold Tx.carlingref02_Same
  unfold carlingref02_Same at H
  refine br_r H (fun hb H => ?_) (fun hb H => ?_)
  · replace I := I.pull1.pull1
    exact k false _ I H
  · replace I := I.pull1.pull1
    exact carlingref02_Same_L1_r (a0 := a0) (b1 := b1) (i5 := (0 : Int)) hX_a0 hX_b1 I H k

def lru_Cache_Unpin_K1 (Q : Int → Bool → St Obj → Prop) (c0 : Option Addr) (item1 : Int) (v19 : Bool) (σ : St Obj) : Prop :=
  br v19
  (Q (-1 : Int) false σ)
  (nilW c0 fun p_23 =>
  at_lru_Cache σ p_23 fun x_25 =>
  lkP x_25.pages item1 (⟨[], false⟩ : lru_held) fun y_34 ok_35 =>
  muP x_25.pages item1 (⟨y_34.page, false⟩ : lru_held) fun L_43 =>
  lru_Cache_touch c0 item1 (sset σ p_23 (.lru_Cache (⟨x_25.room, L_43, x_25.order⟩ : lru_Cache))) fun σ_45 =>
  lru_Cache_fit c0 σ_45 fun r_46 σ_47 =>
  Q r_46 true σ_47)

theorem lru_Cache_Unpin_K1_r {ρ : Ids} {h : Hp} {A : List At}  {c0 : Option Addr} {item1 : Int} {v19 : Bool}  {σ : St Obj} {Q' : Int → Bool → St Obj → Prop} {Q : Int → Bool → Hp → Prop} (I : Inv h (hpA (obA ρ) σ :: A)) (H : lru_Cache_Unpin_K1 Q' c0 item1 v19 σ)
    (k : ∀ (r0 : Int) (r1 : Bool) (h' : Hp) (σ' : St Obj), Inv h' (hpA (obA ρ) σ' :: A) → Q' r0 r1 σ' → Q r0 r1 h') : Tx.lru_Cache_Unpin_K1 ρ Q c0 item1 v19 h := by
  unfold Tx.lru_Cache_Unpin_K1
  unfold lru_Cache_Unpin_K1 at H
  refine br_r H (fun hb H => ?_) (fun hb H => ?_)
  · exact k (-1 : Int) false _ σ I H
  · refine nil_r H fun p_23 hp_24 H => ?_
    obtain ⟨x_25, hx_26, H⟩ := H
    obtain ⟨m2_27, o2_28, a3_29, c3_30, I⟩ := op_lru_Cache (I.take hx_26)
    refine ldM_r (I.cell 1 1 rfl) ?_
    refine nil_e hp_24 ?_
    refine ldM_r (I.cell 1 1 rfl) ?_
    refine lklru_held (Kx := (kI .i64)) (key := item1) I.pull1 H fun f_37 a_38 c_39 y_34 ok_35 hf_36 I H => ?_
    replace I := I.dupR
    replace I := mlru_held (⟨y_34.page, false⟩ : lru_held) I
    replace I := I.pull2.pull1
    refine mu_r (Kx := (kI .i64)) (key := item1) (x := (⟨y_34.page, false⟩ : lru_held)) I rfl H fun h o_44 L_43 I H => ?_
    replace I := I.pull4.pull4.pull2.pull4
    replace I := (cl_lru_Cache (⟨x_25.room, L_43, x_25.order⟩ : lru_Cache) I).putB
    refine lru_Cache_touch_r (c0 := c0) (item1 := item1) (σ := (sset σ p_23 (.lru_Cache (⟨x_25.room, L_43, x_25.order⟩ : lru_Cache)))) I H fun h σ_45 I H => ?_
    refine lru_Cache_fit_r (c0 := c0) (σ := σ_45) I H fun r_46 h σ_47 I H => ?_
    replace I := I.pull1.drop1
    exact k r_46 true _ σ_47 I H

def lru_Cache_Unpin (c0 : Option Addr) (item1 : Int) (σ : St Obj) (Q : Int → Bool → St Obj → Prop) : Prop :=
  lru_Cache_Has c0 item1 σ fun r_2 σ_3 =>
  br (!r_2)
  (lru_Cache_Unpin_K1 Q c0 item1 true σ_3)
  (nilW c0 fun p_4 =>
  at_lru_Cache σ_3 p_4 fun x_6 =>
  lkP x_6.pages item1 (⟨[], false⟩ : lru_held) fun y_15 ok_16 =>
  lru_Cache_Unpin_K1 Q c0 item1 (!y_15.pinned) σ_3)

theorem lru_Cache_Unpin_r {ρ : Ids} {h : Hp} {A : List At} {c0 : Option Addr} {item1 : Int}  {σ : St Obj} {Q' : Int → Bool → St Obj → Prop} {Q : Int → Bool → Hp → Prop} (I : Inv h (hpA (obA ρ) σ :: A)) (H : lru_Cache_Unpin c0 item1 σ Q')
    (k : ∀ (r0 : Int) (r1 : Bool) (h' : Hp) (σ' : St Obj), Inv h' (hpA (obA ρ) σ' :: A) → Q' r0 r1 σ' → Q r0 r1 h') : Tx.lru_Cache_Unpin ρ c0 item1 h Q := by
  unfold Tx.lru_Cache_Unpin
  unfold lru_Cache_Unpin at H
  refine lru_Cache_Has_r (c0 := c0) (item1 := item1) (σ := σ) I H fun r_2 h σ_3 I H => ?_
  refine br_r H (fun hb H => ?_) (fun hb H => ?_)
  · exact lru_Cache_Unpin_K1_r (c0 := c0) (item1 := item1) (v19 := true) (σ := σ_3) I H k
  · refine nil_r H fun p_4 hp_5 H => ?_
    obtain ⟨x_6, hx_7, H⟩ := H
    obtain ⟨m2_8, o2_9, a3_10, c3_11, I⟩ := op_lru_Cache (I.take hx_7)
    refine ldM_r (I.cell 1 1 rfl) ?_
    refine lklru_held (Kx := (kI .i64)) (key := item1) I.pull1 H fun f_18 a_19 c_20 y_15 ok_16 hf_17 I H => ?_
    replace I := I.pull4.pull4.pull3.pull4
    replace I := (cl_lru_Cache x_6 I).putS hx_7
    replace I := I.pull1.drop1
    exact lru_Cache_Unpin_K1_r (c0 := c0) (item1 := item1) (v19 := (!y_15.pinned)) (σ := σ_3) I H k

def slices_DeleteFunc_int_int {Z : Type} (φ : Int → Z → (Bool → Z → Prop) → Prop) (s0 : List Int) (z : Z) (Q : List Int → Z → Prop) : Prop := Bnd s0.length ∧ delP φ s0 [] z Q
theorem slices_DeleteFunc_int_int_lp {ρ : Ids} {h : Hp} {A : List At} {Z : Type} {C : Z → At} {φ' : Int → Z → (Bool → Z → Prop) → Prop} {φ : Value → List Value → Hp → (Value → Hp → Prop) → Prop} {f1 : Value} {a : Option Addr} {nl c : Nat} {Q' : List Int → Z → Prop} {Q : Sl → Hp → Prop} (hφ : ∀ {x0 : Int} {z : Z} {h : Hp} {A : List At} {K' : Bool → Z → Prop} {K : Bool → Hp → Prop}, Inv h (C z :: A) → φ' x0 z K' → (∀ (y : Bool) (h' : Hp) (z' : Z), Inv h' (C z' :: A) → K' y z' → K y h') → φ f1 [(.int .i64 x0)] h (fun v h' => isB v fun y => K y h')) (hB : Bnd nl) (k : ∀ (r : List Int) (ra : Option Addr) (rc : Nat) (h' : Hp) (z' : Z), Inv h' (ownS (rI .i64) ra r.length rc r :: C z' :: A) → Q' r z' → Q ⟨ra, r.length, rc⟩ h') : ∀ (rest acc mid : List Int) (z : Z) (h : Hp), Inv h (ownS (rI .i64) a nl c (acc ++ (mid ++ rest)) :: C z :: A) → delP φ' rest acc z Q' → Tx.slices_DeleteFunc_int_int_L1 ρ φ Q ⟨a, nl, c⟩ f1 (acc.length : Int) ((acc.length + mid.length : Nat) : Int) h := by
  intro rest
  unfold Bnd at hB
  induction rest with
  | nil =>
    intro acc mid z h I H
    have hn := own_len I
    simp only [List.length_append, List.length_nil] at hn
    refine Tx.slices_DeleteFunc_int_int_L1_in _ _ _ _ _ _ _ _ ?_
    unfold Tx.slices_DeleteFunc_int_int_B1
    have e : decide (((acc.length + mid.length : Nat) : Int) < ((⟨a, nl, c⟩ : Sl).len : Int)) = false := by rw [decide_eq_false_iff_not]; simp only; omega
    rw [e, br_false]
    rw [List.append_nil] at I
    exact clear_cut (E := rI .i64) (z0 := (0 : Int)) I (fun _ _ => rfl) fun a1 c1 h' I => k _ _ _ _ _ I H
  | cons x rest ih =>
    intro acc mid z h I H
    have hn := own_len I
    simp only [List.length_append, List.length_cons] at hn
    refine Tx.slices_DeleteFunc_int_int_L1_in _ _ _ _ _ _ _ _ ?_
    unfold Tx.slices_DeleteFunc_int_int_B1
    have e : decide (((acc.length + mid.length : Nat) : Int) < ((⟨a, nl, c⟩ : Sl).len : Int)) = true := by rw [decide_eq_true_iff]; simp only; omega
    rw [e, br_true]
    refine ixI_a (K' := fun y => y = x) rd_own I ⟨by omega, x, by rw [Int.toNat_natCast, ← List.append_assoc, List.getElem?_append_right (by simp)]; simp, rfl⟩ fun p y he hb hc e => ?_
    subst e
    refine ldI_r hc ?_
    replace I := I.pull1
    refine hφ I H fun b h z I H => ?_
    replace I := I.pull1
    have w : IntKind.wrap .i64 (((acc.length + mid.length : Nat) : Int) + 1) = ((acc.length + mid.length + 1 : Nat) : Int) := by rw [wrap64 (by omega) (by omega)]; omega
    cases b with
    | true =>
      rw [Bool.not_true, br_false]
      unfold Tx.slices_DeleteFunc_int_int_K2
      rw [w]
      have := ih acc (mid ++ [y]) z h (by simpa using I) H
      simpa [Nat.add_assoc] using this
    | false =>
      rw [Bool.not_false, br_true]
      have hne : 0 ≤ (acc.length : Int) ∧ (acc.length : Int) < ((acc ++ (mid ++ y :: rest)).length : Int) := by simp only [List.length_append, List.length_cons]; omega
      obtain ⟨y0, hy0⟩ : ∃ y0, (acc ++ (mid ++ y :: rest))[acc.length]? = some y0 := ⟨_, List.getElem?_eq_getElem (by omega)⟩
      refine ixI_a (K' := fun _ => True) rd_own I ⟨by omega, y0, by rw [Int.toNat_natCast]; exact hy0, trivial⟩ fun p y1 he hb hc _ => ?_
      replace I := Inv.rep (E := rI .i64) (vs := [.int .i64 y]) (x := y) I fun _ _ => rfl
      refine st1_r I he hb fun h I => ?_
      unfold Tx.slices_DeleteFunc_int_int_K2
      have w2 : IntKind.wrap .i64 ((acc.length : Int) + 1) = (((acc ++ [y]).length : Nat) : Int) := by rw [wrap64 (by omega) (by omega)]; simp
      rw [w, w2]
      rw [Int.toNat_natCast] at I
      cases mid with
      | nil =>
        have e3 : (acc ++ ([] ++ y :: rest)).set acc.length y = (acc ++ [y]) ++ ([] ++ rest) := by simp
        rw [e3] at I
        have := ih (acc ++ [y]) [] z h I H
        simpa using this
      | cons m mid =>
        have e3 : (acc ++ (m :: mid ++ y :: rest)).set acc.length y = (acc ++ [y]) ++ ((mid ++ [y]) ++ rest) := by simp
        rw [e3] at I
        have := ih (acc ++ [y]) (mid ++ [y]) z h I H
        have e4 : (acc ++ [y]).length + (mid ++ [y]).length = acc.length + (m :: mid).length + 1 := by simp; omega
        rw [e4] at this
        exact this
theorem slices_DeleteFunc_int_int_r {ρ : Ids} {h : Hp} {A : List At} {Z : Type} {C : Z → At} {φ' : Int → Z → (Bool → Z → Prop) → Prop} {φ : Value → List Value → Hp → (Value → Hp → Prop) → Prop} {f1 : Value} {a : Option Addr} {nl c : Nat} {Q' : List Int → Z → Prop} {Q : Sl → Hp → Prop} {s0 : List Int} {z : Z} (hφ : ∀ {x0 : Int} {z : Z} {h : Hp} {A : List At} {K' : Bool → Z → Prop} {K : Bool → Hp → Prop}, Inv h (C z :: A) → φ' x0 z K' → (∀ (y : Bool) (h' : Hp) (z' : Z), Inv h' (C z' :: A) → K' y z' → K y h') → φ f1 [(.int .i64 x0)] h (fun v h' => isB v fun y => K y h')) (I : Inv h (ownS (rI .i64) a nl c s0 :: C z :: A)) (H : slices_DeleteFunc_int_int φ' s0 z Q')
    (k : ∀ (r : List Int) (ra : Option Addr) (rc : Nat) (h' : Hp) (z' : Z), Inv h' (ownS (rI .i64) ra r.length rc r :: C z' :: A) → Q' r z' → Q ⟨ra, r.length, rc⟩ h') : Tx.slices_DeleteFunc_int_int ρ φ ⟨a, nl, c⟩ f1 h Q := by
  obtain ⟨hB, H⟩ := H
  rw [← own_len I] at hB
  have hB' := hB
  unfold Bnd at hB'
  unfold Tx.slices_DeleteFunc_int_int Tx.slices_IndexFunc_int_int
  have key : ∀ (rest acc : List Int) (z : Z) (h : Hp), Inv h (ownS (rI .i64) a nl c (acc ++ rest) :: C z :: A) → delP φ' rest acc z Q' → Tx.slices_IndexFunc_int_int_L1 ρ φ (fun r_1 h_2 => br (r_1 == (-1 : Int)) (Q ⟨a, nl, c⟩ h_2) (Tx.slices_DeleteFunc_int_int_L1 ρ φ Q ⟨a, nl, c⟩ f1 r_1 (IntKind.wrap .i64 (r_1 + (1 : Int))) h_2)) ⟨a, nl, c⟩ f1 (nl : Int) (acc.length : Int) h := by
    intro rest
    induction rest with
    | nil =>
      intro acc z h I H
      have hn := own_len I
      rw [List.append_nil] at hn I
      refine Tx.slices_IndexFunc_int_int_L1_in _ _ _ _ _ _ _ _ ?_
      unfold Tx.slices_IndexFunc_int_int_B1
      have e : decide ((acc.length : Int) < (nl : Int)) = false := by rw [decide_eq_false_iff_not]; omega
      rw [e, br_false]
      show br true _ _
      rw [br_true]
      subst hn
      exact k _ _ _ _ _ I H
    | cons x rest ih =>
      intro acc z h I H
      have hn := own_len I
      simp only [List.length_append, List.length_cons] at hn
      refine Tx.slices_IndexFunc_int_int_L1_in _ _ _ _ _ _ _ _ ?_
      unfold Tx.slices_IndexFunc_int_int_B1
      have e : decide ((acc.length : Int) < (nl : Int)) = true := by rw [decide_eq_true_iff]; omega
      rw [e, br_true]
      refine ixI_a (K' := fun y => y = x) rd_own I ⟨by omega, x, by rw [Int.toNat_natCast, List.getElem?_append_right (by omega)]; simp, rfl⟩ fun p y he hb hc e => ?_
      subst e
      refine ldI_r hc ?_
      replace I := I.pull1
      refine hφ I H fun b h z I H => ?_
      replace I := I.pull1
      have w : IntKind.wrap .i64 ((acc.length : Int) + 1) = ((acc.length + 1 : Nat) : Int) := by rw [wrap64 (by omega) (by omega)]; omega
      cases b with
      | true =>
        rw [br_true]
        have e2 : ((acc.length : Int) == (-1 : Int)) = false := by rw [beq_eq_false_iff_ne]; omega
        show br ((acc.length : Int) == (-1 : Int)) _ _
        rw [e2, br_false, w]
        exact slices_DeleteFunc_int_int_lp (h := h) hφ hB k rest acc [y] z h I H
      | false =>
        rw [br_false, w]
        have := ih (acc ++ [y]) z h (by simpa using I) H
        simpa using this
  exact key s0 [] z h I H

def lru_Cache_Pinned_1 (item0 : Int) (v1_0 : Option Addr) (σ : St Obj) (Q : Bool → St Obj → Prop) : Prop :=
  nilW v1_0 fun p_3 =>
  at_lru_Cache σ p_3 fun x_5 =>
  lkP x_5.pages item0 (⟨[], false⟩ : lru_held) fun y_14 ok_15 =>
  Q (!y_14.pinned) σ

theorem lru_Cache_Pinned_1_r {ρ : Ids} {h : Hp} {A : List At} {item0 : Int} {v1_0 : Option Addr} {p_v1 : Addr} {σ : St Obj} {Q' : Bool → St Obj → Prop} {Q : Bool → Hp → Prop} (I : Inv h (blk p_v1 (ρ.T 3) [.one (.pointer v1_0)] :: hpA (obA ρ) σ :: A)) (H : lru_Cache_Pinned_1 item0 v1_0 σ Q')
    (k : ∀ (r0 : Bool) (h' : Hp) (σ' : St Obj), Inv h' (blk p_v1 (ρ.T 3) [.one (.pointer v1_0)] :: hpA (obA ρ) σ' :: A) → Q' r0 σ' → Q r0 h') : Tx.lru_Cache_Pinned_1 ρ item0 p_v1 h Q := by
  unfold Tx.lru_Cache_Pinned_1
  unfold lru_Cache_Pinned_1 at H
  refine ldP_r (I.cell 0 0 rfl) ?_
  refine nil_r H fun p_3 hp_4 H => ?_
  obtain ⟨x_5, hx_6, H⟩ := H
  obtain ⟨m2_7, o2_8, a3_9, c3_10, I⟩ := op_lru_Cache (I.pull1.take hx_6)
  refine ldM_r (I.cell 1 1 rfl) ?_
  refine lklru_held (Kx := (kI .i64)) (key := item0) I.pull1 H fun f_17 a_18 c_19 y_14 ok_15 hf_16 I H => ?_
  replace I := I.pull4.pull4.pull3.pull4
  replace I := (cl_lru_Cache x_5 I).putS hx_6
  replace I := I.pull1.drop1
  replace I := I.pull1
  exact k (!y_14.pinned) _ σ I H

def slices_Sort_int_int (s0 : List Int) (Q : List Int → Prop) : Prop := sortP s0 Q
theorem slices_Sort_int_int_r {ρ : Ids} {h : Hp} {A : List At} {s0 : List Int} {a : Option Addr} {nl c : Nat} {Q' : List Int → Prop} {Q : Hp → Prop} (I : Inv h (ownS (rI .i64) a nl c s0 :: A)) (H : slices_Sort_int_int s0 Q')
    (k : ∀ r h', Inv h' (ownS (rI .i64) a nl c r :: A) → Q' r → Q h') : Tx.slices_Sort_int_int ρ ⟨a, nl, c⟩ h Q := sort_r I H k

def lru_Cache_Pinned (c0 : Option Addr) (σ : St Obj) (Q : (List Int) → St Obj → Prop) : Prop :=
  lru_Cache_Order c0 σ fun r_4 σ_8 =>
  slices_DeleteFunc_int_int (fun x0 z K => lru_Cache_Pinned_1 x0 c0 z K) r_4 σ_8 fun r_10 σ_14 =>
  slices_Sort_int_int r_10 fun l_15 =>
  Q l_15 σ_14

theorem lru_Cache_Pinned_r {ρ : Ids} {h : Hp} {A : List At} {c0 : Option Addr}  {σ : St Obj} {Q' : (List Int) → St Obj → Prop} {Q : Sl → Hp → Prop} (I : Inv h (hpA (obA ρ) σ :: A)) (H : lru_Cache_Pinned c0 σ Q')
    (k : ∀ (r0 : List Int) (ra0 : Option Addr) (rc0 : Nat) (h' : Hp) (σ' : St Obj), Inv h' (ownS (rI .i64) ra0 r0.length rc0 r0 :: hpA (obA ρ) σ' :: A) → Q' r0 σ' → Q ⟨ra0, r0.length, rc0⟩ h') : Tx.lru_Cache_Pinned ρ c0 h Q := by
  unfold Tx.lru_Cache_Pinned
  unfold lru_Cache_Pinned at H
  refine al_r [.one (.pointer c0)] rfl I fun p_2 h I => ?_
  refine ldP_r (I.cell 0 0 rfl) ?_
  replace I := I.pull1
  refine lru_Cache_Order_r (c0 := c0) (σ := σ) I H fun r_4 a_5 c_6 h σ_8 I H => ?_
  replace I := I.pull1.pull2
  replace I := Inv.bigI (As := [blk p_2 (ρ.T 3) [.one (.pointer c0)], hpA (obA ρ) σ_8]) I
  replace I := I.pull1
  refine slices_DeleteFunc_int_int_r (s0 := r_4) (C := (fun z => bigA [blk p_2 (ρ.T 3) [.one (.pointer c0)], hpA (obA ρ) z])) (φ' := (fun x0 z K => lru_Cache_Pinned_1 x0 c0 z K)) (z := σ_8) (by
        intro _ z h A K' K I H k
        replace I := I.bigE
        refine phi_one ?_
        unfold Tx.lru_Cache_Pinned_1_S
        dsimp only [List.cons_append, List.nil_append, tI, tA, tN, tS, tB, tT, tP, tM, tV, tL, cnd, sameKind]
        refine lru_Cache_Pinned_1_r (v1_0 := c0) (σ := z) I H fun r h z I H => ?_
        exact ⟨_, rfl, k _ _ _ (Inv.bigI (As := [blk p_2 (ρ.T 3) [.one (.pointer c0)], hpA (obA ρ) z]) I) H⟩) I H fun r_10 a_11 c_12 h σ_14 I H => ?_
  replace I := I.pull1.bigE
  replace I := I.pull2
  refine slices_Sort_int_int_r (s0 := r_10) I H fun l_15 h I H => ?_
  have en := own_len I
  rw [en] at I ⊢
  clear en
  replace I := I.pull1.drop1
  replace I := I.pull1.pull1
  exact k l_15 a_11 c_12 _ σ_14 I H

def carlinglaw15_LruHolds_K5 (S2 : Int → (Option Addr) → (Option (List (Int × List Int))) → (Option (List (Int × Bool))) → (List carlinglaw15_Step) → Int → Int → St Obj → Prop) (S4 : Int → (Option Addr) → (Option (List (Int × List Int))) → (Option (List (Int × Bool))) → (List Int) → (List carlinglaw15_Step) → Int → Int → (List Int) → Int → Int → St Obj → Prop) (Q : Bool → St Obj → Prop) (n5 : Int) (c6 : Option Addr) (last8 : Option (List (Int × List Int))) (pins9 : Option (List (Int × Bool))) (pinned17 : List Int) (v38 : List carlinglaw15_Step) (v39 : Int) (v40 : Int) (v129 : List Int) (v130 : Int) (v131 : Int) (v158 : Bool) (σ : St Obj) : Prop :=
  br v158
  (Q false σ)
  (S4 n5 c6 last8 pins9 pinned17 v38 v39 v40 v129 v130 (IntKind.wrap .i64 (v131 + (1 : Int))) σ)

theorem carlinglaw15_LruHolds_K5_r {ρ : Ids} {h : Hp} {A : List At} {X_l1 : At} {n5 : Int} {c6 : Option Addr} {last8 : Option (List (Int × List Int))} {pins9 : Option (List (Int × Bool))} {pinned17 : List Int} {v38 : List carlinglaw15_Step} {v39 : Int} {v40 : Int} {v129 : List Int} {v130 : Int} {v131 : Int} {v158 : Bool} {m_last81 : Option Nat} {o_last81 : Option (Array MapEntry × Nat)} {m_pins92 : Option Nat} {o_pins92 : Option (Array MapEntry × Nat)} {a_pinned173 : Option Addr} {n_pinned173 c_pinned173 : Nat} {a_v384 : Option Addr} {n_v384 c_v384 : Nat} {a_v1295 : Option Addr} {n_v1295 c_v1295 : Nat} {σ : St Obj} {Q' : Bool → St Obj → Prop} {Q : Bool → Hp → Prop} {S2' : Int → (Option Addr) → (Option (List (Int × List Int))) → (Option (List (Int × Bool))) → (List carlinglaw15_Step) → Int → Int → St Obj → Prop} {S2 : Int → Option Addr → Option Nat → Option Nat → Sl → Int → Int → Hp → Prop} {S4' : Int → (Option Addr) → (Option (List (Int × List Int))) → (Option (List (Int × Bool))) → (List Int) → (List carlinglaw15_Step) → Int → Int → (List Int) → Int → Int → St Obj → Prop} {S4 : Int → Option Addr → Option Nat → Option Nat → Sl → Sl → Int → Int → Sl → Int → Int → Hp → Prop} (I : Inv h (X_l1 :: mapX (kI .i64) (rS (rI .u8)) false m_last81 o_last81 last8 :: mapX (kI .i64) rB false m_pins92 o_pins92 pins9 :: roS (rI .i64) a_pinned173 n_pinned173 c_pinned173 pinned17 :: ownS R_carlinglaw15_Step a_v384 n_v384 c_v384 v38 :: roS (rI .i64) a_v1295 n_v1295 c_v1295 v129 :: hpA (obA ρ) σ :: A)) (H : carlinglaw15_LruHolds_K5 S2' S4' Q' n5 c6 last8 pins9 pinned17 v38 v39 v40 v129 v130 v131 v158 σ) (kS2 : ∀ {n5 : Int} {c6 : Option Addr} {last8 : Option (List (Int × List Int))} {pins9 : Option (List (Int × Bool))} {v38 : List carlinglaw15_Step} {v39 : Int} {v40 : Int} {m_last81 : Option Nat} {o_last81 : Option (Array MapEntry × Nat)} {m_pins92 : Option Nat} {o_pins92 : Option (Array MapEntry × Nat)} {a_v383 : Option Addr} {n_v383 c_v383 : Nat} {σ : St Obj} {h : Hp}, Inv h (X_l1 :: mapX (kI .i64) (rS (rI .u8)) false m_last81 o_last81 last8 :: mapX (kI .i64) rB false m_pins92 o_pins92 pins9 :: ownS R_carlinglaw15_Step a_v383 n_v383 c_v383 v38 :: hpA (obA ρ) σ :: A) → S2' n5 c6 last8 pins9 v38 v39 v40 σ → S2 n5 c6 m_last81 m_pins92 ⟨a_v383, n_v383, c_v383⟩ v39 v40 h) (kS4 : ∀ {n5 : Int} {c6 : Option Addr} {last8 : Option (List (Int × List Int))} {pins9 : Option (List (Int × Bool))} {pinned17 : List Int} {v38 : List carlinglaw15_Step} {v39 : Int} {v40 : Int} {v129 : List Int} {v130 : Int} {v131 : Int} {m_last81 : Option Nat} {o_last81 : Option (Array MapEntry × Nat)} {m_pins92 : Option Nat} {o_pins92 : Option (Array MapEntry × Nat)} {a_pinned173 : Option Addr} {n_pinned173 c_pinned173 : Nat} {a_v384 : Option Addr} {n_v384 c_v384 : Nat} {a_v1295 : Option Addr} {n_v1295 c_v1295 : Nat} {σ : St Obj} {h : Hp}, Inv h (X_l1 :: mapX (kI .i64) (rS (rI .u8)) false m_last81 o_last81 last8 :: mapX (kI .i64) rB false m_pins92 o_pins92 pins9 :: roS (rI .i64) a_pinned173 n_pinned173 c_pinned173 pinned17 :: ownS R_carlinglaw15_Step a_v384 n_v384 c_v384 v38 :: roS (rI .i64) a_v1295 n_v1295 c_v1295 v129 :: hpA (obA ρ) σ :: A) → S4' n5 c6 last8 pins9 pinned17 v38 v39 v40 v129 v130 v131 σ → S4 n5 c6 m_last81 m_pins92 ⟨a_pinned173, n_pinned173, c_pinned173⟩ ⟨a_v384, n_v384, c_v384⟩ v39 v40 ⟨a_v1295, n_v1295, c_v1295⟩ v130 v131 h)
    (k : ∀ (r0 : Bool) (h' : Hp) (σ' : St Obj), Inv h' (X_l1 :: hpA (obA ρ) σ' :: A) → Q' r0 σ' → Q r0 h') : Tx.carlinglaw15_LruHolds_K5 ρ S2 S4 Q n5 c6 m_last81 m_pins92 ⟨a_pinned173, n_pinned173, c_pinned173⟩ ⟨a_v384, n_v384, c_v384⟩ v39 v40 ⟨a_v1295, n_v1295, c_v1295⟩ v130 v131 v158 h := by
  obtain rfl := ro_len I.pull3
  obtain rfl := own_len I.pull4
  obtain rfl := ro_len I.pull5
  unfold Tx.carlinglaw15_LruHolds_K5
  unfold carlinglaw15_LruHolds_K5 at H
  refine br_r H (fun hb H => ?_) (fun hb H => ?_)
  · replace I := I.pull1.drop1
    replace I := I.pull1.drop1
    replace I := I.pull1.drop1
    replace I := I.pull1.drop1
    replace I := I.pull1.drop1
    replace I := I.pull1.pull1
    exact k false _ σ I H
  · replace I := I.pull3.dupR
    replace I := I.pull6.dupR
    replace I := I.pull1.drop1
    replace I := I.pull2.drop1
    replace I := I.pull6.pull1.pull6.pull3.pull6.pull6.pull6
    exact kS4 (n5 := n5) (c6 := c6) (last8 := last8) (pins9 := pins9) (pinned17 := pinned17) (v38 := v38) (v39 := v39) (v40 := v40) (v129 := v129) (v130 := v130) (v131 := (IntKind.wrap .i64 (v131 + (1 : Int)))) (σ := σ) I H

def carlinglaw15_LruHolds_B4 (S2 : Int → (Option Addr) → (Option (List (Int × List Int))) → (Option (List (Int × Bool))) → (List carlinglaw15_Step) → Int → Int → St Obj → Prop) (S4 : Int → (Option Addr) → (Option (List (Int × List Int))) → (Option (List (Int × Bool))) → (List Int) → (List carlinglaw15_Step) → Int → Int → (List Int) → Int → Int → St Obj → Prop) (Q : Bool → St Obj → Prop) (n5 : Int) (c6 : Option Addr) (last8 : Option (List (Int × List Int))) (pins9 : Option (List (Int × Bool))) (pinned17 : List Int) (v38 : List carlinglaw15_Step) (v39 : Int) (v40 : Int) (v129 : List Int) (v130 : Int) (v131 : Int) (σ : St Obj) : Prop :=
  br (decide (v131 < v130))
  (ixP v129 v131 fun x_102 =>
  lkP pins9 x_102 false fun y_107 ok_108 =>
  br (!y_107)
  (carlinglaw15_LruHolds_K5 S2 S4 Q n5 c6 last8 pins9 pinned17 v38 v39 v40 v129 v130 v131 true σ)
  (lru_Cache_Has c6 x_102 σ fun r_113 σ_114 =>
  br (!r_113)
  (carlinglaw15_LruHolds_K5 S2 S4 Q n5 c6 last8 pins9 pinned17 v38 v39 v40 v129 v130 v131 true σ_114)
  (br (decide (v131 > (0 : Int)))
  (ixP pinned17 (IntKind.wrap .i64 (v131 - (1 : Int))) fun x_117 =>
  carlinglaw15_LruHolds_K5 S2 S4 Q n5 c6 last8 pins9 pinned17 v38 v39 v40 v129 v130 v131 (decide (x_117 ≥ x_102)) σ_114)
  (carlinglaw15_LruHolds_K5 S2 S4 Q n5 c6 last8 pins9 pinned17 v38 v39 v40 v129 v130 v131 false σ_114))))
  (S2 n5 c6 last8 pins9 v38 v39 (IntKind.wrap .i64 (v40 + (1 : Int))) σ)

def carlinglaw15_LruHolds_L4 (S2 : Int → (Option Addr) → (Option (List (Int × List Int))) → (Option (List (Int × Bool))) → (List carlinglaw15_Step) → Int → Int → St Obj → Prop) (Q : Bool → St Obj → Prop) (n5 : Int) (c6 : Option Addr) (last8 : Option (List (Int × List Int))) (pins9 : Option (List (Int × Bool))) (pinned17 : List Int) (v38 : List carlinglaw15_Step) (v39 : Int) (v40 : Int) (v129 : List Int) (v130 : Int) (v131 : Int) (σ : St Obj) : Prop :=
  Lf (fun S (v : Int × (Option Addr) × (Option (List (Int × List Int))) × (Option (List (Int × Bool))) × (List Int) × (List carlinglaw15_Step) × Int × Int × (List Int) × Int × Int × St Obj) => carlinglaw15_LruHolds_B4 S2 (fun n5 c6 last8 pins9 pinned17 v38 v39 v40 v129 v130 v131 σ => S (n5, c6, last8, pins9, pinned17, v38, v39, v40, v129, v130, v131, σ)) Q v.1 v.2.1 v.2.2.1 v.2.2.2.1 v.2.2.2.2.1 v.2.2.2.2.2.1 v.2.2.2.2.2.2.1 v.2.2.2.2.2.2.2.1 v.2.2.2.2.2.2.2.2.1 v.2.2.2.2.2.2.2.2.2.1 v.2.2.2.2.2.2.2.2.2.2.1 v.2.2.2.2.2.2.2.2.2.2.2) (n5, c6, last8, pins9, pinned17, v38, v39, v40, v129, v130, v131, σ)

theorem carlinglaw15_LruHolds_L4_in (S2 : Int → (Option Addr) → (Option (List (Int × List Int))) → (Option (List (Int × Bool))) → (List carlinglaw15_Step) → Int → Int → St Obj → Prop) (Q : Bool → St Obj → Prop) (n5 : Int) (c6 : Option Addr) (last8 : Option (List (Int × List Int))) (pins9 : Option (List (Int × Bool))) (pinned17 : List Int) (v38 : List carlinglaw15_Step) (v39 : Int) (v40 : Int) (v129 : List Int) (v130 : Int) (v131 : Int) (σ : St Obj) (H : carlinglaw15_LruHolds_B4 S2 (carlinglaw15_LruHolds_L4 S2 Q) Q n5 c6 last8 pins9 pinned17 v38 v39 v40 v129 v130 v131 σ) : carlinglaw15_LruHolds_L4 S2 Q n5 c6 last8 pins9 pinned17 v38 v39 v40 v129 v130 v131 σ := Lf.fold H

theorem carlinglaw15_LruHolds_B4_r {ρ : Ids} {h : Hp} {A : List At} {X_l1 : At} {n5 : Int} {c6 : Option Addr} {last8 : Option (List (Int × List Int))} {pins9 : Option (List (Int × Bool))} {pinned17 : List Int} {v38 : List carlinglaw15_Step} {v39 : Int} {v40 : Int} {v129 : List Int} {v130 : Int} {v131 : Int} {m_last81 : Option Nat} {o_last81 : Option (Array MapEntry × Nat)} {m_pins92 : Option Nat} {o_pins92 : Option (Array MapEntry × Nat)} {a_pinned173 : Option Addr} {n_pinned173 c_pinned173 : Nat} {a_v384 : Option Addr} {n_v384 c_v384 : Nat} {a_v1295 : Option Addr} {n_v1295 c_v1295 : Nat} {σ : St Obj} {Q' : Bool → St Obj → Prop} {Q : Bool → Hp → Prop} {S2' : Int → (Option Addr) → (Option (List (Int × List Int))) → (Option (List (Int × Bool))) → (List carlinglaw15_Step) → Int → Int → St Obj → Prop} {S2 : Int → Option Addr → Option Nat → Option Nat → Sl → Int → Int → Hp → Prop} {S4' : Int → (Option Addr) → (Option (List (Int × List Int))) → (Option (List (Int × Bool))) → (List Int) → (List carlinglaw15_Step) → Int → Int → (List Int) → Int → Int → St Obj → Prop} {S4 : Int → Option Addr → Option Nat → Option Nat → Sl → Sl → Int → Int → Sl → Int → Int → Hp → Prop} (I : Inv h (X_l1 :: mapX (kI .i64) (rS (rI .u8)) false m_last81 o_last81 last8 :: mapX (kI .i64) rB false m_pins92 o_pins92 pins9 :: roS (rI .i64) a_pinned173 n_pinned173 c_pinned173 pinned17 :: ownS R_carlinglaw15_Step a_v384 n_v384 c_v384 v38 :: roS (rI .i64) a_v1295 n_v1295 c_v1295 v129 :: hpA (obA ρ) σ :: A)) (H : carlinglaw15_LruHolds_B4 S2' S4' Q' n5 c6 last8 pins9 pinned17 v38 v39 v40 v129 v130 v131 σ) (kS2 : ∀ {n5 : Int} {c6 : Option Addr} {last8 : Option (List (Int × List Int))} {pins9 : Option (List (Int × Bool))} {v38 : List carlinglaw15_Step} {v39 : Int} {v40 : Int} {m_last81 : Option Nat} {o_last81 : Option (Array MapEntry × Nat)} {m_pins92 : Option Nat} {o_pins92 : Option (Array MapEntry × Nat)} {a_v383 : Option Addr} {n_v383 c_v383 : Nat} {σ : St Obj} {h : Hp}, Inv h (X_l1 :: mapX (kI .i64) (rS (rI .u8)) false m_last81 o_last81 last8 :: mapX (kI .i64) rB false m_pins92 o_pins92 pins9 :: ownS R_carlinglaw15_Step a_v383 n_v383 c_v383 v38 :: hpA (obA ρ) σ :: A) → S2' n5 c6 last8 pins9 v38 v39 v40 σ → S2 n5 c6 m_last81 m_pins92 ⟨a_v383, n_v383, c_v383⟩ v39 v40 h) (kS4 : ∀ {n5 : Int} {c6 : Option Addr} {last8 : Option (List (Int × List Int))} {pins9 : Option (List (Int × Bool))} {pinned17 : List Int} {v38 : List carlinglaw15_Step} {v39 : Int} {v40 : Int} {v129 : List Int} {v130 : Int} {v131 : Int} {m_last81 : Option Nat} {o_last81 : Option (Array MapEntry × Nat)} {m_pins92 : Option Nat} {o_pins92 : Option (Array MapEntry × Nat)} {a_pinned173 : Option Addr} {n_pinned173 c_pinned173 : Nat} {a_v384 : Option Addr} {n_v384 c_v384 : Nat} {a_v1295 : Option Addr} {n_v1295 c_v1295 : Nat} {σ : St Obj} {h : Hp}, Inv h (X_l1 :: mapX (kI .i64) (rS (rI .u8)) false m_last81 o_last81 last8 :: mapX (kI .i64) rB false m_pins92 o_pins92 pins9 :: roS (rI .i64) a_pinned173 n_pinned173 c_pinned173 pinned17 :: ownS R_carlinglaw15_Step a_v384 n_v384 c_v384 v38 :: roS (rI .i64) a_v1295 n_v1295 c_v1295 v129 :: hpA (obA ρ) σ :: A) → S4' n5 c6 last8 pins9 pinned17 v38 v39 v40 v129 v130 v131 σ → S4 n5 c6 m_last81 m_pins92 ⟨a_pinned173, n_pinned173, c_pinned173⟩ ⟨a_v384, n_v384, c_v384⟩ v39 v40 ⟨a_v1295, n_v1295, c_v1295⟩ v130 v131 h)
    (k : ∀ (r0 : Bool) (h' : Hp) (σ' : St Obj), Inv h' (X_l1 :: hpA (obA ρ) σ' :: A) → Q' r0 σ' → Q r0 h') : Tx.carlinglaw15_LruHolds_B4 ρ S2 S4 Q n5 c6 m_last81 m_pins92 ⟨a_pinned173, n_pinned173, c_pinned173⟩ ⟨a_v384, n_v384, c_v384⟩ v39 v40 ⟨a_v1295, n_v1295, c_v1295⟩ v130 v131 h := by
  obtain rfl := ro_len I.pull3
  obtain rfl := own_len I.pull4
  obtain rfl := ro_len I.pull5
  unfold Tx.carlinglaw15_LruHolds_B4
  unfold carlinglaw15_LruHolds_B4 at H
  refine br_r H (fun hb H => ?_) (fun hb H => ?_)
  · refine ixI_a rd_ro I.pull5 H fun p_103 x_102 he_104 hb_105 hc_106 H => ?_
    refine ldI_r hc_106 ?_
    refine lkB_r (Kx := (kI .i64)) (key := x_102) I.pull2 H fun f_110 y_107 ok_108 hf_109 H => ?_
    refine br_r H (fun hb H => ?_) (fun hb H => ?_)
    · replace I := I.pull3.dupR
      replace I := I.pull6.dupR
      replace I := I.pull1.drop1
      replace I := I.pull2.drop1
      replace I := I.pull6.pull1.pull6.pull3.pull6.pull6.pull6
      exact carlinglaw15_LruHolds_K5_r (n5 := n5) (c6 := c6) (last8 := last8) (pins9 := pins9) (pinned17 := pinned17) (v38 := v38) (v39 := v39) (v40 := v40) (v129 := v129) (v130 := v130) (v131 := v131) (v158 := true) (σ := σ) I H kS2 kS4 k
    · replace I := I.pull6
      refine lru_Cache_Has_r (c0 := c6) (item1 := x_102) (σ := σ) I H fun r_113 h σ_114 I H => ?_
      refine br_r H (fun hb H => ?_) (fun hb H => ?_)
      · replace I := I.pull4.dupR
        replace I := I.pull7.dupR
        replace I := I.pull1.drop1
        replace I := I.pull2.drop1
        replace I := I.pull2.pull1.pull6.pull3.pull6.pull6.pull6
        exact carlinglaw15_LruHolds_K5_r (n5 := n5) (c6 := c6) (last8 := last8) (pins9 := pins9) (pinned17 := pinned17) (v38 := v38) (v39 := v39) (v40 := v40) (v129 := v129) (v130 := v130) (v131 := v131) (v158 := true) (σ := σ_114) I H kS2 kS4 k
      · refine br_r H (fun hb H => ?_) (fun hb H => ?_)
        · refine ixI_a rd_ro I.pull4 H fun p_118 x_117 he_119 hb_120 hc_121 H => ?_
          refine ldI_r hc_121 ?_
          replace I := I.pull4.dupR
          replace I := I.pull7.dupR
          replace I := I.pull1.drop1
          replace I := I.pull2.drop1
          replace I := I.pull2.pull1.pull6.pull3.pull6.pull6.pull6
          exact carlinglaw15_LruHolds_K5_r (n5 := n5) (c6 := c6) (last8 := last8) (pins9 := pins9) (pinned17 := pinned17) (v38 := v38) (v39 := v39) (v40 := v40) (v129 := v129) (v130 := v130) (v131 := v131) (v158 := (decide (x_117 ≥ x_102))) (σ := σ_114) I H kS2 kS4 k
        · replace I := I.pull4.dupR
          replace I := I.pull7.dupR
          replace I := I.pull1.drop1
          replace I := I.pull2.drop1
          replace I := I.pull2.pull1.pull6.pull3.pull6.pull6.pull6
          exact carlinglaw15_LruHolds_K5_r (n5 := n5) (c6 := c6) (last8 := last8) (pins9 := pins9) (pinned17 := pinned17) (v38 := v38) (v39 := v39) (v40 := v40) (v129 := v129) (v130 := v130) (v131 := v131) (v158 := false) (σ := σ_114) I H kS2 kS4 k
  · replace I := I.pull3.drop1
    replace I := I.pull4.drop1
    replace I := I.pull4.pull4.pull4.pull4.pull4
    exact kS2 (n5 := n5) (c6 := c6) (last8 := last8) (pins9 := pins9) (v38 := v38) (v39 := v39) (v40 := (IntKind.wrap .i64 (v40 + (1 : Int)))) (σ := σ) I H

theorem carlinglaw15_LruHolds_L4_r {ρ : Ids} {h : Hp} {A : List At} {X_l1 : At} {n5 : Int} {c6 : Option Addr} {last8 : Option (List (Int × List Int))} {pins9 : Option (List (Int × Bool))} {pinned17 : List Int} {v38 : List carlinglaw15_Step} {v39 : Int} {v40 : Int} {v129 : List Int} {v130 : Int} {v131 : Int} {m_last81 : Option Nat} {o_last81 : Option (Array MapEntry × Nat)} {m_pins92 : Option Nat} {o_pins92 : Option (Array MapEntry × Nat)} {a_pinned173 : Option Addr} {n_pinned173 c_pinned173 : Nat} {a_v384 : Option Addr} {n_v384 c_v384 : Nat} {a_v1295 : Option Addr} {n_v1295 c_v1295 : Nat} {σ : St Obj} {Q' : Bool → St Obj → Prop} {Q : Bool → Hp → Prop} {S2' : Int → (Option Addr) → (Option (List (Int × List Int))) → (Option (List (Int × Bool))) → (List carlinglaw15_Step) → Int → Int → St Obj → Prop} {S2 : Int → Option Addr → Option Nat → Option Nat → Sl → Int → Int → Hp → Prop} (I : Inv h (X_l1 :: mapX (kI .i64) (rS (rI .u8)) false m_last81 o_last81 last8 :: mapX (kI .i64) rB false m_pins92 o_pins92 pins9 :: roS (rI .i64) a_pinned173 n_pinned173 c_pinned173 pinned17 :: ownS R_carlinglaw15_Step a_v384 n_v384 c_v384 v38 :: roS (rI .i64) a_v1295 n_v1295 c_v1295 v129 :: hpA (obA ρ) σ :: A)) (H : carlinglaw15_LruHolds_L4 S2' Q' n5 c6 last8 pins9 pinned17 v38 v39 v40 v129 v130 v131 σ) (kS2 : ∀ {n5 : Int} {c6 : Option Addr} {last8 : Option (List (Int × List Int))} {pins9 : Option (List (Int × Bool))} {v38 : List carlinglaw15_Step} {v39 : Int} {v40 : Int} {m_last81 : Option Nat} {o_last81 : Option (Array MapEntry × Nat)} {m_pins92 : Option Nat} {o_pins92 : Option (Array MapEntry × Nat)} {a_v383 : Option Addr} {n_v383 c_v383 : Nat} {σ : St Obj} {h : Hp}, Inv h (X_l1 :: mapX (kI .i64) (rS (rI .u8)) false m_last81 o_last81 last8 :: mapX (kI .i64) rB false m_pins92 o_pins92 pins9 :: ownS R_carlinglaw15_Step a_v383 n_v383 c_v383 v38 :: hpA (obA ρ) σ :: A) → S2' n5 c6 last8 pins9 v38 v39 v40 σ → S2 n5 c6 m_last81 m_pins92 ⟨a_v383, n_v383, c_v383⟩ v39 v40 h)
    (k : ∀ (r0 : Bool) (h' : Hp) (σ' : St Obj), Inv h' (X_l1 :: hpA (obA ρ) σ' :: A) → Q' r0 σ' → Q r0 h') : Tx.carlinglaw15_LruHolds_L4 ρ S2 Q n5 c6 m_last81 m_pins92 ⟨a_pinned173, n_pinned173, c_pinned173⟩ ⟨a_v384, n_v384, c_v384⟩ v39 v40 ⟨a_v1295, n_v1295, c_v1295⟩ v130 v131 h := by
  refine Lf.ind H (fun v => ∀ (m_last81 : Option Nat) (o_last81 : Option (Array MapEntry × Nat)) (m_pins92 : Option Nat) (o_pins92 : Option (Array MapEntry × Nat)) (a_pinned173 : Option Addr) (n_pinned173 c_pinned173 : Nat) (a_v384 : Option Addr) (n_v384 c_v384 : Nat) (a_v1295 : Option Addr) (n_v1295 c_v1295 : Nat) (h : Hp), Inv h (X_l1 :: mapX (kI .i64) (rS (rI .u8)) false m_last81 o_last81 v.2.2.1 :: mapX (kI .i64) rB false m_pins92 o_pins92 v.2.2.2.1 :: roS (rI .i64) a_pinned173 n_pinned173 c_pinned173 v.2.2.2.2.1 :: ownS R_carlinglaw15_Step a_v384 n_v384 c_v384 v.2.2.2.2.2.1 :: roS (rI .i64) a_v1295 n_v1295 c_v1295 v.2.2.2.2.2.2.2.2.1 :: hpA (obA ρ) v.2.2.2.2.2.2.2.2.2.2.2 :: A) → Tx.carlinglaw15_LruHolds_L4 ρ S2 Q v.1 v.2.1 m_last81 m_pins92 ⟨a_pinned173, n_pinned173, c_pinned173⟩ ⟨a_v384, n_v384, c_v384⟩ v.2.2.2.2.2.2.1 v.2.2.2.2.2.2.2.1 ⟨a_v1295, n_v1295, c_v1295⟩ v.2.2.2.2.2.2.2.2.2.1 v.2.2.2.2.2.2.2.2.2.2.1 h) ?_ _ _ _ _ _ _ _ _ _ _ _ _ _ _  I
  rintro ⟨n5, c6, last8, pins9, pinned17, v38, v39, v40, v129, v130, v131, σ⟩ S hS HB m_last81 o_last81 m_pins92 o_pins92 a_pinned173 n_pinned173 c_pinned173 a_v384 n_v384 c_v384 a_v1295 n_v1295 c_v1295 h I
  refine Tx.carlinglaw15_LruHolds_L4_in _ _ _ _ _ _ _ _ _ _ _ _ _ _ _ ?_
  try simp only [nrm_v]
  exact carlinglaw15_LruHolds_B4_r (n5 := n5) (c6 := c6) (last8 := last8) (pins9 := pins9) (pinned17 := pinned17) (v38 := v38) (v39 := v39) (v40 := v40) (v129 := v129) (v130 := v130) (v131 := v131) (σ := σ) I HB kS2 (fun {n5 c6 last8 pins9 pinned17 v38 v39 v40 v129 v130 v131 m_last81 o_last81 m_pins92 o_pins92 a_pinned173 n_pinned173 c_pinned173 a_v384 n_v384 c_v384 a_v1295 n_v1295 c_v1295 σ h} I H => hS _ H m_last81 o_last81 m_pins92 o_pins92 a_pinned173 n_pinned173 c_pinned173 a_v384 n_v384 c_v384 a_v1295 n_v1295 c_v1295 _ I) k

def carlinglaw15_LruHolds_K6 (S2 : Int → (Option Addr) → (Option (List (Int × List Int))) → (Option (List (Int × Bool))) → (List carlinglaw15_Step) → Int → Int → St Obj → Prop) (Q : Bool → St Obj → Prop) (n5 : Int) (c6 : Option Addr) (last8 : Option (List (Int × List Int))) (pins9 : Option (List (Int × Bool))) (v38 : List carlinglaw15_Step) (v39 : Int) (v40 : Int) (σ : St Obj) : Prop :=
  lru_Cache_Pinned c6 σ fun r_140 σ_144 =>
  lru_Cache_Len c6 σ_144 fun r_145 σ_146 =>
  br (decide ((IntKind.wrap .i64 (r_145 - (r_140.length : Int))) > n5))
  (Q false σ_146)
  (carlinglaw15_LruHolds_L4 S2 Q n5 c6 last8 pins9 r_140 v38 v39 v40 r_140 (r_140.length : Int) (0 : Int) σ_146)

theorem carlinglaw15_LruHolds_K6_r {ρ : Ids} {h : Hp} {A : List At} {X_l1 : At} {n5 : Int} {c6 : Option Addr} {last8 : Option (List (Int × List Int))} {pins9 : Option (List (Int × Bool))} {v38 : List carlinglaw15_Step} {v39 : Int} {v40 : Int} {m_last81 : Option Nat} {o_last81 : Option (Array MapEntry × Nat)} {m_pins92 : Option Nat} {o_pins92 : Option (Array MapEntry × Nat)} {a_v383 : Option Addr} {n_v383 c_v383 : Nat} {σ : St Obj} {Q' : Bool → St Obj → Prop} {Q : Bool → Hp → Prop} {S2' : Int → (Option Addr) → (Option (List (Int × List Int))) → (Option (List (Int × Bool))) → (List carlinglaw15_Step) → Int → Int → St Obj → Prop} {S2 : Int → Option Addr → Option Nat → Option Nat → Sl → Int → Int → Hp → Prop} (I : Inv h (X_l1 :: mapX (kI .i64) (rS (rI .u8)) false m_last81 o_last81 last8 :: mapX (kI .i64) rB false m_pins92 o_pins92 pins9 :: ownS R_carlinglaw15_Step a_v383 n_v383 c_v383 v38 :: hpA (obA ρ) σ :: A)) (H : carlinglaw15_LruHolds_K6 S2' Q' n5 c6 last8 pins9 v38 v39 v40 σ) (kS2 : ∀ {n5 : Int} {c6 : Option Addr} {last8 : Option (List (Int × List Int))} {pins9 : Option (List (Int × Bool))} {v38 : List carlinglaw15_Step} {v39 : Int} {v40 : Int} {m_last81 : Option Nat} {o_last81 : Option (Array MapEntry × Nat)} {m_pins92 : Option Nat} {o_pins92 : Option (Array MapEntry × Nat)} {a_v383 : Option Addr} {n_v383 c_v383 : Nat} {σ : St Obj} {h : Hp}, Inv h (X_l1 :: mapX (kI .i64) (rS (rI .u8)) false m_last81 o_last81 last8 :: mapX (kI .i64) rB false m_pins92 o_pins92 pins9 :: ownS R_carlinglaw15_Step a_v383 n_v383 c_v383 v38 :: hpA (obA ρ) σ :: A) → S2' n5 c6 last8 pins9 v38 v39 v40 σ → S2 n5 c6 m_last81 m_pins92 ⟨a_v383, n_v383, c_v383⟩ v39 v40 h)
    (k : ∀ (r0 : Bool) (h' : Hp) (σ' : St Obj), Inv h' (X_l1 :: hpA (obA ρ) σ' :: A) → Q' r0 σ' → Q r0 h') : Tx.carlinglaw15_LruHolds_K6 ρ S2 Q n5 c6 m_last81 m_pins92 ⟨a_v383, n_v383, c_v383⟩ v39 v40 h := by
  obtain rfl := own_len I.pull3
  unfold Tx.carlinglaw15_LruHolds_K6
  unfold carlinglaw15_LruHolds_K6 at H
  replace I := I.pull4
  refine lru_Cache_Pinned_r (c0 := c6) (σ := σ) I H fun r_140 a_141 c_142 h σ_144 I H => ?_
  replace I := I.pull1
  refine lru_Cache_Len_r (c0 := c6) (σ := σ_144) I H fun r_145 h σ_146 I H => ?_
  refine br_r H (fun hb H => ?_) (fun hb H => ?_)
  · replace I := I.pull1.drop1
    replace I := I.pull2.drop1
    replace I := I.pull2.drop1
    replace I := I.pull2.drop1
    replace I := I.pull1
    exact k false _ σ_146 I H
  · replace I := I.pull1.freeze
    replace I := I.dupR
    replace I := I.pull1.dupR
    replace I := I.pull1.drop1
    replace I := I.pull2.pull1.pull6.pull3.pull6.pull6.pull6
    exact carlinglaw15_LruHolds_L4_r (n5 := n5) (c6 := c6) (last8 := last8) (pins9 := pins9) (pinned17 := r_140) (v38 := v38) (v39 := v39) (v40 := v40) (v129 := r_140) (v130 := (r_140.length : Int)) (v131 := (0 : Int)) (σ := σ_146) I H kS2 k

def carlinglaw15_LruHolds_K3 (S2 : Int → (Option Addr) → (Option (List (Int × List Int))) → (Option (List (Int × Bool))) → (List carlinglaw15_Step) → Int → Int → St Obj → Prop) (Q : Bool → St Obj → Prop) (n5 : Int) (c6 : Option Addr) (last8 : Option (List (Int × List Int))) (pins9 : Option (List (Int × Bool))) (v38 : List carlinglaw15_Step) (v39 : Int) (v40 : Int) (v84 : Bool) (σ : St Obj) : Prop :=
  br v84
  (Q false σ)
  (carlinglaw15_LruHolds_K6 S2 Q n5 c6 last8 pins9 v38 v39 v40 σ)

theorem carlinglaw15_LruHolds_K3_r {ρ : Ids} {h : Hp} {A : List At} {X_l1 : At} {n5 : Int} {c6 : Option Addr} {last8 : Option (List (Int × List Int))} {pins9 : Option (List (Int × Bool))} {v38 : List carlinglaw15_Step} {v39 : Int} {v40 : Int} {v84 : Bool} {m_last81 : Option Nat} {o_last81 : Option (Array MapEntry × Nat)} {m_pins92 : Option Nat} {o_pins92 : Option (Array MapEntry × Nat)} {a_v383 : Option Addr} {n_v383 c_v383 : Nat} {σ : St Obj} {Q' : Bool → St Obj → Prop} {Q : Bool → Hp → Prop} {S2' : Int → (Option Addr) → (Option (List (Int × List Int))) → (Option (List (Int × Bool))) → (List carlinglaw15_Step) → Int → Int → St Obj → Prop} {S2 : Int → Option Addr → Option Nat → Option Nat → Sl → Int → Int → Hp → Prop} (I : Inv h (X_l1 :: mapX (kI .i64) (rS (rI .u8)) false m_last81 o_last81 last8 :: mapX (kI .i64) rB false m_pins92 o_pins92 pins9 :: ownS R_carlinglaw15_Step a_v383 n_v383 c_v383 v38 :: hpA (obA ρ) σ :: A)) (H : carlinglaw15_LruHolds_K3 S2' Q' n5 c6 last8 pins9 v38 v39 v40 v84 σ) (kS2 : ∀ {n5 : Int} {c6 : Option Addr} {last8 : Option (List (Int × List Int))} {pins9 : Option (List (Int × Bool))} {v38 : List carlinglaw15_Step} {v39 : Int} {v40 : Int} {m_last81 : Option Nat} {o_last81 : Option (Array MapEntry × Nat)} {m_pins92 : Option Nat} {o_pins92 : Option (Array MapEntry × Nat)} {a_v383 : Option Addr} {n_v383 c_v383 : Nat} {σ : St Obj} {h : Hp}, Inv h (X_l1 :: mapX (kI .i64) (rS (rI .u8)) false m_last81 o_last81 last8 :: mapX (kI .i64) rB false m_pins92 o_pins92 pins9 :: ownS R_carlinglaw15_Step a_v383 n_v383 c_v383 v38 :: hpA (obA ρ) σ :: A) → S2' n5 c6 last8 pins9 v38 v39 v40 σ → S2 n5 c6 m_last81 m_pins92 ⟨a_v383, n_v383, c_v383⟩ v39 v40 h)
    (k : ∀ (r0 : Bool) (h' : Hp) (σ' : St Obj), Inv h' (X_l1 :: hpA (obA ρ) σ' :: A) → Q' r0 σ' → Q r0 h') : Tx.carlinglaw15_LruHolds_K3 ρ S2 Q n5 c6 m_last81 m_pins92 ⟨a_v383, n_v383, c_v383⟩ v39 v40 v84 h := by
  obtain rfl := own_len I.pull3
  unfold Tx.carlinglaw15_LruHolds_K3
  unfold carlinglaw15_LruHolds_K3 at H
  refine br_r H (fun hb H => ?_) (fun hb H => ?_)
  · replace I := I.pull1.drop1
    replace I := I.pull1.drop1
    replace I := I.pull1.drop1
    replace I := I.pull1.pull1
    exact k false _ σ I H
  · replace I := I.pull4.pull4.pull4.pull4.pull4
    exact carlinglaw15_LruHolds_K6_r (n5 := n5) (c6 := c6) (last8 := last8) (pins9 := pins9) (v38 := v38) (v39 := v39) (v40 := v40) (σ := σ) I H kS2 k

def carlinglaw15_LruHolds_B2 (S2 : Int → (Option Addr) → (Option (List (Int × List Int))) → (Option (List (Int × Bool))) → (List carlinglaw15_Step) → Int → Int → St Obj → Prop) (Q : Bool → St Obj → Prop) (n5 : Int) (c6 : Option Addr) (last8 : Option (List (Int × List Int))) (pins9 : Option (List (Int × Bool))) (v38 : List carlinglaw15_Step) (v39 : Int) (v40 : Int) (σ : St Obj) : Prop :=
  br (decide (v40 < v39))
  (ixP v38 v40 fun x_23 =>
  br ((Int.tmod x_23.Kind (6 : Int)) == (2 : Int))
  (lru_Cache_Get c6 (IntKind.wrap .i64 (((BitVec.ofInt (IntKind.bits .i64) x_23.Item &&& (BitVec.ofInt (IntKind.bits .i64) (15 : Int))).toNat : Int))) σ fun r_35 r_38 σ_40 =>
  br r_38
  (lkP last8 (IntKind.wrap .i64 (((BitVec.ofInt (IntKind.bits .i64) x_23.Item &&& (BitVec.ofInt (IntKind.bits .i64) (15 : Int))).toNat : Int))) ([]) fun y_41 ok_42 =>
  carlingref02_Same r_35 y_41 fun r_48 =>
  br (!r_48)
  (carlinglaw15_LruHolds_K3 S2 Q n5 c6 last8 pins9 v38 v39 v40 true σ_40)
  (lkP pins9 (IntKind.wrap .i64 (((BitVec.ofInt (IntKind.bits .i64) x_23.Item &&& (BitVec.ofInt (IntKind.bits .i64) (15 : Int))).toNat : Int))) false fun y_49 ok_50 =>
  br y_49
  (carlinglaw15_LruHolds_K3 S2 Q n5 c6 last8 pins9 v38 v39 v40 (!r_38) σ_40)
  (carlinglaw15_LruHolds_K3 S2 Q n5 c6 last8 pins9 v38 v39 v40 false σ_40)))
  (lkP pins9 (IntKind.wrap .i64 (((BitVec.ofInt (IntKind.bits .i64) x_23.Item &&& (BitVec.ofInt (IntKind.bits .i64) (15 : Int))).toNat : Int))) false fun y_53 ok_54 =>
  br y_53
  (carlinglaw15_LruHolds_K3 S2 Q n5 c6 last8 pins9 v38 v39 v40 (!r_38) σ_40)
  (carlinglaw15_LruHolds_K3 S2 Q n5 c6 last8 pins9 v38 v39 v40 false σ_40)))
  (br ((Int.tmod x_23.Kind (6 : Int)) == (3 : Int))
  (lru_Cache_Pin c6 (IntKind.wrap .i64 (((BitVec.ofInt (IntKind.bits .i64) x_23.Item &&& (BitVec.ofInt (IntKind.bits .i64) (15 : Int))).toNat : Int))) x_23.Page σ fun r_57 σ_58 =>
  muP last8 (IntKind.wrap .i64 (((BitVec.ofInt (IntKind.bits .i64) x_23.Item &&& (BitVec.ofInt (IntKind.bits .i64) (15 : Int))).toNat : Int))) x_23.Page fun L_61 =>
  muP pins9 (IntKind.wrap .i64 (((BitVec.ofInt (IntKind.bits .i64) x_23.Item &&& (BitVec.ofInt (IntKind.bits .i64) (15 : Int))).toNat : Int))) true fun L_64 =>
  carlinglaw15_LruHolds_K6 S2 Q n5 c6 L_61 L_64 v38 v39 v40 σ_58)
  (br ((Int.tmod x_23.Kind (6 : Int)) == (4 : Int))
  (lru_Cache_Unpin c6 (IntKind.wrap .i64 (((BitVec.ofInt (IntKind.bits .i64) x_23.Item &&& (BitVec.ofInt (IntKind.bits .i64) (15 : Int))).toNat : Int))) σ fun r_66 r_67 σ_68 =>
  lkP pins9 (IntKind.wrap .i64 (((BitVec.ofInt (IntKind.bits .i64) x_23.Item &&& (BitVec.ofInt (IntKind.bits .i64) (15 : Int))).toNat : Int))) false fun y_69 ok_70 =>
  br (!(r_67 == y_69))
  (Q false σ_68)
  (muP pins9 (IntKind.wrap .i64 (((BitVec.ofInt (IntKind.bits .i64) x_23.Item &&& (BitVec.ofInt (IntKind.bits .i64) (15 : Int))).toNat : Int))) false fun L_74 =>
  carlinglaw15_LruHolds_K6 S2 Q n5 c6 last8 L_74 v38 v39 v40 σ_68))
  (br ((Int.tmod x_23.Kind (6 : Int)) == (5 : Int))
  (lru_Cache_Drop c6 (IntKind.wrap .i64 (((BitVec.ofInt (IntKind.bits .i64) x_23.Item &&& (BitVec.ofInt (IntKind.bits .i64) (15 : Int))).toNat : Int))) σ fun r_76 σ_77 =>
  muP pins9 (IntKind.wrap .i64 (((BitVec.ofInt (IntKind.bits .i64) x_23.Item &&& (BitVec.ofInt (IntKind.bits .i64) (15 : Int))).toNat : Int))) false fun L_79 =>
  carlinglaw15_LruHolds_K6 S2 Q n5 c6 last8 L_79 v38 v39 v40 σ_77)
  (lru_Cache_Put c6 (IntKind.wrap .i64 (((BitVec.ofInt (IntKind.bits .i64) x_23.Item &&& (BitVec.ofInt (IntKind.bits .i64) (15 : Int))).toNat : Int))) x_23.Page σ fun r_81 r_82 σ_83 =>
  muP last8 (IntKind.wrap .i64 (((BitVec.ofInt (IntKind.bits .i64) x_23.Item &&& (BitVec.ofInt (IntKind.bits .i64) (15 : Int))).toNat : Int))) x_23.Page fun L_86 =>
  carlinglaw15_LruHolds_K6 S2 Q n5 c6 L_86 pins9 v38 v39 v40 σ_83)))))
  (carlinglaw15_alive σ fun r_88 σ_89 =>
  Q r_88 σ_89)

def carlinglaw15_LruHolds_L2 (Q : Bool → St Obj → Prop) (n5 : Int) (c6 : Option Addr) (last8 : Option (List (Int × List Int))) (pins9 : Option (List (Int × Bool))) (v38 : List carlinglaw15_Step) (v39 : Int) (v40 : Int) (σ : St Obj) : Prop :=
  Lf (fun S (v : Int × (Option Addr) × (Option (List (Int × List Int))) × (Option (List (Int × Bool))) × (List carlinglaw15_Step) × Int × Int × St Obj) => carlinglaw15_LruHolds_B2 (fun n5 c6 last8 pins9 v38 v39 v40 σ => S (n5, c6, last8, pins9, v38, v39, v40, σ)) Q v.1 v.2.1 v.2.2.1 v.2.2.2.1 v.2.2.2.2.1 v.2.2.2.2.2.1 v.2.2.2.2.2.2.1 v.2.2.2.2.2.2.2) (n5, c6, last8, pins9, v38, v39, v40, σ)

theorem carlinglaw15_LruHolds_L2_in (Q : Bool → St Obj → Prop) (n5 : Int) (c6 : Option Addr) (last8 : Option (List (Int × List Int))) (pins9 : Option (List (Int × Bool))) (v38 : List carlinglaw15_Step) (v39 : Int) (v40 : Int) (σ : St Obj) (H : carlinglaw15_LruHolds_B2 (carlinglaw15_LruHolds_L2 Q) Q n5 c6 last8 pins9 v38 v39 v40 σ) : carlinglaw15_LruHolds_L2 Q n5 c6 last8 pins9 v38 v39 v40 σ := Lf.fold H

theorem carlinglaw15_LruHolds_B2_r {ρ : Ids} {h : Hp} {A : List At} {X_l1 : At} {n5 : Int} {c6 : Option Addr} {last8 : Option (List (Int × List Int))} {pins9 : Option (List (Int × Bool))} {v38 : List carlinglaw15_Step} {v39 : Int} {v40 : Int} {m_last81 : Option Nat} {o_last81 : Option (Array MapEntry × Nat)} {m_pins92 : Option Nat} {o_pins92 : Option (Array MapEntry × Nat)} {a_v383 : Option Addr} {n_v383 c_v383 : Nat} {σ : St Obj} {Q' : Bool → St Obj → Prop} {Q : Bool → Hp → Prop} {S2' : Int → (Option Addr) → (Option (List (Int × List Int))) → (Option (List (Int × Bool))) → (List carlinglaw15_Step) → Int → Int → St Obj → Prop} {S2 : Int → Option Addr → Option Nat → Option Nat → Sl → Int → Int → Hp → Prop} (I : Inv h (X_l1 :: mapX (kI .i64) (rS (rI .u8)) false m_last81 o_last81 last8 :: mapX (kI .i64) rB false m_pins92 o_pins92 pins9 :: ownS R_carlinglaw15_Step a_v383 n_v383 c_v383 v38 :: hpA (obA ρ) σ :: A)) (H : carlinglaw15_LruHolds_B2 S2' Q' n5 c6 last8 pins9 v38 v39 v40 σ) (kS2 : ∀ {n5 : Int} {c6 : Option Addr} {last8 : Option (List (Int × List Int))} {pins9 : Option (List (Int × Bool))} {v38 : List carlinglaw15_Step} {v39 : Int} {v40 : Int} {m_last81 : Option Nat} {o_last81 : Option (Array MapEntry × Nat)} {m_pins92 : Option Nat} {o_pins92 : Option (Array MapEntry × Nat)} {a_v383 : Option Addr} {n_v383 c_v383 : Nat} {σ : St Obj} {h : Hp}, Inv h (X_l1 :: mapX (kI .i64) (rS (rI .u8)) false m_last81 o_last81 last8 :: mapX (kI .i64) rB false m_pins92 o_pins92 pins9 :: ownS R_carlinglaw15_Step a_v383 n_v383 c_v383 v38 :: hpA (obA ρ) σ :: A) → S2' n5 c6 last8 pins9 v38 v39 v40 σ → S2 n5 c6 m_last81 m_pins92 ⟨a_v383, n_v383, c_v383⟩ v39 v40 h)
    (k : ∀ (r0 : Bool) (h' : Hp) (σ' : St Obj), Inv h' (X_l1 :: hpA (obA ρ) σ' :: A) → Q' r0 σ' → Q r0 h') : Tx.carlinglaw15_LruHolds_B2 ρ S2 Q n5 c6 m_last81 m_pins92 ⟨a_v383, n_v383, c_v383⟩ v39 v40 h := by
  obtain rfl := own_len I.pull3
  unfold Tx.carlinglaw15_LruHolds_B2
  unfold carlinglaw15_LruHolds_B2 at H
  refine br_r H (fun hb H => ?_) (fun hb H => ?_)
  · refine ixcarlinglaw15_Step rd_own I.pull3 H fun p_24 x_23 a_30 c_31 he_25 hb_26 hc_27 hc_28 hc_29 I H => ?_
    refine ldI_r hc_27 ?_
    refine ldI_r hc_28 ?_
    refine ldS_r hc_29 ?_
    refine al_r [.one (.int .u8 (0 : Int)), .one (.int .i64 (0 : Int)), .one (.slice none 0 0)] rfl I fun p_33 h I => ?_
    refine stA_r I 0 3 0 [.one (.int .u8 x_23.Kind), .one (.int .i64 x_23.Item), .one (.slice a_30 x_23.Page.length c_31)] rfl rfl rfl (all_one (by simp [segs, Seg.cells, allOne, allOne_append, allOne_lump, Value.oneCell'])) fun h (I : Inv h (blk p_33 (ρ.T 5) [.one (.int .u8 x_23.Kind), .one (.int .i64 x_23.Item), .one (.slice a_30 x_23.Page.length c_31)] :: _)) => ?_
    refine ldI_r (I.cell 1 1 rfl) ?_
    refine ldI_r (I.cell 0 0 rfl) ?_
    refine ⟨by decide, ?_⟩
    refine br_r H (fun hb H => ?_) (fun hb H => ?_)
    · replace I := I.pull6
      refine lru_Cache_Get_r (c0 := c6) (item1 := (IntKind.wrap .i64 (((BitVec.ofInt (IntKind.bits .i64) x_23.Item &&& (BitVec.ofInt (IntKind.bits .i64) (15 : Int))).toNat : Int)))) (σ := σ) I H fun r_35 a_36 c_37 r_38 h σ_40 I H => ?_
      refine br_r H (fun hb H => ?_) (fun hb H => ?_)
      · refine lkS_r (Kx := (kI .i64)) (key := (IntKind.wrap .i64 (((BitVec.ofInt (IntKind.bits .i64) x_23.Item &&& (BitVec.ofInt (IntKind.bits .i64) (15 : Int))).toNat : Int)))) I.pull6 H fun f_44 a_45 c_46 y_41 ok_42 hf_43 I H => ?_
        replace I := I.pull2
        refine carlingref02_Same_r (a0 := r_35) (b1 := y_41) rd_own rd_ro I H fun r_48 h I H => ?_
        refine br_r H (fun hb H => ?_) (fun hb H => ?_)
        · replace I := I.drop1
          replace I := I.drop1
          replace I := I.pull2.drop1
          replace I := I.pull2.drop1
          replace I := I.pull1.pull2.pull4.pull3.pull4
          exact carlinglaw15_LruHolds_K3_r (n5 := n5) (c6 := c6) (last8 := last8) (pins9 := pins9) (v38 := v38) (v39 := v39) (v40 := v40) (v84 := true) (σ := σ_40) I H kS2 k
        · refine lkB_r (Kx := (kI .i64)) (key := (IntKind.wrap .i64 (((BitVec.ofInt (IntKind.bits .i64) x_23.Item &&& (BitVec.ofInt (IntKind.bits .i64) (15 : Int))).toNat : Int)))) I.pull8 H fun f_52 y_49 ok_50 hf_51 H => ?_
          refine br_r H (fun hb H => ?_) (fun hb H => ?_)
          · replace I := I.drop1
            replace I := I.drop1
            replace I := I.pull2.drop1
            replace I := I.pull2.drop1
            replace I := I.pull1.pull2.pull4.pull3.pull4
            exact carlinglaw15_LruHolds_K3_r (n5 := n5) (c6 := c6) (last8 := last8) (pins9 := pins9) (v38 := v38) (v39 := v39) (v40 := v40) (v84 := (!r_38)) (σ := σ_40) I H kS2 k
          · replace I := I.drop1
            replace I := I.drop1
            replace I := I.pull2.drop1
            replace I := I.pull2.drop1
            replace I := I.pull1.pull2.pull4.pull3.pull4
            exact carlinglaw15_LruHolds_K3_r (n5 := n5) (c6 := c6) (last8 := last8) (pins9 := pins9) (v38 := v38) (v39 := v39) (v40 := v40) (v84 := false) (σ := σ_40) I H kS2 k
      · refine lkB_r (Kx := (kI .i64)) (key := (IntKind.wrap .i64 (((BitVec.ofInt (IntKind.bits .i64) x_23.Item &&& (BitVec.ofInt (IntKind.bits .i64) (15 : Int))).toNat : Int)))) I.pull7 H fun f_56 y_53 ok_54 hf_55 H => ?_
        refine br_r H (fun hb H => ?_) (fun hb H => ?_)
        · replace I := I.drop1
          replace I := I.pull1.drop1
          replace I := I.pull1.drop1
          replace I := I.pull1.pull4.pull4.pull4
          exact carlinglaw15_LruHolds_K3_r (n5 := n5) (c6 := c6) (last8 := last8) (pins9 := pins9) (v38 := v38) (v39 := v39) (v40 := v40) (v84 := (!r_38)) (σ := σ_40) I H kS2 k
        · replace I := I.drop1
          replace I := I.pull1.drop1
          replace I := I.pull1.drop1
          replace I := I.pull1.pull4.pull4.pull4
          exact carlinglaw15_LruHolds_K3_r (n5 := n5) (c6 := c6) (last8 := last8) (pins9 := pins9) (v38 := v38) (v39 := v39) (v40 := v40) (v84 := false) (σ := σ_40) I H kS2 k
    · refine br_r H (fun hb H => ?_) (fun hb H => ?_)
      · refine ldS_r (I.cell 2 2 rfl) ?_
        replace I := I.pull6.pull2
        refine lru_Cache_Pin_r (c0 := c6) (item1 := (IntKind.wrap .i64 (((BitVec.ofInt (IntKind.bits .i64) x_23.Item &&& (BitVec.ofInt (IntKind.bits .i64) (15 : Int))).toNat : Int)))) (page2 := x_23.Page) (σ := σ) rd_ro I H fun r_57 h σ_58 I H => ?_
        refine ldS_r (I.pull2.cell 2 2 rfl) ?_
        replace I := I.dupR
        replace I := I.repSl
        replace I := I.pull6.pull1
        refine mu_r (Kx := (kI .i64)) (key := (IntKind.wrap .i64 (((BitVec.ofInt (IntKind.bits .i64) x_23.Item &&& (BitVec.ofInt (IntKind.bits .i64) (15 : Int))).toNat : Int)))) (x := x_23.Page) I rfl H fun h o_62 L_61 I H => ?_
        replace I := I.repB true
        replace I := I.pull7.pull1
        refine mu_r (Kx := (kI .i64)) (key := (IntKind.wrap .i64 (((BitVec.ofInt (IntKind.bits .i64) x_23.Item &&& (BitVec.ofInt (IntKind.bits .i64) (15 : Int))).toNat : Int)))) (x := true) I rfl H fun h o_65 L_64 I H => ?_
        replace I := I.pull2.drop1
        replace I := I.pull3.drop1
        replace I := I.pull2.pull3.pull2.pull3.pull4
        exact carlinglaw15_LruHolds_K6_r (n5 := n5) (c6 := c6) (last8 := L_61) (pins9 := L_64) (v38 := v38) (v39 := v39) (v40 := v40) (σ := σ_58) I H kS2 k
      · refine br_r H (fun hb H => ?_) (fun hb H => ?_)
        · replace I := I.pull6
          refine lru_Cache_Unpin_r (c0 := c6) (item1 := (IntKind.wrap .i64 (((BitVec.ofInt (IntKind.bits .i64) x_23.Item &&& (BitVec.ofInt (IntKind.bits .i64) (15 : Int))).toNat : Int)))) (σ := σ) I H fun r_66 r_67 h σ_68 I H => ?_
          refine lkB_r (Kx := (kI .i64)) (key := (IntKind.wrap .i64 (((BitVec.ofInt (IntKind.bits .i64) x_23.Item &&& (BitVec.ofInt (IntKind.bits .i64) (15 : Int))).toNat : Int)))) I.pull6 H fun f_72 y_69 ok_70 hf_71 H => ?_
          refine br_r H (fun hb H => ?_) (fun hb H => ?_)
          · replace I := I.pull1.drop1
            replace I := I.pull1.drop1
            replace I := I.pull1.drop1
            replace I := I.pull2.drop1
            replace I := I.pull2.drop1
            replace I := I.pull1
            exact k false _ σ_68 I H
          · replace I := I.repB false
            replace I := I.pull7.pull1
            refine mu_r (Kx := (kI .i64)) (key := (IntKind.wrap .i64 (((BitVec.ofInt (IntKind.bits .i64) x_23.Item &&& (BitVec.ofInt (IntKind.bits .i64) (15 : Int))).toNat : Int)))) (x := false) I rfl H fun h o_75 L_74 I H => ?_
            replace I := I.pull2.drop1
            replace I := I.pull2.drop1
            replace I := I.pull1.pull2.pull2.pull4.pull4
            exact carlinglaw15_LruHolds_K6_r (n5 := n5) (c6 := c6) (last8 := last8) (pins9 := L_74) (v38 := v38) (v39 := v39) (v40 := v40) (σ := σ_68) I H kS2 k
        · refine br_r H (fun hb H => ?_) (fun hb H => ?_)
          · replace I := I.pull6
            refine lru_Cache_Drop_r (c0 := c6) (item1 := (IntKind.wrap .i64 (((BitVec.ofInt (IntKind.bits .i64) x_23.Item &&& (BitVec.ofInt (IntKind.bits .i64) (15 : Int))).toNat : Int)))) (σ := σ) I H fun r_76 h σ_77 I H => ?_
            replace I := I.repB false
            replace I := I.pull7.pull1
            refine mu_r (Kx := (kI .i64)) (key := (IntKind.wrap .i64 (((BitVec.ofInt (IntKind.bits .i64) x_23.Item &&& (BitVec.ofInt (IntKind.bits .i64) (15 : Int))).toNat : Int)))) (x := false) I rfl H fun h o_80 L_79 I H => ?_
            replace I := I.pull2.drop1
            replace I := I.pull2.drop1
            replace I := I.pull1.pull2.pull2.pull4.pull4
            exact carlinglaw15_LruHolds_K6_r (n5 := n5) (c6 := c6) (last8 := last8) (pins9 := L_79) (v38 := v38) (v39 := v39) (v40 := v40) (σ := σ_77) I H kS2 k
          · refine ldS_r (I.cell 2 2 rfl) ?_
            replace I := I.pull6.pull2
            refine lru_Cache_Put_r (c0 := c6) (item1 := (IntKind.wrap .i64 (((BitVec.ofInt (IntKind.bits .i64) x_23.Item &&& (BitVec.ofInt (IntKind.bits .i64) (15 : Int))).toNat : Int)))) (page2 := x_23.Page) (σ := σ) rd_ro I H fun r_81 r_82 h σ_83 I H => ?_
            refine ldS_r (I.pull2.cell 2 2 rfl) ?_
            replace I := I.dupR
            replace I := I.repSl
            replace I := I.pull6.pull1
            refine mu_r (Kx := (kI .i64)) (key := (IntKind.wrap .i64 (((BitVec.ofInt (IntKind.bits .i64) x_23.Item &&& (BitVec.ofInt (IntKind.bits .i64) (15 : Int))).toNat : Int)))) (x := x_23.Page) I rfl H fun h o_87 L_86 I H => ?_
            replace I := I.pull1.drop1
            replace I := I.pull2.drop1
            replace I := I.pull1.pull2.pull4.pull3.pull4
            exact carlinglaw15_LruHolds_K6_r (n5 := n5) (c6 := c6) (last8 := L_86) (pins9 := pins9) (v38 := v38) (v39 := v39) (v40 := v40) (σ := σ_83) I H kS2 k
  · replace I := I.pull4
    refine carlinglaw15_alive_r (σ := σ) I H fun r_88 h σ_89 I H => ?_
    replace I := I.pull2.drop1
    replace I := I.pull2.drop1
    replace I := I.pull2.drop1
    replace I := I.pull1
    exact k r_88 _ σ_89 I H

theorem carlinglaw15_LruHolds_L2_r {ρ : Ids} {h : Hp} {A : List At} {X_l1 : At} {n5 : Int} {c6 : Option Addr} {last8 : Option (List (Int × List Int))} {pins9 : Option (List (Int × Bool))} {v38 : List carlinglaw15_Step} {v39 : Int} {v40 : Int} {m_last81 : Option Nat} {o_last81 : Option (Array MapEntry × Nat)} {m_pins92 : Option Nat} {o_pins92 : Option (Array MapEntry × Nat)} {a_v383 : Option Addr} {n_v383 c_v383 : Nat} {σ : St Obj} {Q' : Bool → St Obj → Prop} {Q : Bool → Hp → Prop} (I : Inv h (X_l1 :: mapX (kI .i64) (rS (rI .u8)) false m_last81 o_last81 last8 :: mapX (kI .i64) rB false m_pins92 o_pins92 pins9 :: ownS R_carlinglaw15_Step a_v383 n_v383 c_v383 v38 :: hpA (obA ρ) σ :: A)) (H : carlinglaw15_LruHolds_L2 Q' n5 c6 last8 pins9 v38 v39 v40 σ)
    (k : ∀ (r0 : Bool) (h' : Hp) (σ' : St Obj), Inv h' (X_l1 :: hpA (obA ρ) σ' :: A) → Q' r0 σ' → Q r0 h') : Tx.carlinglaw15_LruHolds_L2 ρ Q n5 c6 m_last81 m_pins92 ⟨a_v383, n_v383, c_v383⟩ v39 v40 h := by
  refine Lf.ind H (fun v => ∀ (m_last81 : Option Nat) (o_last81 : Option (Array MapEntry × Nat)) (m_pins92 : Option Nat) (o_pins92 : Option (Array MapEntry × Nat)) (a_v383 : Option Addr) (n_v383 c_v383 : Nat) (h : Hp), Inv h (X_l1 :: mapX (kI .i64) (rS (rI .u8)) false m_last81 o_last81 v.2.2.1 :: mapX (kI .i64) rB false m_pins92 o_pins92 v.2.2.2.1 :: ownS R_carlinglaw15_Step a_v383 n_v383 c_v383 v.2.2.2.2.1 :: hpA (obA ρ) v.2.2.2.2.2.2.2 :: A) → Tx.carlinglaw15_LruHolds_L2 ρ Q v.1 v.2.1 m_last81 m_pins92 ⟨a_v383, n_v383, c_v383⟩ v.2.2.2.2.2.1 v.2.2.2.2.2.2.1 h) ?_ _ _ _ _ _ _ _ _  I
  rintro ⟨n5, c6, last8, pins9, v38, v39, v40, σ⟩ S hS HB m_last81 o_last81 m_pins92 o_pins92 a_v383 n_v383 c_v383 h I
  refine Tx.carlinglaw15_LruHolds_L2_in _ _ _ _ _ _ _ _ _ _ ?_
  try simp only [nrm_v]
  exact carlinglaw15_LruHolds_B2_r (n5 := n5) (c6 := c6) (last8 := last8) (pins9 := pins9) (v38 := v38) (v39 := v39) (v40 := v40) (σ := σ) I HB (fun {n5 c6 last8 pins9 v38 v39 v40 m_last81 o_last81 m_pins92 o_pins92 a_v383 n_v383 c_v383 σ h} I H => hS _ H m_last81 o_last81 m_pins92 o_pins92 a_v383 n_v383 c_v383 _ I) k

def carlinglaw15_LruHolds_K1 (Q : Bool → St Obj → Prop) (l1 : List carlinglaw15_Step) (n5 : Int) (c6 : Option Addr) (v34 : Bool) (σ : St Obj) : Prop :=
  br v34
  (Q false σ)
  (carlinglaw15_short l1 fun r_14 =>
  carlinglaw15_LruHolds_L2 Q n5 c6 (some [] : Option (List (Int × List Int))) (some [] : Option (List (Int × Bool))) r_14 (r_14.length : Int) (0 : Int) σ)

theorem carlinglaw15_LruHolds_K1_r {ρ : Ids} {h : Hp} {A : List At} {X_l1 : At} {l1 : List carlinglaw15_Step} {n5 : Int} {c6 : Option Addr} {v34 : Bool} {a_l1 : Option Addr} {n_l1 c_l1 : Nat} {σ : St Obj} {Q' : Bool → St Obj → Prop} {Q : Bool → Hp → Prop} (hX_l1 : Rd R_carlinglaw15_Step X_l1 a_l1 n_l1 c_l1 l1) (I : Inv h (X_l1 :: hpA (obA ρ) σ :: A)) (H : carlinglaw15_LruHolds_K1 Q' l1 n5 c6 v34 σ)
    (k : ∀ (r0 : Bool) (h' : Hp) (σ' : St Obj), Inv h' (X_l1 :: hpA (obA ρ) σ' :: A) → Q' r0 σ' → Q r0 h') : Tx.carlinglaw15_LruHolds_K1 ρ Q ⟨a_l1, n_l1, c_l1⟩ n5 c6 v34 h := by
  obtain rfl := rd_len hX_l1 I
  unfold Tx.carlinglaw15_LruHolds_K1
  unfold carlinglaw15_LruHolds_K1 at H
  refine br_r H (fun hb H => ?_) (fun hb H => ?_)
  · replace I := I.pull1.pull1
    exact k false _ σ I H
  · refine amW_r (kI .i64) (rS (rI .u8)) false I fun m_8 h o_9 I => ?_
    refine amW_r (kI .i64) rB false I fun m_11 h o_12 I => ?_
    replace I := I.pull2
    refine carlinglaw15_short_r (l0 := l1) hX_l1 I H fun r_14 a_15 c_16 h I H => ?_
    replace I := I.pull4.pull1.pull3.pull4.pull4
    exact carlinglaw15_LruHolds_L2_r (n5 := n5) (c6 := c6) (last8 := (some [] : Option (List (Int × List Int)))) (pins9 := (some [] : Option (List (Int × Bool)))) (v38 := r_14) (v39 := (r_14.length : Int)) (v40 := (0 : Int)) (σ := σ) I H k

def carlinglaw15_LruHolds (room0 : Int) (l1 : List carlinglaw15_Step) (σ : St Obj) (Q : Bool → St Obj → Prop) : Prop :=
  lru_New (IntKind.wrap .i64 ((Int.tmod (IntKind.wrap .i64 room0) (8 : Int)) + (1 : Int))) σ fun r_3 r_4 σ_5 =>
  br (Option.isNone r_3)
  (carlinglaw15_LruHolds_K1 Q l1 (IntKind.wrap .i64 ((Int.tmod (IntKind.wrap .i64 room0) (8 : Int)) + (1 : Int))) r_3 true σ_5)
  (carlinglaw15_LruHolds_K1 Q l1 (IntKind.wrap .i64 ((Int.tmod (IntKind.wrap .i64 room0) (8 : Int)) + (1 : Int))) r_3 (r_4 != (0 : Int)) σ_5)

theorem carlinglaw15_LruHolds_r {ρ : Ids} {h : Hp} {A : List At} {room0 : Int} {l1 : List carlinglaw15_Step} {a_l10 : Option Addr} {n_l10 c_l10 : Nat} {X_l1 : At} {σ : St Obj} {Q' : Bool → St Obj → Prop} {Q : Bool → Hp → Prop} (hX_l1 : Rd R_carlinglaw15_Step X_l1 a_l10 n_l10 c_l10 l1) (I : Inv h (X_l1 :: hpA (obA ρ) σ :: A)) (H : carlinglaw15_LruHolds room0 l1 σ Q')
    (k : ∀ (r0 : Bool) (h' : Hp) (σ' : St Obj), Inv h' (X_l1 :: hpA (obA ρ) σ' :: A) → Q' r0 σ' → Q r0 h') : Tx.carlinglaw15_LruHolds ρ room0 ⟨a_l10, n_l10, c_l10⟩ h Q := by
  obtain rfl := rd_len hX_l1 I
  unfold Tx.carlinglaw15_LruHolds
  unfold carlinglaw15_LruHolds at H
  refine ⟨by decide, ?_⟩
  replace I := I.pull1
  refine lru_New_r (room0 := (IntKind.wrap .i64 ((Int.tmod (IntKind.wrap .i64 room0) (8 : Int)) + (1 : Int)))) (σ := σ) I H fun r_3 r_4 h σ_5 I H => ?_
  refine br_r H (fun hb H => ?_) (fun hb H => ?_)
  · replace I := I.pull1
    exact carlinglaw15_LruHolds_K1_r (l1 := l1) (n5 := (IntKind.wrap .i64 ((Int.tmod (IntKind.wrap .i64 room0) (8 : Int)) + (1 : Int)))) (c6 := r_3) (v34 := true) (σ := σ_5) hX_l1 I H k
  · replace I := I.pull1
    exact carlinglaw15_LruHolds_K1_r (l1 := l1) (n5 := (IntKind.wrap .i64 ((Int.tmod (IntKind.wrap .i64 room0) (8 : Int)) + (1 : Int)))) (c6 := r_3) (v34 := (r_4 != (0 : Int))) (σ := σ_5) hX_l1 I H k

def carlingref15_Cache_Find_B1 (S1 : (Option Addr) → Int → Int → St Obj → Prop) (Q : Int → St Obj → Prop) (c0 : Option Addr) (item1 : Int) (i5 : Int) (σ : St Obj) : Prop :=
  nilW c0 fun p_3 =>
  at_carlingref15_Cache σ p_3 fun x_5 =>
  br (decide (i5 < (x_5.L.length : Int)))
  (ixP x_5.L i5 fun x_13 =>
  br (x_13.Item == item1)
  (Q i5 σ)
  (S1 c0 item1 (IntKind.wrap .i64 (i5 + (1 : Int))) σ))
  (Q (-1 : Int) σ)

def carlingref15_Cache_Find_L1 (Q : Int → St Obj → Prop) (c0 : Option Addr) (item1 : Int) (i5 : Int) (σ : St Obj) : Prop :=
  Lf (fun S (v : (Option Addr) × Int × Int × St Obj) => carlingref15_Cache_Find_B1 (fun c0 item1 i5 σ => S (c0, item1, i5, σ)) Q v.1 v.2.1 v.2.2.1 v.2.2.2) (c0, item1, i5, σ)

theorem carlingref15_Cache_Find_L1_in (Q : Int → St Obj → Prop) (c0 : Option Addr) (item1 : Int) (i5 : Int) (σ : St Obj) (H : carlingref15_Cache_Find_B1 (carlingref15_Cache_Find_L1 Q) Q c0 item1 i5 σ) : carlingref15_Cache_Find_L1 Q c0 item1 i5 σ := Lf.fold H

theorem carlingref15_Cache_Find_B1_r {ρ : Ids} {h : Hp} {A : List At}  {c0 : Option Addr} {item1 : Int} {i5 : Int}  {σ : St Obj} {Q' : Int → St Obj → Prop} {Q : Int → Hp → Prop} {S1' : (Option Addr) → Int → Int → St Obj → Prop} {S1 : Option Addr → Int → Int → Hp → Prop} (I : Inv h (hpA (obA ρ) σ :: A)) (H : carlingref15_Cache_Find_B1 S1' Q' c0 item1 i5 σ) (kS1 : ∀ {c0 : Option Addr} {item1 : Int} {i5 : Int}  {σ : St Obj} {h : Hp}, Inv h (hpA (obA ρ) σ :: A) → S1' c0 item1 i5 σ → S1 c0 item1 i5 h)
    (k : ∀ (r0 : Int) (h' : Hp) (σ' : St Obj), Inv h' (hpA (obA ρ) σ' :: A) → Q' r0 σ' → Q r0 h') : Tx.carlingref15_Cache_Find_B1 ρ S1 Q c0 item1 i5 h := by
  unfold Tx.carlingref15_Cache_Find_B1
  unfold carlingref15_Cache_Find_B1 at H
  refine nil_r H fun p_3 hp_4 H => ?_
  obtain ⟨x_5, hx_6, H⟩ := H
  obtain ⟨a2_7, c2_8, I⟩ := op_carlingref15_Cache (I.take hx_6)
  refine ldS_r (I.cell 1 1 rfl) ?_
  replace I := I.pull1.dupR
  refine br_r H (fun hb H => ?_) (fun hb H => ?_)
  · refine nil_e hp_4 ?_
    refine ldS_r (I.pull2.cell 1 1 rfl) ?_
    replace I := I.pull1.dupR
    refine ixcarlingref15_Held rd_ro I H fun p_14 x_13 a_19 c_20 he_15 hb_16 hc_17 hc_18 hc_21 I H => ?_
    refine ldI_r hc_17 ?_
    refine br_r H (fun hb H => ?_) (fun hb H => ?_)
    · replace I := I.pull2.dupR
      replace I := I.pull6.pull1.pull6
      replace I := (cl_carlingref15_Cache x_5 I).putS hx_6
      replace I := I.pull1.drop1
      replace I := I.pull1.drop1
      replace I := I.pull1.drop1
      replace I := I.pull1.drop1
      exact k i5 _ σ I H
    · replace I := I.pull2.dupR
      replace I := I.pull6.pull1.pull6
      replace I := (cl_carlingref15_Cache x_5 I).putS hx_6
      replace I := I.pull1.drop1
      replace I := I.pull1.drop1
      replace I := I.pull1.drop1
      replace I := I.pull1.drop1
      exact kS1 (c0 := c0) (item1 := item1) (i5 := (IntKind.wrap .i64 (i5 + (1 : Int)))) (σ := σ) I H
  · replace I := I.pull1.dupR
    replace I := I.pull4.pull1.pull4
    replace I := (cl_carlingref15_Cache x_5 I).putS hx_6
    replace I := I.pull1.drop1
    replace I := I.pull1.drop1
    exact k (-1 : Int) _ σ I H

theorem carlingref15_Cache_Find_L1_r {ρ : Ids} {h : Hp} {A : List At}  {c0 : Option Addr} {item1 : Int} {i5 : Int}  {σ : St Obj} {Q' : Int → St Obj → Prop} {Q : Int → Hp → Prop} (I : Inv h (hpA (obA ρ) σ :: A)) (H : carlingref15_Cache_Find_L1 Q' c0 item1 i5 σ)
    (k : ∀ (r0 : Int) (h' : Hp) (σ' : St Obj), Inv h' (hpA (obA ρ) σ' :: A) → Q' r0 σ' → Q r0 h') : Tx.carlingref15_Cache_Find_L1 ρ Q c0 item1 i5 h := by
  refine Lf.ind H (fun v => ∀  (h : Hp), Inv h (hpA (obA ρ) v.2.2.2 :: A) → Tx.carlingref15_Cache_Find_L1 ρ Q v.1 v.2.1 v.2.2.1 h) ?_  _  I
  rintro ⟨c0, item1, i5, σ⟩ S hS HB  h I
  refine Tx.carlingref15_Cache_Find_L1_in _ _ _ _ _ _ ?_
  try simp only [nrm_v]
  exact carlingref15_Cache_Find_B1_r (c0 := c0) (item1 := item1) (i5 := i5) (σ := σ) I HB (fun {c0 item1 i5 σ h} I H => hS _ H  _ I) k

def carlingref15_Cache_Find (c0 : Option Addr) (item1 : Int) (σ : St Obj) (Q : Int → St Obj → Prop) : Prop :=
  carlingref15_Cache_Find_L1 Q c0 item1 (0 : Int) σ

theorem carlingref15_Cache_Find_r {ρ : Ids} {h : Hp} {A : List At} {c0 : Option Addr} {item1 : Int}  {σ : St Obj} {Q' : Int → St Obj → Prop} {Q : Int → Hp → Prop} (I : Inv h (hpA (obA ρ) σ :: A)) (H : carlingref15_Cache_Find c0 item1 σ Q')
    (k : ∀ (r0 : Int) (h' : Hp) (σ' : St Obj), Inv h' (hpA (obA ρ) σ' :: A) → Q' r0 σ' → Q r0 h') : Tx.carlingref15_Cache_Find ρ c0 item1 h Q := by
  unfold Tx.carlingref15_Cache_Find
  unfold carlingref15_Cache_Find at H
  exact carlingref15_Cache_Find_L1_r (c0 := c0) (item1 := item1) (i5 := (0 : Int)) (σ := σ) I H k

def carlingref15_Cache_without (c0 : Option Addr) (at1 : Int) (σ : St Obj) (Q : (List carlingref15_Held) → St Obj → Prop) : Prop :=
  nilW c0 fun p_2 =>
  at_carlingref15_Cache σ p_2 fun x_4 =>
  (SlOk x_4.L (0 : Int) at1) ∧
  (SlOk x_4.L (IntKind.wrap .i64 (at1 + (1 : Int))) (x_4.L.length : Int)) ∧
  (Bnd (([] : List carlingref15_Held).length + (sub x_4.L (0 : Int) at1).length)) ∧
  (Bnd ((([] : List carlingref15_Held) ++ (sub x_4.L (0 : Int) at1)).length + (sub x_4.L (IntKind.wrap .i64 (at1 + (1 : Int))) (x_4.L.length : Int)).length)) ∧
  Q ((([] : List carlingref15_Held) ++ (sub x_4.L (0 : Int) at1)) ++ (sub x_4.L (IntKind.wrap .i64 (at1 + (1 : Int))) (x_4.L.length : Int))) σ

theorem carlingref15_Cache_without_r {ρ : Ids} {h : Hp} {A : List At} {c0 : Option Addr} {at1 : Int}  {σ : St Obj} {Q' : (List carlingref15_Held) → St Obj → Prop} {Q : Sl → Hp → Prop} (I : Inv h (hpA (obA ρ) σ :: A)) (H : carlingref15_Cache_without c0 at1 σ Q')
    (k : ∀ (r0 : List carlingref15_Held) (ra0 : Option Addr) (rc0 : Nat) (h' : Hp) (σ' : St Obj), Inv h' (ownS R_carlingref15_Held ra0 r0.length rc0 r0 :: hpA (obA ρ) σ' :: A) → Q' r0 σ' → Q ⟨ra0, r0.length, rc0⟩ h') : Tx.carlingref15_Cache_without ρ c0 at1 h Q := by
  unfold Tx.carlingref15_Cache_without
  unfold carlingref15_Cache_without at H
  refine nil_r H fun p_2 hp_3 H => ?_
  obtain ⟨x_4, hx_5, H⟩ := H
  obtain ⟨a2_6, c2_7, I⟩ := op_carlingref15_Cache (I.take hx_5)
  refine ldS_r (I.cell 1 1 rfl) ?_
  replace I := I.pull1.dupR
  replace I := I.dupR
  refine sl_ro I H.1 fun a_11 c_12 I => ?_
  replace H := H.2
  refine nil_e hp_3 ?_
  refine ldS_r (I.pull3.cell 1 1 rfl) ?_
  replace I := I.pull2.dupR
  replace I := I.dupR
  refine sl_ro I H.1 fun a_15 c_16 I => ?_
  replace H := H.2
  replace I := I.nilO R_carlingref15_Held
  refine ap_r rd_ro I.pull4.pull1 rfl (by decide) (by decide) H.1 fun a_19 c_20 h I => ?_
  replace H := H.2
  refine ⟨I.pull6.cell 1 1 rfl, ?_⟩
  refine ap_r rd_ro I.pull2.pull1 rfl (by decide) (by decide) H.1 fun a_22 c_23 h I => ?_
  replace H := H.2
  replace I := I.pull4.dupR
  replace I := I.pull8.pull1.pull8
  replace I := (cl_carlingref15_Cache x_4 I).putS hx_5
  replace I := I.pull1.drop1
  replace I := I.pull2.drop1
  replace I := I.pull2.drop1
  replace I := I.pull2.drop1
  replace I := I.pull2.drop1
  replace I := I.pull1
  exact k ((([] : List carlingref15_Held) ++ (sub x_4.L (0 : Int) at1)) ++ (sub x_4.L (IntKind.wrap .i64 (at1 + (1 : Int))) (x_4.L.length : Int))) a_22 c_23 _ σ I H

def carlingref15_Cache_first_K1 (Q : St Obj → Prop) (c0 : Option Addr) (h3_0 : Int) (h3_1 : List Int) (h3_2 : Bool) (σ : St Obj) : Prop :=
  nilW c0 fun p_26 =>
  at_carlingref15_Cache σ p_26 fun x_28 =>
  (Bnd (([(⟨h3_0, h3_1, h3_2⟩ : carlingref15_Held)]).length + x_28.L.length)) ∧
  Q (sset σ p_26 (.carlingref15_Cache (⟨x_28.Room, ([(⟨h3_0, h3_1, h3_2⟩ : carlingref15_Held)] ++ x_28.L)⟩ : carlingref15_Cache)))

theorem carlingref15_Cache_first_K1_r {ρ : Ids} {h : Hp} {A : List At}  {c0 : Option Addr} {h3_0 : Int} {h3_1 : List Int} {h3_2 : Bool} {p_h3 : Addr} {a_h3_11 : Option Addr} {n_h3_11 c_h3_11 : Nat} {σ : St Obj} {Q' : St Obj → Prop} {Q : Hp → Prop} (I : Inv h (blk p_h3 (ρ.T 7) [.one (.int .i64 h3_0), .one (.slice a_h3_11 h3_1.length c_h3_11), .one (.bool h3_2)] :: roS (rI .u8) a_h3_11 n_h3_11 c_h3_11 h3_1 :: hpA (obA ρ) σ :: A)) (H : carlingref15_Cache_first_K1 Q' c0 h3_0 h3_1 h3_2 σ)
    (k : ∀ (h' : Hp) (σ' : St Obj), Inv h' (hpA (obA ρ) σ' :: A) → Q' σ' → Q h') : Tx.carlingref15_Cache_first_K1 ρ Q c0 p_h3 h := by
  obtain rfl := ro_len I.pull1
  unfold Tx.carlingref15_Cache_first_K1
  unfold carlingref15_Cache_first_K1 at H
  refine ldI_r (I.cell 0 0 rfl) ?_
  refine ldS_r (I.cell 1 1 rfl) ?_
  refine ldB_r (I.cell 2 2 rfl) ?_
  refine nil_r H fun p_26 hp_27 H => ?_
  obtain ⟨x_28, hx_29, H⟩ := H
  obtain ⟨a2_30, c2_31, I⟩ := op_carlingref15_Cache (I.pull2.take hx_29)
  refine ldS_r (I.cell 1 1 rfl) ?_
  replace I := I.pull1.dupR
  refine al_r [.one (.int .i64 h3_0), .one (.slice a_h3_11 h3_1.length c_h3_11), .one (.bool h3_2)] rfl I fun p_35 h I => ?_
  replace I := I.litN R_carlingref15_Held
  replace I := I.pull7.dupR
  replace I := mcarlingref15_Held (⟨h3_0, h3_1, h3_2⟩ : carlingref15_Held) I
  replace I := I.pull2.pull1
  replace I := I.litC
  replace I := I.pull2.pull1
  replace I := Inv.litL (l := [(⟨h3_0, h3_1, h3_2⟩ : carlingref15_Held)]) I rfl rfl
  refine ⟨I.pull4.cell 1 1 rfl, ?_⟩
  refine ap_r rd_ro I.pull2.pull1 rfl (by decide) (by decide) H.1 fun a_41 c_42 h I => ?_
  replace H := H.2
  refine nil_e hp_27 ?_
  refine st_r I.pull4 1 1 rfl fun h (I : Inv h (blk p_26 (ρ.T 6) [.one (.int .i64 x_28.Room), .one (.slice a_41 ([(⟨h3_0, h3_1, h3_2⟩ : carlingref15_Held)] ++ x_28.L).length c_42)] :: _)) => ?_
  replace I := I.pull1.freeze
  replace I := I.dupR
  replace I := I.pull6.pull1.pull3
  replace I := (cl_carlingref15_Cache (⟨x_28.Room, ([(⟨h3_0, h3_1, h3_2⟩ : carlingref15_Held)] ++ x_28.L)⟩ : carlingref15_Cache) I).putB
  replace I := I.pull1.drop1
  replace I := I.pull1.drop1
  replace I := I.pull1.drop1
  replace I := I.pull1.drop1
  replace I := I.pull1.drop1
  exact k _ (sset σ p_26 (.carlingref15_Cache (⟨x_28.Room, ([(⟨h3_0, h3_1, h3_2⟩ : carlingref15_Held)] ++ x_28.L)⟩ : carlingref15_Cache))) I H

def carlingref15_Cache_first (c0 : Option Addr) (h1 : carlingref15_Held) (σ : St Obj) (Q : St Obj → Prop) : Prop :=
  carlingref15_Cache_Find c0 h1.Item σ fun r_5 σ_6 =>
  br (decide (r_5 ≥ (0 : Int)))
  (carlingref15_Cache_without c0 r_5 σ_6 fun r_7 σ_11 =>
  nilW c0 fun p_12 =>
  at_carlingref15_Cache σ_11 p_12 fun x_14 =>
  carlingref15_Cache_first_K1 Q c0 h1.Item h1.Page h1.Pinned (sset σ_11 p_12 (.carlingref15_Cache (⟨x_14.Room, r_7⟩ : carlingref15_Cache))))
  (carlingref15_Cache_first_K1 Q c0 h1.Item h1.Page h1.Pinned σ_6)

theorem carlingref15_Cache_first_r {ρ : Ids} {h : Hp} {A : List At} {c0 : Option Addr} {h1 : carlingref15_Held} {a_h10 : Option Addr} {n_h10 c_h10 : Nat} {σ : St Obj} {Q' : St Obj → Prop} {Q : Hp → Prop} (I : Inv h (roS (rI .u8) a_h10 n_h10 c_h10 h1.Page :: hpA (obA ρ) σ :: A)) (H : carlingref15_Cache_first c0 h1 σ Q')
    (k : ∀ (h' : Hp) (σ' : St Obj), Inv h' (hpA (obA ρ) σ' :: A) → Q' σ' → Q h') : Tx.carlingref15_Cache_first ρ c0 h1.Item ⟨a_h10, n_h10, c_h10⟩ h1.Pinned h Q := by
  obtain rfl := ro_len I
  unfold Tx.carlingref15_Cache_first
  unfold carlingref15_Cache_first at H
  refine al_r [.one (.int .i64 h1.Item), .one (.slice a_h10 h1.Page.length c_h10), .one (.bool h1.Pinned)] rfl I fun p_3 h I => ?_
  refine ldI_r (I.cell 0 0 rfl) ?_
  replace I := I.pull2
  refine carlingref15_Cache_Find_r (c0 := c0) (item1 := h1.Item) (σ := σ) I H fun r_5 h σ_6 I H => ?_
  refine br_r H (fun hb H => ?_) (fun hb H => ?_)
  · refine carlingref15_Cache_without_r (c0 := c0) (at1 := r_5) (σ := σ_6) I H fun r_7 a_8 c_9 h σ_11 I H => ?_
    refine nil_r H fun p_12 hp_13 H => ?_
    obtain ⟨x_14, hx_15, H⟩ := H
    obtain ⟨a2_16, c2_17, I⟩ := op_carlingref15_Cache (I.pull1.take hx_15)
    refine st_r I 1 1 rfl fun h (I : Inv h (blk p_12 (ρ.T 6) [.one (.int .i64 x_14.Room), .one (.slice a_8 r_7.length c_9)] :: _)) => ?_
    replace I := I.pull3.freeze
    replace I := I.dupR
    replace I := I.pull4.pull1.pull3
    replace I := (cl_carlingref15_Cache (⟨x_14.Room, r_7⟩ : carlingref15_Cache) I).putB
    replace I := I.pull4.dupR
    replace I := I.pull1.drop1
    replace I := I.pull2.drop1
    replace I := I.pull2.drop1
    replace I := I.pull1.pull1.pull2
    exact carlingref15_Cache_first_K1_r (c0 := c0) (h3_0 := h1.Item) (h3_1 := h1.Page) (h3_2 := h1.Pinned) (σ := (sset σ_11 p_12 (.carlingref15_Cache (⟨x_14.Room, r_7⟩ : carlingref15_Cache)))) I H k
  · replace I := I.pull2.dupR
    replace I := I.pull1.drop1
    replace I := I.pull1.pull1.pull2
    exact carlingref15_Cache_first_K1_r (c0 := c0) (h3_0 := h1.Item) (h3_1 := h1.Page) (h3_2 := h1.Pinned) (σ := σ_6) I H k

def carlingref15_Cache_Get (c0 : Option Addr) (item1 : Int) (σ : St Obj) (Q : (List Int) → Bool → St Obj → Prop) : Prop :=
  carlingref15_Cache_Find c0 item1 σ fun r_2 σ_3 =>
  br (decide (r_2 < (0 : Int)))
  (Q ([] : List Int) false σ_3)
  (nilW c0 fun p_5 =>
  at_carlingref15_Cache σ_3 p_5 fun x_7 =>
  ixP x_7.L r_2 fun x_14 =>
  carlingref15_Cache_first c0 x_14 σ_3 fun σ_28 =>
  Q x_14.Page true σ_28)

theorem carlingref15_Cache_Get_r {ρ : Ids} {h : Hp} {A : List At} {c0 : Option Addr} {item1 : Int}  {σ : St Obj} {Q' : (List Int) → Bool → St Obj → Prop} {Q : Sl → Bool → Hp → Prop} (I : Inv h (hpA (obA ρ) σ :: A)) (H : carlingref15_Cache_Get c0 item1 σ Q')
    (k : ∀ (r0 : List Int) (ra0 : Option Addr) (rc0 : Nat) (r1 : Bool) (h' : Hp) (σ' : St Obj), Inv h' (roS (rI .u8) ra0 r0.length rc0 r0 :: hpA (obA ρ) σ' :: A) → Q' r0 r1 σ' → Q ⟨ra0, r0.length, rc0⟩ r1 h') : Tx.carlingref15_Cache_Get ρ c0 item1 h Q := by
  unfold Tx.carlingref15_Cache_Get
  unfold carlingref15_Cache_Get at H
  refine carlingref15_Cache_Find_r (c0 := c0) (item1 := item1) (σ := σ) I H fun r_2 h σ_3 I H => ?_
  refine br_r H (fun hb H => ?_) (fun hb H => ?_)
  · replace I := I.nilR (rI .u8)
    replace I := I.pull1.pull1
    exact k ([] : List Int) none 0 false _ σ_3 I H
  · refine nil_r H fun p_5 hp_6 H => ?_
    obtain ⟨x_7, hx_8, H⟩ := H
    obtain ⟨a2_9, c2_10, I⟩ := op_carlingref15_Cache (I.take hx_8)
    refine ldS_r (I.cell 1 1 rfl) ?_
    replace I := I.pull1.dupR
    refine ixcarlingref15_Held rd_ro I H fun p_15 x_14 a_20 c_21 he_16 hb_17 hc_18 hc_19 hc_22 I H => ?_
    refine ldI_r hc_18 ?_
    refine ldS_r hc_19 ?_
    refine ldB_r hc_22 ?_
    refine al_r [.one (.int .i64 (0 : Int)), .one (.slice none 0 0), .one (.bool false)] rfl I fun p_24 h I => ?_
    refine stA_r I 0 3 0 [.one (.int .i64 x_14.Item), .one (.slice a_20 x_14.Page.length c_21), .one (.bool x_14.Pinned)] rfl rfl rfl (all_one (by simp [segs, Seg.cells, allOne, allOne_append, allOne_lump, Value.oneCell'])) fun h (I : Inv h (blk p_24 (ρ.T 7) [.one (.int .i64 x_14.Item), .one (.slice a_20 x_14.Page.length c_21), .one (.bool x_14.Pinned)] :: _)) => ?_
    refine ldI_r (I.cell 0 0 rfl) ?_
    refine ldS_r (I.cell 1 1 rfl) ?_
    refine ldB_r (I.cell 2 2 rfl) ?_
    replace I := I.pull3.dupR
    replace I := I.pull6.pull1.pull6
    replace I := (cl_carlingref15_Cache x_7 I).putS hx_8
    replace I := I.pull3.dupR
    replace I := I.pull2.pull1
    try simp only [nrm_v]
    refine carlingref15_Cache_first_r (c0 := c0) (h1 := x_14) (σ := σ_3) I H fun h σ_28 I H => ?_
    refine ldS_r (I.pull3.cell 1 1 rfl) ?_
    replace I := I.pull1.dupR
    replace I := I.pull1.drop1
    replace I := I.pull2.drop1
    replace I := I.pull2.drop1
    replace I := I.pull2.drop1
    replace I := I.pull1.pull1
    exact k x_14.Page a_20 c_21 true _ σ_28 I H

def carlingref15_is (item0 : Int) (Q : Bool → Prop) : Prop :=
  br (decide (item0 ≥ (0 : Int)))
  (Q (decide (item0 < (4096 : Int))))
  (Q false)

theorem carlingref15_is_r {ρ : Ids} {h : Hp} {A : List At} {item0 : Int}  {Q' : Bool → Prop} {Q : Bool → Hp → Prop} (I : Inv h (A)) (H : carlingref15_is item0 Q')
    (k : ∀ (r0 : Bool) (h' : Hp), Inv h' (A) → Q' r0 → Q r0 h') : Tx.carlingref15_is ρ item0 h Q := by
  unfold Tx.carlingref15_is
  unfold carlingref15_is at H
  refine br_r H (fun hb H => ?_) (fun hb H => ?_)
  · exact k (decide (item0 < (4096 : Int))) _ I H
  · exact k false _ I H

def carlingref15_Cache_Pin (c0 : Option Addr) (item1 : Int) (page2 : List Int) (σ : St Obj) (Q : Int → St Obj → Prop) : Prop :=
  carlingref15_is item1 fun r_3 =>
  br (!r_3)
  (Q (1 : Int) σ)
  ((Bnd (([] : List Int).length + page2.length)) ∧
  carlingref15_Cache_first c0 (⟨item1, (([] : List Int) ++ page2), true⟩ : carlingref15_Held) σ fun σ_9 =>
  Q (0 : Int) σ_9)

theorem carlingref15_Cache_Pin_r {ρ : Ids} {h : Hp} {A : List At} {c0 : Option Addr} {item1 : Int} {page2 : List Int} {a_page20 : Option Addr} {n_page20 c_page20 : Nat} {X_page2 : At} {σ : St Obj} {Q' : Int → St Obj → Prop} {Q : Int → Hp → Prop} (hX_page2 : Rd (rI .u8) X_page2 a_page20 n_page20 c_page20 page2) (I : Inv h (X_page2 :: hpA (obA ρ) σ :: A)) (H : carlingref15_Cache_Pin c0 item1 page2 σ Q')
    (k : ∀ (r0 : Int) (h' : Hp) (σ' : St Obj), Inv h' (X_page2 :: hpA (obA ρ) σ' :: A) → Q' r0 σ' → Q r0 h') : Tx.carlingref15_Cache_Pin ρ c0 item1 ⟨a_page20, n_page20, c_page20⟩ h Q := by
  obtain rfl := rd_len hX_page2 I
  unfold Tx.carlingref15_Cache_Pin
  unfold carlingref15_Cache_Pin at H
  refine carlingref15_is_r (item0 := item1) I H fun r_3 h I H => ?_
  refine br_r H (fun hb H => ?_) (fun hb H => ?_)
  · replace I := I.pull1.pull1
    exact k (1 : Int) _ σ I H
  · replace I := I.nilO (rI .u8)
    refine ap_r hX_page2 I.pull1.pull1 rfl (by decide) (by decide) H.1 fun a_5 c_6 h I => ?_
    replace H := H.2
    replace I := I.freeze
    replace I := I.dupR
    replace I := I.pull3.pull1
    try simp only [nrm_v]
    refine carlingref15_Cache_first_r (c0 := c0) (h1 := (⟨item1, (([] : List Int) ++ page2), true⟩ : carlingref15_Held)) (σ := σ) I H fun h σ_9 I H => ?_
    replace I := I.pull1.drop1
    replace I := I.pull1
    exact k (0 : Int) _ σ_9 I H

def carlingref15_Cache_fit_K2 (S1 : (Option Addr) → Int → Int → Int → St Obj → Prop) (Q : Int → St Obj → Prop) (c0 : Option Addr) (n3 : Int) (last4 : Int) (i5 : Int) (σ : St Obj) : Prop :=
  S1 c0 n3 last4 (IntKind.wrap .i64 (i5 + (1 : Int))) σ

theorem carlingref15_Cache_fit_K2_r {ρ : Ids} {h : Hp} {A : List At}  {c0 : Option Addr} {n3 : Int} {last4 : Int} {i5 : Int}  {σ : St Obj} {Q' : Int → St Obj → Prop} {Q : Int → Hp → Prop} {S1' : (Option Addr) → Int → Int → Int → St Obj → Prop} {S1 : Option Addr → Int → Int → Int → Hp → Prop} (I : Inv h (hpA (obA ρ) σ :: A)) (H : carlingref15_Cache_fit_K2 S1' Q' c0 n3 last4 i5 σ) (kS1 : ∀ {c0 : Option Addr} {n3 : Int} {last4 : Int} {i5 : Int}  {σ : St Obj} {h : Hp}, Inv h (hpA (obA ρ) σ :: A) → S1' c0 n3 last4 i5 σ → S1 c0 n3 last4 i5 h)
    (k : ∀ (r0 : Int) (h' : Hp) (σ' : St Obj), Inv h' (hpA (obA ρ) σ' :: A) → Q' r0 σ' → Q r0 h') : Tx.carlingref15_Cache_fit_K2 ρ S1 Q c0 n3 last4 i5 h := by
  unfold Tx.carlingref15_Cache_fit_K2
  unfold carlingref15_Cache_fit_K2 at H
  exact kS1 (c0 := c0) (n3 := n3) (last4 := last4) (i5 := (IntKind.wrap .i64 (i5 + (1 : Int)))) (σ := σ) I H

def carlingref15_Cache_fit_B1 (S1 : (Option Addr) → Int → Int → Int → St Obj → Prop) (Q : Int → St Obj → Prop) (c0 : Option Addr) (n3 : Int) (last4 : Int) (i5 : Int) (σ : St Obj) : Prop :=
  nilW c0 fun p_3 =>
  at_carlingref15_Cache σ p_3 fun x_5 =>
  br (decide (i5 < (x_5.L.length : Int)))
  (ixP x_5.L i5 fun x_13 =>
  br (!x_13.Pinned)
  (carlingref15_Cache_fit_K2 S1 Q c0 (IntKind.wrap .i64 (n3 + (1 : Int))) i5 i5 σ)
  (carlingref15_Cache_fit_K2 S1 Q c0 n3 last4 i5 σ))
  (br (decide (n3 ≤ x_5.Room))
  (Q (-1 : Int) σ)
  (ixP x_5.L last4 fun x_27 =>
  carlingref15_Cache_without c0 last4 σ fun r_38 σ_42 =>
  at_carlingref15_Cache σ_42 p_3 fun x_43 =>
  Q x_27.Item (sset σ_42 p_3 (.carlingref15_Cache (⟨x_43.Room, r_38⟩ : carlingref15_Cache)))))

def carlingref15_Cache_fit_L1 (Q : Int → St Obj → Prop) (c0 : Option Addr) (n3 : Int) (last4 : Int) (i5 : Int) (σ : St Obj) : Prop :=
  Lf (fun S (v : (Option Addr) × Int × Int × Int × St Obj) => carlingref15_Cache_fit_B1 (fun c0 n3 last4 i5 σ => S (c0, n3, last4, i5, σ)) Q v.1 v.2.1 v.2.2.1 v.2.2.2.1 v.2.2.2.2) (c0, n3, last4, i5, σ)

theorem carlingref15_Cache_fit_L1_in (Q : Int → St Obj → Prop) (c0 : Option Addr) (n3 : Int) (last4 : Int) (i5 : Int) (σ : St Obj) (H : carlingref15_Cache_fit_B1 (carlingref15_Cache_fit_L1 Q) Q c0 n3 last4 i5 σ) : carlingref15_Cache_fit_L1 Q c0 n3 last4 i5 σ := Lf.fold H

theorem carlingref15_Cache_fit_B1_r {ρ : Ids} {h : Hp} {A : List At}  {c0 : Option Addr} {n3 : Int} {last4 : Int} {i5 : Int}  {σ : St Obj} {Q' : Int → St Obj → Prop} {Q : Int → Hp → Prop} {S1' : (Option Addr) → Int → Int → Int → St Obj → Prop} {S1 : Option Addr → Int → Int → Int → Hp → Prop} (I : Inv h (hpA (obA ρ) σ :: A)) (H : carlingref15_Cache_fit_B1 S1' Q' c0 n3 last4 i5 σ) (kS1 : ∀ {c0 : Option Addr} {n3 : Int} {last4 : Int} {i5 : Int}  {σ : St Obj} {h : Hp}, Inv h (hpA (obA ρ) σ :: A) → S1' c0 n3 last4 i5 σ → S1 c0 n3 last4 i5 h)
    (k : ∀ (r0 : Int) (h' : Hp) (σ' : St Obj), Inv h' (hpA (obA ρ) σ' :: A) → Q' r0 σ' → Q r0 h') : Tx.carlingref15_Cache_fit_B1 ρ S1 Q c0 n3 last4 i5 h := by
  unfold Tx.carlingref15_Cache_fit_B1
  unfold carlingref15_Cache_fit_B1 at H
  refine nil_r H fun p_3 hp_4 H => ?_
  obtain ⟨x_5, hx_6, H⟩ := H
  obtain ⟨a2_7, c2_8, I⟩ := op_carlingref15_Cache (I.take hx_6)
  refine ldS_r (I.cell 1 1 rfl) ?_
  replace I := I.pull1.dupR
  refine br_r H (fun hb H => ?_) (fun hb H => ?_)
  · refine nil_e hp_4 ?_
    refine ldS_r (I.pull2.cell 1 1 rfl) ?_
    replace I := I.pull1.dupR
    refine ixcarlingref15_Held rd_ro I H fun p_14 x_13 a_19 c_20 he_15 hb_16 hc_17 hc_18 hc_21 I H => ?_
    refine ldB_r hc_21 ?_
    refine br_r H (fun hb H => ?_) (fun hb H => ?_)
    · replace I := I.pull2.dupR
      replace I := I.pull6.pull1.pull6
      replace I := (cl_carlingref15_Cache x_5 I).putS hx_6
      replace I := I.pull1.drop1
      replace I := I.pull1.drop1
      replace I := I.pull1.drop1
      replace I := I.pull1.drop1
      exact carlingref15_Cache_fit_K2_r (c0 := c0) (n3 := (IntKind.wrap .i64 (n3 + (1 : Int)))) (last4 := i5) (i5 := i5) (σ := σ) I H kS1 k
    · replace I := I.pull2.dupR
      replace I := I.pull6.pull1.pull6
      replace I := (cl_carlingref15_Cache x_5 I).putS hx_6
      replace I := I.pull1.drop1
      replace I := I.pull1.drop1
      replace I := I.pull1.drop1
      replace I := I.pull1.drop1
      exact carlingref15_Cache_fit_K2_r (c0 := c0) (n3 := n3) (last4 := last4) (i5 := i5) (σ := σ) I H kS1 k
  · refine nil_e hp_4 ?_
    refine ldI_r (I.pull2.cell 0 0 rfl) ?_
    refine br_r H (fun hb H => ?_) (fun hb H => ?_)
    · replace I := I.pull1.dupR
      replace I := I.pull4.pull1.pull4
      replace I := (cl_carlingref15_Cache x_5 I).putS hx_6
      replace I := I.pull1.drop1
      replace I := I.pull1.drop1
      exact k (-1 : Int) _ σ I H
    · refine nil_e hp_4 ?_
      refine ldS_r (I.pull2.cell 1 1 rfl) ?_
      replace I := I.pull1.dupR
      refine ixcarlingref15_Held rd_ro I H fun p_28 x_27 a_33 c_34 he_29 hb_30 hc_31 hc_32 hc_35 I H => ?_
      refine ldI_r hc_31 ?_
      replace I := I.pull2.dupR
      replace I := I.pull6.pull1.pull6
      replace I := (cl_carlingref15_Cache x_5 I).putS hx_6
      refine carlingref15_Cache_without_r (c0 := c0) (at1 := last4) (σ := σ) I H fun r_38 a_39 c_40 h σ_42 I H => ?_
      refine nil_e hp_4 ?_
      obtain ⟨x_43, hx_44, H⟩ := H
      obtain ⟨a2_45, c2_46, I⟩ := op_carlingref15_Cache (I.pull1.take hx_44)
      refine st_r I 1 1 rfl fun h (I : Inv h (blk p_3 (ρ.T 6) [.one (.int .i64 x_43.Room), .one (.slice a_39 r_38.length c_40)] :: _)) => ?_
      replace I := I.pull3.freeze
      replace I := I.dupR
      replace I := I.pull4.pull1.pull3
      replace I := (cl_carlingref15_Cache (⟨x_43.Room, r_38⟩ : carlingref15_Cache) I).putB
      replace I := I.pull1.drop1
      replace I := I.pull1.drop1
      replace I := I.pull1.drop1
      replace I := I.pull1.drop1
      replace I := I.pull1.drop1
      replace I := I.pull1.drop1
      exact k x_27.Item _ (sset σ_42 p_3 (.carlingref15_Cache (⟨x_43.Room, r_38⟩ : carlingref15_Cache))) I H

theorem carlingref15_Cache_fit_L1_r {ρ : Ids} {h : Hp} {A : List At}  {c0 : Option Addr} {n3 : Int} {last4 : Int} {i5 : Int}  {σ : St Obj} {Q' : Int → St Obj → Prop} {Q : Int → Hp → Prop} (I : Inv h (hpA (obA ρ) σ :: A)) (H : carlingref15_Cache_fit_L1 Q' c0 n3 last4 i5 σ)
    (k : ∀ (r0 : Int) (h' : Hp) (σ' : St Obj), Inv h' (hpA (obA ρ) σ' :: A) → Q' r0 σ' → Q r0 h') : Tx.carlingref15_Cache_fit_L1 ρ Q c0 n3 last4 i5 h := by
  refine Lf.ind H (fun v => ∀  (h : Hp), Inv h (hpA (obA ρ) v.2.2.2.2 :: A) → Tx.carlingref15_Cache_fit_L1 ρ Q v.1 v.2.1 v.2.2.1 v.2.2.2.1 h) ?_  _  I
  rintro ⟨c0, n3, last4, i5, σ⟩ S hS HB  h I
  refine Tx.carlingref15_Cache_fit_L1_in _ _ _ _ _ _ _ ?_
  try simp only [nrm_v]
  exact carlingref15_Cache_fit_B1_r (c0 := c0) (n3 := n3) (last4 := last4) (i5 := i5) (σ := σ) I HB (fun {c0 n3 last4 i5 σ h} I H => hS _ H  _ I) k

def carlingref15_Cache_fit (c0 : Option Addr) (σ : St Obj) (Q : Int → St Obj → Prop) : Prop :=
  carlingref15_Cache_fit_L1 Q c0 (0 : Int) (-1 : Int) (0 : Int) σ

theorem carlingref15_Cache_fit_r {ρ : Ids} {h : Hp} {A : List At} {c0 : Option Addr}  {σ : St Obj} {Q' : Int → St Obj → Prop} {Q : Int → Hp → Prop} (I : Inv h (hpA (obA ρ) σ :: A)) (H : carlingref15_Cache_fit c0 σ Q')
    (k : ∀ (r0 : Int) (h' : Hp) (σ' : St Obj), Inv h' (hpA (obA ρ) σ' :: A) → Q' r0 σ' → Q r0 h') : Tx.carlingref15_Cache_fit ρ c0 h Q := by
  unfold Tx.carlingref15_Cache_fit
  unfold carlingref15_Cache_fit at H
  exact carlingref15_Cache_fit_L1_r (c0 := c0) (n3 := (0 : Int)) (last4 := (-1 : Int)) (i5 := (0 : Int)) (σ := σ) I H k

def carlingref15_Cache_Unpin_K1 (Q : Int → Bool → St Obj → Prop) (c0 : Option Addr) (at6 : Int) (v23 : Bool) (σ : St Obj) : Prop :=
  br v23
  (Q (-1 : Int) false σ)
  (nilW c0 fun p_25 =>
  at_carlingref15_Cache σ p_25 fun x_27 =>
  ixP x_27.L at6 fun x_34 =>
  carlingref15_Cache_first c0 (⟨x_34.Item, x_34.Page, false⟩ : carlingref15_Held) σ fun σ_48 =>
  carlingref15_Cache_fit c0 σ_48 fun r_49 σ_50 =>
  Q r_49 true σ_50)

theorem carlingref15_Cache_Unpin_K1_r {ρ : Ids} {h : Hp} {A : List At}  {c0 : Option Addr} {at6 : Int} {v23 : Bool}  {σ : St Obj} {Q' : Int → Bool → St Obj → Prop} {Q : Int → Bool → Hp → Prop} (I : Inv h (hpA (obA ρ) σ :: A)) (H : carlingref15_Cache_Unpin_K1 Q' c0 at6 v23 σ)
    (k : ∀ (r0 : Int) (r1 : Bool) (h' : Hp) (σ' : St Obj), Inv h' (hpA (obA ρ) σ' :: A) → Q' r0 r1 σ' → Q r0 r1 h') : Tx.carlingref15_Cache_Unpin_K1 ρ Q c0 at6 v23 h := by
  unfold Tx.carlingref15_Cache_Unpin_K1
  unfold carlingref15_Cache_Unpin_K1 at H
  refine br_r H (fun hb H => ?_) (fun hb H => ?_)
  · exact k (-1 : Int) false _ σ I H
  · refine nil_r H fun p_25 hp_26 H => ?_
    obtain ⟨x_27, hx_28, H⟩ := H
    obtain ⟨a2_29, c2_30, I⟩ := op_carlingref15_Cache (I.take hx_28)
    refine ldS_r (I.cell 1 1 rfl) ?_
    replace I := I.pull1.dupR
    refine ixcarlingref15_Held rd_ro I H fun p_35 x_34 a_40 c_41 he_36 hb_37 hc_38 hc_39 hc_42 I H => ?_
    refine ldI_r hc_38 ?_
    refine ldS_r hc_39 ?_
    refine ldB_r hc_42 ?_
    refine al_r [.one (.int .i64 (0 : Int)), .one (.slice none 0 0), .one (.bool false)] rfl I fun p_44 h I => ?_
    refine stA_r I 0 3 0 [.one (.int .i64 x_34.Item), .one (.slice a_40 x_34.Page.length c_41), .one (.bool x_34.Pinned)] rfl rfl rfl (all_one (by simp [segs, Seg.cells, allOne, allOne_append, allOne_lump, Value.oneCell'])) fun h (I : Inv h (blk p_44 (ρ.T 7) [.one (.int .i64 x_34.Item), .one (.slice a_40 x_34.Page.length c_41), .one (.bool x_34.Pinned)] :: _)) => ?_
    refine st_r I 2 2 rfl fun h (I : Inv h (blk p_44 (ρ.T 7) [.one (.int .i64 x_34.Item), .one (.slice a_40 x_34.Page.length c_41), .one (.bool false)] :: _)) => ?_
    refine ldI_r (I.cell 0 0 rfl) ?_
    refine ldS_r (I.cell 1 1 rfl) ?_
    refine ldB_r (I.cell 2 2 rfl) ?_
    replace I := I.pull3.dupR
    replace I := I.pull6.pull1.pull6
    replace I := (cl_carlingref15_Cache x_27 I).putS hx_28
    replace I := I.pull3.dupR
    replace I := I.pull2.pull1
    try simp only [nrm_v]
    refine carlingref15_Cache_first_r (c0 := c0) (h1 := (⟨x_34.Item, x_34.Page, false⟩ : carlingref15_Held)) (σ := σ) I H fun h σ_48 I H => ?_
    refine carlingref15_Cache_fit_r (c0 := c0) (σ := σ_48) I H fun r_49 h σ_50 I H => ?_
    replace I := I.pull1.drop1
    replace I := I.pull1.drop1
    replace I := I.pull1.drop1
    replace I := I.pull1.drop1
    exact k r_49 true _ σ_50 I H

def carlingref15_Cache_Unpin (c0 : Option Addr) (item1 : Int) (σ : St Obj) (Q : Int → Bool → St Obj → Prop) : Prop :=
  carlingref15_Cache_Find c0 item1 σ fun r_2 σ_3 =>
  br (decide (r_2 < (0 : Int)))
  (carlingref15_Cache_Unpin_K1 Q c0 r_2 true σ_3)
  (nilW c0 fun p_4 =>
  at_carlingref15_Cache σ_3 p_4 fun x_6 =>
  ixP x_6.L r_2 fun x_13 =>
  carlingref15_Cache_Unpin_K1 Q c0 r_2 (!x_13.Pinned) σ_3)

theorem carlingref15_Cache_Unpin_r {ρ : Ids} {h : Hp} {A : List At} {c0 : Option Addr} {item1 : Int}  {σ : St Obj} {Q' : Int → Bool → St Obj → Prop} {Q : Int → Bool → Hp → Prop} (I : Inv h (hpA (obA ρ) σ :: A)) (H : carlingref15_Cache_Unpin c0 item1 σ Q')
    (k : ∀ (r0 : Int) (r1 : Bool) (h' : Hp) (σ' : St Obj), Inv h' (hpA (obA ρ) σ' :: A) → Q' r0 r1 σ' → Q r0 r1 h') : Tx.carlingref15_Cache_Unpin ρ c0 item1 h Q := by
  unfold Tx.carlingref15_Cache_Unpin
  unfold carlingref15_Cache_Unpin at H
  refine carlingref15_Cache_Find_r (c0 := c0) (item1 := item1) (σ := σ) I H fun r_2 h σ_3 I H => ?_
  refine br_r H (fun hb H => ?_) (fun hb H => ?_)
  · exact carlingref15_Cache_Unpin_K1_r (c0 := c0) (at6 := r_2) (v23 := true) (σ := σ_3) I H k
  · refine nil_r H fun p_4 hp_5 H => ?_
    obtain ⟨x_6, hx_7, H⟩ := H
    obtain ⟨a2_8, c2_9, I⟩ := op_carlingref15_Cache (I.take hx_7)
    refine ldS_r (I.cell 1 1 rfl) ?_
    replace I := I.pull1.dupR
    refine ixcarlingref15_Held rd_ro I H fun p_14 x_13 a_19 c_20 he_15 hb_16 hc_17 hc_18 hc_21 I H => ?_
    refine ldB_r hc_21 ?_
    replace I := I.pull2.dupR
    replace I := I.pull5.pull1.pull5
    replace I := (cl_carlingref15_Cache x_6 I).putS hx_7
    replace I := I.pull1.drop1
    replace I := I.pull1.drop1
    replace I := I.pull1.drop1
    exact carlingref15_Cache_Unpin_K1_r (c0 := c0) (at6 := r_2) (v23 := (!x_13.Pinned)) (σ := σ_3) I H k

def carlingref15_Cache_Drop (c0 : Option Addr) (item1 : Int) (σ : St Obj) (Q : Bool → St Obj → Prop) : Prop :=
  carlingref15_Cache_Find c0 item1 σ fun r_2 σ_3 =>
  br (decide (r_2 < (0 : Int)))
  (Q false σ_3)
  (carlingref15_Cache_without c0 r_2 σ_3 fun r_4 σ_8 =>
  nilW c0 fun p_9 =>
  at_carlingref15_Cache σ_8 p_9 fun x_11 =>
  Q true (sset σ_8 p_9 (.carlingref15_Cache (⟨x_11.Room, r_4⟩ : carlingref15_Cache))))

theorem carlingref15_Cache_Drop_r {ρ : Ids} {h : Hp} {A : List At} {c0 : Option Addr} {item1 : Int}  {σ : St Obj} {Q' : Bool → St Obj → Prop} {Q : Bool → Hp → Prop} (I : Inv h (hpA (obA ρ) σ :: A)) (H : carlingref15_Cache_Drop c0 item1 σ Q')
    (k : ∀ (r0 : Bool) (h' : Hp) (σ' : St Obj), Inv h' (hpA (obA ρ) σ' :: A) → Q' r0 σ' → Q r0 h') : Tx.carlingref15_Cache_Drop ρ c0 item1 h Q := by
  unfold Tx.carlingref15_Cache_Drop
  unfold carlingref15_Cache_Drop at H
  refine carlingref15_Cache_Find_r (c0 := c0) (item1 := item1) (σ := σ) I H fun r_2 h σ_3 I H => ?_
  refine br_r H (fun hb H => ?_) (fun hb H => ?_)
  · exact k false _ σ_3 I H
  · refine carlingref15_Cache_without_r (c0 := c0) (at1 := r_2) (σ := σ_3) I H fun r_4 a_5 c_6 h σ_8 I H => ?_
    refine nil_r H fun p_9 hp_10 H => ?_
    obtain ⟨x_11, hx_12, H⟩ := H
    obtain ⟨a2_13, c2_14, I⟩ := op_carlingref15_Cache (I.pull1.take hx_12)
    refine st_r I 1 1 rfl fun h (I : Inv h (blk p_9 (ρ.T 6) [.one (.int .i64 x_11.Room), .one (.slice a_5 r_4.length c_6)] :: _)) => ?_
    replace I := I.pull3.freeze
    replace I := I.dupR
    replace I := I.pull4.pull1.pull3
    replace I := (cl_carlingref15_Cache (⟨x_11.Room, r_4⟩ : carlingref15_Cache) I).putB
    replace I := I.pull1.drop1
    replace I := I.pull1.drop1
    exact k true _ (sset σ_8 p_9 (.carlingref15_Cache (⟨x_11.Room, r_4⟩ : carlingref15_Cache))) I H

def carlingref15_Cache_Put_K1 (Q : Int → Int → St Obj → Prop) (c0 : Option Addr) (σ : St Obj) : Prop :=
  carlingref15_Cache_fit c0 σ fun r_36 σ_37 =>
  Q r_36 (0 : Int) σ_37

theorem carlingref15_Cache_Put_K1_r {ρ : Ids} {h : Hp} {A : List At} {X_page2 : At} {c0 : Option Addr}  {σ : St Obj} {Q' : Int → Int → St Obj → Prop} {Q : Int → Int → Hp → Prop} (I : Inv h (X_page2 :: hpA (obA ρ) σ :: A)) (H : carlingref15_Cache_Put_K1 Q' c0 σ)
    (k : ∀ (r0 : Int) (r1 : Int) (h' : Hp) (σ' : St Obj), Inv h' (X_page2 :: hpA (obA ρ) σ' :: A) → Q' r0 r1 σ' → Q r0 r1 h') : Tx.carlingref15_Cache_Put_K1 ρ Q c0 h := by
  unfold Tx.carlingref15_Cache_Put_K1
  unfold carlingref15_Cache_Put_K1 at H
  replace I := I.pull1
  refine carlingref15_Cache_fit_r (c0 := c0) (σ := σ) I H fun r_36 h σ_37 I H => ?_
  replace I := I.pull1
  exact k r_36 (0 : Int) _ σ_37 I H

def carlingref15_Cache_Put (c0 : Option Addr) (item1 : Int) (page2 : List Int) (σ : St Obj) (Q : Int → Int → St Obj → Prop) : Prop :=
  carlingref15_is item1 fun r_3 =>
  br (!r_3)
  (Q (-1 : Int) (1 : Int) σ)
  (carlingref15_Cache_Find c0 item1 σ fun r_4 σ_5 =>
  (Bnd (([] : List Int).length + page2.length)) ∧
  br (decide (r_4 ≥ (0 : Int)))
  (nilW c0 fun p_10 =>
  at_carlingref15_Cache σ_5 p_10 fun x_12 =>
  ixP x_12.L r_4 fun x_19 =>
  carlingref15_Cache_first c0 (⟨item1, (([] : List Int) ++ page2), x_19.Pinned⟩ : carlingref15_Held) σ_5 fun σ_31 =>
  carlingref15_Cache_Put_K1 Q c0 σ_31)
  (carlingref15_Cache_first c0 (⟨item1, (([] : List Int) ++ page2), false⟩ : carlingref15_Held) σ_5 fun σ_33 =>
  carlingref15_Cache_Put_K1 Q c0 σ_33))

theorem carlingref15_Cache_Put_r {ρ : Ids} {h : Hp} {A : List At} {c0 : Option Addr} {item1 : Int} {page2 : List Int} {a_page20 : Option Addr} {n_page20 c_page20 : Nat} {X_page2 : At} {σ : St Obj} {Q' : Int → Int → St Obj → Prop} {Q : Int → Int → Hp → Prop} (hX_page2 : Rd (rI .u8) X_page2 a_page20 n_page20 c_page20 page2) (I : Inv h (X_page2 :: hpA (obA ρ) σ :: A)) (H : carlingref15_Cache_Put c0 item1 page2 σ Q')
    (k : ∀ (r0 : Int) (r1 : Int) (h' : Hp) (σ' : St Obj), Inv h' (X_page2 :: hpA (obA ρ) σ' :: A) → Q' r0 r1 σ' → Q r0 r1 h') : Tx.carlingref15_Cache_Put ρ c0 item1 ⟨a_page20, n_page20, c_page20⟩ h Q := by
  obtain rfl := rd_len hX_page2 I
  unfold Tx.carlingref15_Cache_Put
  unfold carlingref15_Cache_Put at H
  refine carlingref15_is_r (item0 := item1) I H fun r_3 h I H => ?_
  refine br_r H (fun hb H => ?_) (fun hb H => ?_)
  · replace I := I.pull1.pull1
    exact k (-1 : Int) (1 : Int) _ σ I H
  · replace I := I.pull1
    refine carlingref15_Cache_Find_r (c0 := c0) (item1 := item1) (σ := σ) I H fun r_4 h σ_5 I H => ?_
    replace I := I.nilO (rI .u8)
    refine ap_r hX_page2 I.pull2.pull1 rfl (by decide) (by decide) H.1 fun a_7 c_8 h I => ?_
    replace H := H.2
    refine br_r H (fun hb H => ?_) (fun hb H => ?_)
    · refine nil_r H fun p_10 hp_11 H => ?_
      obtain ⟨x_12, hx_13, H⟩ := H
      obtain ⟨a2_14, c2_15, I⟩ := op_carlingref15_Cache (I.pull2.take hx_13)
      refine ldS_r (I.cell 1 1 rfl) ?_
      replace I := I.pull1.dupR
      refine ixcarlingref15_Held rd_ro I H fun p_20 x_19 a_25 c_26 he_21 hb_22 hc_23 hc_24 hc_27 I H => ?_
      refine ldB_r hc_27 ?_
      replace I := I.pull2.dupR
      replace I := I.pull5.pull1.pull5
      replace I := (cl_carlingref15_Cache x_12 I).putS hx_13
      replace I := I.pull4.freeze
      replace I := I.dupR
      replace I := I.pull2.pull1
      try simp only [nrm_v]
      refine carlingref15_Cache_first_r (c0 := c0) (h1 := (⟨item1, (([] : List Int) ++ page2), x_19.Pinned⟩ : carlingref15_Held)) (σ := σ_5) I H fun h σ_31 I H => ?_
      replace I := I.pull1.drop1
      replace I := I.pull1.drop1
      replace I := I.pull1.drop1
      replace I := I.pull1.drop1
      replace I := I.pull1
      exact carlingref15_Cache_Put_K1_r (c0 := c0) (σ := σ_31) I H k
    · replace I := I.freeze
      replace I := I.dupR
      replace I := I.pull3.pull1
      try simp only [nrm_v]
      refine carlingref15_Cache_first_r (c0 := c0) (h1 := (⟨item1, (([] : List Int) ++ page2), false⟩ : carlingref15_Held)) (σ := σ_5) I H fun h σ_33 I H => ?_
      replace I := I.pull1.drop1
      replace I := I.pull1
      exact carlingref15_Cache_Put_K1_r (c0 := c0) (σ := σ_33) I H k

def lru_Cache_Room (c0 : Option Addr) (σ : St Obj) (Q : Int → St Obj → Prop) : Prop :=
  lru_Cache_ok c0 σ fun r_2 σ_3 =>
  br (!r_2)
  (Q (0 : Int) σ_3)
  (nilW c0 fun p_4 =>
  at_lru_Cache σ_3 p_4 fun x_6 =>
  Q x_6.room σ_3)

theorem lru_Cache_Room_r {ρ : Ids} {h : Hp} {A : List At} {c0 : Option Addr}  {σ : St Obj} {Q' : Int → St Obj → Prop} {Q : Int → Hp → Prop} (I : Inv h (hpA (obA ρ) σ :: A)) (H : lru_Cache_Room c0 σ Q')
    (k : ∀ (r0 : Int) (h' : Hp) (σ' : St Obj), Inv h' (hpA (obA ρ) σ' :: A) → Q' r0 σ' → Q r0 h') : Tx.lru_Cache_Room ρ c0 h Q := by
  unfold Tx.lru_Cache_Room
  unfold lru_Cache_Room at H
  refine lru_Cache_ok_r (c0 := c0) (σ := σ) I H fun r_2 h σ_3 I H => ?_
  refine br_r H (fun hb H => ?_) (fun hb H => ?_)
  · exact k (0 : Int) _ σ_3 I H
  · refine nil_r H fun p_4 hp_5 H => ?_
    obtain ⟨x_6, hx_7, H⟩ := H
    obtain ⟨m2_8, o2_9, a3_10, c3_11, I⟩ := op_lru_Cache (I.take hx_7)
    refine ldI_r (I.cell 0 0 rfl) ?_
    replace I := I.pull3.pull3.pull3.pull3
    replace I := (cl_lru_Cache x_6 I).putS hx_7
    exact k x_6.room _ σ_3 I H

def carlinglaw15_LruPlays_K6 (S3 : Int → (Option Addr) → Addr → (List carlinglaw15_Step) → Int → Int → St Obj → Prop) (S5 : Int → (Option Addr) → Addr → (List Int) → Int → (List carlinglaw15_Step) → Int → Int → (List carlingref15_Held) → Int → Int → St Obj → Prop) (Q : Bool → St Obj → Prop) (room0 : Int) (c5 : Option Addr) (r8 : Addr) (order24 : List Int) (pinned25 : Int) (v61 : List carlinglaw15_Step) (v62 : Int) (v63 : Int) (v203 : List carlingref15_Held) (v204 : Int) (v205 : Int) (σ : St Obj) : Prop :=
  S5 room0 c5 r8 order24 pinned25 v61 v62 v63 v203 v204 (IntKind.wrap .i64 (v205 + (1 : Int))) σ

theorem carlinglaw15_LruPlays_K6_r {ρ : Ids} {h : Hp} {A : List At} {X_l1 : At} {room0 : Int} {c5 : Option Addr} {r8 : Addr} {order24 : List Int} {pinned25 : Int} {v61 : List carlinglaw15_Step} {v62 : Int} {v63 : Int} {v203 : List carlingref15_Held} {v204 : Int} {v205 : Int} {a_order241 : Option Addr} {n_order241 c_order241 : Nat} {a_v612 : Option Addr} {n_v612 c_v612 : Nat} {a_v2033 : Option Addr} {n_v2033 c_v2033 : Nat} {σ : St Obj} {Q' : Bool → St Obj → Prop} {Q : Bool → Hp → Prop} {S3' : Int → (Option Addr) → Addr → (List carlinglaw15_Step) → Int → Int → St Obj → Prop} {S3 : Int → Option Addr → Addr → Sl → Int → Int → Hp → Prop} {S5' : Int → (Option Addr) → Addr → (List Int) → Int → (List carlinglaw15_Step) → Int → Int → (List carlingref15_Held) → Int → Int → St Obj → Prop} {S5 : Int → Option Addr → Addr → Sl → Int → Sl → Int → Int → Sl → Int → Int → Hp → Prop} (I : Inv h (X_l1 :: ownS (rI .i64) a_order241 n_order241 c_order241 order24 :: ownS R_carlinglaw15_Step a_v612 n_v612 c_v612 v61 :: roS R_carlingref15_Held a_v2033 n_v2033 c_v2033 v203 :: hpA (obA ρ) σ :: A)) (H : carlinglaw15_LruPlays_K6 S3' S5' Q' room0 c5 r8 order24 pinned25 v61 v62 v63 v203 v204 v205 σ) (kS3 : ∀ {room0 : Int} {c5 : Option Addr} {r8 : Addr} {v61 : List carlinglaw15_Step} {v62 : Int} {v63 : Int} {a_v611 : Option Addr} {n_v611 c_v611 : Nat} {σ : St Obj} {h : Hp}, Inv h (X_l1 :: ownS R_carlinglaw15_Step a_v611 n_v611 c_v611 v61 :: hpA (obA ρ) σ :: A) → S3' room0 c5 r8 v61 v62 v63 σ → S3 room0 c5 r8 ⟨a_v611, n_v611, c_v611⟩ v62 v63 h) (kS5 : ∀ {room0 : Int} {c5 : Option Addr} {r8 : Addr} {order24 : List Int} {pinned25 : Int} {v61 : List carlinglaw15_Step} {v62 : Int} {v63 : Int} {v203 : List carlingref15_Held} {v204 : Int} {v205 : Int} {a_order241 : Option Addr} {n_order241 c_order241 : Nat} {a_v612 : Option Addr} {n_v612 c_v612 : Nat} {a_v2033 : Option Addr} {n_v2033 c_v2033 : Nat} {σ : St Obj} {h : Hp}, Inv h (X_l1 :: ownS (rI .i64) a_order241 n_order241 c_order241 order24 :: ownS R_carlinglaw15_Step a_v612 n_v612 c_v612 v61 :: roS R_carlingref15_Held a_v2033 n_v2033 c_v2033 v203 :: hpA (obA ρ) σ :: A) → S5' room0 c5 r8 order24 pinned25 v61 v62 v63 v203 v204 v205 σ → S5 room0 c5 r8 ⟨a_order241, n_order241, c_order241⟩ pinned25 ⟨a_v612, n_v612, c_v612⟩ v62 v63 ⟨a_v2033, n_v2033, c_v2033⟩ v204 v205 h)
    (k : ∀ (r0 : Bool) (h' : Hp) (σ' : St Obj), Inv h' (X_l1 :: hpA (obA ρ) σ' :: A) → Q' r0 σ' → Q r0 h') : Tx.carlinglaw15_LruPlays_K6 ρ S3 S5 Q room0 c5 r8 ⟨a_order241, n_order241, c_order241⟩ pinned25 ⟨a_v612, n_v612, c_v612⟩ v62 v63 ⟨a_v2033, n_v2033, c_v2033⟩ v204 v205 h := by
  obtain rfl := own_len I.pull1
  obtain rfl := own_len I.pull2
  obtain rfl := ro_len I.pull3
  unfold Tx.carlinglaw15_LruPlays_K6
  unfold carlinglaw15_LruPlays_K6 at H
  replace I := I.pull3.dupR
  replace I := I.pull1.drop1
  replace I := I.pull4.pull1.pull4.pull4.pull4
  exact kS5 (room0 := room0) (c5 := c5) (r8 := r8) (order24 := order24) (pinned25 := pinned25) (v61 := v61) (v62 := v62) (v63 := v63) (v203 := v203) (v204 := v204) (v205 := (IntKind.wrap .i64 (v205 + (1 : Int)))) (σ := σ) I H

def carlinglaw15_LruPlays_B5 (S3 : Int → (Option Addr) → Addr → (List carlinglaw15_Step) → Int → Int → St Obj → Prop) (S5 : Int → (Option Addr) → Addr → (List Int) → Int → (List carlinglaw15_Step) → Int → Int → (List carlingref15_Held) → Int → Int → St Obj → Prop) (Q : Bool → St Obj → Prop) (room0 : Int) (c5 : Option Addr) (r8 : Addr) (order24 : List Int) (pinned25 : Int) (v61 : List carlinglaw15_Step) (v62 : Int) (v63 : Int) (v203 : List carlingref15_Held) (v204 : Int) (v205 : Int) (σ : St Obj) : Prop :=
  br (decide (v205 < v204))
  (ixP v203 v205 fun x_96 =>
  ixP order24 v205 fun x_108 =>
  br (x_108 != x_96.Item)
  (Q false σ)
  (br x_96.Pinned
  (carlinglaw15_LruPlays_K6 S3 S5 Q room0 c5 r8 order24 (IntKind.wrap .i64 (pinned25 + (1 : Int))) v61 v62 v63 v203 v204 v205 σ)
  (carlinglaw15_LruPlays_K6 S3 S5 Q room0 c5 r8 order24 pinned25 v61 v62 v63 v203 v204 v205 σ)))
  (lru_Cache_Pinned c5 σ fun r_115 σ_119 =>
  br ((r_115.length : Int) != pinned25)
  (Q false σ_119)
  (S3 room0 c5 r8 v61 v62 (IntKind.wrap .i64 (v63 + (1 : Int))) σ_119))

def carlinglaw15_LruPlays_L5 (S3 : Int → (Option Addr) → Addr → (List carlinglaw15_Step) → Int → Int → St Obj → Prop) (Q : Bool → St Obj → Prop) (room0 : Int) (c5 : Option Addr) (r8 : Addr) (order24 : List Int) (pinned25 : Int) (v61 : List carlinglaw15_Step) (v62 : Int) (v63 : Int) (v203 : List carlingref15_Held) (v204 : Int) (v205 : Int) (σ : St Obj) : Prop :=
  Lf (fun S (v : Int × (Option Addr) × Addr × (List Int) × Int × (List carlinglaw15_Step) × Int × Int × (List carlingref15_Held) × Int × Int × St Obj) => carlinglaw15_LruPlays_B5 S3 (fun room0 c5 r8 order24 pinned25 v61 v62 v63 v203 v204 v205 σ => S (room0, c5, r8, order24, pinned25, v61, v62, v63, v203, v204, v205, σ)) Q v.1 v.2.1 v.2.2.1 v.2.2.2.1 v.2.2.2.2.1 v.2.2.2.2.2.1 v.2.2.2.2.2.2.1 v.2.2.2.2.2.2.2.1 v.2.2.2.2.2.2.2.2.1 v.2.2.2.2.2.2.2.2.2.1 v.2.2.2.2.2.2.2.2.2.2.1 v.2.2.2.2.2.2.2.2.2.2.2) (room0, c5, r8, order24, pinned25, v61, v62, v63, v203, v204, v205, σ)

theorem carlinglaw15_LruPlays_L5_in (S3 : Int → (Option Addr) → Addr → (List carlinglaw15_Step) → Int → Int → St Obj → Prop) (Q : Bool → St Obj → Prop) (room0 : Int) (c5 : Option Addr) (r8 : Addr) (order24 : List Int) (pinned25 : Int) (v61 : List carlinglaw15_Step) (v62 : Int) (v63 : Int) (v203 : List carlingref15_Held) (v204 : Int) (v205 : Int) (σ : St Obj) (H : carlinglaw15_LruPlays_B5 S3 (carlinglaw15_LruPlays_L5 S3 Q) Q room0 c5 r8 order24 pinned25 v61 v62 v63 v203 v204 v205 σ) : carlinglaw15_LruPlays_L5 S3 Q room0 c5 r8 order24 pinned25 v61 v62 v63 v203 v204 v205 σ := Lf.fold H

theorem carlinglaw15_LruPlays_B5_r {ρ : Ids} {h : Hp} {A : List At} {X_l1 : At} {room0 : Int} {c5 : Option Addr} {r8 : Addr} {order24 : List Int} {pinned25 : Int} {v61 : List carlinglaw15_Step} {v62 : Int} {v63 : Int} {v203 : List carlingref15_Held} {v204 : Int} {v205 : Int} {a_order241 : Option Addr} {n_order241 c_order241 : Nat} {a_v612 : Option Addr} {n_v612 c_v612 : Nat} {a_v2033 : Option Addr} {n_v2033 c_v2033 : Nat} {σ : St Obj} {Q' : Bool → St Obj → Prop} {Q : Bool → Hp → Prop} {S3' : Int → (Option Addr) → Addr → (List carlinglaw15_Step) → Int → Int → St Obj → Prop} {S3 : Int → Option Addr → Addr → Sl → Int → Int → Hp → Prop} {S5' : Int → (Option Addr) → Addr → (List Int) → Int → (List carlinglaw15_Step) → Int → Int → (List carlingref15_Held) → Int → Int → St Obj → Prop} {S5 : Int → Option Addr → Addr → Sl → Int → Sl → Int → Int → Sl → Int → Int → Hp → Prop} (I : Inv h (X_l1 :: ownS (rI .i64) a_order241 n_order241 c_order241 order24 :: ownS R_carlinglaw15_Step a_v612 n_v612 c_v612 v61 :: roS R_carlingref15_Held a_v2033 n_v2033 c_v2033 v203 :: hpA (obA ρ) σ :: A)) (H : carlinglaw15_LruPlays_B5 S3' S5' Q' room0 c5 r8 order24 pinned25 v61 v62 v63 v203 v204 v205 σ) (kS3 : ∀ {room0 : Int} {c5 : Option Addr} {r8 : Addr} {v61 : List carlinglaw15_Step} {v62 : Int} {v63 : Int} {a_v611 : Option Addr} {n_v611 c_v611 : Nat} {σ : St Obj} {h : Hp}, Inv h (X_l1 :: ownS R_carlinglaw15_Step a_v611 n_v611 c_v611 v61 :: hpA (obA ρ) σ :: A) → S3' room0 c5 r8 v61 v62 v63 σ → S3 room0 c5 r8 ⟨a_v611, n_v611, c_v611⟩ v62 v63 h) (kS5 : ∀ {room0 : Int} {c5 : Option Addr} {r8 : Addr} {order24 : List Int} {pinned25 : Int} {v61 : List carlinglaw15_Step} {v62 : Int} {v63 : Int} {v203 : List carlingref15_Held} {v204 : Int} {v205 : Int} {a_order241 : Option Addr} {n_order241 c_order241 : Nat} {a_v612 : Option Addr} {n_v612 c_v612 : Nat} {a_v2033 : Option Addr} {n_v2033 c_v2033 : Nat} {σ : St Obj} {h : Hp}, Inv h (X_l1 :: ownS (rI .i64) a_order241 n_order241 c_order241 order24 :: ownS R_carlinglaw15_Step a_v612 n_v612 c_v612 v61 :: roS R_carlingref15_Held a_v2033 n_v2033 c_v2033 v203 :: hpA (obA ρ) σ :: A) → S5' room0 c5 r8 order24 pinned25 v61 v62 v63 v203 v204 v205 σ → S5 room0 c5 r8 ⟨a_order241, n_order241, c_order241⟩ pinned25 ⟨a_v612, n_v612, c_v612⟩ v62 v63 ⟨a_v2033, n_v2033, c_v2033⟩ v204 v205 h)
    (k : ∀ (r0 : Bool) (h' : Hp) (σ' : St Obj), Inv h' (X_l1 :: hpA (obA ρ) σ' :: A) → Q' r0 σ' → Q r0 h') : Tx.carlinglaw15_LruPlays_B5 ρ S3 S5 Q room0 c5 r8 ⟨a_order241, n_order241, c_order241⟩ pinned25 ⟨a_v612, n_v612, c_v612⟩ v62 v63 ⟨a_v2033, n_v2033, c_v2033⟩ v204 v205 h := by
  obtain rfl := own_len I.pull1
  obtain rfl := own_len I.pull2
  obtain rfl := ro_len I.pull3
  unfold Tx.carlinglaw15_LruPlays_B5
  unfold carlinglaw15_LruPlays_B5 at H
  refine br_r H (fun hb H => ?_) (fun hb H => ?_)
  · refine ixcarlingref15_Held rd_ro I.pull3 H fun p_97 x_96 a_102 c_103 he_98 hb_99 hc_100 hc_101 hc_104 I H => ?_
    refine ldI_r hc_100 ?_
    refine ldS_r hc_101 ?_
    refine ldB_r hc_104 ?_
    refine al_r [.one (.int .i64 (0 : Int)), .one (.slice none 0 0), .one (.bool false)] rfl I fun p_106 h I => ?_
    refine stA_r I 0 3 0 [.one (.int .i64 x_96.Item), .one (.slice a_102 x_96.Page.length c_103), .one (.bool x_96.Pinned)] rfl rfl rfl (all_one (by simp [segs, Seg.cells, allOne, allOne_append, allOne_lump, Value.oneCell'])) fun h (I : Inv h (blk p_106 (ρ.T 7) [.one (.int .i64 x_96.Item), .one (.slice a_102 x_96.Page.length c_103), .one (.bool x_96.Pinned)] :: _)) => ?_
    refine ixI_a rd_own I.pull4 H fun p_109 x_108 he_110 hb_111 hc_112 H => ?_
    refine ldI_r hc_112 ?_
    refine ldI_r (I.cell 0 0 rfl) ?_
    refine br_r H (fun hb H => ?_) (fun hb H => ?_)
    · replace I := I.drop1
      replace I := I.drop1
      replace I := I.drop1
      replace I := I.pull1.drop1
      replace I := I.pull1.drop1
      replace I := I.pull1.pull1
      exact k false _ σ I H
    · refine ldB_r (I.cell 2 2 rfl) ?_
      refine br_r H (fun hb H => ?_) (fun hb H => ?_)
      · replace I := I.pull2.dupR
        replace I := I.pull1.drop1
        replace I := I.pull1.drop1
        replace I := I.pull1.drop1
        replace I := I.pull4.pull1.pull4.pull4.pull4
        exact carlinglaw15_LruPlays_K6_r (room0 := room0) (c5 := c5) (r8 := r8) (order24 := order24) (pinned25 := (IntKind.wrap .i64 (pinned25 + (1 : Int)))) (v61 := v61) (v62 := v62) (v63 := v63) (v203 := v203) (v204 := v204) (v205 := v205) (σ := σ) I H kS3 kS5 k
      · replace I := I.pull2.dupR
        replace I := I.pull1.drop1
        replace I := I.pull1.drop1
        replace I := I.pull1.drop1
        replace I := I.pull4.pull1.pull4.pull4.pull4
        exact carlinglaw15_LruPlays_K6_r (room0 := room0) (c5 := c5) (r8 := r8) (order24 := order24) (pinned25 := pinned25) (v61 := v61) (v62 := v62) (v63 := v63) (v203 := v203) (v204 := v204) (v205 := v205) (σ := σ) I H kS3 kS5 k
  · replace I := I.pull4
    refine lru_Cache_Pinned_r (c0 := c5) (σ := σ) I H fun r_115 a_116 c_117 h σ_119 I H => ?_
    refine br_r H (fun hb H => ?_) (fun hb H => ?_)
    · replace I := I.drop1
      replace I := I.pull2.drop1
      replace I := I.pull2.drop1
      replace I := I.pull2.drop1
      replace I := I.pull1
      exact k false _ σ_119 I H
    · replace I := I.drop1
      replace I := I.pull2.drop1
      replace I := I.pull3.drop1
      replace I := I.pull2.pull2
      exact kS3 (room0 := room0) (c5 := c5) (r8 := r8) (v61 := v61) (v62 := v62) (v63 := (IntKind.wrap .i64 (v63 + (1 : Int)))) (σ := σ_119) I H

theorem carlinglaw15_LruPlays_L5_r {ρ : Ids} {h : Hp} {A : List At} {X_l1 : At} {room0 : Int} {c5 : Option Addr} {r8 : Addr} {order24 : List Int} {pinned25 : Int} {v61 : List carlinglaw15_Step} {v62 : Int} {v63 : Int} {v203 : List carlingref15_Held} {v204 : Int} {v205 : Int} {a_order241 : Option Addr} {n_order241 c_order241 : Nat} {a_v612 : Option Addr} {n_v612 c_v612 : Nat} {a_v2033 : Option Addr} {n_v2033 c_v2033 : Nat} {σ : St Obj} {Q' : Bool → St Obj → Prop} {Q : Bool → Hp → Prop} {S3' : Int → (Option Addr) → Addr → (List carlinglaw15_Step) → Int → Int → St Obj → Prop} {S3 : Int → Option Addr → Addr → Sl → Int → Int → Hp → Prop} (I : Inv h (X_l1 :: ownS (rI .i64) a_order241 n_order241 c_order241 order24 :: ownS R_carlinglaw15_Step a_v612 n_v612 c_v612 v61 :: roS R_carlingref15_Held a_v2033 n_v2033 c_v2033 v203 :: hpA (obA ρ) σ :: A)) (H : carlinglaw15_LruPlays_L5 S3' Q' room0 c5 r8 order24 pinned25 v61 v62 v63 v203 v204 v205 σ) (kS3 : ∀ {room0 : Int} {c5 : Option Addr} {r8 : Addr} {v61 : List carlinglaw15_Step} {v62 : Int} {v63 : Int} {a_v611 : Option Addr} {n_v611 c_v611 : Nat} {σ : St Obj} {h : Hp}, Inv h (X_l1 :: ownS R_carlinglaw15_Step a_v611 n_v611 c_v611 v61 :: hpA (obA ρ) σ :: A) → S3' room0 c5 r8 v61 v62 v63 σ → S3 room0 c5 r8 ⟨a_v611, n_v611, c_v611⟩ v62 v63 h)
    (k : ∀ (r0 : Bool) (h' : Hp) (σ' : St Obj), Inv h' (X_l1 :: hpA (obA ρ) σ' :: A) → Q' r0 σ' → Q r0 h') : Tx.carlinglaw15_LruPlays_L5 ρ S3 Q room0 c5 r8 ⟨a_order241, n_order241, c_order241⟩ pinned25 ⟨a_v612, n_v612, c_v612⟩ v62 v63 ⟨a_v2033, n_v2033, c_v2033⟩ v204 v205 h := by
  refine Lf.ind H (fun v => ∀ (a_order241 : Option Addr) (n_order241 c_order241 : Nat) (a_v612 : Option Addr) (n_v612 c_v612 : Nat) (a_v2033 : Option Addr) (n_v2033 c_v2033 : Nat) (h : Hp), Inv h (X_l1 :: ownS (rI .i64) a_order241 n_order241 c_order241 v.2.2.2.1 :: ownS R_carlinglaw15_Step a_v612 n_v612 c_v612 v.2.2.2.2.2.1 :: roS R_carlingref15_Held a_v2033 n_v2033 c_v2033 v.2.2.2.2.2.2.2.2.1 :: hpA (obA ρ) v.2.2.2.2.2.2.2.2.2.2.2 :: A) → Tx.carlinglaw15_LruPlays_L5 ρ S3 Q v.1 v.2.1 v.2.2.1 ⟨a_order241, n_order241, c_order241⟩ v.2.2.2.2.1 ⟨a_v612, n_v612, c_v612⟩ v.2.2.2.2.2.2.1 v.2.2.2.2.2.2.2.1 ⟨a_v2033, n_v2033, c_v2033⟩ v.2.2.2.2.2.2.2.2.2.1 v.2.2.2.2.2.2.2.2.2.2.1 h) ?_ _ _ _ _ _ _ _ _ _ _  I
  rintro ⟨room0, c5, r8, order24, pinned25, v61, v62, v63, v203, v204, v205, σ⟩ S hS HB a_order241 n_order241 c_order241 a_v612 n_v612 c_v612 a_v2033 n_v2033 c_v2033 h I
  refine Tx.carlinglaw15_LruPlays_L5_in _ _ _ _ _ _ _ _ _ _ _ _ _ _ _ ?_
  try simp only [nrm_v]
  exact carlinglaw15_LruPlays_B5_r (room0 := room0) (c5 := c5) (r8 := r8) (order24 := order24) (pinned25 := pinned25) (v61 := v61) (v62 := v62) (v63 := v63) (v203 := v203) (v204 := v204) (v205 := v205) (σ := σ) I HB kS3 (fun {room0 c5 r8 order24 pinned25 v61 v62 v63 v203 v204 v205 a_order241 n_order241 c_order241 a_v612 n_v612 c_v612 a_v2033 n_v2033 c_v2033 σ h} I H => hS _ H a_order241 n_order241 c_order241 a_v612 n_v612 c_v612 a_v2033 n_v2033 c_v2033 _ I) k

def carlinglaw15_LruPlays_K4 (S3 : Int → (Option Addr) → Addr → (List carlinglaw15_Step) → Int → Int → St Obj → Prop) (Q : Bool → St Obj → Prop) (room0 : Int) (c5 : Option Addr) (r8 : Addr) (order24 : List Int) (v61 : List carlinglaw15_Step) (v62 : Int) (v63 : Int) (v201 : Bool) (σ : St Obj) : Prop :=
  br v201
  (Q false σ)
  (at_carlingref15_Cache σ r8 fun x_82 =>
  carlinglaw15_LruPlays_L5 S3 Q room0 c5 r8 order24 (0 : Int) v61 v62 v63 x_82.L (x_82.L.length : Int) (0 : Int) σ)

theorem carlinglaw15_LruPlays_K4_r {ρ : Ids} {h : Hp} {A : List At} {X_l1 : At} {room0 : Int} {c5 : Option Addr} {r8 : Addr} {order24 : List Int} {v61 : List carlinglaw15_Step} {v62 : Int} {v63 : Int} {v201 : Bool} {a_order241 : Option Addr} {n_order241 c_order241 : Nat} {a_v612 : Option Addr} {n_v612 c_v612 : Nat} {σ : St Obj} {Q' : Bool → St Obj → Prop} {Q : Bool → Hp → Prop} {S3' : Int → (Option Addr) → Addr → (List carlinglaw15_Step) → Int → Int → St Obj → Prop} {S3 : Int → Option Addr → Addr → Sl → Int → Int → Hp → Prop} (I : Inv h (X_l1 :: ownS (rI .i64) a_order241 n_order241 c_order241 order24 :: ownS R_carlinglaw15_Step a_v612 n_v612 c_v612 v61 :: hpA (obA ρ) σ :: A)) (H : carlinglaw15_LruPlays_K4 S3' Q' room0 c5 r8 order24 v61 v62 v63 v201 σ) (kS3 : ∀ {room0 : Int} {c5 : Option Addr} {r8 : Addr} {v61 : List carlinglaw15_Step} {v62 : Int} {v63 : Int} {a_v611 : Option Addr} {n_v611 c_v611 : Nat} {σ : St Obj} {h : Hp}, Inv h (X_l1 :: ownS R_carlinglaw15_Step a_v611 n_v611 c_v611 v61 :: hpA (obA ρ) σ :: A) → S3' room0 c5 r8 v61 v62 v63 σ → S3 room0 c5 r8 ⟨a_v611, n_v611, c_v611⟩ v62 v63 h)
    (k : ∀ (r0 : Bool) (h' : Hp) (σ' : St Obj), Inv h' (X_l1 :: hpA (obA ρ) σ' :: A) → Q' r0 σ' → Q r0 h') : Tx.carlinglaw15_LruPlays_K4 ρ S3 Q room0 c5 r8 ⟨a_order241, n_order241, c_order241⟩ ⟨a_v612, n_v612, c_v612⟩ v62 v63 v201 h := by
  obtain rfl := own_len I.pull1
  obtain rfl := own_len I.pull2
  unfold Tx.carlinglaw15_LruPlays_K4
  unfold carlinglaw15_LruPlays_K4 at H
  refine br_r H (fun hb H => ?_) (fun hb H => ?_)
  · replace I := I.pull1.drop1
    replace I := I.pull1.drop1
    replace I := I.pull1.pull1
    exact k false _ σ I H
  · obtain ⟨x_82, hx_83, H⟩ := H
    obtain ⟨a2_84, c2_85, I⟩ := op_carlingref15_Cache (I.pull3.take hx_83)
    refine ldS_r (I.cell 1 1 rfl) ?_
    replace I := I.pull1.dupR
    replace I := I.pull1.dupR
    replace I := I.pull4.pull1.pull4
    replace I := (cl_carlingref15_Cache x_82 I).putS hx_83
    replace I := I.pull2.dupR
    replace I := I.pull1.drop1
    replace I := I.pull2.drop1
    replace I := I.pull1.pull1.pull4.pull4.pull4
    exact carlinglaw15_LruPlays_L5_r (room0 := room0) (c5 := c5) (r8 := r8) (order24 := order24) (pinned25 := (0 : Int)) (v61 := v61) (v62 := v62) (v63 := v63) (v203 := x_82.L) (v204 := (x_82.L.length : Int)) (v205 := (0 : Int)) (σ := σ) I H kS3 k

def carlinglaw15_LruPlays_K7 (S3 : Int → (Option Addr) → Addr → (List carlinglaw15_Step) → Int → Int → St Obj → Prop) (Q : Bool → St Obj → Prop) (room0 : Int) (c5 : Option Addr) (r8 : Addr) (s10_0 : Int) (s10_1 : Int) (s10_2 : List Int) (ok11 : Bool) (v61 : List carlinglaw15_Step) (v62 : Int) (v63 : Int) (σ : St Obj) : Prop :=
  lru_Cache_Order c5 σ fun r_131 σ_135 =>
  br (!ok11)
  (carlinglaw15_LruPlays_K4 S3 Q room0 c5 r8 r_131 v61 v62 v63 true σ_135)
  (at_carlingref15_Cache σ_135 r8 fun x_136 =>
  br ((r_131.length : Int) != (x_136.L.length : Int))
  (carlinglaw15_LruPlays_K4 S3 Q room0 c5 r8 r_131 v61 v62 v63 true σ_135)
  (lru_Cache_Len c5 (sdel σ_135 r8) fun r_145 σ_146 =>
  br (r_145 != (x_136.L.length : Int))
  ((σ_146 r8 = none) →
  carlinglaw15_LruPlays_K4 S3 Q room0 c5 r8 r_131 v61 v62 v63 true (sset σ_146 r8 (.carlingref15_Cache x_136)))
  ((σ_146 r8 = none) →
  lru_Cache_Room c5 (sset σ_146 r8 (.carlingref15_Cache x_136)) fun r_151 σ_152 =>
  br (r_151 != room0)
  (carlinglaw15_LruPlays_K4 S3 Q room0 c5 r8 r_131 v61 v62 v63 true σ_152)
  (lru_Cache_Has c5 s10_1 σ_152 fun r_153 σ_154 =>
  carlingref15_Cache_Find (some r8) s10_1 σ_154 fun r_155 σ_156 =>
  carlinglaw15_LruPlays_K4 S3 Q room0 c5 r8 r_131 v61 v62 v63 (!(r_153 == (decide (r_155 ≥ (0 : Int))))) σ_156))))

theorem carlinglaw15_LruPlays_K7_r {ρ : Ids} {h : Hp} {A : List At} {X_l1 : At} {room0 : Int} {c5 : Option Addr} {r8 : Addr} {s10_0 : Int} {s10_1 : Int} {s10_2 : List Int} {ok11 : Bool} {v61 : List carlinglaw15_Step} {v62 : Int} {v63 : Int} {p_s10 : Addr} {a_s10_22 : Option Addr} {n_s10_22 c_s10_22 : Nat} {a_v613 : Option Addr} {n_v613 c_v613 : Nat} {σ : St Obj} {Q' : Bool → St Obj → Prop} {Q : Bool → Hp → Prop} {S3' : Int → (Option Addr) → Addr → (List carlinglaw15_Step) → Int → Int → St Obj → Prop} {S3 : Int → Option Addr → Addr → Sl → Int → Int → Hp → Prop} (I : Inv h (X_l1 :: blk p_s10 (ρ.T 5) [.one (.int .u8 s10_0), .one (.int .i64 s10_1), .one (.slice a_s10_22 s10_2.length c_s10_22)] :: roS (rI .u8) a_s10_22 n_s10_22 c_s10_22 s10_2 :: ownS R_carlinglaw15_Step a_v613 n_v613 c_v613 v61 :: hpA (obA ρ) σ :: A)) (H : carlinglaw15_LruPlays_K7 S3' Q' room0 c5 r8 s10_0 s10_1 s10_2 ok11 v61 v62 v63 σ) (kS3 : ∀ {room0 : Int} {c5 : Option Addr} {r8 : Addr} {v61 : List carlinglaw15_Step} {v62 : Int} {v63 : Int} {a_v611 : Option Addr} {n_v611 c_v611 : Nat} {σ : St Obj} {h : Hp}, Inv h (X_l1 :: ownS R_carlinglaw15_Step a_v611 n_v611 c_v611 v61 :: hpA (obA ρ) σ :: A) → S3' room0 c5 r8 v61 v62 v63 σ → S3 room0 c5 r8 ⟨a_v611, n_v611, c_v611⟩ v62 v63 h)
    (k : ∀ (r0 : Bool) (h' : Hp) (σ' : St Obj), Inv h' (X_l1 :: hpA (obA ρ) σ' :: A) → Q' r0 σ' → Q r0 h') : Tx.carlinglaw15_LruPlays_K7 ρ S3 Q room0 c5 r8 p_s10 ok11 ⟨a_v613, n_v613, c_v613⟩ v62 v63 h := by
  obtain rfl := ro_len I.pull2
  obtain rfl := own_len I.pull3
  unfold Tx.carlinglaw15_LruPlays_K7
  unfold carlinglaw15_LruPlays_K7 at H
  replace I := I.pull4
  refine lru_Cache_Order_r (c0 := c5) (σ := σ) I H fun r_131 a_132 c_133 h σ_135 I H => ?_
  refine br_r H (fun hb H => ?_) (fun hb H => ?_)
  · replace I := I.pull3.drop1
    replace I := I.pull3.drop1
    replace I := I.pull1.pull3.pull2.pull3
    exact carlinglaw15_LruPlays_K4_r (room0 := room0) (c5 := c5) (r8 := r8) (order24 := r_131) (v61 := v61) (v62 := v62) (v63 := v63) (v201 := true) (σ := σ_135) I H kS3 k
  · obtain ⟨x_136, hx_137, H⟩ := H
    obtain ⟨a2_138, c2_139, I⟩ := op_carlingref15_Cache (I.pull1.take hx_137)
    refine ldS_r (I.cell 1 1 rfl) ?_
    replace I := I.pull1.dupR
    refine br_r H (fun hb H => ?_) (fun hb H => ?_)
    · replace I := I.pull1.dupR
      replace I := I.pull4.pull1.pull4
      replace I := (cl_carlingref15_Cache x_136 I).putS hx_137
      replace I := I.pull1.drop1
      replace I := I.pull1.drop1
      replace I := I.pull3.drop1
      replace I := I.pull3.drop1
      replace I := I.pull3.pull2.pull3
      exact carlinglaw15_LruPlays_K4_r (room0 := room0) (c5 := c5) (r8 := r8) (order24 := r_131) (v61 := v61) (v62 := v62) (v63 := v63) (v201 := true) (σ := σ_135) I H kS3 k
    · refine ldS_r (I.pull2.cell 1 1 rfl) ?_
      replace I := I.pull1.dupR
      replace I := I.pull4
      refine lru_Cache_Len_r (c0 := c5) (σ := (sdel σ_135 r8)) I H fun r_145 h σ_146 I H => ?_
      refine ⟨trivial, ?_⟩
      refine ⟨I.pull4.cell 1 1 rfl, ?_⟩
      refine br_r H (fun hb H => ?_) (fun hb H => ?_)
      · replace I := I.pull2.dupR
        replace I := I.pull2.pull1.pull5
        obtain ⟨e_148, I⟩ := (cl_carlingref15_Cache x_136 I).new
        replace H := H e_148
        replace I := I.pull1.drop1
        replace I := I.pull1.drop1
        replace I := I.pull1.drop1
        replace I := I.pull3.drop1
        replace I := I.pull3.drop1
        replace I := I.pull3.pull2.pull3
        exact carlinglaw15_LruPlays_K4_r (room0 := room0) (c5 := c5) (r8 := r8) (order24 := r_131) (v61 := v61) (v62 := v62) (v63 := v63) (v201 := true) (σ := (sset σ_146 r8 (.carlingref15_Cache x_136))) I H kS3 k
      · replace I := I.pull2.dupR
        replace I := I.pull2.pull1.pull5
        obtain ⟨e_150, I⟩ := (cl_carlingref15_Cache x_136 I).new
        replace H := H e_150
        refine lru_Cache_Room_r (c0 := c5) (σ := (sset σ_146 r8 (.carlingref15_Cache x_136))) I H fun r_151 h σ_152 I H => ?_
        refine br_r H (fun hb H => ?_) (fun hb H => ?_)
        · replace I := I.pull1.drop1
          replace I := I.pull1.drop1
          replace I := I.pull1.drop1
          replace I := I.pull3.drop1
          replace I := I.pull3.drop1
          replace I := I.pull3.pull2.pull3
          exact carlinglaw15_LruPlays_K4_r (room0 := room0) (c5 := c5) (r8 := r8) (order24 := r_131) (v61 := v61) (v62 := v62) (v63 := v63) (v201 := true) (σ := σ_152) I H kS3 k
        · refine ldI_r (I.pull6.cell 1 1 rfl) ?_
          refine ldI_r (I.pull6.cell 1 1 rfl) ?_
          refine lru_Cache_Has_r (c0 := c5) (item1 := s10_1) (σ := σ_152) I H fun r_153 h σ_154 I H => ?_
          refine ⟨I.pull6.cell 1 1 rfl, ?_⟩
          refine carlingref15_Cache_Find_r (c0 := (some r8)) (item1 := s10_1) (σ := σ_154) I H fun r_155 h σ_156 I H => ?_
          replace I := I.pull1.drop1
          replace I := I.pull1.drop1
          replace I := I.pull1.drop1
          replace I := I.pull3.drop1
          replace I := I.pull3.drop1
          replace I := I.pull3.pull2.pull3
          exact carlinglaw15_LruPlays_K4_r (room0 := room0) (c5 := c5) (r8 := r8) (order24 := r_131) (v61 := v61) (v62 := v62) (v63 := v63) (v201 := (!(r_153 == (decide (r_155 ≥ (0 : Int)))))) (σ := σ_156) I H kS3 k

def carlinglaw15_LruPlays_B3 (S3 : Int → (Option Addr) → Addr → (List carlinglaw15_Step) → Int → Int → St Obj → Prop) (Q : Bool → St Obj → Prop) (room0 : Int) (c5 : Option Addr) (r8 : Addr) (v61 : List carlinglaw15_Step) (v62 : Int) (v63 : Int) (σ : St Obj) : Prop :=
  br (decide (v63 < v62))
  (ixP v61 v63 fun x_23 =>
  br ((Int.tmod x_23.Kind (6 : Int)) == (2 : Int))
  (lru_Cache_Get c5 x_23.Item σ fun r_35 r_38 σ_40 =>
  carlingref15_Cache_Get (some r8) x_23.Item σ_40 fun r_41 r_44 σ_46 =>
  carlingref02_Same r_35 r_41 fun r_47 =>
  br r_47
  (carlinglaw15_LruPlays_K7 S3 Q room0 c5 r8 x_23.Kind x_23.Item x_23.Page (r_38 == r_44) v61 v62 v63 σ_46)
  (carlinglaw15_LruPlays_K7 S3 Q room0 c5 r8 x_23.Kind x_23.Item x_23.Page false v61 v62 v63 σ_46))
  (br ((Int.tmod x_23.Kind (6 : Int)) == (3 : Int))
  (lru_Cache_Pin c5 x_23.Item x_23.Page σ fun r_50 σ_51 =>
  carlingref15_Cache_Pin (some r8) x_23.Item x_23.Page σ_51 fun r_52 σ_53 =>
  carlinglaw15_LruPlays_K7 S3 Q room0 c5 r8 x_23.Kind x_23.Item x_23.Page (r_50 == r_52) v61 v62 v63 σ_53)
  (br ((Int.tmod x_23.Kind (6 : Int)) == (4 : Int))
  (lru_Cache_Unpin c5 x_23.Item σ fun r_55 r_56 σ_57 =>
  carlingref15_Cache_Unpin (some r8) x_23.Item σ_57 fun r_58 r_59 σ_60 =>
  br (r_55 == r_58)
  (carlinglaw15_LruPlays_K7 S3 Q room0 c5 r8 x_23.Kind x_23.Item x_23.Page (r_56 == r_59) v61 v62 v63 σ_60)
  (carlinglaw15_LruPlays_K7 S3 Q room0 c5 r8 x_23.Kind x_23.Item x_23.Page false v61 v62 v63 σ_60))
  (br ((Int.tmod x_23.Kind (6 : Int)) == (5 : Int))
  (lru_Cache_Drop c5 x_23.Item σ fun r_63 σ_64 =>
  carlingref15_Cache_Drop (some r8) x_23.Item σ_64 fun r_65 σ_66 =>
  carlinglaw15_LruPlays_K7 S3 Q room0 c5 r8 x_23.Kind x_23.Item x_23.Page (r_63 == r_65) v61 v62 v63 σ_66)
  (lru_Cache_Put c5 x_23.Item x_23.Page σ fun r_68 r_69 σ_70 =>
  carlingref15_Cache_Put (some r8) x_23.Item x_23.Page σ_70 fun r_71 r_72 σ_73 =>
  br (r_68 == r_71)
  (carlinglaw15_LruPlays_K7 S3 Q room0 c5 r8 x_23.Kind x_23.Item x_23.Page (r_69 == r_72) v61 v62 v63 σ_73)
  (carlinglaw15_LruPlays_K7 S3 Q room0 c5 r8 x_23.Kind x_23.Item x_23.Page false v61 v62 v63 σ_73))))))
  (carlinglaw15_alive σ fun r_76 σ_77 =>
  Q r_76 σ_77)

def carlinglaw15_LruPlays_L3 (Q : Bool → St Obj → Prop) (room0 : Int) (c5 : Option Addr) (r8 : Addr) (v61 : List carlinglaw15_Step) (v62 : Int) (v63 : Int) (σ : St Obj) : Prop :=
  Lf (fun S (v : Int × (Option Addr) × Addr × (List carlinglaw15_Step) × Int × Int × St Obj) => carlinglaw15_LruPlays_B3 (fun room0 c5 r8 v61 v62 v63 σ => S (room0, c5, r8, v61, v62, v63, σ)) Q v.1 v.2.1 v.2.2.1 v.2.2.2.1 v.2.2.2.2.1 v.2.2.2.2.2.1 v.2.2.2.2.2.2) (room0, c5, r8, v61, v62, v63, σ)

theorem carlinglaw15_LruPlays_L3_in (Q : Bool → St Obj → Prop) (room0 : Int) (c5 : Option Addr) (r8 : Addr) (v61 : List carlinglaw15_Step) (v62 : Int) (v63 : Int) (σ : St Obj) (H : carlinglaw15_LruPlays_B3 (carlinglaw15_LruPlays_L3 Q) Q room0 c5 r8 v61 v62 v63 σ) : carlinglaw15_LruPlays_L3 Q room0 c5 r8 v61 v62 v63 σ := Lf.fold H

theorem carlinglaw15_LruPlays_B3_r {ρ : Ids} {h : Hp} {A : List At} {X_l1 : At} {room0 : Int} {c5 : Option Addr} {r8 : Addr} {v61 : List carlinglaw15_Step} {v62 : Int} {v63 : Int} {a_v611 : Option Addr} {n_v611 c_v611 : Nat} {σ : St Obj} {Q' : Bool → St Obj → Prop} {Q : Bool → Hp → Prop} {S3' : Int → (Option Addr) → Addr → (List carlinglaw15_Step) → Int → Int → St Obj → Prop} {S3 : Int → Option Addr → Addr → Sl → Int → Int → Hp → Prop} (I : Inv h (X_l1 :: ownS R_carlinglaw15_Step a_v611 n_v611 c_v611 v61 :: hpA (obA ρ) σ :: A)) (H : carlinglaw15_LruPlays_B3 S3' Q' room0 c5 r8 v61 v62 v63 σ) (kS3 : ∀ {room0 : Int} {c5 : Option Addr} {r8 : Addr} {v61 : List carlinglaw15_Step} {v62 : Int} {v63 : Int} {a_v611 : Option Addr} {n_v611 c_v611 : Nat} {σ : St Obj} {h : Hp}, Inv h (X_l1 :: ownS R_carlinglaw15_Step a_v611 n_v611 c_v611 v61 :: hpA (obA ρ) σ :: A) → S3' room0 c5 r8 v61 v62 v63 σ → S3 room0 c5 r8 ⟨a_v611, n_v611, c_v611⟩ v62 v63 h)
    (k : ∀ (r0 : Bool) (h' : Hp) (σ' : St Obj), Inv h' (X_l1 :: hpA (obA ρ) σ' :: A) → Q' r0 σ' → Q r0 h') : Tx.carlinglaw15_LruPlays_B3 ρ S3 Q room0 c5 r8 ⟨a_v611, n_v611, c_v611⟩ v62 v63 h := by
  obtain rfl := own_len I.pull1
  unfold Tx.carlinglaw15_LruPlays_B3
  unfold carlinglaw15_LruPlays_B3 at H
  refine br_r H (fun hb H => ?_) (fun hb H => ?_)
  · refine ixcarlinglaw15_Step rd_own I.pull1 H fun p_24 x_23 a_30 c_31 he_25 hb_26 hc_27 hc_28 hc_29 I H => ?_
    refine ldI_r hc_27 ?_
    refine ldI_r hc_28 ?_
    refine ldS_r hc_29 ?_
    refine al_r [.one (.int .u8 (0 : Int)), .one (.int .i64 (0 : Int)), .one (.slice none 0 0)] rfl I fun p_33 h I => ?_
    refine stA_r I 0 3 0 [.one (.int .u8 x_23.Kind), .one (.int .i64 x_23.Item), .one (.slice a_30 x_23.Page.length c_31)] rfl rfl rfl (all_one (by simp [segs, Seg.cells, allOne, allOne_append, allOne_lump, Value.oneCell'])) fun h (I : Inv h (blk p_33 (ρ.T 5) [.one (.int .u8 x_23.Kind), .one (.int .i64 x_23.Item), .one (.slice a_30 x_23.Page.length c_31)] :: _)) => ?_
    refine ldI_r (I.cell 0 0 rfl) ?_
    refine ⟨by decide, ?_⟩
    refine br_r H (fun hb H => ?_) (fun hb H => ?_)
    · refine ldI_r (I.cell 1 1 rfl) ?_
      replace I := I.pull4
      refine lru_Cache_Get_r (c0 := c5) (item1 := x_23.Item) (σ := σ) I H fun r_35 a_36 c_37 r_38 h σ_40 I H => ?_
      refine ldI_r (I.pull2.cell 1 1 rfl) ?_
      replace I := I.pull1
      refine carlingref15_Cache_Get_r (c0 := (some r8)) (item1 := x_23.Item) (σ := σ_40) I H fun r_41 a_42 c_43 r_44 h σ_46 I H => ?_
      replace I := I.pull2
      refine carlingref02_Same_r (a0 := r_35) (b1 := r_41) rd_own rd_ro I H fun r_47 h I H => ?_
      refine br_r H (fun hb H => ?_) (fun hb H => ?_)
      · replace I := I.pull4.dupR
        replace I := I.pull1.drop1
        replace I := I.pull1.drop1
        replace I := I.pull1.drop1
        replace I := I.pull1.pull3.pull2.pull3.pull4
        exact carlinglaw15_LruPlays_K7_r (room0 := room0) (c5 := c5) (r8 := r8) (s10_0 := x_23.Kind) (s10_1 := x_23.Item) (s10_2 := x_23.Page) (ok11 := (r_38 == r_44)) (v61 := v61) (v62 := v62) (v63 := v63) (σ := σ_46) I H kS3 k
      · replace I := I.pull4.dupR
        replace I := I.pull1.drop1
        replace I := I.pull1.drop1
        replace I := I.pull1.drop1
        replace I := I.pull1.pull3.pull2.pull3.pull4
        exact carlinglaw15_LruPlays_K7_r (room0 := room0) (c5 := c5) (r8 := r8) (s10_0 := x_23.Kind) (s10_1 := x_23.Item) (s10_2 := x_23.Page) (ok11 := false) (v61 := v61) (v62 := v62) (v63 := v63) (σ := σ_46) I H kS3 k
    · refine br_r H (fun hb H => ?_) (fun hb H => ?_)
      · refine ldI_r (I.cell 1 1 rfl) ?_
        refine ldS_r (I.cell 2 2 rfl) ?_
        refine ldI_r (I.cell 1 1 rfl) ?_
        refine ldS_r (I.cell 2 2 rfl) ?_
        replace I := I.pull4.pull2
        refine lru_Cache_Pin_r (c0 := c5) (item1 := x_23.Item) (page2 := x_23.Page) (σ := σ) rd_ro I H fun r_50 h σ_51 I H => ?_
        refine ⟨I.pull2.cell 2 2 rfl, ?_⟩
        refine ⟨I.pull2.cell 1 1 rfl, ?_⟩
        replace I := I.pull1.pull1
        refine carlingref15_Cache_Pin_r (c0 := (some r8)) (item1 := x_23.Item) (page2 := x_23.Page) (σ := σ_51) rd_ro I H fun r_52 h σ_53 I H => ?_
        replace I := I.dupR
        replace I := I.pull1.drop1
        replace I := I.pull1.pull3.pull2.pull3.pull4
        exact carlinglaw15_LruPlays_K7_r (room0 := room0) (c5 := c5) (r8 := r8) (s10_0 := x_23.Kind) (s10_1 := x_23.Item) (s10_2 := x_23.Page) (ok11 := (r_50 == r_52)) (v61 := v61) (v62 := v62) (v63 := v63) (σ := σ_53) I H kS3 k
      · refine br_r H (fun hb H => ?_) (fun hb H => ?_)
        · refine ldI_r (I.cell 1 1 rfl) ?_
          replace I := I.pull4
          refine lru_Cache_Unpin_r (c0 := c5) (item1 := x_23.Item) (σ := σ) I H fun r_55 r_56 h σ_57 I H => ?_
          refine ldI_r (I.pull1.cell 1 1 rfl) ?_
          refine carlingref15_Cache_Unpin_r (c0 := (some r8)) (item1 := x_23.Item) (σ := σ_57) I H fun r_58 r_59 h σ_60 I H => ?_
          refine br_r H (fun hb H => ?_) (fun hb H => ?_)
          · replace I := I.pull2.dupR
            replace I := I.pull1.drop1
            replace I := I.pull1.pull3.pull2.pull3.pull4
            exact carlinglaw15_LruPlays_K7_r (room0 := room0) (c5 := c5) (r8 := r8) (s10_0 := x_23.Kind) (s10_1 := x_23.Item) (s10_2 := x_23.Page) (ok11 := (r_56 == r_59)) (v61 := v61) (v62 := v62) (v63 := v63) (σ := σ_60) I H kS3 k
          · replace I := I.pull2.dupR
            replace I := I.pull1.drop1
            replace I := I.pull1.pull3.pull2.pull3.pull4
            exact carlinglaw15_LruPlays_K7_r (room0 := room0) (c5 := c5) (r8 := r8) (s10_0 := x_23.Kind) (s10_1 := x_23.Item) (s10_2 := x_23.Page) (ok11 := false) (v61 := v61) (v62 := v62) (v63 := v63) (σ := σ_60) I H kS3 k
        · refine br_r H (fun hb H => ?_) (fun hb H => ?_)
          · refine ldI_r (I.cell 1 1 rfl) ?_
            refine ldI_r (I.cell 1 1 rfl) ?_
            replace I := I.pull4
            refine lru_Cache_Drop_r (c0 := c5) (item1 := x_23.Item) (σ := σ) I H fun r_63 h σ_64 I H => ?_
            refine ⟨I.pull1.cell 1 1 rfl, ?_⟩
            refine carlingref15_Cache_Drop_r (c0 := (some r8)) (item1 := x_23.Item) (σ := σ_64) I H fun r_65 h σ_66 I H => ?_
            replace I := I.pull2.dupR
            replace I := I.pull1.drop1
            replace I := I.pull1.pull3.pull2.pull3.pull4
            exact carlinglaw15_LruPlays_K7_r (room0 := room0) (c5 := c5) (r8 := r8) (s10_0 := x_23.Kind) (s10_1 := x_23.Item) (s10_2 := x_23.Page) (ok11 := (r_63 == r_65)) (v61 := v61) (v62 := v62) (v63 := v63) (σ := σ_66) I H kS3 k
          · refine ldI_r (I.cell 1 1 rfl) ?_
            refine ldS_r (I.cell 2 2 rfl) ?_
            replace I := I.pull4.pull2
            refine lru_Cache_Put_r (c0 := c5) (item1 := x_23.Item) (page2 := x_23.Page) (σ := σ) rd_ro I H fun r_68 r_69 h σ_70 I H => ?_
            refine ldI_r (I.pull2.cell 1 1 rfl) ?_
            refine ldS_r (I.pull2.cell 2 2 rfl) ?_
            replace I := I.pull1.pull1
            refine carlingref15_Cache_Put_r (c0 := (some r8)) (item1 := x_23.Item) (page2 := x_23.Page) (σ := σ_70) rd_ro I H fun r_71 r_72 h σ_73 I H => ?_
            refine br_r H (fun hb H => ?_) (fun hb H => ?_)
            · replace I := I.dupR
              replace I := I.pull1.drop1
              replace I := I.pull1.pull3.pull2.pull3.pull4
              exact carlinglaw15_LruPlays_K7_r (room0 := room0) (c5 := c5) (r8 := r8) (s10_0 := x_23.Kind) (s10_1 := x_23.Item) (s10_2 := x_23.Page) (ok11 := (r_69 == r_72)) (v61 := v61) (v62 := v62) (v63 := v63) (σ := σ_73) I H kS3 k
            · replace I := I.dupR
              replace I := I.pull1.drop1
              replace I := I.pull1.pull3.pull2.pull3.pull4
              exact carlinglaw15_LruPlays_K7_r (room0 := room0) (c5 := c5) (r8 := r8) (s10_0 := x_23.Kind) (s10_1 := x_23.Item) (s10_2 := x_23.Page) (ok11 := false) (v61 := v61) (v62 := v62) (v63 := v63) (σ := σ_73) I H kS3 k
  · replace I := I.pull2
    refine carlinglaw15_alive_r (σ := σ) I H fun r_76 h σ_77 I H => ?_
    replace I := I.pull2.drop1
    replace I := I.pull1
    exact k r_76 _ σ_77 I H

theorem carlinglaw15_LruPlays_L3_r {ρ : Ids} {h : Hp} {A : List At} {X_l1 : At} {room0 : Int} {c5 : Option Addr} {r8 : Addr} {v61 : List carlinglaw15_Step} {v62 : Int} {v63 : Int} {a_v611 : Option Addr} {n_v611 c_v611 : Nat} {σ : St Obj} {Q' : Bool → St Obj → Prop} {Q : Bool → Hp → Prop} (I : Inv h (X_l1 :: ownS R_carlinglaw15_Step a_v611 n_v611 c_v611 v61 :: hpA (obA ρ) σ :: A)) (H : carlinglaw15_LruPlays_L3 Q' room0 c5 r8 v61 v62 v63 σ)
    (k : ∀ (r0 : Bool) (h' : Hp) (σ' : St Obj), Inv h' (X_l1 :: hpA (obA ρ) σ' :: A) → Q' r0 σ' → Q r0 h') : Tx.carlinglaw15_LruPlays_L3 ρ Q room0 c5 r8 ⟨a_v611, n_v611, c_v611⟩ v62 v63 h := by
  refine Lf.ind H (fun v => ∀ (a_v611 : Option Addr) (n_v611 c_v611 : Nat) (h : Hp), Inv h (X_l1 :: ownS R_carlinglaw15_Step a_v611 n_v611 c_v611 v.2.2.2.1 :: hpA (obA ρ) v.2.2.2.2.2.2 :: A) → Tx.carlinglaw15_LruPlays_L3 ρ Q v.1 v.2.1 v.2.2.1 ⟨a_v611, n_v611, c_v611⟩ v.2.2.2.2.1 v.2.2.2.2.2.1 h) ?_ _ _ _ _  I
  rintro ⟨room0, c5, r8, v61, v62, v63, σ⟩ S hS HB a_v611 n_v611 c_v611 h I
  refine Tx.carlinglaw15_LruPlays_L3_in _ _ _ _ _ _ _ _ _ ?_
  try simp only [nrm_v]
  exact carlinglaw15_LruPlays_B3_r (room0 := room0) (c5 := c5) (r8 := r8) (v61 := v61) (v62 := v62) (v63 := v63) (σ := σ) I HB (fun {room0 c5 r8 v61 v62 v63 a_v611 n_v611 c_v611 σ h} I H => hS _ H a_v611 n_v611 c_v611 _ I) k

def carlinglaw15_LruPlays_K1 (Q : Bool → St Obj → Prop) (room0 : Int) (l1 : List carlinglaw15_Step) (c5 : Option Addr) (e6 : Int) (may7 : Bool) (v44 : Bool) (σ : St Obj) : Prop :=
  br v44
  (br (!may7)
  (br (Option.isNone c5)
  (br (e6 == (1 : Int))
  (carlinglaw15_alive σ fun r_8 σ_9 =>
  Q r_8 σ_9)
  (Q false σ))
  (Q false σ))
  (Q false σ))
  (∀ p_10 : Addr,
  carlinglaw15_short l1 fun r_12 =>
  (σ p_10 = none) →
  carlinglaw15_LruPlays_L3 Q room0 c5 p_10 r_12 (r_12.length : Int) (0 : Int) (sset σ p_10 (.carlingref15_Cache (⟨room0, ([] : List carlingref15_Held)⟩ : carlingref15_Cache))))

theorem carlinglaw15_LruPlays_K1_r {ρ : Ids} {h : Hp} {A : List At} {X_l1 : At} {room0 : Int} {l1 : List carlinglaw15_Step} {c5 : Option Addr} {e6 : Int} {may7 : Bool} {v44 : Bool} {a_l1 : Option Addr} {n_l1 c_l1 : Nat} {σ : St Obj} {Q' : Bool → St Obj → Prop} {Q : Bool → Hp → Prop} (hX_l1 : Rd R_carlinglaw15_Step X_l1 a_l1 n_l1 c_l1 l1) (I : Inv h (X_l1 :: hpA (obA ρ) σ :: A)) (H : carlinglaw15_LruPlays_K1 Q' room0 l1 c5 e6 may7 v44 σ)
    (k : ∀ (r0 : Bool) (h' : Hp) (σ' : St Obj), Inv h' (X_l1 :: hpA (obA ρ) σ' :: A) → Q' r0 σ' → Q r0 h') : Tx.carlinglaw15_LruPlays_K1 ρ Q room0 ⟨a_l1, n_l1, c_l1⟩ c5 e6 may7 v44 h := by
  obtain rfl := rd_len hX_l1 I
  unfold Tx.carlinglaw15_LruPlays_K1
  unfold carlinglaw15_LruPlays_K1 at H
  refine br_r H (fun hb H => ?_) (fun hb H => ?_)
  · refine br_r H (fun hb H => ?_) (fun hb H => ?_)
    · refine br_r H (fun hb H => ?_) (fun hb H => ?_)
      · refine br_r H (fun hb H => ?_) (fun hb H => ?_)
        · replace I := I.pull1
          refine carlinglaw15_alive_r (σ := σ) I H fun r_8 h σ_9 I H => ?_
          replace I := I.pull1
          exact k r_8 _ σ_9 I H
        · replace I := I.pull1.pull1
          exact k false _ σ I H
      · replace I := I.pull1.pull1
        exact k false _ σ I H
    · replace I := I.pull1.pull1
      exact k false _ σ I H
  · refine al_r [.one (.int .i64 (0 : Int)), .one (.slice none 0 0)] rfl I fun p_10 h I => ?_
    replace H := H p_10
    refine stA_r I 0 2 0 [.one (.int .i64 room0), .one (.slice none 0 0)] rfl rfl rfl (all_one (by simp [segs, Seg.cells, allOne, allOne_append, allOne_lump, Value.oneCell'])) fun h (I : Inv h (blk p_10 (ρ.T 6) [.one (.int .i64 room0), .one (.slice none 0 0)] :: _)) => ?_
    replace I := I.pull1
    refine carlinglaw15_short_r (l0 := l1) hX_l1 I H fun r_12 a_13 c_14 h I H => ?_
    replace I := I.nilR R_carlingref15_Held
    replace I := I.pull4.pull1.pull4
    obtain ⟨e_17, I⟩ := (cl_carlingref15_Cache (⟨room0, ([] : List carlingref15_Held)⟩ : carlingref15_Cache) I).new
    replace H := H e_17
    replace I := I.pull1.pull2
    exact carlinglaw15_LruPlays_L3_r (room0 := room0) (c5 := c5) (r8 := p_10) (v61 := r_12) (v62 := (r_12.length : Int)) (v63 := (0 : Int)) (σ := (sset σ p_10 (.carlingref15_Cache (⟨room0, ([] : List carlingref15_Held)⟩ : carlingref15_Cache)))) I H k

def carlinglaw15_LruPlays_K2 (Q : Bool → St Obj → Prop) (room0 : Int) (l1 : List carlinglaw15_Step) (c5 : Option Addr) (e6 : Int) (may7 : Bool) (σ : St Obj) : Prop :=
  br (!may7)
  (carlinglaw15_LruPlays_K1 Q room0 l1 c5 e6 may7 true σ)
  (carlinglaw15_LruPlays_K1 Q room0 l1 c5 e6 may7 (Option.isNone c5) σ)

theorem carlinglaw15_LruPlays_K2_r {ρ : Ids} {h : Hp} {A : List At} {X_l1 : At} {room0 : Int} {l1 : List carlinglaw15_Step} {c5 : Option Addr} {e6 : Int} {may7 : Bool} {a_l1 : Option Addr} {n_l1 c_l1 : Nat} {σ : St Obj} {Q' : Bool → St Obj → Prop} {Q : Bool → Hp → Prop} (hX_l1 : Rd R_carlinglaw15_Step X_l1 a_l1 n_l1 c_l1 l1) (I : Inv h (X_l1 :: hpA (obA ρ) σ :: A)) (H : carlinglaw15_LruPlays_K2 Q' room0 l1 c5 e6 may7 σ)
    (k : ∀ (r0 : Bool) (h' : Hp) (σ' : St Obj), Inv h' (X_l1 :: hpA (obA ρ) σ' :: A) → Q' r0 σ' → Q r0 h') : Tx.carlinglaw15_LruPlays_K2 ρ Q room0 ⟨a_l1, n_l1, c_l1⟩ c5 e6 may7 h := by
  obtain rfl := rd_len hX_l1 I
  unfold Tx.carlinglaw15_LruPlays_K2
  unfold carlinglaw15_LruPlays_K2 at H
  refine br_r H (fun hb H => ?_) (fun hb H => ?_)
  · replace I := I.pull1.pull1
    exact carlinglaw15_LruPlays_K1_r (room0 := room0) (l1 := l1) (c5 := c5) (e6 := e6) (may7 := may7) (v44 := true) (σ := σ) hX_l1 I H k
  · replace I := I.pull1.pull1
    exact carlinglaw15_LruPlays_K1_r (room0 := room0) (l1 := l1) (c5 := c5) (e6 := e6) (may7 := may7) (v44 := (Option.isNone c5)) (σ := σ) hX_l1 I H k

def carlinglaw15_LruPlays (room0 : Int) (l1 : List carlinglaw15_Step) (σ : St Obj) (Q : Bool → St Obj → Prop) : Prop :=
  lru_New room0 σ fun r_3 r_4 σ_5 =>
  br (decide (room0 ≥ (1 : Int)))
  (carlinglaw15_LruPlays_K2 Q room0 l1 r_3 r_4 (decide (room0 ≤ (1024 : Int))) σ_5)
  (carlinglaw15_LruPlays_K2 Q room0 l1 r_3 r_4 false σ_5)

theorem carlinglaw15_LruPlays_r {ρ : Ids} {h : Hp} {A : List At} {room0 : Int} {l1 : List carlinglaw15_Step} {a_l10 : Option Addr} {n_l10 c_l10 : Nat} {X_l1 : At} {σ : St Obj} {Q' : Bool → St Obj → Prop} {Q : Bool → Hp → Prop} (hX_l1 : Rd R_carlinglaw15_Step X_l1 a_l10 n_l10 c_l10 l1) (I : Inv h (X_l1 :: hpA (obA ρ) σ :: A)) (H : carlinglaw15_LruPlays room0 l1 σ Q')
    (k : ∀ (r0 : Bool) (h' : Hp) (σ' : St Obj), Inv h' (X_l1 :: hpA (obA ρ) σ' :: A) → Q' r0 σ' → Q r0 h') : Tx.carlinglaw15_LruPlays ρ room0 ⟨a_l10, n_l10, c_l10⟩ h Q := by
  obtain rfl := rd_len hX_l1 I
  unfold Tx.carlinglaw15_LruPlays
  unfold carlinglaw15_LruPlays at H
  replace I := I.pull1
  refine lru_New_r (room0 := room0) (σ := σ) I H fun r_3 r_4 h σ_5 I H => ?_
  refine br_r H (fun hb H => ?_) (fun hb H => ?_)
  · replace I := I.pull1
    exact carlinglaw15_LruPlays_K2_r (room0 := room0) (l1 := l1) (c5 := r_3) (e6 := r_4) (may7 := (decide (room0 ≤ (1024 : Int)))) (σ := σ_5) hX_l1 I H k
  · replace I := I.pull1
    exact carlinglaw15_LruPlays_K2_r (room0 := room0) (l1 := l1) (c5 := r_3) (e6 := r_4) (may7 := false) (σ := σ_5) hX_l1 I H k

def carlinglaw15_LruNobody_K2 (S1 : Int → Int → (List Int) → (List (Option Addr)) → Int → Int → St Obj → Prop) (Q : Bool → St Obj → Prop) (s1_0 : Int) (s1_1 : Int) (s1_2 : List Int) (v20 : List (Option Addr)) (v21 : Int) (v22 : Int) (v106 : Bool) (σ : St Obj) : Prop :=
  br v106
  (Q false σ)
  (S1 s1_0 s1_1 s1_2 v20 v21 (IntKind.wrap .i64 (v22 + (1 : Int))) σ)

theorem carlinglaw15_LruNobody_K2_r {ρ : Ids} {h : Hp} {A : List At}  {s1_0 : Int} {s1_1 : Int} {s1_2 : List Int} {v20 : List (Option Addr)} {v21 : Int} {v22 : Int} {v106 : Bool} {p_s1 : Addr} {a_s1_21 : Option Addr} {n_s1_21 c_s1_21 : Nat} {a_v202 : Option Addr} {n_v202 c_v202 : Nat} {σ : St Obj} {Q' : Bool → St Obj → Prop} {Q : Bool → Hp → Prop} {S1' : Int → Int → (List Int) → (List (Option Addr)) → Int → Int → St Obj → Prop} {S1 : Addr → Sl → Int → Int → Hp → Prop} (I : Inv h (blk p_s1 (ρ.T 5) [.one (.int .u8 s1_0), .one (.int .i64 s1_1), .one (.slice a_s1_21 s1_2.length c_s1_21)] :: roS (rI .u8) a_s1_21 n_s1_21 c_s1_21 s1_2 :: ownS rP a_v202 n_v202 c_v202 v20 :: hpA (obA ρ) σ :: A)) (H : carlinglaw15_LruNobody_K2 S1' Q' s1_0 s1_1 s1_2 v20 v21 v22 v106 σ) (kS1 : ∀ {s1_0 : Int} {s1_1 : Int} {s1_2 : List Int} {v20 : List (Option Addr)} {v21 : Int} {v22 : Int} {p_s1 : Addr} {a_s1_21 : Option Addr} {n_s1_21 c_s1_21 : Nat} {a_v202 : Option Addr} {n_v202 c_v202 : Nat} {σ : St Obj} {h : Hp}, Inv h (blk p_s1 (ρ.T 5) [.one (.int .u8 s1_0), .one (.int .i64 s1_1), .one (.slice a_s1_21 s1_2.length c_s1_21)] :: roS (rI .u8) a_s1_21 n_s1_21 c_s1_21 s1_2 :: ownS rP a_v202 n_v202 c_v202 v20 :: hpA (obA ρ) σ :: A) → S1' s1_0 s1_1 s1_2 v20 v21 v22 σ → S1 p_s1 ⟨a_v202, n_v202, c_v202⟩ v21 v22 h)
    (k : ∀ (r0 : Bool) (h' : Hp) (σ' : St Obj), Inv h' (hpA (obA ρ) σ' :: A) → Q' r0 σ' → Q r0 h') : Tx.carlinglaw15_LruNobody_K2 ρ S1 Q p_s1 ⟨a_v202, n_v202, c_v202⟩ v21 v22 v106 h := by
  obtain rfl := ro_len I.pull1
  obtain rfl := own_len I.pull2
  unfold Tx.carlinglaw15_LruNobody_K2
  unfold carlinglaw15_LruNobody_K2 at H
  refine br_r H (fun hb H => ?_) (fun hb H => ?_)
  · replace I := I.drop1
    replace I := I.drop1
    replace I := I.drop1
    exact k false _ σ I H
  · replace I := I.pull1.dupR
    replace I := I.pull1.drop1
    replace I := I.pull3.pull3.pull2.pull3
    exact kS1 (s1_0 := s1_0) (s1_1 := s1_1) (s1_2 := s1_2) (v20 := v20) (v21 := v21) (v22 := (IntKind.wrap .i64 (v22 + (1 : Int)))) (σ := σ) I H

def carlinglaw15_LruNobody_K4 (Q : Bool → St Obj → Prop) (c11 : Option Addr) (b14 : List Int) (v137 : Bool) (σ : St Obj) : Prop :=
  br v137
  (Q false σ)
  (ixP b14 (0 : Int) fun x_104 =>
  lru_Cache_Get c11 (1 : Int) σ fun r_110 r_113 σ_115 =>
  br r_113
  (br ((r_110.length : Int) == (1 : Int))
  (ixP r_110 (0 : Int) fun x_116 =>
  br (x_116 == (7 : Int))
  (carlinglaw15_alive σ_115 fun r_121 σ_122 =>
  Q r_121 σ_122)
  (Q false σ_115))
  (Q false σ_115))
  (Q false σ_115))

theorem carlinglaw15_LruNobody_K4_r {ρ : Ids} {h : Hp} {A : List At}  {c11 : Option Addr} {b14 : List Int} {v137 : Bool} {a_b140 : Option Addr} {n_b140 c_b140 : Nat} {σ : St Obj} {Q' : Bool → St Obj → Prop} {Q : Bool → Hp → Prop} (I : Inv h (ownS (rI .u8) a_b140 n_b140 c_b140 b14 :: hpA (obA ρ) σ :: A)) (H : carlinglaw15_LruNobody_K4 Q' c11 b14 v137 σ)
    (k : ∀ (r0 : Bool) (h' : Hp) (σ' : St Obj), Inv h' (hpA (obA ρ) σ' :: A) → Q' r0 σ' → Q r0 h') : Tx.carlinglaw15_LruNobody_K4 ρ Q c11 ⟨a_b140, n_b140, c_b140⟩ v137 h := by
  obtain rfl := own_len I
  unfold Tx.carlinglaw15_LruNobody_K4
  unfold carlinglaw15_LruNobody_K4 at H
  refine br_r H (fun hb H => ?_) (fun hb H => ?_)
  · replace I := I.drop1
    exact k false _ σ I H
  · refine ixI_a rd_own I H fun p_105 x_104 he_106 hb_107 hc_108 H => ?_
    replace I := I.repI (k := .u8) (9 : Int)
    replace I := I.pull1.pull1
    refine st1_r (x := (9 : Int)) I he_106 hb_107 fun h I => ?_
    replace I := I.pull1
    refine lru_Cache_Get_r (c0 := c11) (item1 := (1 : Int)) (σ := σ) I H fun r_110 a_111 c_112 r_113 h σ_115 I H => ?_
    refine br_r H (fun hb H => ?_) (fun hb H => ?_)
    · refine br_r H (fun hb H => ?_) (fun hb H => ?_)
      · refine ixI_a rd_own I H fun p_117 x_116 he_118 hb_119 hc_120 H => ?_
        refine ldI_r hc_120 ?_
        refine br_r H (fun hb H => ?_) (fun hb H => ?_)
        · replace I := I.pull1
          refine carlinglaw15_alive_r (σ := σ_115) I H fun r_121 h σ_122 I H => ?_
          replace I := I.pull1.drop1
          replace I := I.pull1.drop1
          exact k r_121 _ σ_122 I H
        · replace I := I.drop1
          replace I := I.pull1.drop1
          exact k false _ σ_115 I H
      · replace I := I.drop1
        replace I := I.pull1.drop1
        exact k false _ σ_115 I H
    · replace I := I.drop1
      replace I := I.pull1.drop1
      exact k false _ σ_115 I H

def carlinglaw15_LruNobody_K3 (Q : Bool → St Obj → Prop) (c11 : Option Addr) (v117 : Bool) (σ : St Obj) : Prop :=
  br v117
  (Q false σ)
  (lru_Cache_Put c11 (1 : Int) ([(7 : Int)]) σ fun r_82 r_83 σ_84 =>
  ixP ([(7 : Int)]) (0 : Int) fun x_85 =>
  lru_Cache_Get c11 (1 : Int) σ_84 fun r_91 r_94 σ_96 =>
  br ((r_91.length : Int) != (1 : Int))
  (carlinglaw15_LruNobody_K4 Q c11 r_91 true σ_96)
  (ixP r_91 (0 : Int) fun x_97 =>
  carlinglaw15_LruNobody_K4 Q c11 r_91 (x_97 != (7 : Int)) σ_96))

theorem carlinglaw15_LruNobody_K3_r {ρ : Ids} {h : Hp} {A : List At}  {c11 : Option Addr} {v117 : Bool}  {σ : St Obj} {Q' : Bool → St Obj → Prop} {Q : Bool → Hp → Prop} (I : Inv h (hpA (obA ρ) σ :: A)) (H : carlinglaw15_LruNobody_K3 Q' c11 v117 σ)
    (k : ∀ (r0 : Bool) (h' : Hp) (σ' : St Obj), Inv h' (hpA (obA ρ) σ' :: A) → Q' r0 σ' → Q r0 h') : Tx.carlinglaw15_LruNobody_K3 ρ Q c11 v117 h := by
  unfold Tx.carlinglaw15_LruNobody_K3
  unfold carlinglaw15_LruNobody_K3 at H
  refine br_r H (fun hb H => ?_) (fun hb H => ?_)
  · exact k false _ σ I H
  · refine al_r [.one (.int .u8 (7 : Int))] rfl I fun p_77 h I => ?_
    replace I := I.litN (rI .u8)
    replace I := I.repI (k := .u8) (7 : Int)
    replace I := I.pull1.pull1
    replace I := I.litC
    replace I := I.pull1.pull1
    replace I := Inv.litL (l := [(7 : Int)]) I rfl rfl
    replace I := I.pull1.pull1
    refine lru_Cache_Put_r (c0 := c11) (item1 := (1 : Int)) (page2 := [(7 : Int)]) (σ := σ) rd_own I H fun r_82 r_83 h σ_84 I H => ?_
    refine ixI_a rd_own I H fun p_86 x_85 he_87 hb_88 hc_89 H => ?_
    replace I := I.repI (k := .u8) (8 : Int)
    replace I := I.pull1.pull1
    refine st1_r (x := (8 : Int)) I he_87 hb_88 fun h I => ?_
    replace I := I.pull1
    refine lru_Cache_Get_r (c0 := c11) (item1 := (1 : Int)) (σ := σ_84) I H fun r_91 a_92 c_93 r_94 h σ_96 I H => ?_
    refine br_r H (fun hb H => ?_) (fun hb H => ?_)
    · replace I := I.pull2.drop1
      replace I := I.pull1.pull1
      exact carlinglaw15_LruNobody_K4_r (c11 := c11) (b14 := r_91) (v137 := true) (σ := σ_96) I H k
    · refine ixI_a rd_own I H fun p_98 x_97 he_99 hb_100 hc_101 H => ?_
      refine ldI_r hc_101 ?_
      replace I := I.pull2.drop1
      replace I := I.pull1.pull1
      exact carlinglaw15_LruNobody_K4_r (c11 := c11) (b14 := r_91) (v137 := (x_97 != (7 : Int))) (σ := σ_96) I H k

def carlinglaw15_LruNobody_B1 (S1 : Int → Int → (List Int) → (List (Option Addr)) → Int → Int → St Obj → Prop) (Q : Bool → St Obj → Prop) (s1_0 : Int) (s1_1 : Int) (s1_2 : List Int) (v20 : List (Option Addr)) (v21 : Int) (v22 : Int) (σ : St Obj) : Prop :=
  br (decide (v22 < v21))
  (ixP v20 v22 fun x_21 =>
  lru_Cache_Put x_21 s1_1 s1_2 σ fun r_26 r_27 σ_28 =>
  lru_Cache_Get x_21 s1_1 σ_28 fun r_29 r_32 σ_34 =>
  lru_Cache_Unpin x_21 s1_1 σ_34 fun r_35 r_36 σ_37 =>
  br (r_26 != (-1 : Int))
  (carlinglaw15_LruNobody_K2 S1 Q s1_0 s1_1 s1_2 v20 v21 v22 true σ_37)
  (br (r_27 != (2 : Int))
  (carlinglaw15_LruNobody_K2 S1 Q s1_0 s1_1 s1_2 v20 v21 v22 true σ_37)
  (br ((r_29.length : Int) != (0 : Int))
  (carlinglaw15_LruNobody_K2 S1 Q s1_0 s1_1 s1_2 v20 v21 v22 true σ_37)
  (br r_32
  (carlinglaw15_LruNobody_K2 S1 Q s1_0 s1_1 s1_2 v20 v21 v22 true σ_37)
  (br (r_35 != (-1 : Int))
  (carlinglaw15_LruNobody_K2 S1 Q s1_0 s1_1 s1_2 v20 v21 v22 true σ_37)
  (br r_36
  (carlinglaw15_LruNobody_K2 S1 Q s1_0 s1_1 s1_2 v20 v21 v22 true σ_37)
  (lru_Cache_Pin x_21 s1_1 s1_2 σ_37 fun r_44 σ_45 =>
  br (r_44 != (2 : Int))
  (carlinglaw15_LruNobody_K2 S1 Q s1_0 s1_1 s1_2 v20 v21 v22 true σ_45)
  (lru_Cache_Has x_21 s1_1 σ_45 fun r_47 σ_48 =>
  br r_47
  (carlinglaw15_LruNobody_K2 S1 Q s1_0 s1_1 s1_2 v20 v21 v22 true σ_48)
  (lru_Cache_Drop x_21 s1_1 σ_48 fun r_50 σ_51 =>
  br r_50
  (carlinglaw15_LruNobody_K2 S1 Q s1_0 s1_1 s1_2 v20 v21 v22 true σ_51)
  (lru_Cache_Pinned x_21 σ_51 fun r_53 σ_57 =>
  lru_Cache_Order x_21 σ_57 fun r_58 σ_62 =>
  lru_Cache_Len x_21 σ_62 fun r_63 σ_64 =>
  lru_Cache_Room x_21 σ_64 fun r_65 σ_66 =>
  carlinglaw15_LruNobody_K2 S1 Q s1_0 s1_1 s1_2 v20 v21 v22 ((IntKind.wrap .i64 ((IntKind.wrap .i64 ((IntKind.wrap .i64 ((r_53.length : Int) + (r_58.length : Int))) + r_63)) + r_65)) != (0 : Int)) σ_66))))))))))
  (lru_New (2 : Int) σ fun r_68 r_69 σ_70 =>
  br (Option.isNone r_68)
  (carlinglaw15_LruNobody_K3 Q r_68 true σ_70)
  (carlinglaw15_LruNobody_K3 Q r_68 (r_69 != (0 : Int)) σ_70))

def carlinglaw15_LruNobody_L1 (Q : Bool → St Obj → Prop) (s1_0 : Int) (s1_1 : Int) (s1_2 : List Int) (v20 : List (Option Addr)) (v21 : Int) (v22 : Int) (σ : St Obj) : Prop :=
  Lf (fun S (v : Int × Int × (List Int) × (List (Option Addr)) × Int × Int × St Obj) => carlinglaw15_LruNobody_B1 (fun s1_0 s1_1 s1_2 v20 v21 v22 σ => S (s1_0, s1_1, s1_2, v20, v21, v22, σ)) Q v.1 v.2.1 v.2.2.1 v.2.2.2.1 v.2.2.2.2.1 v.2.2.2.2.2.1 v.2.2.2.2.2.2) (s1_0, s1_1, s1_2, v20, v21, v22, σ)

theorem carlinglaw15_LruNobody_L1_in (Q : Bool → St Obj → Prop) (s1_0 : Int) (s1_1 : Int) (s1_2 : List Int) (v20 : List (Option Addr)) (v21 : Int) (v22 : Int) (σ : St Obj) (H : carlinglaw15_LruNobody_B1 (carlinglaw15_LruNobody_L1 Q) Q s1_0 s1_1 s1_2 v20 v21 v22 σ) : carlinglaw15_LruNobody_L1 Q s1_0 s1_1 s1_2 v20 v21 v22 σ := Lf.fold H

theorem carlinglaw15_LruNobody_B1_r {ρ : Ids} {h : Hp} {A : List At}  {s1_0 : Int} {s1_1 : Int} {s1_2 : List Int} {v20 : List (Option Addr)} {v21 : Int} {v22 : Int} {p_s1 : Addr} {a_s1_21 : Option Addr} {n_s1_21 c_s1_21 : Nat} {a_v202 : Option Addr} {n_v202 c_v202 : Nat} {σ : St Obj} {Q' : Bool → St Obj → Prop} {Q : Bool → Hp → Prop} {S1' : Int → Int → (List Int) → (List (Option Addr)) → Int → Int → St Obj → Prop} {S1 : Addr → Sl → Int → Int → Hp → Prop} (I : Inv h (blk p_s1 (ρ.T 5) [.one (.int .u8 s1_0), .one (.int .i64 s1_1), .one (.slice a_s1_21 s1_2.length c_s1_21)] :: roS (rI .u8) a_s1_21 n_s1_21 c_s1_21 s1_2 :: ownS rP a_v202 n_v202 c_v202 v20 :: hpA (obA ρ) σ :: A)) (H : carlinglaw15_LruNobody_B1 S1' Q' s1_0 s1_1 s1_2 v20 v21 v22 σ) (kS1 : ∀ {s1_0 : Int} {s1_1 : Int} {s1_2 : List Int} {v20 : List (Option Addr)} {v21 : Int} {v22 : Int} {p_s1 : Addr} {a_s1_21 : Option Addr} {n_s1_21 c_s1_21 : Nat} {a_v202 : Option Addr} {n_v202 c_v202 : Nat} {σ : St Obj} {h : Hp}, Inv h (blk p_s1 (ρ.T 5) [.one (.int .u8 s1_0), .one (.int .i64 s1_1), .one (.slice a_s1_21 s1_2.length c_s1_21)] :: roS (rI .u8) a_s1_21 n_s1_21 c_s1_21 s1_2 :: ownS rP a_v202 n_v202 c_v202 v20 :: hpA (obA ρ) σ :: A) → S1' s1_0 s1_1 s1_2 v20 v21 v22 σ → S1 p_s1 ⟨a_v202, n_v202, c_v202⟩ v21 v22 h)
    (k : ∀ (r0 : Bool) (h' : Hp) (σ' : St Obj), Inv h' (hpA (obA ρ) σ' :: A) → Q' r0 σ' → Q r0 h') : Tx.carlinglaw15_LruNobody_B1 ρ S1 Q p_s1 ⟨a_v202, n_v202, c_v202⟩ v21 v22 h := by
  obtain rfl := ro_len I.pull1
  obtain rfl := own_len I.pull2
  unfold Tx.carlinglaw15_LruNobody_B1
  unfold carlinglaw15_LruNobody_B1 at H
  refine br_r H (fun hb H => ?_) (fun hb H => ?_)
  · refine ixP_a rd_own I.pull2 H fun p_22 x_21 he_23 hb_24 hc_25 H => ?_
    refine ldP_r hc_25 ?_
    refine ldI_r (I.cell 1 1 rfl) ?_
    refine ldS_r (I.cell 2 2 rfl) ?_
    replace I := I.pull3.pull2
    refine lru_Cache_Put_r (c0 := x_21) (item1 := s1_1) (page2 := s1_2) (σ := σ) rd_ro I H fun r_26 r_27 h σ_28 I H => ?_
    refine ldI_r (I.pull2.cell 1 1 rfl) ?_
    replace I := I.pull1
    refine lru_Cache_Get_r (c0 := x_21) (item1 := s1_1) (σ := σ_28) I H fun r_29 a_30 c_31 r_32 h σ_34 I H => ?_
    refine ldI_r (I.pull3.cell 1 1 rfl) ?_
    replace I := I.pull1
    refine lru_Cache_Unpin_r (c0 := x_21) (item1 := s1_1) (σ := σ_34) I H fun r_35 r_36 h σ_37 I H => ?_
    refine br_r H (fun hb H => ?_) (fun hb H => ?_)
    · replace I := I.pull2.dupR
      replace I := I.pull1.drop1
      replace I := I.pull2.drop1
      replace I := I.pull1.pull3.pull2.pull3
      exact carlinglaw15_LruNobody_K2_r (s1_0 := s1_0) (s1_1 := s1_1) (s1_2 := s1_2) (v20 := v20) (v21 := v21) (v22 := v22) (v106 := true) (σ := σ_37) I H kS1 k
    · refine br_r H (fun hb H => ?_) (fun hb H => ?_)
      · replace I := I.pull2.dupR
        replace I := I.pull1.drop1
        replace I := I.pull2.drop1
        replace I := I.pull1.pull3.pull2.pull3
        exact carlinglaw15_LruNobody_K2_r (s1_0 := s1_0) (s1_1 := s1_1) (s1_2 := s1_2) (v20 := v20) (v21 := v21) (v22 := v22) (v106 := true) (σ := σ_37) I H kS1 k
      · refine br_r H (fun hb H => ?_) (fun hb H => ?_)
        · replace I := I.pull2.dupR
          replace I := I.pull1.drop1
          replace I := I.pull2.drop1
          replace I := I.pull1.pull3.pull2.pull3
          exact carlinglaw15_LruNobody_K2_r (s1_0 := s1_0) (s1_1 := s1_1) (s1_2 := s1_2) (v20 := v20) (v21 := v21) (v22 := v22) (v106 := true) (σ := σ_37) I H kS1 k
        · refine br_r H (fun hb H => ?_) (fun hb H => ?_)
          · replace I := I.pull2.dupR
            replace I := I.pull1.drop1
            replace I := I.pull2.drop1
            replace I := I.pull1.pull3.pull2.pull3
            exact carlinglaw15_LruNobody_K2_r (s1_0 := s1_0) (s1_1 := s1_1) (s1_2 := s1_2) (v20 := v20) (v21 := v21) (v22 := v22) (v106 := true) (σ := σ_37) I H kS1 k
          · refine br_r H (fun hb H => ?_) (fun hb H => ?_)
            · replace I := I.pull2.dupR
              replace I := I.pull1.drop1
              replace I := I.pull2.drop1
              replace I := I.pull1.pull3.pull2.pull3
              exact carlinglaw15_LruNobody_K2_r (s1_0 := s1_0) (s1_1 := s1_1) (s1_2 := s1_2) (v20 := v20) (v21 := v21) (v22 := v22) (v106 := true) (σ := σ_37) I H kS1 k
            · refine br_r H (fun hb H => ?_) (fun hb H => ?_)
              · replace I := I.pull2.dupR
                replace I := I.pull1.drop1
                replace I := I.pull2.drop1
                replace I := I.pull1.pull3.pull2.pull3
                exact carlinglaw15_LruNobody_K2_r (s1_0 := s1_0) (s1_1 := s1_1) (s1_2 := s1_2) (v20 := v20) (v21 := v21) (v22 := v22) (v106 := true) (σ := σ_37) I H kS1 k
              · refine ldI_r (I.pull3.cell 1 1 rfl) ?_
                refine ldS_r (I.pull3.cell 2 2 rfl) ?_
                replace I := I.pull2
                refine lru_Cache_Pin_r (c0 := x_21) (item1 := s1_1) (page2 := s1_2) (σ := σ_37) rd_ro I H fun r_44 h σ_45 I H => ?_
                refine br_r H (fun hb H => ?_) (fun hb H => ?_)
                · replace I := I.dupR
                  replace I := I.pull1.drop1
                  replace I := I.pull2.drop1
                  replace I := I.pull1.pull3.pull2.pull3
                  exact carlinglaw15_LruNobody_K2_r (s1_0 := s1_0) (s1_1 := s1_1) (s1_2 := s1_2) (v20 := v20) (v21 := v21) (v22 := v22) (v106 := true) (σ := σ_45) I H kS1 k
                · refine ldI_r (I.pull3.cell 1 1 rfl) ?_
                  replace I := I.pull1
                  refine lru_Cache_Has_r (c0 := x_21) (item1 := s1_1) (σ := σ_45) I H fun r_47 h σ_48 I H => ?_
                  refine br_r H (fun hb H => ?_) (fun hb H => ?_)
                  · replace I := I.pull1.dupR
                    replace I := I.pull1.drop1
                    replace I := I.pull2.drop1
                    replace I := I.pull1.pull3.pull2.pull3
                    exact carlinglaw15_LruNobody_K2_r (s1_0 := s1_0) (s1_1 := s1_1) (s1_2 := s1_2) (v20 := v20) (v21 := v21) (v22 := v22) (v106 := true) (σ := σ_48) I H kS1 k
                  · refine ldI_r (I.pull3.cell 1 1 rfl) ?_
                    refine lru_Cache_Drop_r (c0 := x_21) (item1 := s1_1) (σ := σ_48) I H fun r_50 h σ_51 I H => ?_
                    refine br_r H (fun hb H => ?_) (fun hb H => ?_)
                    · replace I := I.pull1.dupR
                      replace I := I.pull1.drop1
                      replace I := I.pull2.drop1
                      replace I := I.pull1.pull3.pull2.pull3
                      exact carlinglaw15_LruNobody_K2_r (s1_0 := s1_0) (s1_1 := s1_1) (s1_2 := s1_2) (v20 := v20) (v21 := v21) (v22 := v22) (v106 := true) (σ := σ_51) I H kS1 k
                    · refine lru_Cache_Pinned_r (c0 := x_21) (σ := σ_51) I H fun r_53 a_54 c_55 h σ_57 I H => ?_
                      replace I := I.pull1
                      refine lru_Cache_Order_r (c0 := x_21) (σ := σ_57) I H fun r_58 a_59 c_60 h σ_62 I H => ?_
                      replace I := I.pull1
                      refine lru_Cache_Len_r (c0 := x_21) (σ := σ_62) I H fun r_63 h σ_64 I H => ?_
                      refine lru_Cache_Room_r (c0 := x_21) (σ := σ_64) I H fun r_65 h σ_66 I H => ?_
                      replace I := I.pull3.dupR
                      replace I := I.pull1.drop1
                      replace I := I.pull2.drop1
                      replace I := I.pull2.drop1
                      replace I := I.pull2.drop1
                      replace I := I.pull1.pull3.pull2.pull3
                      exact carlinglaw15_LruNobody_K2_r (s1_0 := s1_0) (s1_1 := s1_1) (s1_2 := s1_2) (v20 := v20) (v21 := v21) (v22 := v22) (v106 := ((IntKind.wrap .i64 ((IntKind.wrap .i64 ((IntKind.wrap .i64 ((r_53.length : Int) + (r_58.length : Int))) + r_63)) + r_65)) != (0 : Int))) (σ := σ_66) I H kS1 k
  · replace I := I.pull3
    refine lru_New_r (room0 := (2 : Int)) (σ := σ) I H fun r_68 r_69 h σ_70 I H => ?_
    refine br_r H (fun hb H => ?_) (fun hb H => ?_)
    · replace I := I.pull1.drop1
      replace I := I.pull1.drop1
      replace I := I.pull1.drop1
      exact carlinglaw15_LruNobody_K3_r (c11 := r_68) (v117 := true) (σ := σ_70) I H k
    · replace I := I.pull1.drop1
      replace I := I.pull1.drop1
      replace I := I.pull1.drop1
      exact carlinglaw15_LruNobody_K3_r (c11 := r_68) (v117 := (r_69 != (0 : Int))) (σ := σ_70) I H k

theorem carlinglaw15_LruNobody_L1_r {ρ : Ids} {h : Hp} {A : List At}  {s1_0 : Int} {s1_1 : Int} {s1_2 : List Int} {v20 : List (Option Addr)} {v21 : Int} {v22 : Int} {p_s1 : Addr} {a_s1_21 : Option Addr} {n_s1_21 c_s1_21 : Nat} {a_v202 : Option Addr} {n_v202 c_v202 : Nat} {σ : St Obj} {Q' : Bool → St Obj → Prop} {Q : Bool → Hp → Prop} (I : Inv h (blk p_s1 (ρ.T 5) [.one (.int .u8 s1_0), .one (.int .i64 s1_1), .one (.slice a_s1_21 s1_2.length c_s1_21)] :: roS (rI .u8) a_s1_21 n_s1_21 c_s1_21 s1_2 :: ownS rP a_v202 n_v202 c_v202 v20 :: hpA (obA ρ) σ :: A)) (H : carlinglaw15_LruNobody_L1 Q' s1_0 s1_1 s1_2 v20 v21 v22 σ)
    (k : ∀ (r0 : Bool) (h' : Hp) (σ' : St Obj), Inv h' (hpA (obA ρ) σ' :: A) → Q' r0 σ' → Q r0 h') : Tx.carlinglaw15_LruNobody_L1 ρ Q p_s1 ⟨a_v202, n_v202, c_v202⟩ v21 v22 h := by
  refine Lf.ind H (fun v => ∀ (p_s1 : Addr) (a_s1_21 : Option Addr) (n_s1_21 c_s1_21 : Nat) (a_v202 : Option Addr) (n_v202 c_v202 : Nat) (h : Hp), Inv h (blk p_s1 (ρ.T 5) [.one (.int .u8 v.1), .one (.int .i64 v.2.1), .one (.slice a_s1_21 v.2.2.1.length c_s1_21)] :: roS (rI .u8) a_s1_21 n_s1_21 c_s1_21 v.2.2.1 :: ownS rP a_v202 n_v202 c_v202 v.2.2.2.1 :: hpA (obA ρ) v.2.2.2.2.2.2 :: A) → Tx.carlinglaw15_LruNobody_L1 ρ Q p_s1 ⟨a_v202, n_v202, c_v202⟩ v.2.2.2.2.1 v.2.2.2.2.2.1 h) ?_ _ _ _ _ _ _ _ _  I
  rintro ⟨s1_0, s1_1, s1_2, v20, v21, v22, σ⟩ S hS HB p_s1 a_s1_21 n_s1_21 c_s1_21 a_v202 n_v202 c_v202 h I
  refine Tx.carlinglaw15_LruNobody_L1_in _ _ _ _ _ _ _ ?_
  try simp only [nrm_v]
  exact carlinglaw15_LruNobody_B1_r (s1_0 := s1_0) (s1_1 := s1_1) (s1_2 := s1_2) (v20 := v20) (v21 := v21) (v22 := v22) (σ := σ) I HB (fun {s1_0 s1_1 s1_2 v20 v21 v22 p_s1 a_s1_21 n_s1_21 c_s1_21 a_v202 n_v202 c_v202 σ h} I H => hS _ H p_s1 a_s1_21 n_s1_21 c_s1_21 a_v202 n_v202 c_v202 _ I) k

def carlinglaw15_LruNobody (s0 : carlinglaw15_Step) (σ : St Obj) (Q : Bool → St Obj → Prop) : Prop :=
  ∀ p_5 : Addr,
  (σ p_5 = none) →
  carlinglaw15_LruNobody_L1 Q s0.Kind s0.Item s0.Page ([none, (some p_5)]) (2 : Int) (0 : Int) (sset σ p_5 (.lru_Cache (⟨(0 : Int), (none : Option (List (Int × lru_held))), ([] : List Int)⟩ : lru_Cache)))

theorem carlinglaw15_LruNobody_r {ρ : Ids} {h : Hp} {A : List At} {s0 : carlinglaw15_Step} {a_s00 : Option Addr} {n_s00 c_s00 : Nat} {σ : St Obj} {Q' : Bool → St Obj → Prop} {Q : Bool → Hp → Prop} (I : Inv h (roS (rI .u8) a_s00 n_s00 c_s00 s0.Page :: hpA (obA ρ) σ :: A)) (H : carlinglaw15_LruNobody s0 σ Q')
    (k : ∀ (r0 : Bool) (h' : Hp) (σ' : St Obj), Inv h' (hpA (obA ρ) σ' :: A) → Q' r0 σ' → Q r0 h') : Tx.carlinglaw15_LruNobody ρ s0.Kind s0.Item ⟨a_s00, n_s00, c_s00⟩ h Q := by
  obtain rfl := ro_len I
  unfold Tx.carlinglaw15_LruNobody
  unfold carlinglaw15_LruNobody at H
  refine al_r [.one (.int .u8 s0.Kind), .one (.int .i64 s0.Item), .one (.slice a_s00 s0.Page.length c_s00)] rfl I fun p_3 h I => ?_
  refine al_r [.one (.int .i64 (0 : Int)), .one (.map none), .one (.slice none 0 0)] rfl I fun p_5 h I => ?_
  replace H := H p_5
  refine al_r [.one (.pointer none), .one (.pointer (some p_5))] rfl I fun p_7 h I => ?_
  replace I := I.litN rP
  replace I := I.repP (some p_5)
  replace I := I.pull1.pull1
  replace I := I.litC
  replace I := I.repP none
  replace I := I.pull1.pull1
  replace I := I.litC
  replace I := I.pull1.pull1
  replace I := Inv.litL (l := [none, (some p_5)]) I rfl rfl
  replace I := I.nilM (kI .i64) R_lru_held true
  replace I := I.nilO (rI .i64)
  replace I := I.pull6.pull1.pull2.pull4
  obtain ⟨e_15, I⟩ := (cl_lru_Cache (⟨(0 : Int), (none : Option (List (Int × lru_held))), ([] : List Int)⟩ : lru_Cache) I).new
  replace H := H e_15
  replace I := I.pull3.dupR
  replace I := I.pull1.drop1
  replace I := I.pull1.pull2.pull2.pull3
  exact carlinglaw15_LruNobody_L1_r (s1_0 := s0.Kind) (s1_1 := s0.Item) (s1_2 := s0.Page) (v20 := [none, (some p_5)]) (v21 := (2 : Int)) (v22 := (0 : Int)) (σ := (sset σ p_5 (.lru_Cache (⟨(0 : Int), (none : Option (List (Int × lru_held))), ([] : List Int)⟩ : lru_Cache)))) I H k

end Go.Pt
