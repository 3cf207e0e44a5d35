import Derived.Test.YtkbmoanoaakcpaaWc1
import Derived.Laws.Sem
import Derived.Laws.Cells
import Derived.Laws.Entries
namespace Go.Wc
variable {P : Program} {τ : Tys} {t : Nat} {ti : TI} {w : World}

theorem Agrees.info (h : Agrees P t ti) : ∃ i, P.info? t = some i ∧ i.size = ti.size ∧ i.bytes = ti.bytes ∧ i.zero = some ti.zero := by
  obtain ⟨h, _⟩ := h
  unfold tiOf at h
  split at h
  · rename_i i d hi hd
    cases hz : i.zero with
    | none => rw [hz] at h; simp at h
    | some z => rw [hz] at h; simp at h; exact ⟨i, hi, h.2.1, h.2.2.1, by rw [← h.2.2.2]; exact hz⟩
  · cases h

theorem Agrees.und (h : Agrees P t ti) : ∃ d, P.underlying t = some d ∧ kdOf d = ti.kd := by
  obtain ⟨h, _⟩ := h
  unfold tiOf at h
  split at h
  · rename_i i d hi hd
    cases hz : i.zero with
    | none => rw [hz] at h; simp at h
    | some z => rw [hz] at h; simp at h; exact ⟨d, hd, h.1⟩
  · cases h

theorem kdOf_slice {d : TypeDesc} {e : Nat} (h : kdOf d = .slice e) : d = .slice e := by cases d <;> simp [kdOf] at h; subst h; rfl
theorem kdOf_ptr {d : TypeDesc} {e : Nat} (h : kdOf d = .ptr e) : d = .pointer e := by cases d <;> simp [kdOf] at h; subst h; rfl
theorem kdOf_arr {d : TypeDesc} {n e : Nat} (h : kdOf d = .arr n e) : d = .array n e := by cases d <;> simp [kdOf] at h; obtain ⟨rfl, rfl⟩ := h; rfl
theorem kdOf_map {d : TypeDesc} {n e : Nat} (h : kdOf d = .map n e) : d = .map n e := by cases d <;> simp [kdOf] at h; obtain ⟨rfl, rfl⟩ := h; rfl
theorem kdOf_int {d : TypeDesc} {k : IntKind} (h : kdOf d = .int k) : d = .int k := by cases d <;> simp [kdOf] at h; subst h; rfl
theorem kdOf_bool {d : TypeDesc} (h : kdOf d = .bool) : d = .bool := by cases d <;> simp [kdOf] at h; rfl
theorem kdOf_str {d : TypeDesc} (h : kdOf d = .str) : d = .string := by cases d <;> simp [kdOf] at h; rfl
theorem kdOf_func {d : TypeDesc} (h : kdOf d = .func) : ∃ p r v, d = .func p r v := by cases d <;> simp [kdOf] at h; exact ⟨_, _, _, rfl⟩
theorem kdOf_iface {d : TypeDesc} (h : kdOf d = .iface) : ∃ ms, d = .interface ms := by cases d <;> simp [kdOf] at h; exact ⟨_, rfl⟩
theorem kdOf_struct {d : TypeDesc} {fs : List (Nat × Nat)} (h : kdOf d = .struct fs) : ∃ f : Array Field, d = .struct f ∧ f.toList.map (fun f => (f.type, f.offset)) = fs := by
  cases d <;> simp [kdOf] at h; exact ⟨_, rfl, h⟩

theorem r_und (h : Agrees P t ti) (w : World) : ∃ d, (underlying t).run P w = .ok d w ∧ kdOf d = ti.kd := by
  obtain ⟨d, h1, h2⟩ := h.und
  exact ⟨d, run_underlying h1 w, h2⟩
theorem r_info (h : Agrees P t ti) (w : World) : ∃ i, (typeInfo t).run P w = .ok i w ∧ i.size = ti.size ∧ i.bytes = ti.bytes ∧ i.zero = some ti.zero := by
  obtain ⟨i, h1, h2⟩ := h.info
  exact ⟨i, by simp [typeInfo, h1], h2⟩
theorem r_size (h : Agrees P t ti) (w : World) : (Go.sizeOf t).run P w = .ok ti.size w := by
  obtain ⟨i, h1, h2, _⟩ := r_info h w
  simp [Go.sizeOf, h1, h2]
theorem r_zero (h : Agrees P t ti) (w : World) : (zeroValue t).run P w = .ok ti.zero w := by
  obtain ⟨i, h1, _, _, h2⟩ := r_info h w
  simp [zeroValue, h1, h2]
theorem r_agg (h : Agrees P t ti) (w : World) : (Go.isAgg t).run P w = .ok (isAgg ti.kd) w := by
  obtain ⟨d, h1, h2⟩ := r_und h w
  rw [← h2]
  simp only [Go.isAgg, Sem.run_bind, h1, Result.andThen_ok]
  cases d <;> rfl

theorem r_load {a : Addr} {v : Value} (h : hcell w.heap a = some v) : (Go.load a).run P w = .ok v w := by
  rw [← cell_eq] at h
  simp [Go.load, Sem.run, h]

theorem ldCs_elim : ∀ {cks : List CK} {h : Hp} {a : Addr} {i : Nat} {K : (Hp → Prop) → List Value → Prop}, ldCs cks h a i K →
    ∃ f vs, K f vs ∧ f h ∧ vs.length = cks.length ∧ ∀ h', f h' → ∀ j, (hj : j < vs.length) → hcell h' (a.add (i + j)) = some vs[j]
  | [], h, a, i, K, H => ⟨_, _, H, trivial, rfl, fun h' _ j hj => absurd hj (by simp)⟩
  | c :: cs, h, a, i, K, H => by
    obtain ⟨v, h1, h2⟩ := ldC_elim H
    obtain ⟨f, vs, h3, h4, h5, h6⟩ := ldCs_elim h2
    refine ⟨_, _, h3, ⟨h1, h4⟩, by simp [h5], fun h' hf j hj => ?_⟩
    cases j with
    | zero => simpa using hf.1
    | succ j => have := h6 h' hf.2 j (by simpa using hj); simpa [Nat.add_assoc, Nat.add_comm 1 j] using this

theorem r_loadCells {a : Addr} {n : Nat} {vs : List Value} (hn : vs.length = n) (h : ∀ j, (hj : j < vs.length) → hcell w.heap (a.add j) = some vs[j]) :
    (loadCells a n).run P w = .ok vs.toArray w := by
  subst hn
  refine run_loadCells_list _ a vs fun j v hj => ?_
  rw [List.getElem?_eq_some_iff] at hj
  obtain ⟨hj, rfl⟩ := hj
  exact h j hj

theorem r_loadVar (h : Agrees P t ti) {a : Addr} {vs : List Value} (hg : isAgg ti.kd = true) (hn : vs.length = ti.size)
    (hv : ∀ j, (hj : j < vs.length) → hcell w.heap (a.add j) = some vs[j]) : (loadVar t a).run P w = .ok (.agg vs.toArray) w := by
  simp only [loadVar, Sem.run_bind, r_agg h, hg, Result.andThen_ok, if_true, r_size h, r_loadCells hn hv, Sem.run_pure]
theorem r_loadVar1 (h : Agrees P t ti) {a : Addr} {v : Value} (hg : isAgg ti.kd = false) (hv : hcell w.heap a = some v) :
    (loadVar t a).run P w = .ok v w := by
  simp only [loadVar, Sem.run_bind, r_agg h, hg, Result.andThen_ok, Bool.false_eq_true, if_false, r_load hv]


/-! ### Soundness: the operations that leave the heap as it is -/

/-- In every world whose heap meets f the operation yields v and changes nothing. -/
def RunsTo (P : Program) (s : Sem Value) (f : Hp → Prop) (v : Value) : Prop := ∀ w : World, f w.heap → s.run P w = .ok v w

theorem r_ixW {a : Option Addr} {n : Nat} {j : Int} {size : Nat} {K : Addr → Prop} (H : ixW a n j size K) : ∃ b, a = some b ∧ 0 ≤ j ∧ j < n ∧ K (b.add (j.toNat * size)) := by
  obtain ⟨b, h1, h2, h3⟩ := H; exact ⟨b, h1, h2.1, h2.2, h3⟩

theorem so_binI {op : BinOp} {k : IntKind} {a b : Int} {K : Value → Prop} (H : intB op k a b K) : ∃ v, K v ∧ ∀ (t : Nat) (w : World), (binOp op t (.int k a) (.int k b)).run P w = .ok v w := by
  cases op <;> simp only [intB] at H <;> first | exact H.elim | skip
  case quo => exact ⟨_, H.2, fun t w => by simp [binOp, Op.intDiv, H.1]⟩
  case rem => exact ⟨_, H.2, fun t w => by simp [binOp, Op.intDiv, H.1]⟩
  all_goals exact ⟨_, H, fun t w => by simp [binOp, Op.intArith, Op.intBits, Op.intCmp]⟩

theorem so_sh {op : BinOp} {k k' : IntKind} {a b : Int} {K : Value → Prop} (H : shW op k a b K) : ∃ v, K v ∧ ∀ (t : Nat) (w : World), (binOp op t (.int k a) (.int k' b)).run P w = .ok v w := by
  cases op <;> simp only [shW] at H <;> first | exact H.elim | skip
  all_goals
    obtain ⟨h0, H⟩ := H
    exact ⟨_, H, fun t w => by simp [binOp, Op.shift, Int.not_lt.2 h0]⟩

theorem so_str {op : BinOp} {a b : ByteArray} {K : Value → Prop} (H : strB op a b K) : ∃ v, K v ∧ ∀ (t : Nat) (w : World), (binOp op t (.string a) (.string b)).run P w = .ok v w := by
  cases op <;> simp only [strB] at H <;> first | exact H.elim | skip
  case add => exact ⟨_, H.2, fun t w => by simp only [binOp, Op.stringOp]; rw [if_neg (by have := H.1; omega)]; rfl⟩
  all_goals exact ⟨_, H, fun t w => by simp [binOp, Op.stringOp]⟩

theorem so_eqB (h : Agrees P t ti) {x y : Value} {K : Bool → Prop} (H : eqB ti.kd x y K) :
    ∃ b, K b ∧ ∀ w : World, (Op.equal t x y).run P w = .ok b w := by
  obtain ⟨d, hd, hk⟩ := h.und
  have hu : ∀ w : World, (underlying t).run P w = .ok d w := fun w => run_underlying hd w
  obtain ⟨n, hn⟩ : ∃ n, Op.maxDepth = n + 1 := ⟨9999, rfl⟩
  unfold eqB at H
  split at H
  case h_1 a b e => rw [e] at hk; obtain rfl := kdOf_bool hk; exact ⟨_, H, fun w => by simp [Op.equal, hn, Op.equalIn, hu]⟩
  case h_2 a e => rw [e] at hk; obtain rfl := kdOf_ptr hk; exact ⟨_, H, fun w => by cases a <;> simp [Op.equal, hn, Op.equalIn, hu]⟩
  case h_3 a _ e => rw [e] at hk; obtain rfl := kdOf_ptr hk; exact ⟨_, H, fun w => by simp [Op.equal, hn, Op.equalIn, hu]⟩
  case h_4 a _ _ _ _ e => rw [e] at hk; obtain rfl := kdOf_slice hk; exact ⟨_, H, fun w => by cases a <;> simp [Op.equal, hn, Op.equalIn, hu]⟩
  case h_5 a e => rw [e] at hk; obtain rfl := kdOf_map hk; exact ⟨_, H, fun w => by cases a <;> simp [Op.equal, hn, Op.equalIn, hu]⟩
  case h_6 e => rw [e] at hk; obtain ⟨_, _, _, rfl⟩ := kdOf_func hk; exact ⟨_, H, fun w => by simp [Op.equal, hn, Op.equalIn, hu]⟩
  case h_7 e => rw [e] at hk; obtain ⟨_, _, _, rfl⟩ := kdOf_func hk; exact ⟨_, H, fun w => by simp [Op.equal, hn, Op.equalIn, hu]⟩
  case h_8 => exact H.elim

end Go.Wc
