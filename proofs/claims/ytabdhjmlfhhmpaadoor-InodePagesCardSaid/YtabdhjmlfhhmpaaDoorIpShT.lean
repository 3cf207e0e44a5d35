import Derived.Test.YtabdhjmlfhhmpaaDoorIpWc13
set_option linter.unusedSimpArgs false
set_option linter.unusedVariables false
namespace Go.Tx
open Go Go.Wc

/-! ### The library's functions whose contracts lie on the shelf: what they ask and what they leave -/

/-- slices.Sort at []int. -/
def slices_Sort_int_int (_ : Ids) (s : Sl) (h : Hp) (Q : Hp → Prop) : Prop :=
  (s.len = 0 ∧ Q h) ∨
  ∃ (blk off : Nat) (zs : List Int) (pre post : List Value) (T : Nat) (z : Nat × Nat), s.a = some ⟨blk, off, none⟩ ∧ zs.length = s.len ∧ zs.length < 4611686018427387904 ∧
    h[blk]? = some (.cells (pre ++ zs.map (Value.int .i64) ++ post).toArray T z) ∧ pre.length = off ∧ (z.2 ≤ off ∨ off + zs.length ≤ z.1) ∧
    ∀ os : Array Obj, Q (h.setIfInBounds blk (.cells (pre ++ (zs.mergeSort fun x y => decide (x ≤ y)).map (Value.int .i64) ++ post).toArray T z) ++ os)

def slices_Sort_int_int_S (ρ : Ids) : Spec := fun args h K =>
  (tS fun s => tN (slices_Sort_int_int ρ s h (fun h => K (.tuple #[]) h))) args

end Go.Tx
