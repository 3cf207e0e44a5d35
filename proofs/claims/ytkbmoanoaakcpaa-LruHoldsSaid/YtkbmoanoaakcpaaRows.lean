/-
  No cell of these rows narrows 'for every input' (looked for: loops, veiled, ifaces, maps, wideKeys, modest, calm, conditions, laid).
  DERIVED. THE GIVEN ROWS OF THIS SEAT. 4 by the template 'for every input the law returns true; each argument reads behind the call as it read before'; 0 by the template 'total and deterministic' (their statements: YtkbmoanoaakcpaaTotals.lean).
  GIVEN WITH THE SEED: the statements are not yours to turn. If you find one false, say at which input.
  Laid BY PROGRAM, IN A SANDBOX (cutbox-rows.mjs): the forced cells as the released guide's own fill.sh prints them over the translation 6d0168e7d7face9e… (all of the seat's roots in one cut). By AI agents, Wed Nov 11 2026. No macro, syntax, notation, axiom, sorry.
-/
import Derived.Test.YtkbmoanoaakcpaaChecked
import GoSem.Claim
import GoSem.ClaimJoined
import GoSem.ClaimMapViews
import Derived.JoinedTies
import Derived.KernelRfl
namespace Go.Proofs.Ytkbmoanoaakcpaa
/- THE CELL 'sum', in the pinned program and in every row, IS THE sha256 OF THE DUMP (.gsa) THAT YtkbmoanoaakcpaaProg.lean LOADS. Nothing in Lean hashes anything: it is a label: what it is worth is what the hold of that sum in a sandbox is worth. -/
noncomputable def Try.pinned : Pinned := { name := "ytkbmoanoaakcpaa", sum := "6d0168e7d7face9eaed7d172f3efffae4924084e524071099c737ab0f4c74905", checked := Try.checked }
namespace Rows
def none {H : Type} : Left H := { results := [], args := [] }

/-- 'carlinglaw15.LruOldest': WHATEVER THE INPUT: true; the input reads as it did. -/
def lruOldestSpec : ChangeSpec := { name := "lruOldest", fn := fun _ => fun
  | [d1, d2] => { results := [.lit (.bool true)], args := [d1, d2] }
  | _ => none }
def lruOldestRow : OpenClaim := { program := "ytkbmoanoaakcpaa", sum := "6d0168e7d7face9eaed7d172f3efffae4924084e524071099c737ab0f4c74905", func := "carling/carlinglaw15.LruOldest", spec := "lruOldest", unfollowed := true, recurses := true, apart := false }
def LruOldestSaid : Prop := lruOldestRow.holds Try.pinned (OpenSpec.ofChange lruOldestSpec)

/-- ITS FALSE NEIGHBOUR: 'it returns false'. Refute it at one input. -/
def lruOldestWrong : ChangeSpec := { name := "lruOldest", fn := fun _ => fun
  | [d1, d2] => { results := [.lit (.bool false)], args := [d1, d2] }
  | _ => none }
def LruOldestWrongFalsely : Prop := lruOldestRow.holds Try.pinned (OpenSpec.ofChange lruOldestWrong)

/-- 'carlinglaw15.LruHolds': WHATEVER THE INPUT: true; the input reads as it did. -/
def lruHoldsSpec : ChangeSpec := { name := "lruHolds", fn := fun _ => fun
  | [d1, d2] => { results := [.lit (.bool true)], args := [d1, d2] }
  | _ => none }
def lruHoldsRow : OpenClaim := { program := "ytkbmoanoaakcpaa", sum := "6d0168e7d7face9eaed7d172f3efffae4924084e524071099c737ab0f4c74905", func := "carling/carlinglaw15.LruHolds", spec := "lruHolds", unfollowed := true, recurses := true, apart := false }
def LruHoldsSaid : Prop := lruHoldsRow.holds Try.pinned (OpenSpec.ofChange lruHoldsSpec)

/-- ITS FALSE NEIGHBOUR: 'it returns false'. Refute it at one input. -/
def lruHoldsWrong : ChangeSpec := { name := "lruHolds", fn := fun _ => fun
  | [d1, d2] => { results := [.lit (.bool false)], args := [d1, d2] }
  | _ => none }
def LruHoldsWrongFalsely : Prop := lruHoldsRow.holds Try.pinned (OpenSpec.ofChange lruHoldsWrong)

/-- 'carlinglaw15.LruPlays': WHATEVER THE INPUT: true; the input reads as it did. -/
def lruPlaysSpec : ChangeSpec := { name := "lruPlays", fn := fun _ => fun
  | [d1, d2] => { results := [.lit (.bool true)], args := [d1, d2] }
  | _ => none }
def lruPlaysRow : OpenClaim := { program := "ytkbmoanoaakcpaa", sum := "6d0168e7d7face9eaed7d172f3efffae4924084e524071099c737ab0f4c74905", func := "carling/carlinglaw15.LruPlays", spec := "lruPlays", unfollowed := true, recurses := true, apart := false }
def LruPlaysSaid : Prop := lruPlaysRow.holds Try.pinned (OpenSpec.ofChange lruPlaysSpec)

/-- ITS FALSE NEIGHBOUR: 'it returns false'. Refute it at one input. -/
def lruPlaysWrong : ChangeSpec := { name := "lruPlays", fn := fun _ => fun
  | [d1, d2] => { results := [.lit (.bool false)], args := [d1, d2] }
  | _ => none }
def LruPlaysWrongFalsely : Prop := lruPlaysRow.holds Try.pinned (OpenSpec.ofChange lruPlaysWrong)

/-- 'carlinglaw15.LruNobody': WHATEVER THE INPUT: true; the input reads as it did. -/
def lruNobodySpec : ChangeSpec := { name := "lruNobody", fn := fun _ => fun
  | [d] => { results := [.lit (.bool true)], args := [d] }
  | _ => none }
def lruNobodyRow : OpenClaim := { program := "ytkbmoanoaakcpaa", sum := "6d0168e7d7face9eaed7d172f3efffae4924084e524071099c737ab0f4c74905", func := "carling/carlinglaw15.LruNobody", spec := "lruNobody", unfollowed := true, recurses := true, apart := false }
def LruNobodySaid : Prop := lruNobodyRow.holds Try.pinned (OpenSpec.ofChange lruNobodySpec)

/-- ITS FALSE NEIGHBOUR: 'it returns false'. Refute it at one input. -/
def lruNobodyWrong : ChangeSpec := { name := "lruNobody", fn := fun _ => fun
  | [d] => { results := [.lit (.bool false)], args := [d] }
  | _ => none }
def LruNobodyWrongFalsely : Prop := lruNobodyRow.holds Try.pinned (OpenSpec.ofChange lruNobodyWrong)

/- THE SECOND FORM. 'bulk': how many values and letters a reading holds, each counted each time it is reached (what is shared counts as often as it is met; a slice's spare places count too). A statement '..UptoSaid' is the law's where the arguments, and the package variables that the reading takes, are together of bulk at most 1048576: NARROWER than '..Said'. Prove '..Said' where nothing that the law and all that it calls make is longer than what came in: it says more and counts as full. Else prove '..UptoSaid'. A law counts once. -/
mutual
def uptoBulk {H : Type} : DataW H → Nat
  | .lit (.string bytes) => bytes.length + 1
  | .lit _ => 1
  | .nil => 1
  | .ptr d => uptoBulk d + 1
  | .slice elems spare => uptoBulkAll elems + uptoBulkAll spare + 1
  | .agg parts => uptoBulkAll parts + 1
  | .iface _ d => uptoBulk d + 1
  | .map entries => uptoBulkEntries entries + 1
  | .held _ => 1
def uptoBulkAll {H : Type} : List (DataW H) → Nat
  | [] => 0
  | d :: r => uptoBulk d + uptoBulkAll r
def uptoBulkEntries {H : Type} : List (Lit × DataW H) → Nat
  | [] => 0
  | x :: r => uptoBulkEntry x + uptoBulkEntries r
def uptoBulkEntry {H : Type} : Lit × DataW H → Nat
  | (.string bytes, d) => bytes.length + uptoBulk d + 1
  | (_, d) => uptoBulk d + 1
 end
def uptoSmall : (H : Type) → List (DataW H) → Bool := fun _ ds => decide (uptoBulkAll ds ≤ 1048576)
def OpenSpec.upto (s : _root_.Go.ChangeSpec) : _root_.Go.OpenSpec := { _root_.Go.OpenSpec.ofChange s with cond := some uptoSmall }

/-- 'carlinglaw15.LruOldest', WHERE WHAT IT READS IS OF BULK AT MOST 1048576: true; the input reads as it did. -/
def lruOldestUptoRow : OpenClaim := { program := "ytkbmoanoaakcpaa", sum := "6d0168e7d7face9eaed7d172f3efffae4924084e524071099c737ab0f4c74905", func := "carling/carlinglaw15.LruOldest", spec := "lruOldest", unfollowed := true, recurses := true, apart := false, narrowed := true }
def LruOldestUptoSaid : Prop := lruOldestUptoRow.holds Try.pinned (OpenSpec.upto lruOldestSpec)

/-- 'carlinglaw15.LruHolds', WHERE WHAT IT READS IS OF BULK AT MOST 1048576: true; the input reads as it did. -/
def lruHoldsUptoRow : OpenClaim := { program := "ytkbmoanoaakcpaa", sum := "6d0168e7d7face9eaed7d172f3efffae4924084e524071099c737ab0f4c74905", func := "carling/carlinglaw15.LruHolds", spec := "lruHolds", unfollowed := true, recurses := true, apart := false, narrowed := true }
def LruHoldsUptoSaid : Prop := lruHoldsUptoRow.holds Try.pinned (OpenSpec.upto lruHoldsSpec)

/-- 'carlinglaw15.LruPlays', WHERE WHAT IT READS IS OF BULK AT MOST 1048576: true; the input reads as it did. -/
def lruPlaysUptoRow : OpenClaim := { program := "ytkbmoanoaakcpaa", sum := "6d0168e7d7face9eaed7d172f3efffae4924084e524071099c737ab0f4c74905", func := "carling/carlinglaw15.LruPlays", spec := "lruPlays", unfollowed := true, recurses := true, apart := false, narrowed := true }
def LruPlaysUptoSaid : Prop := lruPlaysUptoRow.holds Try.pinned (OpenSpec.upto lruPlaysSpec)

/-- 'carlinglaw15.LruNobody', WHERE WHAT IT READS IS OF BULK AT MOST 1048576: true; the input reads as it did. -/
def lruNobodyUptoRow : OpenClaim := { program := "ytkbmoanoaakcpaa", sum := "6d0168e7d7face9eaed7d172f3efffae4924084e524071099c737ab0f4c74905", func := "carling/carlinglaw15.LruNobody", spec := "lruNobody", unfollowed := true, recurses := true, apart := false, narrowed := true }
def LruNobodyUptoSaid : Prop := lruNobodyUptoRow.holds Try.pinned (OpenSpec.upto lruNobodySpec)

end Rows
end Go.Proofs.Ytkbmoanoaakcpaa
