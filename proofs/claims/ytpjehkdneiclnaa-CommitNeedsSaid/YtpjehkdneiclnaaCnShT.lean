import Derived.Test.YtpjehkdneiclnaaCnWc13
import Derived.MapKept
set_option linter.unusedSimpArgs false
set_option linter.unusedVariables false
namespace Go.Tx
open Go Go.Wc
def slices_Sort_int_int (_ : Ids) (s : Sl) (h : Hp) (Q : Hp → Prop) : Prop :=
  (s.len=0∧Q h)∨
  ∃ (blk off : Nat) (zs : List Int) (pre post : List Value) (T : Nat) (z : Nat × Nat), s.a = some ⟨blk, off, none⟩ ∧ zs.length = s.len ∧ zs.length < 4611686018427387904 ∧
    h[blk]? =some (.cells (pre++zs.map (Value.int .i64)++post).toArray T z)∧pre.length=off∧(z.2≤off∨off+zs.length≤z.1)∧
    ∀ os:Array Obj,Q (h.setIfInBounds blk (.cells (pre++(zs.mergeSort fun x y=>decide (x≤y)).map (Value.int .i64)++post).toArray T z)++os)
def slices_Sort_int_int_S (ρ:Ids):Spec:=fun args h K=>
  (tS fun s=>tN (slices_Sort_int_int ρ s h (fun h=>K (.tuple #[]) h))) args
def sortedOut (h h':Hp) (s:Sl) (ks:List Int):Prop:=
  (s=⟨none,0,0⟩∧ks=[])∨
  ∃ (g cap T:Nat) (cur:Array Value),s=⟨some ⟨g,0,none⟩,ks.length,cap⟩∧h.size≤g∧h'[g]? =some (.cells cur T (0,0))∧ks.length≤cap∧cur.size=cap∧cur.toList.take ks.length=ks.map (Value.int .i64)
def slices_Sorted_int (gs : List Nat) (ρ : Ids) (f : Value) (h : Hp) (Q : Sl → Hp → Prop) : Prop :=
  ∃ (k b : Nat) (m : Option Nat), k ∈ gs ∧ f = .func (.func (ρ.G k)) #[] #[.pointer (some ⟨b, 0, none⟩)] ∧ hcell h ⟨b, 0, none⟩ = some (.map m) ∧
    match m with
    | none=> ∀ h':Hp,h.size≤h'.size→(∀ b,b<h.size→h'[b]? =h[b]?)→Q ⟨none,0,0⟩ h'
    | some r => ∃ (es : Array MapEntry) (ck : Nat) (L : List Int), h[r]? = some (.map es ck) ∧ MapKept.Stamped es ck ∧ L.length ≤ 4294967296 ∧ es.toList.map (·.key) = L.map (Value.int .i64) ∧ (∀ x ∈ L, IntKind.min .i64 ≤ x ∧ x ≤ IntKind.max .i64) ∧
      ∀ (h':Hp) (s:Sl),h.size≤h'.size→(∀ b,b<h.size→h'[b]? =h[b]?)→sortedOut h h' s (L.mergeSort fun x y=>decide (x≤y))→Q s h'
def slices_Sorted_int_S (gs:List Nat) (ρ:Ids):Spec:=fun args h K=>
  (tV fun f=>tN (slices_Sorted_int gs ρ f h (fun s h=>K (.slice s.a s.len s.cap) h))) args
end Go.Tx
namespace Go.Wc
theorem fin_and {a b:Nat} {φ ψ:Prop} (h:Nat.ble a b=true) (e:φ=ψ) (H:φ):a≤b∧ψ:=⟨ble_le h,cast e H⟩
end Go.Wc
