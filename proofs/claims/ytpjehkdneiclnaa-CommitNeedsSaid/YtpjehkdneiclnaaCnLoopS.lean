import Derived.Test.YtpjehkdneiclnaaCnNum
set_option linter.unusedSimpArgs false
set_option linter.unusedVariables false
namespace Go.Pu
open Go Go.Wc
theorem loop_n {V:Type} {B:(V→Prop)→V→Prop} (n:Nat) (st:Nat→V) (P:Nat→Prop)
    (hstep: ∀ i S,i<n→P i→(P (i+1)→S (st (i+1)))→B S (st i)) (hend: ∀ S,P n→B S (st n)): ∀ i,i≤n→P i→Lf B (st i):=by
  have key: ∀ j i,i+j=n→P i→Lf B (st i):=by
    intro j
    induction j with
    | zero => intro i e hP; obtain rfl : i = n := by omega
              exact Lf.fold (hend _ hP)
    | succ j ih=>intro i e hP; exact Lf.fold (hstep i _ (by omega) hP fun h=>ih (i+1) (by omega) h)
  intro i hi hP
  exact key (n - i) i (by omega) hP
theorem loop_0 {V:Type} {B:(V→Prop)→V→Prop} (n:Nat) (st:Nat→V)
    (hstep: ∀ i S,i<n→S (st (i+1))→B S (st i)) (hend: ∀ S,B S (st n)):Lf B (st 0):=
  loop_n n st (fun _=>True) (fun i S hi _ h=>hstep i S hi (h trivial)) (fun S _=>hend S) 0 (Nat.zero_le _) trivial
theorem wadd1 {i:Nat} (h:i<9000000000000000000):IntKind.wrap .i64 ((i:Int)+(1:Int))=((i+1:Nat):Int):=by
  rw [wrap64 (by omega) (by omega)]; omega
theorem dlt {i n:Nat} (h:i<n):decide ((i:Int)<(n:Int))=true:=by simp; omega
theorem dge {i n:Nat} (h:n≤i):decide ((i:Int)<(n:Int))=false:=by simp; omega
theorem ix_get {X:Type} {l:List X} {i:Nat} {K:X→Prop} (h:i<l.length) (H:K l[i]):ixP l (i:Int) K:=ixP_nat (List.getElem?_eq_getElem h) H
theorem ixP_eq {X:Type} {l:List X} {i:Int} {K:X→Prop} (j:Nat) (hj:i=(j:Int)) (h:j<l.length) (H:K l[j]):ixP l i K:=by subst hj; exact ix_get h H
theorem take_snoc {X:Type} {l:List X} {i:Nat} (h:i<l.length):l.take (i+1)=l.take i++[l[i]]:=by rw [List.take_add_one,List.getElem?_eq_getElem h]; rfl
theorem map_take_snoc {X Y:Type} {l:List X} {f:X→Y} {i:Nat} (h:i<l.length):(l.take i).map f++[f l[i]]=(l.take (i+1)).map f:=by rw [take_snoc h,List.map_append]; rfl
theorem bnd_le {n:Nat} (h:n≤4000000000):Bnd n:=by unfold Bnd; omega
end Go.Pu
