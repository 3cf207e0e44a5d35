import Derived.Test.YtpjehkdneiclnaaCnShapeS
set_option linter.unusedSimpArgs false
set_option linter.unusedVariables false
namespace Go.Pt
open Go Go.Wc Go.Pu
variable {b:List Int}
def upS (b:List Int):Nat→Int→Bool→List Int × Bool
  | _,_,false=>([],true)
  | 0,_,true=>([],false)
  | k+1,p,true=>(p::(upS b k (parentS b p).1 (parentS b p).2.2).1,(upS b k (parentS b p).1 (parentS b p).2.2).2)
def pathS (b:List Int) (page:Int):List Int × Bool:=
  if levelS b page=0 then (page::(upS b 12 (parentS b page).1 (parentS b page).2.2).1,(upS b 12 (parentS b page).1 (parentS b page).2.2).2) else ([],true)
theorem upS_len: ∀ (k:Nat) (p:Int) (ok:Bool),(upS b k p ok).1.length≤k
  | 0,_,false=>by simp [upS]
  | k+1,_,false=>by simp [upS]
  | 0,_,true=>by simp [upS]
  | k+1,p,true=>by simp only [upS,List.length_cons]; have:=upS_len k (parentS b p).1 (parentS b p).2.2; omega
theorem path_go (hb:WfB b) {Q:shape_Shape_Path.QT}: ∀ (k:Nat) (c:shape_Shape_Path.V),c.s2=⟨b⟩→c.l5.length+k≤100→(upS b k c.p6 c.ok8).2=true→Q (c.l5++(upS b k c.p6 c.ok8).1)→shape_Shape_Path.L1 Q c:=by
  intro k
  induction k with
  | zero =>
    intro c e1 hl hf H
    refine shape_Shape_Path.L1_in ?_
    unfold shape_Shape_Path.B1
    cases hok:c.ok8 with
    | false=>rw [br_false]; rw [hok] at H; simpa [upS] using H
    | true=>rw [hok] at hf; simp [upS] at hf
  | succ k ih =>
    intro c e1 hl hf H
    refine shape_Shape_Path.L1_in ?_
    unfold shape_Shape_Path.B1
    cases hok:c.ok8 with
    | false=>rw [br_false]; rw [hok] at H; simpa [upS] using H
    | true =>
      rw [hok] at H hf
      simp only [upS] at H hf
      rw [br_true]
      refine ⟨bnd_le (by simp; omega), ?_⟩
      rw [e1]
      refine parent_spec hb ?_
      refine ih _ rfl (by simp; omega) hf ?_
      simpa using H
theorem path_spec (hb:WfB b) {page:Int} {Q:shape_Shape_Path.QT} (hf:(pathS b page).2=true) (H:Q (pathS b page).1):shape_Shape_Path ⟨b⟩ page Q:=by
  unfold shape_Shape_Path
  refine level_spec hb ?_
  unfold pathS at hf H
  by_cases h:levelS b page=0
  · rw [if_pos h] at hf H
    rw [show (levelS b page !=0)=false by rw [h]; rfl,br_false]
    refine parent_spec hb ?_
    exact path_go hb 12 _ rfl (by simp) hf H
  · rw [if_neg h] at hf H
    rw [show (levelS b page !=0)=true by simpa using h,br_true]
    exact H
def fromI (a:Int):Nat→List Int
  | 0=>[]
  | k+1=>a::fromI (a+1) k
theorem fromI_snoc (a:Int): ∀ k:Nat,fromI a k++[a+k]=fromI a (k+1)
  | 0=>by simp [fromI]
  | k + 1 => by
    have:=fromI_snoc (a+1) k
    simp only [fromI,List.cons_append] at this ⊢
    rw [← this]
    congr 3; omega
theorem fromI_length (a:Int): ∀ k:Nat,(fromI a k).length=k
  | 0=>rfl
  | k+1=>by simp [fromI,fromI_length (a+1) k]
def kidsS (b : List Int) (item : Int) : List Int :=
  let l:=levelS b item
  if l<1 then []
  else
    let f:=b.getD (l.toNat - 1) 0+6*(item - b.getD l.toNat 0)
    fromI f (Int.toNat (min (f+6) (b.getD l.toNat 0) - f))
theorem kids_spec (hb:WfB b) {item:Int} {Q:shape_Shape_Kids.QT} (H:Q (kidsS b item)):shape_Shape_Kids ⟨b⟩ item Q:=by
  unfold shape_Shape_Kids
  refine level_spec hb ?_
  unfold kidsS at H
  dsimp only at H
  have hl:=hb.len
  by_cases h:levelS b item<1
  · rw [if_pos h] at H
    rw [decide_eq_true h,br_true]; exact H
  rw [if_neg h] at H
  rw [decide_eq_false h,br_false]
  have hr:=levelS_rng b item (by omega)
  have hi:=level_lt hb (item:=item) (by omega)
  dsimp only
  refine ixP_getD ((levelS b item).toNat - 1) (by rw [wrap64 (by omega) (by omega)]; omega) (by omega) ?_
  refine ixP_getD (levelS b item).toNat (by omega) (by omega) ?_
  have g1:=getD_rng hb ((levelS b item).toNat - 1)
  have g2:=getD_rng hb (levelS b item).toNat
  generalize b.getD ((levelS b item).toNat - 1) 0=x at*
  generalize hy:b.getD (levelS b item).toNat 0=y at*
  rw [wrap64 (n:=item - y) (by omega) (by omega),wrap64 (n:=6*(item - y)) (by omega) (by omega),wrap64 (n:=x+6*(item - y)) (by omega) (by omega)]
  generalize hf:x+6*(item - y)=f at*
  have hfr: -6000≤f∧f≤7001:=by omega
  let n:=Int.toNat (min (f+6) y - f)
  have hn:n≤6:=by simp only [n]; omega
  refine loop_0 n (fun i=> {shape_Shape_Kids.v0 with s2:=⟨b⟩,level5:=levelS b item,from6:=f,l7:=fromI f i,k8:=f+i}) ?_ ?_ |> fun h=>by simpa [shape_Shape_Kids.L1,fromI] using h
  · intro i S hi2 hS
    unfold shape_Shape_Kids.B1
    dsimp only
    refine ixP_getD (levelS b item).toNat (by omega) (by omega) ?_
    rw [hy,wrap64 (n:=f+6) (by omega) (by omega)]
    rw [decide_eq_true (by simp only [n] at hi2; split <;> omega),br_true]
    refine ⟨bnd_le (by simp [fromI_length]; omega), ?_⟩
    rw [fromI_snoc,wrap64 (by omega) (by omega)]
    have:f+(i:Int)+1=f+((i+1:Nat):Int):=by omega
    rw [this]
    exact hS
  · intro S
    unfold shape_Shape_Kids.B1
    dsimp only
    refine ixP_getD (levelS b item).toNat (by omega) (by omega) ?_
    rw [hy,wrap64 (n:=f+6) (by omega) (by omega)]
    rw [decide_eq_false (by simp only [n]; split <;> omega),br_false]
    exact H
def blockS (b:List Int) (item place:Int):Int:=if levelS b item<0∨place<0∨place>1 then -1 else 2+2*item+place
theorem block_spec (hb:WfB b) {item place:Int} {Q:shape_Shape_Block.QT} (H:Q (blockS b item place)):shape_Shape_Block ⟨b⟩ item place Q:=by
  unfold shape_Shape_Block
  refine level_spec hb ?_
  unfold blockS at H
  unfold shape_Shape_Block.K1
  dsimp only
  by_cases h:levelS b item<0
  · rw [if_pos (.inl h)] at H
    rw [decide_eq_true h,br_true,br_true]; exact H
  rw [decide_eq_false h,br_false]
  by_cases h2:place<0
  · rw [if_pos (.inr (.inl h2))] at H
    rw [decide_eq_true h2,br_true,br_true]; exact H
  rw [decide_eq_false h2,br_false]
  by_cases h3:place>1
  · rw [if_pos (.inr (.inr h3))] at H
    rw [decide_eq_true h3,br_true]; exact H
  rw [if_neg (by omega)] at H
  rw [decide_eq_false h3,br_false]
  have hi:=level_lt hb h
  rw [wrap64 (n:=2*item) (by omega) (by omega),wrap64 (n:=2+2*item) (by omega) (by omega),wrap64 (by omega) (by omega)]
  exact H
end Go.Pt
