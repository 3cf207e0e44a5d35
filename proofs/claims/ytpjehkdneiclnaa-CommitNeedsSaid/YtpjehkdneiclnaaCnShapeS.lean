import Derived.Test.YtpjehkdneiclnaaCnPt
import Derived.Test.YtpjehkdneiclnaaCnLoopS
set_option linter.unusedSimpArgs false
set_option linter.unusedVariables false
namespace Go.Pt
open Go Go.Wc Go.Pu
def up6 (m:Int):Int:=(m+5) / 6
def newB (n : Int) : List Int :=
  let m1:=up6 n
  let l1:=[0,n,n+m1]
  if m1>1 then
    let m2:=up6 m1
    let l2:=l1++[n+m1+m2]
    if m2>1 then l2++[n+m1+m2+up6 m2] else l2
  else l1
theorem new_go {c:shape_New.V} {Q:shape_New.QT} {l:List Int} {m x:Int} (e1:c.l4=l) (e2:c.many5=m) (hl:2≤l.length∧l.length≤10) (hm:1≤m∧m≤216) (hx:l[l.length - 1]? =some x) (hx2:0≤x∧x≤1000) (hgo:m>1∨l.length=2)
    (H: ∀ c':shape_New.V,c'.l4=l++[x+up6 m]→c'.many5=up6 m→shape_New.L2 Q c'):shape_New.L2 Q c:=by
  refine shape_New.L2_in ?_
  subst e1 e2
  have hK:shape_New.K3 (shape_New.L2 Q) Q {c with v23:=true}:=by
    unfold shape_New.K3
    rw [br_true]
    refine ⟨⟨by omega,by omega,by omega⟩, ?_⟩
    have e:IntKind.wrap .i64 (((c.l4.length:Nat):Int) - 1)=((c.l4.length - 1:Nat):Int):=by rw [wrap64 (by omega) (by omega)]; omega
    dsimp only
    rw [e]
    refine ixP_nat hx ?_
    have e1:IntKind.wrap .i64 ((IntKind.wrap .i64 (c.many5+6)) - 1)=c.many5+5:=by rw [wrap64 (n:=c.many5+6) (by omega) (by omega),wrap64 (by omega) (by omega)]; omega
    have e2:IntKind.wrap .i64 (Int.tdiv (c.many5+5) 6)=up6 c.many5:=by
      rw [Int.tdiv_eq_ediv_of_nonneg (by omega),wrap64 (by omega) (by omega)]; rfl
    have hu:0≤up6 c.many5∧up6 c.many5≤40:=by unfold up6; omega
    have e3:sub c.l4 0 (c.l4.length:Int)=c.l4:=by simp [sub]
    rw [e1,e2,wrap64 (n:=x+up6 c.many5) (by omega) (by omega),e3]
    exact ⟨bnd_le (by simp; omega),H _ rfl rfl⟩
  unfold shape_New.B2
  by_cases h:c.many5>1
  · rw [decide_eq_true h,br_true]; exact hK
  · rw [decide_eq_false h, br_false]
    have:c.l4.length=2:=by omega
    rw [show ((c.l4.length:Int)==2)=true by rw [this]; rfl]
    exact hK
theorem new_stop {c:shape_New.V} {Q:shape_New.QT} {l:List Int} {m:Int} (e1:c.l4=l) (e2:c.many5=m) (hm:m≤1) (hl:l.length ≠ 2) (H:Q ⟨l⟩ 0):shape_New.L2 Q c:=by
  refine shape_New.L2_in ?_
  subst e1 e2
  unfold shape_New.B2
  rw [decide_eq_false (by omega),br_false]
  unfold shape_New.K3
  dsimp only
  rw [show ((c.l4.length:Int)==2)=false by rw [beq_eq_false_iff_ne]; omega,br_false]
  exact H
theorem shape_New_spec {n:Int} {Q:shape_New.QT} (hn:1≤n∧n≤216) (H:Q ⟨newB n⟩ 0):shape_New n Q:=by
  unfold shape_New
  rw [decide_eq_false (by omega),br_false]
  unfold shape_New.K1
  dsimp only
  rw [decide_eq_false (by omega),br_false]
  have b1:1≤up6 n∧up6 n≤36:=by unfold up6; omega
  refine new_go (l:=[0,n]) (m:=n) rfl rfl (by simp) hn (x:=n) rfl (by omega) (.inr rfl) fun c1 e1 e2=> ?_
  unfold newB at H
  dsimp only at H
  by_cases h1:up6 n>1
  · rw [if_pos h1] at H
    have b2:1≤up6 (up6 n)∧up6 (up6 n)≤6:=by unfold up6 at b1 ⊢; omega
    refine new_go e1 e2 (by simp) (by omega) (x:=n+up6 n) rfl (by omega) (.inl h1) fun c2 e3 e4=> ?_
    by_cases h2:up6 (up6 n)>1
    · rw [if_pos h2] at H
      have b3:up6 (up6 (up6 n))≤1:=by unfold up6 at b2 ⊢; omega
      refine new_go e3 e4 (by simp) (by omega) (x:=n+up6 n+up6 (up6 n)) rfl (by omega) (.inl h2) fun c3 e5 e6=> ?_
      exact new_stop e5 e6 b3 (by simp) H
    · rw [if_neg h2] at H
      exact new_stop e3 e4 (by omega) (by simp) H
  · rw [if_neg h1] at H
    exact new_stop e1 e2 (by omega) (by simp) H
structure WfB (b:List Int):Prop where
  len:3≤b.length∧b.length≤10
  rng: ∀ x ∈ b,0≤x∧x≤1000
def lvS:List Int→Int→Int→Int
  | [],_,_=> -1
  | x::r,k,item=>if item<x then k else lvS r (k+1) item
def levelS (b:List Int) (item:Int):Int:=if item<0 then -1 else lvS b.tail 0 item
theorem lvS_rng: ∀ (r:List Int) (k item:Int),0≤k→lvS r k item= -1∨(k≤lvS r k item∧lvS r k item<k+r.length)
  | [],k,item,_=> .inl rfl
  | x :: r, k, item, hk => by
    simp only [lvS,List.length_cons]
    split
    · exact .inr ⟨Int.le_refl _,by omega⟩
    · rcases lvS_rng r (k + 1) item (by omega) with h | h
      · exact .inl h
      · exact .inr ⟨by omega,by omega⟩
theorem levelS_rng (b:List Int) (item:Int) (hb:1≤b.length):levelS b item= -1∨(0≤levelS b item∧levelS b item+1<b.length∧0≤item):=by
  unfold levelS
  split
  · exact .inl rfl
  · have := lvS_rng b.tail 0 item (by omega)
    simp only [List.length_tail] at this
    rcases this with h | h
    · exact .inl h
    · exact .inr ⟨by omega,by omega,by omega⟩
theorem levels_spec {b:List Int} {Q:Int→Prop} (hb:WfB b) (H:Q ((b.length - 1:Nat):Int)):shape_Shape_Levels ⟨b⟩ Q:=by
  unfold shape_Shape_Levels
  have:=hb.len
  have e:IntKind.wrap .i64 ((b.length:Int) - 1)=((b.length - 1:Nat):Int):=by rw [wrap64 (by omega) (by omega)]; omega
  dsimp only
  rw [e,if_neg (by omega)]
  exact H
theorem level_spec {b:List Int} {item:Int} {Q:Int→Prop} (hb:WfB b) (H:Q (levelS b item)):shape_Shape_Level ⟨b⟩ item Q:=by
  unfold shape_Shape_Level
  have hl:=hb.len
  unfold levelS at H
  rw [br_iff]
  constructor
  · intro h; rw [if_pos (by simpa using h)] at H; exact H
  intro h
  rw [if_neg (by simpa using h)] at H
  refine levels_spec hb ?_
  refine loop_n (b.length - 1) (fun i=> {shape_Shape_Level.v0 with item1:=item,s2:=⟨b⟩,v9:=((b.length - 1:Nat):Int),v10:=(i:Int)}) (fun i=>Q (lvS (b.tail.drop i) i item)) ?_ ?_ 0 (Nat.zero_le _) (by simpa using H)
  · intro i S hi hP hS
    unfold shape_Shape_Level.B1
    dsimp only
    rw [dlt hi,br_true,wadd1 (by omega)]
    refine ix_get (by omega) ?_
    have e:b.tail.drop i=b[i+1]'(by omega)::b.tail.drop (i+1):=by
      rw [List.drop_eq_getElem_cons (by simp; omega)]
      simp
    rw [e] at hP
    simp only [lvS] at hP
    rw [br_iff]
    constructor
    · intro h1; rw [if_pos (by simpa using h1)] at hP; exact hP
    · intro h1
      rw [if_neg (by simpa using h1)] at hP
      refine hS ?_
      have:(((i+1:Nat)):Int)=(i:Int)+1:=by omega
      rw [this]; exact hP
  · intro S hP
    unfold shape_Shape_Level.B1
    dsimp only
    rw [dge (Nat.le_refl _),br_false]
    have:b.tail.drop (b.length - 1)=[]:=List.drop_eq_nil_of_le (by simp)
    rw [this] at hP
    exact hP
def itemsS (b:List Int):Int:=b.getD (b.length - 1) 0
def pagesS (b:List Int):Int:=b.getD 1 0
theorem getD_rng {b:List Int} (hb:WfB b) (i:Nat):0≤b.getD i 0∧b.getD i 0≤1000:=by
  rw [List.getD_eq_getElem?_getD]
  cases h:b[i]? with
  | none=>simp
  | some x=>exact hb.rng x (List.mem_of_getElem? h)
theorem ixP_getD {l:List Int} {i:Int} {K:Int→Prop} (j:Nat) (hj:i=(j:Int)) (h:j<l.length) (H:K (l.getD j 0)):ixP l i K:=
  ixP_eq j hj h (by rw [List.getD_eq_getElem?_getD,List.getElem?_eq_getElem h] at H; exact H)
theorem items_spec {b:List Int} {Q:Int→Prop} (hb:WfB b) (H:Q (itemsS b)):shape_Shape_Items ⟨b⟩ Q:=by
  unfold shape_Shape_Items
  have hl:=hb.len
  dsimp only
  rw [show ((b.length:Int)==0)=false by rw [beq_eq_false_iff_ne]; omega,br_false]
  exact ixP_getD (b.length - 1) (by rw [wrap64 (by omega) (by omega)]; omega) (by omega) H
theorem pages_spec {b:List Int} {Q:Int→Prop} (hb:WfB b) (H:Q (pagesS b)):shape_Shape_Pages ⟨b⟩ Q:=by
  unfold shape_Shape_Pages
  have hl:=hb.len
  dsimp only
  rw [show ((b.length:Int)==0)=false by rw [beq_eq_false_iff_ne]; omega,br_false]
  exact ixP_getD 1 rfl (by omega) H
theorem root_spec {b:List Int} {Q:Int→Prop} (hb:WfB b) (H:Q (itemsS b - 1)):shape_Shape_Root ⟨b⟩ Q:=by
  unfold shape_Shape_Root
  refine items_spec hb ?_
  have:0≤itemsS b∧itemsS b≤1000:=getD_rng hb _
  rw [wrap64 (by omega) (by omega)]
  exact H
theorem tdiv6 {x:Int} (h: -1000≤x∧x≤1000): -1000≤Int.tdiv x 6∧Int.tdiv x 6≤1000:=by
  by_cases h0:0≤x
  · rw [Int.tdiv_eq_ediv_of_nonneg h0]; omega
  · have e : Int.tdiv x 6 = -(Int.tdiv (-x) 6) := by rw [Int.neg_tdiv]; omega
    rw [e,Int.tdiv_eq_ediv_of_nonneg (by omega)]; omega
def parentS (b:List Int) (item:Int):Int × Int × Bool:=
  let l:=levelS b item
  if l<0∨item=itemsS b - 1 then (0,0,false)
  else (b.getD (l.toNat+1) 0+Int.tdiv (item - b.getD l.toNat 0) 6,Int.tmod (item - b.getD l.toNat 0) 6,true)
theorem lvS_lt: ∀ (r:List Int) (k item:Int),(∀ x ∈ r,x≤1000)→lvS r k item ≠ -1→item<1000
  | [],k,item,_,h=>absurd rfl h
  | x :: r, k, item, hr, h => by
    simp only [lvS] at h
    split at h
    · have:=hr x (by simp); omega
    · exact lvS_lt r (k+1) item (fun y hy=>hr y (by simp [hy])) h
theorem level_lt {b:List Int} {item:Int} (hb:WfB b) (h: ¬ levelS b item<0):0≤item∧item<1000:=by
  have h1:=levelS_rng b item (by have:=hb.len; omega)
  refine ⟨by omega, ?_⟩
  unfold levelS at h
  split at h
  · omega
  · exact lvS_lt b.tail 0 item (fun x hx=>(hb.rng x (List.mem_of_mem_tail hx)).2) (by omega)
theorem parent_spec {b:List Int} {item:Int} {Q:shape_Shape_Parent.QT} (hb:WfB b) (H:Q (parentS b item).1 (parentS b item).2.1 (parentS b item).2.2):shape_Shape_Parent ⟨b⟩ item Q:=by
  unfold shape_Shape_Parent
  refine level_spec hb ?_
  have hl:=hb.len
  unfold parentS at H
  dsimp only at H
  by_cases h:levelS b item<0
  · rw [if_pos (.inl h)] at H
    rw [decide_eq_true h,br_true]
    unfold shape_Shape_Parent.K1
    rw [br_true]
    exact H
  · rw [decide_eq_false h, br_false]
    refine root_spec hb ?_
    unfold shape_Shape_Parent.K1
    dsimp only
    by_cases h2:item=itemsS b - 1
    · rw [if_pos (.inr h2)] at H
      rw [show (item==itemsS b - 1)=true by rw [beq_iff_eq]; exact h2,br_true]
      exact H
    · rw [if_neg (by rintro (h3 | h3); exact h h3; exact h2 h3)] at H
      rw [show (item==itemsS b - 1)=false by rw [beq_eq_false_iff_ne]; exact h2,br_false]
      have hr:=levelS_rng b item (by omega)
      have hi:=level_lt hb h
      refine ixP_getD (levelS b item).toNat (by omega) (by omega) ?_
      refine ixP_getD ((levelS b item).toNat+1) (by rw [wrap64 (by omega) (by omega)]; omega) (by omega) ?_
      have g1:=getD_rng hb (levelS b item).toNat
      have g2:=getD_rng hb ((levelS b item).toNat+1)
      have e1:IntKind.wrap .i64 (item - b.getD (levelS b item).toNat 0)=item - b.getD (levelS b item).toNat 0:=wrap64 (by omega) (by omega)
      have t1:=tdiv6 (x:=item - b.getD (levelS b item).toNat 0) (by omega)
      rw [e1,wrap64 (n:=Int.tdiv _ _) (by omega) (by omega),wrap64 (by omega) (by omega)]
      exact H
end Go.Pt
