import Derived.Test.YtpjehkdneiclnaaCnShapeS2
set_option linter.unusedSimpArgs false
set_option linter.unusedVariables false
namespace Go.Pt
open Go Go.Wc Go.Pu
abbrev HS:=carlingref12_Shape
structure WfH (h:HS):Prop where
  len:h.Level.length=h.First.length
  small:h.Level.length≤400
  lev: ∀ x ∈ h.Level,0≤x∧x≤10
  fst: ∀ x ∈ h.First, -1≤x∧x≤400
def hasS (h:HS) (item:Int):Bool:=decide (0≤item) && decide (item<(h.Level.length:Int))
theorem has_spec {h:HS} {item:Int} {Q:Bool→Prop} (H:Q (hasS h item)):carlingref12_Shape_has h item Q:=by
  unfold carlingref12_Shape_has
  unfold hasS at H
  rw [br_iff]
  constructor
  · intro h1; rw [decide_eq_true (show 0≤item by simpa using h1),Bool.true_and] at H; exact H
  · intro h1; rw [decide_eq_false (show ¬ 0≤item by simpa using h1),Bool.false_and] at H; exact H
def kgo (h:HS) (item:Int):Nat→List Int→Int→List Int
  | 0,out,_=>out
  | f+1,out,k=>if out.length<6∧k<item∧h.Level.getD k.toNat 0=h.Level.getD item.toNat 0 - 1 then kgo h item f (out++[k]) (k+1) else out
def kidsR (h:HS) (item:Int):List Int:=if hasS h item=false∨h.First.getD item.toNat 0<0 then [] else kgo h item 7 [] (h.First.getD item.toNat 0)
theorem kgo_spec {h:HS} (hw:WfH h) {item:Int} (hi:0≤item∧item<h.Level.length) {Q:carlingref12_Shape_Kids.QT}: ∀ (f:Nat) (c:carlingref12_Shape_Kids.V),c.s2=h→c.item1=item→0≤c.k6→c.out5.length+f=7→c.out5.length≤6→Q (kgo h item f c.out5 c.k6)→carlingref12_Shape_Kids.L2 Q c:=by
  intro f
  induction f with
  | zero=>intro c e1 e2 hk hf hl H; omega
  | succ f ih =>
    intro c e1 e2 hk hf hl H
    refine carlingref12_Shape_Kids.L2_in ?_
    unfold carlingref12_Shape_Kids.B2 carlingref12_Shape_Kids.K3
    dsimp only
    have hs:=hw.small
    by_cases h1:c.out5.length<6
    case neg=>
      rw [decide_eq_false (by omega),br_false,br_false]
      simp only [kgo] at H
      rw [if_neg (fun h=>h1 h.1)] at H; exact H
    rw [decide_eq_true (by omega),br_true,e2]
    by_cases h2:c.k6<item
    case neg=>
      rw [decide_eq_false h2,br_false,br_false]
      simp only [kgo] at H
      rw [if_neg (fun h=>h2 h.2.1)] at H; exact H
    rw [decide_eq_true h2,br_true,e1]
    refine ixP_getD c.k6.toNat (by omega) (by omega) (ixP_getD item.toNat (by omega) (by omega) ?_)
    have hlv:0≤h.Level.getD item.toNat 0∧h.Level.getD item.toNat 0≤10:=by
      rw [List.getD_eq_getElem?_getD,List.getElem?_eq_getElem (by omega)]
      exact hw.lev _ (List.getElem_mem _)
    rw [wrap64 (by omega) (by omega)]
    simp only [kgo] at H
    by_cases h3:h.Level.getD c.k6.toNat 0=h.Level.getD item.toNat 0 - 1
    · rw [if_pos ⟨h1, h2, h3⟩] at H
      rw [show (h.Level.getD c.k6.toNat 0==h.Level.getD item.toNat 0 - 1)=true by rw [beq_iff_eq]; exact h3,br_true]
      refine ⟨bnd_le (by simp; omega), ?_⟩
      rw [wrap64 (by omega) (by omega)]
      exact ih _ rfl rfl (by dsimp only; omega) (by simp; omega) (by simp; omega) H
    · rw [if_neg (fun h => h3 h.2.2)] at H
      rw [show (h.Level.getD c.k6.toNat 0==h.Level.getD item.toNat 0 - 1)=false by rw [beq_eq_false_iff_ne]; exact h3,br_false]
      exact H
theorem kidsR_spec {h:HS} (hw:WfH h) {item:Int} {Q:carlingref12_Shape_Kids.QT} (H:Q (kidsR h item)):carlingref12_Shape_Kids h item Q:=by
  unfold carlingref12_Shape_Kids carlingref12_Shape_Kids.K1
  refine has_spec ?_
  unfold kidsR at H
  cases hh:hasS h item with
  | false =>
    rw [if_pos (.inl hh)] at H
    rw [Bool.not_false,br_true,br_true]; exact H
  | true =>
    have hi:0≤item∧item<h.Level.length:=by unfold hasS at hh; simpa using hh
    have hl:=hw.len
    rw [Bool.not_true,br_false]
    refine ixP_getD item.toNat (by omega) (by omega) ?_
    dsimp only
    by_cases h2:h.First.getD item.toNat 0<0
    · rw [if_pos (.inr h2)] at H
      rw [decide_eq_true h2,br_true]; exact H
    · rw [if_neg (by rintro (h | h); rw [hh] at h; cases h; exact h2 h)] at H
      rw [decide_eq_false h2,br_false]
      refine ixP_getD item.toNat (by omega) (by omega) ?_
      exact kgo_spec hw hi 7 _ rfl rfl (by dsimp only; omega) rfl (by simp) H
theorem kgo_len (h:HS) (item:Int): ∀ (f:Nat) (out:List Int) (k:Int),(kgo h item f out k).length≤out.length+f
  | 0,out,k=>by simp [kgo]
  | f + 1, out, k => by
    simp only [kgo]
    split
    · have:=kgo_len h item f (out++[k]) (k+1); simp at this; omega
    · omega
theorem kidsR_len (h:HS) (item:Int):(kidsR h item).length≤7:=by
  unfold kidsR
  split
  · simp
  · have:=kgo_len h item 7 [] (h.First.getD item.toNat 0); simpa using this
def posI (l:List Int) (x:Int):Nat→Option Nat
  | i=>(l.drop i).findIdx? (· ==x) |>.map (· +i)
def pgo (h : HS) (item : Int) : Nat → Int → Int × Int × Bool
  | 0,_=>(0,0,false)
  | f + 1, p => match (kidsR h p).findIdx? (· == item) with
    | some i=>(p,i,true)
    | none=>pgo h item f (p+1)
def parentR (h:HS) (item:Int):Int × Int × Bool:=pgo h item h.Level.length 0
theorem findIdx_drop {l:List Int} {x:Int} {i:Nat} (hi:i<l.length) (h: ∀ j,j<i→l[j]? ≠ some x):(l.findIdx? (· ==x))=if l[i]==x then some i else l.findIdx? (· ==x):=by
  split
  · rename_i h1
    rw [List.findIdx?_eq_some_iff_getElem]
    refine ⟨hi,h1,fun j hj=> ?_⟩
    have:=h j hj
    rw [List.getElem?_eq_getElem (by omega)] at this
    simpa using this
  · rfl
theorem pgo_spec {h : HS} (hw : WfH h) {item : Int} {Q : carlingref12_Shape_Parent.QT} : ∀ (f : Nat) (c : carlingref12_Shape_Parent.V), c.s2 = h → c.item1 = item → 0 ≤ c.p7 → c.p7 + f = h.Level.length → Q (pgo h item f c.p7).1 (pgo h item f c.p7).2.1 (pgo h item f c.p7).2.2 → carlingref12_Shape_Parent.L1 Q c := by
  intro f
  induction f with
  | zero =>
    intro c e1 e2 hp hf H
    refine carlingref12_Shape_Parent.L1_in ?_
    unfold carlingref12_Shape_Parent.B1
    rw [e1,decide_eq_false (by omega),br_false]
    exact H
  | succ f ih =>
    intro c e1 e2 hp hf H
    refine carlingref12_Shape_Parent.L1_in ?_
    unfold carlingref12_Shape_Parent.B1
    have hs:=hw.small
    subst e1 e2
    rw [decide_eq_true (by omega),br_true]
    refine kidsR_spec hw ?_
    have hl:=kidsR_len c.s2 c.p7
    simp only [pgo] at H
    have:=loop_n (B:=fun S=>carlingref12_Shape_Parent.B2 (carlingref12_Shape_Parent.L1 Q) S Q) (kidsR c.s2 c.p7).length (fun i=> {c with l8:=kidsR c.s2 c.p7,i9:=(i:Int)}) (fun i=> ∀ j,j<i→(kidsR c.s2 c.p7)[j]? ≠ some c.item1) ?_ ?_ 0 (Nat.zero_le _) (by intro j hj; omega)
    · exact this
    · intro i S hi hP hS
      unfold carlingref12_Shape_Parent.B2
      dsimp only
      rw [dlt hi,br_true]
      refine ix_get hi ?_
      by_cases hx:(kidsR c.s2 c.p7)[i]=c.item1
      · rw [show ((kidsR c.s2 c.p7)[i] == c.item1) = true by rw [beq_iff_eq]; exact hx, br_true]
        have e:=findIdx_drop hi hP
        rw [if_pos (by rw [beq_iff_eq]; exact hx)] at e
        rw [e] at H
        exact H
      · rw [show ((kidsR c.s2 c.p7)[i] == c.item1) = false by rw [beq_eq_false_iff_ne]; exact hx, br_false, wadd1 (by omega)]
        refine hS fun j hj=> ?_
        rcases Nat.lt_or_ge j i with h5 | h5
        · exact hP j h5
        · obtain rfl : j = i := by omega
          rw [List.getElem?_eq_getElem hi]; simpa using hx
    · intro S hP
      unfold carlingref12_Shape_Parent.B2
      dsimp only
      rw [dge (Nat.le_refl _),br_false]
      have e:(kidsR c.s2 c.p7).findIdx? (· ==c.item1)=none:=by
        rw [List.findIdx?_eq_none_iff]
        intro x hx
        obtain ⟨j,hj,rfl⟩:=List.mem_iff_getElem.1 hx
        have:=hP j hj
        rw [List.getElem?_eq_getElem hj] at this
        simpa using this
      rw [e] at H
      rw [wrap64 (by omega) (by omega)]
      exact ih _ rfl rfl (by dsimp only; omega) (by dsimp only; omega) H
theorem parentR_spec {h:HS} (hw:WfH h) {item:Int} {Q:carlingref12_Shape_Parent.QT} (H:Q (parentR h item).1 (parentR h item).2.1 (parentR h item).2.2):carlingref12_Shape_Parent h item Q:=by
  unfold carlingref12_Shape_Parent
  exact pgo_spec hw h.Level.length _ rfl rfl (by dsimp only; omega) (by dsimp only; omega) H
def ugo (h:HS):Nat→List Int→List Int
  | 0,out=>out
  | f+1,out=>if (parentR h (out.getLastD 0)).2.2 then ugo h f (out++[(parentR h (out.getLastD 0)).1]) else out
def pathR (h:HS) (page:Int):List Int:=if page<0∨page≥h.P then [] else ugo h 10 [page]
theorem ugo_spec {h:HS} (hw:WfH h) {Q:carlingref12_Shape_Path.QT}: ∀ (f:Nat) (c:carlingref12_Shape_Path.V),c.s2=h→c.n6+f=10→0≤c.n6→c.out5 ≠ []→c.out5.length+f≤30→Q (ugo h f c.out5)→carlingref12_Shape_Path.L2 Q c:=by
  intro f
  induction f with
  | zero =>
    intro c e1 hf h0 hne hl H
    refine carlingref12_Shape_Path.L2_in ?_
    unfold carlingref12_Shape_Path.B2
    rw [decide_eq_false (by omega),br_false]
    exact H
  | succ f ih =>
    intro c e1 hf h0 hne hl H
    refine carlingref12_Shape_Path.L2_in ?_
    unfold carlingref12_Shape_Path.B2
    rw [decide_eq_true (by omega),br_true]
    have hpos:0<c.out5.length:=List.length_pos_iff.2 hne
    refine ixP_getD (c.out5.length - 1) (by rw [wrap64 (by omega) (by omega)]; omega) (by omega) ?_
    have e:c.out5.getD (c.out5.length - 1) 0=c.out5.getLastD 0:=by
      rw [List.getD_eq_getElem?_getD,← List.getLast?_eq_getElem?,List.getLastD_eq_getLast?]
    rw [e,e1]
    refine parentR_spec hw ?_
    simp only [ugo] at H
    cases hp:(parentR h (c.out5.getLastD 0)).2.2 with
    | false=>rw [hp,if_neg (by simp)] at H; rw [Bool.not_false,br_true]; exact H
    | true =>
      rw [hp,if_pos rfl] at H
      rw [Bool.not_true,br_false,wrap64 (by omega) (by omega)]
      refine ⟨bnd_le (by simp; omega), ?_⟩
      exact ih _ rfl (by dsimp only; omega) (by dsimp only; omega) (by simp) (by simp; omega) H
theorem pathR_spec {h:HS} (hw:WfH h) {page:Int} {Q:carlingref12_Shape_Path.QT} (H:Q (pathR h page)):carlingref12_Shape_Path h page Q:=by
  unfold carlingref12_Shape_Path carlingref12_Shape_Path.K1
  unfold pathR at H
  dsimp only
  by_cases h1:page<0
  · rw [if_pos (.inl h1)] at H
    rw [decide_eq_true h1,br_true,br_true]; exact H
  rw [decide_eq_false h1,br_false]
  by_cases h2:page≥h.P
  · rw [if_pos (.inr h2)] at H
    rw [decide_eq_true h2,br_true]; exact H
  rw [if_neg (by omega)] at H
  rw [decide_eq_false h2,br_false]
  exact ugo_spec hw 10 _ rfl rfl (by simp) (by simp) (by simp) H
end Go.Pt
