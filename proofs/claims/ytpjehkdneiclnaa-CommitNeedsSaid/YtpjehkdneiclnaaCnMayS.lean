import Derived.Test.YtpjehkdneiclnaaCnNeedS
set_option linter.unusedVariables false
set_option linter.unusedSimpArgs false
namespace Go.Pt
open Go Go.Wc Go.Pu
def sr (r:carlingref09_Ref):seal_Ref:=⟨r.Place,r.Epoch,r.Digest⟩
def tn (x:carlingref16_Node):commit_Node:=⟨x.Item,x.Refs.map sr⟩
def tc (x:carlingref16_Change):commit_Change:=⟨x.Page,x.Bytes⟩
def fnd (l:List carlingref16_Node) (it:Int):Option carlingref16_Node:=l.find? fun x=>x.Item==it
def refsOf (o:Option carlingref16_Node):List carlingref09_Ref:=(o.map (·.Refs)).getD []
def rgt (p:Int):Bool:=(p==0) || (p==1)
def okOne (h:HS) (l:List carlingref16_Node) (it:Int):Bool:=(fnd l it).isSome && ((refsOf (fnd l it)).length==(kidsR h it).length) && (refsOf (fnd l it)).all fun r=>rgt r.Place
def chk (n:Int):Int→List (Int × Nat)→Bool
  | _,[]=>true
  | last,(p,k)::r=>decide (last<p) && (decide (p<n) && ((k==256) && chk n p r))
def mayS (n:Int) (h:HS) (l:List carlingref16_Node) (c:List carlingref16_Change):Bool:=chk n (-1) (c.map fun x=>(x.Page,x.Bytes.length)) && (needS h (c.map (·.Page))).all (okOne h l)
theorem drop_at {X:Type} {l:List X} {i:Nat} (h:i<l.length):l.drop i=l[i]::l.drop (i+1):=List.drop_eq_getElem_cons h
theorem ixf_node {l : List carlingref16_Node} {it : Int} {Q : Int → Unit → Prop} (hl : l.length ≤ 100000)
    (H0:fnd l it=none→Q (-1) ()) (H1: ∀ i (h:i<l.length),fnd l it=some l[i]→Q (i:Int) ()):
    slices_IndexFunc_commit_Node_commit_Node (fun x0 _ K=>commit_Find_1 x0 it (fun r=>K r ())) (l.map tn) () Q:=by
  unfold slices_IndexFunc_commit_Node_commit_Node
  have key: ∀ j (i:Nat) (c:slices_IndexFunc_commit_Node_commit_Node.V),i+j=l.length→c.s0=l.map tn→c.v7=(l.length:Int)→c.v8=(i:Int)→fnd l it=fnd (l.drop i) it→
      slices_IndexFunc_commit_Node_commit_Node.L1 (fun x0 _ K=>commit_Find_1 x0 it (fun r=>K r ())) Q c ():=by
    intro j
    induction j with
    | zero =>
      rintro i ⟨s0,v7,v8⟩ e e1 e2 e3 e4
      dsimp only at e1 e2 e3
      subst e1 e2 e3
      refine slices_IndexFunc_commit_Node_commit_Node.L1_in _ ?_
      unfold slices_IndexFunc_commit_Node_commit_Node.B1; dsimp only
      rw [dge (by omega),br_false]
      refine H0 ?_
      rw [e4,List.drop_of_length_le (by omega)]; rfl
    | succ j ih =>
      rintro i ⟨s0,v7,v8⟩ e e1 e2 e3 e4
      dsimp only at e1 e2 e3
      subst e1 e2 e3
      have hi:i<l.length:=by omega
      refine slices_IndexFunc_commit_Node_commit_Node.L1_in _ ?_
      unfold slices_IndexFunc_commit_Node_commit_Node.B1; dsimp only
      rw [dlt hi,br_true]
      refine ix_get (by rw [List.length_map]; exact hi) ?_
      unfold commit_Find_1
      rw [List.getElem_map]
      rw [drop_at hi] at e4
      unfold fnd at e4
      rw [List.find?_cons] at e4
      show br (l[i].Item==it) _ _
      cases hh:(l[i].Item==it) with
      | true=>rw [hh] at e4; rw [br_true]; exact H1 i hi e4
      | false =>
        rw [hh] at e4
        rw [br_false,wadd1 (by omega)]
        exact ih (i+1) _ (by omega) rfl rfl rfl e4
  refine key l.length 0 _ (by omega) rfl ?_ rfl rfl
  dsimp only; rw [List.length_map]
theorem find_spec {l:List carlingref16_Node} {it:Int} {Q:List seal_Ref→Bool→Prop} (hl:l.length≤100000) (hr: ∀ x ∈ l,x.Refs.length≤100000)
    (H:Q ((refsOf (fnd l it)).map sr) (fnd l it).isSome):commit_Find (l.map tn) it Q:=by
  unfold commit_Find
  refine ixf_node hl ?_ ?_
  · intro h
    rw [show decide ((-1:Int)<0)=true from rfl,br_true]
    rw [h] at H
    exact H
  · intro i hi h
    rw [decide_eq_false (by omega),br_false]
    refine ix_get (by rw [List.length_map]; exact hi) ?_
    rw [List.getElem_map]
    rw [h] at H
    refine ⟨bnd_le ?_,H⟩
    show (l[i].Refs.map sr).length≤_
    have:=hr _ (List.getElem_mem hi)
    rw [List.length_map]; omega
theorem findR_spec {l : List carlingref16_Node} {it : Int} {Q : carlingref16_Find.QT} (hl : l.length ≤ 100000)
    (H:Q (refsOf (fnd l it)) (fnd l it).isSome):carlingref16_Find l it Q:=by
  unfold carlingref16_Find
  have key: ∀ j (i:Nat) (c:carlingref16_Find.V),i+j=l.length→c.l0=l→c.item1=it→c.i6=(i:Int)→fnd l it=fnd (l.drop i) it→carlingref16_Find.L1 Q c:=by
    intro j
    induction j with
    | zero =>
      rintro i ⟨l0,item1,i6⟩ e e1 e2 e3 e4
      dsimp only at e1 e2 e3
      subst e1 e2 e3
      refine carlingref16_Find.L1_in ?_
      unfold carlingref16_Find.B1; dsimp only
      rw [dge (by omega),br_false]
      rw [e4,List.drop_of_length_le (by omega)] at H
      exact H
    | succ j ih =>
      rintro i ⟨l0,item1,i6⟩ e e1 e2 e3 e4
      dsimp only at e1 e2 e3
      subst e1 e2 e3
      have hi:i<l0.length:=by omega
      refine carlingref16_Find.L1_in ?_
      unfold carlingref16_Find.B1; dsimp only
      rw [dlt hi,br_true]
      refine ix_get hi ?_
      have e5:=e4
      rw [drop_at hi] at e4
      unfold fnd at e4
      rw [List.find?_cons] at e4
      cases hh:(l0[i].Item==item1) with
      | true =>
        rw [hh] at e4
        rw [br_true]
        refine ix_get hi ?_
        have e6:fnd l0 item1=some l0[i]:=e4
        rw [e6] at H
        exact H
      | false =>
        rw [hh] at e4
        rw [br_false,wadd1 (by omega)]
        exact ih (i+1) _ (by omega) rfl rfl rfl e4
  exact key l.length 0 _ (by omega) rfl rfl rfl rfl
theorem pages16_spec {c:List commit_Change} {Q:commit_pages.QT} (hc:c.length≤100000) (H:Q (c.map (·.Page))):commit_pages c Q:=by
  unfold commit_pages
  have:=loop_0 (B:=fun S=>commit_pages.B1 S Q) c.length (fun i=>({commit_pages.v0 with l3:=(c.take i).map (·.Page),v6:=c,v7:=(c.length:Int),v8:=(i:Int)}:commit_pages.V)) ?_ ?_
  · exact this
  · intro i S hi hS
    unfold commit_pages.B1; dsimp only
    rw [dlt hi,br_true]
    refine ix_get hi ⟨bnd_le (by simp only [List.length_append,List.length_map,List.length_take,List.length_cons,List.length_nil]; omega), ?_⟩
    rw [map_take_snoc hi,wadd1 (by omega)]
    exact hS
  · intro S
    unfold commit_pages.B1; dsimp only
    rw [dge (by omega),br_false,List.take_of_length_le (Nat.le_refl _)]
    exact H
theorem pagesR_spec {c:List carlingref16_Change} {Q:carlingref16_pages.QT} (hc:c.length≤100000) (H:Q (c.map (·.Page))):carlingref16_pages c Q:=by
  unfold carlingref16_pages
  have:=loop_0 (B:=fun S=>carlingref16_pages.B1 S Q) c.length (fun i=>({carlingref16_pages.v0 with out3:=(c.take i).map (·.Page),l0:=c,i4:=(i:Int)}:carlingref16_pages.V)) ?_ ?_
  · exact this
  · intro i S hi hS
    unfold carlingref16_pages.B1; dsimp only
    rw [dlt hi,br_true]
    refine ix_get hi ⟨bnd_le (by simp only [List.length_append,List.length_map,List.length_take,List.length_cons,List.length_nil]; omega), ?_⟩
    rw [map_take_snoc hi,wadd1 (by omega)]
    exact hS
  · intro S
    unfold carlingref16_pages.B1; dsimp only
    rw [dge (by omega),br_false,List.take_of_length_le (Nat.le_refl _)]
    exact H
theorem changed_spec {c:List carlingref16_Change} {Q:carlinglaw16_changed.QT} (hc:c.length≤100000) (H:Q (c.map tc)):carlinglaw16_changed c Q:=by
  unfold carlinglaw16_changed
  have:=loop_0 (B:=fun S=>carlinglaw16_changed.B1 S Q) c.length (fun i=>({carlinglaw16_changed.v0 with out3:=(c.take i).map tc,v6:=c,v7:=(c.length:Int),v8:=(i:Int)}:carlinglaw16_changed.V)) ?_ ?_
  · exact this
  · intro i S hi hS
    unfold carlinglaw16_changed.B1; dsimp only
    rw [dlt hi,br_true]
    refine ix_get hi ⟨bnd_le (by simp only [List.length_append,List.length_map,List.length_take,List.length_cons,List.length_nil]; omega), ?_⟩
    rw [show (⟨c[i].Page,c[i].Bytes⟩:commit_Change)=tc c[i] from rfl,map_take_snoc hi,wadd1 (by omega)]
    exact hS
  · intro S
    unfold carlinglaw16_changed.B1; dsimp only
    rw [dge (by omega),br_false,List.take_of_length_le (Nat.le_refl _)]
    exact H
def fullS (x:carlingref16_Change):carlingref16_Change:=⟨x.Page,cpL (List.replicate (Int.toNat (256:Int)) (0:Int)) x.Bytes⟩
theorem full_spec {c:List carlingref16_Change} {Q:carlinglaw16_full.QT} (hc:c.length≤100000) (H:Q (c.map fullS)):carlinglaw16_full c Q:=by
  unfold carlinglaw16_full
  have:=loop_0 (B:=fun S=>carlinglaw16_full.B1 S Q) c.length (fun i=>({carlinglaw16_full.v0 with out3:=(c.take i).map fullS,v7:=c,v8:=(c.length:Int),v9:=(i:Int)}:carlinglaw16_full.V)) ?_ ?_
  · exact this
  · intro i S hi hS
    unfold carlinglaw16_full.B1; dsimp only
    rw [dlt hi,br_true]
    refine ix_get hi ⟨bnd_le (by simp only [List.length_append,List.length_map,List.length_take,List.length_cons,List.length_nil]; omega), ?_⟩
    rw [show (⟨c[i].Page,cpL (List.replicate (Int.toNat (256:Int)) (0:Int)) c[i].Bytes⟩:carlingref16_Change)=fullS c[i] from rfl,map_take_snoc hi,wadd1 (by omega)]
    exact hS
  · intro S
    unfold carlinglaw16_full.B1; dsimp only
    rw [dge (by omega),br_false,List.take_of_length_le (Nat.le_refl _)]
    exact H
theorem theirs_spec {l : List carlingref16_Node} {Q : carlinglaw16_theirs.QT} (hl : l.length ≤ 100000) (hr : ∀ x ∈ l, x.Refs.length ≤ 100000) (H : Q (l.map tn)) : carlinglaw16_theirs l Q := by
  unfold carlinglaw16_theirs
  have key: ∀ j (i:Nat) (c:carlinglaw16_theirs.V),i+j=l.length→c.out3=(l.take i).map tn→c.v9=l→c.v10=(l.length:Int)→c.v11=(i:Int)→carlinglaw16_theirs.L1 Q c:=by
    intro j
    induction j with
    | zero =>
      rintro i ⟨out3,v9,v10,v11,x6,v19,v20,v21⟩ e e1 e2 e3 e4
      dsimp only at e1 e2 e3 e4
      subst e1 e2 e3 e4
      refine carlinglaw16_theirs.L1_in ?_
      unfold carlinglaw16_theirs.B1; dsimp only
      rw [dge (by omega),br_false,List.take_of_length_le (by omega)]
      exact H
    | succ j ih =>
      rintro i ⟨out3,v9,v10,v11,x6,v19,v20,v21⟩ e e1 e2 e3 e4
      dsimp only at e1 e2 e3 e4
      subst e1 e2 e3 e4
      have hi:i<v9.length:=by omega
      have hb:=hr _ (List.getElem_mem hi)
      refine carlinglaw16_theirs.L1_in ?_
      unfold carlinglaw16_theirs.B1; dsimp only
      rw [dlt hi,br_true]
      refine ix_get hi ?_
      have:=loop_0 (B:=fun S=>carlinglaw16_theirs.B2 (carlinglaw16_theirs.L1 Q) S Q) v9[i].Refs.length
        (fun k=>({out3:=(v9.take i).map tn,v9:=v9,v10:=(v9.length:Int),v11:=(i:Int),x6:=⟨v9[i].Item,(v9[i].Refs.take k).map sr⟩,v19:=v9[i].Refs,v20:=(v9[i].Refs.length:Int),v21:=(k:Int)}:carlinglaw16_theirs.V)) ?_ ?_
      · exact this
      · intro k S hk hS
        unfold carlinglaw16_theirs.B2; dsimp only
        rw [dlt hk,br_true]
        refine ix_get hk ⟨bnd_le (by simp only [List.length_append,List.length_map,List.length_take,List.length_cons,List.length_nil]; omega), ?_⟩
        rw [show (⟨v9[i].Refs[k].Place,v9[i].Refs[k].Epoch,v9[i].Refs[k].Digest⟩:seal_Ref)=sr v9[i].Refs[k] from rfl,map_take_snoc hk,wadd1 (by omega)]
        exact hS
      · intro S
        unfold carlinglaw16_theirs.B2; dsimp only
        rw [dge (by omega),br_false,List.take_of_length_le (Nat.le_refl _)]
        refine ⟨bnd_le (by simp only [List.length_append,List.length_map,List.length_take,List.length_cons,List.length_nil]; omega), ?_⟩
        rw [wadd1 (by omega)]
        refine ih (i+1) _ (by omega) ?_ rfl rfl rfl
        dsimp only
        rw [show (⟨v9[i].Item,v9[i].Refs.map sr⟩:commit_Node)=tn v9[i] from rfl,map_take_snoc hi]
  exact key l.length 0 _ (by omega) rfl rfl rfl rfl
theorem isPlace_spec {r:seal_Ref} {Q:Bool→Prop} (H:Q (rgt r.Place)):commit_isPlace r Q:=by
  unfold commit_isPlace
  unfold rgt at H
  cases h:(r.Place==(0:Int)) with
  | true=>rw [h] at H; exact H
  | false=>rw [h] at H; exact H
theorem right_spec {r:carlingref09_Ref} {Q:Bool→Prop} (H:Q (rgt r.Place)):carlingref16_right r Q:=by
  unfold carlingref16_right
  unfold rgt at H
  cases h:(r.Place==(0:Int)) with
  | true=>rw [h] at H; exact H
  | false=>rw [h] at H; exact H
theorem bad_spec {l : List seal_Ref} {Q : Bool → Unit → Prop} (hl : l.length ≤ 100000) (H : Q (!(l.all fun r => rgt r.Place)) ()) :
    slices_ContainsFunc_seal_Ref_seal_Ref (fun x0 _ K=>commit_May_1 x0 (fun r=>K r ())) l () Q:=by
  unfold slices_ContainsFunc_seal_Ref_seal_Ref slices_IndexFunc_seal_Ref_seal_Ref
  have key: ∀ j (i:Nat) (c:slices_IndexFunc_seal_Ref_seal_Ref.V),i+j=l.length→c.s0=l→c.v7=(l.length:Int)→c.v8=(i:Int)→(l.all fun r=>rgt r.Place)=((l.drop i).all fun r=>rgt r.Place)→
      slices_IndexFunc_seal_Ref_seal_Ref.L1 (fun x0 _ K=>commit_May_1 x0 (fun r=>K r ())) (fun r z=>Q (decide (r≥0)) z) c ():=by
    intro j
    induction j with
    | zero =>
      rintro i ⟨s0,v7,v8⟩ e e1 e2 e3 e4
      dsimp only at e1 e2 e3
      subst e1 e2 e3
      refine slices_IndexFunc_seal_Ref_seal_Ref.L1_in _ ?_
      unfold slices_IndexFunc_seal_Ref_seal_Ref.B1; dsimp only
      rw [dge (by omega),br_false]
      rw [e4,List.drop_of_length_le (by omega)] at H
      exact H
    | succ j ih =>
      rintro i ⟨s0,v7,v8⟩ e e1 e2 e3 e4
      dsimp only at e1 e2 e3
      subst e1 e2 e3
      have hi:i<s0.length:=by omega
      refine slices_IndexFunc_seal_Ref_seal_Ref.L1_in _ ?_
      unfold slices_IndexFunc_seal_Ref_seal_Ref.B1; dsimp only
      rw [dlt hi,br_true]
      refine ix_get hi ?_
      unfold commit_May_1
      refine isPlace_spec ?_
      have e5:=e4
      rw [drop_at hi,List.all_cons] at e4
      cases hh:rgt s0[i].Place with
      | false =>
        rw [hh] at e4
        show br true _ _
        rw [br_true]
        rw [e4] at H
        rw [decide_eq_true (by omega)]
        exact H
      | true =>
        rw [hh] at e4
        show br false _ _
        rw [br_false,wadd1 (by omega)]
        exact ih (i+1) _ (by omega) rfl rfl rfl e4
  exact key l.length 0 _ (by omega) rfl rfl rfl rfl
variable {n:Int}
theorem may3_spec (N : NOk n) {l : List carlingref16_Node} (hl : l.length ≤ 100000) (hr : ∀ x ∈ l, x.Refs.length ≤ 100000) {Q : commit_May.QT} {need : List Int} (hn : need.length ≤ 100000) (H : Q (need.all (okOne (hOf n) l))) :
    ∀ j (i:Nat) (c:commit_May.V),i+j=need.length→c.nodes1=l.map tn→c.s3=⟨newB n⟩→c.v44=need→c.v45=(need.length:Int)→c.v46=(i:Int)→need.all (okOne (hOf n) l)=(need.drop i).all (okOne (hOf n) l)→commit_May.L3 Q c:=by
  intro j
  induction j with
  | zero =>
    rintro i ⟨nodes1,changes2,s3,last7,v15,v16,v17,c9,v37,v44,v45,v46,v71⟩ e e1 e2 e3 e4 e5 e6
    dsimp only at e1 e2 e3 e4 e5
    subst e1 e2 e3 e4 e5
    refine commit_May.L3_in ?_
    unfold commit_May.B3; dsimp only
    rw [dge (by omega),br_false]
    rw [e6,List.drop_of_length_le (by omega)] at H
    exact H
  | succ j ih =>
    rintro i ⟨nodes1,changes2,s3,last7,v15,v16,v17,c9,v37,v44,v45,v46,v71⟩ e e1 e2 e3 e4 e5 e6
    dsimp only at e1 e2 e3 e4 e5
    subst e1 e2 e3 e4 e5
    have hi:i<v44.length:=by omega
    refine commit_May.L3_in ?_
    unfold commit_May.B3; dsimp only
    rw [dlt hi,br_true]
    refine ix_get hi ?_
    refine find_spec hl hr ?_
    have e7:=e6
    rw [drop_at hi,List.all_cons] at e6
    have hlen:((refsOf (fnd l v44[i])).length)≤100000:=by
      cases hf:fnd l v44[i] with
      | none=>exact Nat.zero_le _
      | some x=>exact hr x (List.mem_of_find?_eq_some hf)
    unfold okOne at e6
    cases hs:(fnd l v44[i]).isSome with
    | false =>
      rw [hs] at e6
      rw [show (!false)=true from rfl,br_true]
      unfold commit_May.K4; dsimp only
      rw [br_true]
      rw [show v44.all (okOne (hOf n) l)=false from e6] at H
      exact H
    | true =>
      rw [hs] at e6
      rw [show (!true)=false from rfl,br_false]
      refine kids_spec N.wb ?_
      rw [N.kids,List.length_map]
      cases hk:((refsOf (fnd l v44[i])).length==(kidsR (hOf n) v44[i]).length) with
      | false =>
        rw [hk] at e6
        rw [show (((refsOf (fnd l v44[i])).length:Int) !=((kidsR (hOf n) v44[i]).length:Int))=true by
          have:=of_decide_eq_false (show decide ((refsOf (fnd l v44[i])).length=(kidsR (hOf n) v44[i]).length)=false from hk)
          simp; omega,br_true]
        unfold commit_May.K4; dsimp only
        rw [br_true]
        rw [show v44.all (okOne (hOf n) l)=false from e6] at H
        exact H
      | true =>
        rw [hk] at e6
        rw [show (((refsOf (fnd l v44[i])).length:Int) !=((kidsR (hOf n) v44[i]).length:Int))=false by
          have:=of_decide_eq_true (show decide ((refsOf (fnd l v44[i])).length=(kidsR (hOf n) v44[i]).length)=true from hk)
          simp; omega,br_false]
        refine bad_spec (by rw [List.length_map]; exact hlen) ?_
        unfold commit_May.K4; dsimp only
        rw [List.all_map]
        show br (!((refsOf (fnd l v44[i])).all fun r=>rgt r.Place)) _ _
        cases ha:((refsOf (fnd l v44[i])).all fun r=>rgt r.Place) with
        | false =>
          rw [ha] at e6
          rw [show v44.all (okOne (hOf n) l)=false from e6] at H
          exact H
        | true =>
          rw [ha] at e6
          rw [show (!true)=false from rfl,br_false,wadd1 (by omega)]
          exact ih (i+1) _ (by omega) rfl rfl rfl rfl rfl e6
theorem may_spec (N : NOk n) {l : List carlingref16_Node} (hl : l.length ≤ 100000) (hr : ∀ x ∈ l, x.Refs.length ≤ 100000) {cs : List carlingref16_Change} (hc : cs.length ≤ 100000) {Q : commit_May.QT}
    (H:Q (mayS n (hOf n) l cs)):commit_May ⟨newB n⟩ (l.map tn) (cs.map tc) Q:=by
  unfold commit_May
  have key: ∀ j (i:Nat) (c:commit_May.V),i+j=cs.length→c.nodes1=l.map tn→c.changes2=cs.map tc→c.s3=⟨newB n⟩→c.v15=cs.map tc→c.v16=(cs.length:Int)→c.v17=(i:Int)→
      chk n (-1) (cs.map fun x=>(x.Page,x.Bytes.length))=chk n c.last7 ((cs.drop i).map fun x=>(x.Page,x.Bytes.length))→commit_May.L1 Q c:=by
    intro j
    induction j with
    | zero =>
      rintro i ⟨nodes1,changes2,s3,last7,v15,v16,v17,c9,v37,v44,v45,v46,v71⟩ e e1 e2 e3 e4 e5 e6 e7
      dsimp only at e1 e2 e3 e4 e5 e6 e7
      subst e1 e2 e3 e4 e5 e6
      refine commit_May.L1_in ?_
      unfold commit_May.B1; dsimp only
      rw [dge (by omega),br_false]
      unfold mayS at H
      rw [e7,List.drop_of_length_le (by omega)] at H
      refine pages16_spec (by rw [List.length_map]; exact hc) ?_
      rw [List.map_map]
      refine need_spec N (by rw [List.length_map]; exact hc) ?_
      have hnl:=needS_len (hOf n) (cs.map (·.Page))
      have hsm:=N.wh.small
      exact may3_spec N hl hr (need:=needS (hOf n) (cs.map (·.Page))) (by omega) H (needS (hOf n) (cs.map (·.Page))).length 0 _ (by omega) rfl rfl rfl rfl rfl rfl
    | succ j ih =>
      rintro i ⟨nodes1,changes2,s3,last7,v15,v16,v17,c9,v37,v44,v45,v46,v71⟩ e e1 e2 e3 e4 e5 e6 e7
      dsimp only at e1 e2 e3 e4 e5 e6 e7
      subst e1 e2 e3 e4 e5 e6
      have hi:i<cs.length:=by omega
      refine commit_May.L1_in ?_
      unfold commit_May.B1; dsimp only
      rw [dlt hi,br_true]
      refine ix_get (by rw [List.length_map]; exact hi) ?_
      rw [List.getElem_map]
      rw [drop_at hi,List.map_cons] at e7
      simp only [chk] at e7
      unfold mayS at H
      show br (decide (cs[i].Page≤last7)) _ _
      by_cases h1:cs[i].Page≤last7
      · rw [decide_eq_true h1, br_true]
        unfold commit_May.K2; dsimp only
        rw [br_true]
        rw [e7,decide_eq_false (show ¬ (last7<cs[i].Page) by omega)] at H
        exact H
      · rw [decide_eq_false h1, br_false]
        rw [decide_eq_true (show last7<cs[i].Page by omega)] at e7
        refine pages_spec N.wb ?_
        rw [N.pages]
        show br (decide (cs[i].Page≥n)) _ _
        by_cases h2:cs[i].Page≥n
        · rw [decide_eq_true h2, br_true]
          unfold commit_May.K2; dsimp only
          rw [br_true]
          rw [e7,decide_eq_false (show ¬ (cs[i].Page<n) by omega)] at H
          exact H
        · rw [decide_eq_false h2, br_false]
          rw [decide_eq_true (show cs[i].Page<n by omega)] at e7
          unfold commit_May.K2; dsimp only
          show br ((cs[i].Bytes.length:Int) !=256) _ _
          by_cases h3:cs[i].Bytes.length=256
          · rw [h3] at e7 ⊢
            rw [show (((256:Nat):Int) !=256)=false by decide,br_false,wadd1 (by omega)]
            exact ih (i+1) _ (by omega) rfl rfl rfl rfl rfl rfl e7
          · rw [show (cs[i].Bytes.length == 256) = false by rw [beq_eq_false_iff_ne]; exact h3] at e7
            rw [show ((cs[i].Bytes.length:Int) !=256)=true by simp; omega,br_true]
            rw [e7] at H
            exact H
  refine key cs.length 0 _ (by omega) rfl rfl rfl rfl ?_ rfl rfl
  dsimp only; rw [List.length_map]
theorem may5R (h:HS) {Q:carlingref16_May.QT} {S3:carlingref16_May.V→Prop} (rs:List carlingref09_Ref) (hl:rs.length≤100000):
    ∀ j (i : Nat) (c : carlingref16_May.V), i + j = rs.length → c.refs10 = rs → c.k12 = (i : Int) →
      (((rs.drop i).all fun r=>rgt r.Place)=false→Q false)→(((rs.drop i).all fun r=>rgt r.Place)=true→S3 {c with i9:=IntKind.wrap .i64 (c.i9+1),k12:=(rs.length:Int)})→carlingref16_May.L5 S3 Q c:=by
  intro j
  induction j with
  | zero =>
    rintro i ⟨l1,c2,s3,i7,v61,need8,i9,refs10,v94,k12⟩ e e1 e2 H1 H2
    dsimp only at e1 e2 H1 H2
    subst e1 e2
    refine carlingref16_May.L5_in _ ?_
    unfold carlingref16_May.B5; dsimp only
    rw [dge (by omega),br_false]
    rw [show i=refs10.length by omega]
    exact H2 (by rw [List.drop_of_length_le (by omega)]; rfl)
  | succ j ih =>
    rintro i ⟨l1,c2,s3,i7,v61,need8,i9,refs10,v94,k12⟩ e e1 e2 H1 H2
    dsimp only at e1 e2 H1 H2
    subst e1 e2
    have hi:i<refs10.length:=by omega
    refine carlingref16_May.L5_in _ ?_
    unfold carlingref16_May.B5; dsimp only
    rw [dlt hi,br_true]
    refine ix_get hi ?_
    refine right_spec ?_
    rw [drop_at hi,List.all_cons] at H1 H2
    cases hh:rgt refs10[i].Place with
    | false =>
      rw [hh] at H1
      exact H1 rfl
    | true =>
      rw [hh] at H1 H2
      rw [show (!true)=false from rfl,br_false,wadd1 (by omega)]
      exact ih (i+1) _ (by omega) rfl rfl H1 H2
theorem may3R (N : NOk n) {l : List carlingref16_Node} (hl : l.length ≤ 100000) (hr : ∀ x ∈ l, x.Refs.length ≤ 100000) {Q : carlingref16_May.QT} {need : List Int} (hn : need.length ≤ 100000) (H : Q (need.all (okOne (hOf n) l))) :
    ∀ j (i:Nat) (c:carlingref16_May.V),i+j=need.length→c.l1=l→c.s3=hOf n→c.need8=need→c.i9=(i:Int)→need.all (okOne (hOf n) l)=(need.drop i).all (okOne (hOf n) l)→carlingref16_May.L3 Q c:=by
  intro j
  induction j with
  | zero =>
    rintro i ⟨l1,c2,s3,i7,v61,need8,i9,refs10,v94,k12⟩ e e1 e2 e3 e4 e6
    dsimp only at e1 e2 e3 e4
    subst e1 e2 e3 e4
    refine carlingref16_May.L3_in ?_
    unfold carlingref16_May.B3; dsimp only
    rw [dge (by omega),br_false]
    rw [e6,List.drop_of_length_le (by omega)] at H
    exact H
  | succ j ih =>
    rintro i ⟨l1,c2,s3,i7,v61,need8,i9,refs10,v94,k12⟩ e e1 e2 e3 e4 e6
    dsimp only at e1 e2 e3 e4
    subst e1 e2 e3 e4
    have hi:i<need8.length:=by omega
    refine carlingref16_May.L3_in ?_
    unfold carlingref16_May.B3; dsimp only
    rw [dlt hi,br_true]
    refine ix_get hi ?_
    refine findR_spec hl ?_
    have e7:=e6
    rw [drop_at hi,List.all_cons] at e6
    have hlen:((refsOf (fnd l1 need8[i])).length)≤100000:=by
      cases hf:fnd l1 need8[i] with
      | none=>exact Nat.zero_le _
      | some x=>exact hr x (List.mem_of_find?_eq_some hf)
    unfold okOne at e6
    cases hs:(fnd l1 need8[i]).isSome with
    | false =>
      rw [hs] at e6
      rw [show (!false)=true from rfl,br_true]
      unfold carlingref16_May.K4; dsimp only
      rw [br_true]
      rw [show need8.all (okOne (hOf n) l1)=false from e6] at H
      exact H
    | true =>
      rw [hs] at e6
      rw [show (!true)=false from rfl,br_false]
      refine ix_get hi ?_
      refine kidsR_spec N.wh ?_
      unfold carlingref16_May.K4; dsimp only
      cases hk:((refsOf (fnd l1 need8[i])).length==(kidsR (hOf n) need8[i]).length) with
      | false =>
        rw [hk] at e6
        rw [show (((refsOf (fnd l1 need8[i])).length:Int) !=((kidsR (hOf n) need8[i]).length:Int))=true by
          have:=of_decide_eq_false (show decide ((refsOf (fnd l1 need8[i])).length=(kidsR (hOf n) need8[i]).length)=false from hk)
          simp; omega,br_true]
        rw [show need8.all (okOne (hOf n) l1)=false from e6] at H
        exact H
      | true =>
        rw [hk] at e6
        rw [show (((refsOf (fnd l1 need8[i])).length:Int) !=((kidsR (hOf n) need8[i]).length:Int))=false by
          have:=of_decide_eq_true (show decide ((refsOf (fnd l1 need8[i])).length=(kidsR (hOf n) need8[i]).length)=true from hk)
          simp; omega,br_false]
        refine may5R (hOf n) (refsOf (fnd l1 need8[i])) hlen (refsOf (fnd l1 need8[i])).length 0 _ (by omega) rfl rfl ?_ ?_
        · intro ha
          rw [List.drop_zero] at ha
          rw [ha] at e6
          rw [show need8.all (okOne (hOf n) l1)=false from e6] at H
          exact H
        · intro ha
          rw [List.drop_zero] at ha
          rw [ha] at e6
          dsimp only
          rw [wadd1 (by omega)]
          exact ih (i+1) _ (by omega) rfl rfl rfl rfl e6
theorem mayR_spec (N : NOk n) {l : List carlingref16_Node} (hl : l.length ≤ 100000) (hr : ∀ x ∈ l, x.Refs.length ≤ 100000) {cs : List carlingref16_Change} (hc : cs.length ≤ 100000) {Q : carlingref16_May.QT}
    (H:Q (mayS n (hOf n) l cs)):carlingref16_May (hOf n) l cs Q:=by
  unfold carlingref16_May
  have hP:=N.P
  let last:=fun i:Nat=>if i=0 then (-1:Int) else ((cs[i - 1]?).map (·.Page)).getD (-1)
  have hlast: ∀ i (h:i<cs.length),last (i+1)=cs[i].Page:=by
    intro i h
    show (if i+1=0 then (-1:Int) else ((cs[i+1 - 1]?).map (·.Page)).getD (-1))=_
    rw [if_neg (by omega),Nat.add_sub_cancel,List.getElem?_eq_getElem h]; rfl
  have key: ∀ j (i:Nat) (c:carlingref16_May.V),i+j=cs.length→c.l1=l→c.c2=cs→c.s3=hOf n→c.i7=(i:Int)→ -1≤last i→
      chk n (-1) (cs.map fun x=>(x.Page,x.Bytes.length))=chk n (last i) ((cs.drop i).map fun x=>(x.Page,x.Bytes.length))→carlingref16_May.L1 Q c:=by
    intro j
    induction j with
    | zero =>
      rintro i ⟨l1,c2,s3,i7,v61,need8,i9,refs10,v94,k12⟩ e e1 e2 e3 e4 e6 e7
      dsimp only at e1 e2 e3 e4
      subst e1 e2 e3 e4
      refine carlingref16_May.L1_in ?_
      unfold carlingref16_May.B1; dsimp only
      rw [dge (by omega),br_false]
      unfold mayS at H
      rw [e7,List.drop_of_length_le (by omega)] at H
      refine pagesR_spec hc ?_
      refine needR_spec N (by rw [List.length_map]; exact hc) ?_
      have hnl:=needS_len (hOf n) (c2.map (·.Page))
      have hsm:=N.wh.small
      exact may3R N hl hr (need:=needS (hOf n) (c2.map (·.Page))) (by omega) H (needS (hOf n) (c2.map (·.Page))).length 0 _ (by omega) rfl rfl rfl rfl rfl
    | succ j ih =>
      rintro i ⟨l1,c2,s3,i7,v61,need8,i9,refs10,v94,k12⟩ e e1 e2 e3 e4 e6 e7
      dsimp only at e1 e2 e3 e4
      subst e1 e2 e3 e4
      have hi:i<c2.length:=by omega
      refine carlingref16_May.L1_in ?_
      unfold carlingref16_May.B1; dsimp only
      rw [dlt hi,br_true]
      refine ix_get hi ?_
      rw [drop_at hi,List.map_cons] at e7
      simp only [chk] at e7
      unfold mayS at H
      have tail:last i<c2[i].Page→c2[i].Page<n→carlingref16_May.K2 (carlingref16_May.L1 Q) Q {({l1:=l1,c2:=c2,s3:=hOf n,i7:=(i:Int),v61:=v61,need8:=need8,i9:=i9,refs10:=refs10,v94:=v94,k12:=k12}:carlingref16_May.V) with v61:=((c2[i].Bytes.length:Int) !=256)}:=by
        intro h1 h2
        rw [decide_eq_true h1,decide_eq_true h2] at e7
        unfold carlingref16_May.K2; dsimp only
        by_cases h3:c2[i].Bytes.length=256
        · rw [h3] at e7 ⊢
          rw [show (((256:Nat):Int) !=256)=false by decide,br_false,wadd1 (by omega)]
          refine ih (i+1) _ (by omega) rfl rfl rfl rfl ?_ ?_
          · rw [hlast i hi]; omega
          · rw [hlast i hi]; exact e7
        · rw [show (c2[i].Bytes.length == 256) = false by rw [beq_eq_false_iff_ne]; exact h3] at e7
          rw [show ((c2[i].Bytes.length:Int) !=256)=true by simp; omega,br_true]
          rw [e7] at H
          exact H
      have bad:(¬ last i<c2[i].Page∨ ¬ c2[i].Page<n)→carlingref16_May.K2 (carlingref16_May.L1 Q) Q {({l1:=l1,c2:=c2,s3:=hOf n,i7:=(i:Int),v61:=v61,need8:=need8,i9:=i9,refs10:=refs10,v94:=v94,k12:=k12}:carlingref16_May.V) with v61:=true}:=by
        intro h
        unfold carlingref16_May.K2; dsimp only
        rw [br_true]
        rcases h with h | h
        · rw [decide_eq_false h] at e7
          rw [e7] at H; exact H
        · rw [decide_eq_false h, Bool.false_and, Bool.and_false] at e7
          rw [e7] at H; exact H
      by_cases h1:c2[i].Page<0
      · rw [decide_eq_true h1, br_true]
        exact bad (.inl (by omega))
      rw [decide_eq_false h1,br_false]
      refine ix_get hi ?_
      rw [hP]
      by_cases h2:c2[i].Page≥n
      · rw [decide_eq_true h2, br_true]
        exact bad (.inr (by omega))
      rw [decide_eq_false h2,br_false]
      by_cases h0:i=0
      · subst h0
        rw [decide_eq_false (by omega),br_false]
        refine ix_get hi ?_
        exact tail (by show (-1:Int)<_; omega) (by omega)
      · rw [decide_eq_true (by omega), br_true]
        have hi1:i - 1<c2.length:=by omega
        have hl1:last i=c2[i - 1].Page:=by
          show (if i=0 then (-1:Int) else ((c2[i - 1]?).map (·.Page)).getD (-1))=_
          rw [if_neg h0,List.getElem?_eq_getElem hi1]; rfl
        refine ixP_eq (i - 1) (by rw [wrap64 (by omega) (by omega)]; omega) hi1 ?_
        refine ix_get hi ?_
        by_cases h3:c2[i - 1].Page≥c2[i].Page
        · rw [decide_eq_true h3, br_true]
          exact bad (.inl (by omega))
        · rw [decide_eq_false h3, br_false]
          refine ix_get hi ?_
          exact tail (by omega) (by omega)
  exact key cs.length 0 _ (by omega) rfl rfl rfl rfl (Int.le_refl _) rfl
end Go.Pt
