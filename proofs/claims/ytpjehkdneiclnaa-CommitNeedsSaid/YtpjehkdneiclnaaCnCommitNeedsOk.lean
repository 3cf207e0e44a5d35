import Derived.Test.YtpjehkdneiclnaaCnAliveS
import Derived.Test.YtpjehkdneiclnaaCnPo
set_option linter.unusedVariables false
set_option linter.unusedSimpArgs false
namespace Go.Pt
open Go Go.Wc Go.Pu Go.Laws
theorem far_spec {l : List carlingref16_Node} {cs : List carlingref16_Change} {Q : carlinglaw16_far.QT}
    (Ht:Q true) (Hf:l.length≤60→cs.length≤20→(∀ x ∈ l,x.Refs.length≤20)→(∀ x ∈ cs,x.Bytes.length≤600)→Q false):carlinglaw16_far l cs Q:=by
  unfold carlinglaw16_far
  by_cases h1:(l.length:Int)>60
  · rw [decide_eq_true h1, br_true]
    unfold carlinglaw16_far.K1; dsimp only
    exact Ht
  rw [decide_eq_false h1,br_false]
  unfold carlinglaw16_far.K1; dsimp only
  by_cases h2:(cs.length:Int)>20
  · rw [decide_eq_true h2,br_true]; exact Ht
  rw [decide_eq_false h2,br_false]
  have l3:(∀ x ∈ l,x.Refs.length≤20)→ ∀ j (i:Nat) (m:carlinglaw16_far.V),i+j=cs.length→m.v28=cs→m.v29=(cs.length:Int)→m.v30=(i:Int)→(∀ x ∈ cs.take i,x.Bytes.length≤600)→carlinglaw16_far.L3 Q m:=by
    intro hr j
    induction j with
    | zero =>
      rintro i ⟨l0,c1,v16,v17,v18,v19,v28,v29,v30⟩ e e1 e2 e3 h
      dsimp only at e1 e2 e3
      subst e1 e2 e3
      refine carlinglaw16_far.L3_in ?_
      unfold carlinglaw16_far.B3; dsimp only
      rw [dge (by omega),br_false]
      rw [List.take_of_length_le (by omega)] at h
      exact Hf (by omega) (by omega) hr h
    | succ j ih =>
      rintro i ⟨l0,c1,v16,v17,v18,v19,v28,v29,v30⟩ e e1 e2 e3 h
      dsimp only at e1 e2 e3
      subst e1 e2 e3
      have hi:i<v28.length:=by omega
      refine carlinglaw16_far.L3_in ?_
      unfold carlinglaw16_far.B3; dsimp only
      rw [dlt hi,br_true]
      refine ix_get hi ?_
      by_cases h3:(v28[i].Bytes.length:Int)>600
      · rw [decide_eq_true h3]; exact Ht
      · rw [decide_eq_false h3, br_false, wadd1 (by omega)]
        refine ih (i+1) _ (by omega) rfl rfl rfl ?_
        intro x hx
        rw [take_snoc hi] at hx
        rcases List.mem_append.1 hx with hx | hx
        · exact h x hx
        · rw [List.mem_singleton.1 hx]; omega
  have l2: ∀ j (i:Nat) (m:carlinglaw16_far.V),i+j=l.length→m.v17=l→m.v18=(l.length:Int)→m.v19=(i:Int)→m.c1=cs→(∀ x ∈ l.take i,x.Refs.length≤20)→carlinglaw16_far.L2 Q m:=by
    intro j
    induction j with
    | zero =>
      rintro i ⟨l0,c1,v16,v17,v18,v19,v28,v29,v30⟩ e e1 e2 e3 e4 h
      dsimp only at e1 e2 e3 e4
      subst e1 e2 e3 e4
      refine carlinglaw16_far.L2_in ?_
      unfold carlinglaw16_far.B2; dsimp only
      rw [dge (by omega),br_false]
      rw [List.take_of_length_le (by omega)] at h
      exact l3 h c1.length 0 _ (by omega) rfl rfl rfl (by simp)
    | succ j ih =>
      rintro i ⟨l0,c1,v16,v17,v18,v19,v28,v29,v30⟩ e e1 e2 e3 e4 h
      dsimp only at e1 e2 e3 e4
      subst e1 e2 e3 e4
      have hi:i<v17.length:=by omega
      refine carlinglaw16_far.L2_in ?_
      unfold carlinglaw16_far.B2; dsimp only
      rw [dlt hi,br_true]
      refine ix_get hi ?_
      by_cases h3:(v17[i].Refs.length:Int)>20
      · rw [decide_eq_true h3]; exact Ht
      · rw [decide_eq_false h3, br_false, wadd1 (by omega)]
        refine ih (i+1) _ (by omega) rfl rfl rfl rfl ?_
        intro x hx
        rw [take_snoc hi] at hx
        rcases List.mem_append.1 hx with hx | hx
        · exact h x hx
        · rw [List.mem_singleton.1 hx]; omega
  exact l2 l.length 0 _ (by omega) rfl rfl rfl rfl (by simp)
theorem same_spec {y:List carlingref09_Ref} {Q:carlinglaw16_same.QT} (hy:y.length≤1000) (H:Q true):carlinglaw16_same [⟨0,y.map sr⟩] [⟨0,y⟩] Q:=by
  unfold carlinglaw16_same
  rw [show ((([(⟨0,y.map sr⟩:commit_Node)].length:Nat):Int) !=(([(⟨0,y⟩:carlingref16_Node)].length:Nat):Int))=false from rfl,br_false]
  refine carlinglaw16_same.L1_in ?_
  unfold carlinglaw16_same.B1; dsimp only
  rw [show decide ((0:Int)<(([(⟨0,y.map sr⟩:commit_Node)].length:Nat):Int))=true from rfl,br_true]
  refine ixP_eq 0 rfl Nat.zero_lt_one (ixP_eq 0 rfl Nat.zero_lt_one ?_)
  show br ((0:Int) !=0) _ _
  rw [show ((0:Int) !=0)=false from rfl,br_false]
  refine ixP_eq 0 rfl Nat.zero_lt_one (ixP_eq 0 rfl Nat.zero_lt_one ?_)
  show carlinglaw16_same.K2 _ Q _
  unfold carlinglaw16_same.K2
  show br (((y.map sr).length:Int) !=(y.length:Int)) _ _
  rw [List.length_map,show ((y.length:Int) !=(y.length:Int))=false by simp,br_false]
  refine ixP_eq 0 rfl Nat.zero_lt_one ?_
  have l3: ∀ j (i:Nat) (m:carlinglaw16_same.V),i+j=y.length→m.a0=[⟨0,y.map sr⟩]→m.b1=[⟨0,y⟩]→m.v14=1→m.v15=0→m.i5=0→m.v48=y.map sr→m.v49=(y.length:Int)→m.v50=(i:Int)→carlinglaw16_same.L3 (carlinglaw16_same.L1 Q) Q m:=by
    intro j
    induction j with
    | zero =>
      rintro i ⟨a0,b1,v14,v15,i5,v43,v48,v49,v50⟩ e e1 e2 e3 e4 e5 e6 e7 e8
      dsimp only at e1 e2 e3 e4 e5 e6 e7 e8
      subst e1 e2 e3 e4 e5 e6 e7 e8
      refine carlinglaw16_same.L3_in _ ?_
      unfold carlinglaw16_same.B3; dsimp only
      rw [dge (by omega),br_false]
      refine carlinglaw16_same.L1_in ?_
      unfold carlinglaw16_same.B1; dsimp only
      rw [show decide (IntKind.wrap .i64 ((0:Int)+1)<1)=false from rfl,br_false]
      exact H
    | succ j ih =>
      rintro i ⟨a0,b1,v14,v15,i5,v43,v48,v49,v50⟩ e e1 e2 e3 e4 e5 e6 e7 e8
      dsimp only at e1 e2 e3 e4 e5 e6 e7 e8
      subst e1 e2 e3 e4 e5 e6 e7 e8
      have hi:i<y.length:=by omega
      refine carlinglaw16_same.L3_in _ ?_
      unfold carlinglaw16_same.B3; dsimp only
      rw [dlt hi,br_true]
      refine ix_get (by rw [List.length_map]; exact hi) (ixP_eq 0 rfl Nat.zero_lt_one (ix_get hi ?_))
      rw [List.getElem_map]
      change br (!(((sr y[i]).Place==y[i].Place) && (((sr y[i]).Epoch==y[i].Epoch) && (((sr y[i]).Digest.toList==y[i].Digest.toList) && true)))) _ _
      rw [show (!(((sr y[i]).Place==y[i].Place) && (((sr y[i]).Epoch==y[i].Epoch) && (((sr y[i]).Digest.toList==y[i].Digest.toList) && true))))=false by simp [sr],br_false,wadd1 (by omega)]
      exact ih (i+1) _ (by omega) rfl rfl rfl rfl rfl rfl rfl rfl
  exact l3 y.length 0 _ (by omega) rfl rfl rfl rfl rfl rfl (by dsimp only; rw [List.getElem_cons_zero,List.length_map]) rfl
theorem refs_len {l:List carlingref16_Node} {it:Int} {b:Nat} (h: ∀ x ∈ l,x.Refs.length≤b):(refsOf (fnd l it)).length≤b:=by
  cases e:fnd l it with
  | none=>exact Nat.zero_le _
  | some x=>exact h x (List.mem_of_find?_eq_some e)
variable {n:Int}
theorem law_body (N:NOk n) {l:List carlingref16_Node} {cs:List carlingref16_Change} (hl:l.length≤60) (hc:cs.length≤20) (hr: ∀ x ∈ l,x.Refs.length≤20) {Q:carlinglaw16_CommitNeeds.QT} (H: ∀ σ',Q true σ') {σ:St Obj}:
    ∀ m:carlinglaw16_CommitNeeds.V,m.l1=l→m.c2=cs→m.s8=⟨newB n⟩→m.h10=hOf n→m.v43=false→carlinglaw16_CommitNeeds.K1 Q m σ:=by
  have hl':l.length≤100000:=by omega
  have hc':cs.length≤100000:=by omega
  have hr': ∀ x ∈ l,x.Refs.length≤100000:=fun x hx=>by have:=hr x hx; omega
  have hit:itemsS (newB n)≤400:=by have h1:=N.items; have h2:=N.wh.small; omega
  have hit0:0≤itemsS (newB n):=by have h1:=N.items; omega
  have l4: ∀ (j i:Nat) (m:carlinglaw16_CommitNeeds.V),(i:Int)+j=itemsS (newB n)+1→m.l1=l→m.c2=cs→m.s8=⟨newB n⟩→m.h10=hOf n→m.v89=itemsS (newB n)+1→m.v90=(i:Int)→carlinglaw16_CommitNeeds.L4 Q m σ:=by
    intro j
    induction j with
    | zero =>
      intro i m e e1 e2 e3 e4 e5 e6
      refine carlinglaw16_CommitNeeds.L4_in ?_
      unfold carlinglaw16_CommitNeeds.B4
      rw [e1,e2,e3,e4,e5,e6,decide_eq_false (by omega),br_false]
      refine theirs_spec hl' hr' ?_
      refine changed_spec hc' ?_
      refine may_spec N hl' hr' hc' ?_
      refine mayR_spec N hl' hr' hc' ?_
      rw [show (mayS n (hOf n) l cs==mayS n (hOf n) l cs)=true by simp,br_true]
      refine theirs_spec hl' hr' ?_
      refine full_spec hc' ?_
      have hc2:(cs.map fullS).length≤100000:=by rw [List.length_map]; exact hc'
      refine changed_spec hc2 ?_
      refine may_spec N hl' hr' hc2 ?_
      refine full_spec hc' ?_
      refine mayR_spec N hl' hr' hc2 ?_
      rw [show (mayS n (hOf n) l (cs.map fullS)==mayS n (hOf n) l (cs.map fullS))=true by simp,br_true]
      exact alive_spec H
    | succ j ih =>
      intro i m e e1 e2 e3 e4 e5 e6
      refine carlinglaw16_CommitNeeds.L4_in ?_
      unfold carlinglaw16_CommitNeeds.B4
      rw [e1,e5,e6,decide_eq_true (by omega),br_true]
      refine theirs_spec hl' hr' ?_
      refine find_spec hl' hr' ?_
      refine findR_spec hl' ?_
      rw [show ((fnd l (i:Int)).isSome==(fnd l (i:Int)).isSome)=true by simp,show (!true)=false from rfl,br_false]
      refine same_spec (by have:=refs_len (it:=(i:Int)) hr; omega) ?_
      unfold carlinglaw16_CommitNeeds.K5
      rw [show (!true)=false from rfl]
      dsimp only
      rw [br_false,wadd1 (by omega)]
      exact ih (i+1) _ (by omega) (by first | exact e1 | rfl) e2 e3 e4 (by first | exact e5 | rfl) rfl
  have hneed:=needS_len (hOf n) (cs.map (·.Page))
  have hsm:=N.wh.small
  have l3: ∀ (j i:Nat) (m:carlinglaw16_CommitNeeds.V),i+j=(needS (hOf n) (cs.map (·.Page))).length→m.l1=l→m.c2=cs→m.s8=⟨newB n⟩→m.h10=hOf n→m.a15=needS (hOf n) (cs.map (·.Page))→m.b16=needS (hOf n) (cs.map (·.Page))→m.v73=((needS (hOf n) (cs.map (·.Page))).length:Int)→m.v74=(i:Int)→carlinglaw16_CommitNeeds.L3 Q m σ:=by
    intro j
    induction j with
    | zero =>
      intro i m e e1 e2 e3 e4 e5 e6 e7 e8
      refine carlinglaw16_CommitNeeds.L3_in ?_
      unfold carlinglaw16_CommitNeeds.B3
      rw [e7,e8,e3,dge (by omega),br_false]
      refine items_spec N.wb ?_
      rw [w64 (n:=itemsS (newB n)+1) (by omega)]
      exact l4 (itemsS (newB n)+1).toNat 0 _ (by omega) e1 e2 (by first | exact e3 | rfl) e4 rfl rfl
    | succ j ih =>
      intro i m e e1 e2 e3 e4 e5 e6 e7 e8
      have hi:i<(needS (hOf n) (cs.map (·.Page))).length:=by omega
      refine carlinglaw16_CommitNeeds.L3_in ?_
      unfold carlinglaw16_CommitNeeds.B3
      rw [e5,e6,e7,e8,dlt hi,br_true]
      refine ix_get hi (ix_get hi ?_)
      rw [show ∀ x:Int,(x !=x)=false from fun x=>by simp,br_false,wadd1 (by omega)]
      exact ih (i+1) _ (by omega) e1 e2 e3 e4 (by first | exact e5 | rfl) (by first | exact e6 | rfl) (by first | exact e7 | rfl) rfl
  have l2: ∀ (j i:Nat) (m:carlinglaw16_CommitNeeds.V),i+j=cs.length→m.l1=l→m.c2=cs→m.s8=⟨newB n⟩→m.h10=hOf n→m.v49=cs→m.v50=(cs.length:Int)→m.v51=(i:Int)→m.list12=(cs.take i).map (·.Page)→carlinglaw16_CommitNeeds.L2 Q m σ:=by
    intro j
    induction j with
    | zero =>
      intro i m e e1 e2 e3 e4 e5 e6 e7 e8
      refine carlinglaw16_CommitNeeds.L2_in ?_
      unfold carlinglaw16_CommitNeeds.B2
      rw [e6,e7,dge (by omega),br_false,e3,e4,e8,List.take_of_length_le (by omega)]
      have hlen:(cs.map (·.Page)).length≤100000:=by rw [List.length_map]; exact hc'
      refine need_spec N hlen ?_
      refine needR_spec N hlen ?_
      rw [show ∀ x:Int,(x !=x)=false from fun x=>by simp,br_false]
      exact l3 (needS (hOf n) (cs.map (·.Page))).length 0 _ (by omega) e1 e2 (by first | exact e3 | rfl) (by first | exact e4 | rfl) rfl rfl rfl rfl
    | succ j ih =>
      intro i m e e1 e2 e3 e4 e5 e6 e7 e8
      have hi:i<cs.length:=by omega
      refine carlinglaw16_CommitNeeds.L2_in ?_
      unfold carlinglaw16_CommitNeeds.B2
      rw [e5,e6,e7,dlt hi,br_true]
      refine ix_get hi ?_
      rw [e8]
      refine ⟨bnd_le (by simp only [List.length_map,List.length_take,List.length_cons,List.length_nil]; omega), ?_⟩
      rw [map_take_snoc hi,wadd1 (by omega)]
      exact ih (i+1) _ (by omega) e1 e2 e3 e4 (by first | exact e5 | rfl) (by first | exact e6 | rfl) rfl rfl
  intro m e1 e2 e3 e4 e5
  unfold carlinglaw16_CommitNeeds.K1
  rw [e5,br_false,e2]
  exact l2 cs.length 0 _ (by omega) e1 (by first | exact e2 | rfl) e3 e4 rfl rfl rfl rfl
theorem carlinglaw16_CommitNeeds_ok (a:Int) (w:(Lit.int .u8 a).wf=true) (l:List carlingref16_Node) (n1:l.length≤maxLen∧ ∀ x ∈ l,N_carlingref16_Node x) (c:List carlingref16_Change) (n2:c.length≤maxLen∧ ∀ x ∈ c,N_carlingref16_Change x):
    carlinglaw16_CommitNeeds a l c st0 (fun b _=>b=true):=by
  have ha:0≤a∧a<256:=by
    have h1:IntKind.min .u8≤a∧a≤IntKind.max .u8:=by simpa [Lit.wf] using w
    have h2:IntKind.min .u8=0∧IntKind.max .u8=255:=by decide
    omega
  unfold carlinglaw16_CommitNeeds
  have e:IntKind.wrap .i64 (Int.tmod (IntKind.wrap .i64 a) 14+1)=a % 14+1:=by
    rw [wrap64 (n:=a) (by omega) (by omega),Int.tmod_eq_emod_of_nonneg (by omega),wrap64 (by omega) (by omega)]
  rw [e]
  have N:NOk (a % 14+1):=nok (by omega)
  refine shape_New_spec (by omega) ?_
  refine newR_spec (by omega) N.new ?_
  refine far_spec ?_ ?_
  · rw [br_true]
    unfold carlinglaw16_CommitNeeds.K1; dsimp only
    rw [br_true,show ((0:Int)==0)=true from rfl,br_true]
    exact alive_spec fun _=>rfl
  · intro h1 h2 h3 h4
    rw [br_false]
    exact law_body N h1 h2 h3 (fun _=>rfl) _ rfl rfl rfl rfl rfl
end Go.Pt
