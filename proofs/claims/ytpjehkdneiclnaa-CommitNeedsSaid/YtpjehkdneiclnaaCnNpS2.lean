import Derived.Test.YtpjehkdneiclnaaCnNpS
set_option linter.unusedVariables false
set_option linter.unusedSimpArgs false
namespace Go.Pt
open Go Go.Wc Go.Pu
theorem sjoin_np {b:List Int} {Q:Int→Prop} (hb:b.length≤1000000) (H: ∀ r,Q r):sha_join b Q:=by
  have l1: ∀ (j:Nat) (m:sha_join.V),m.v6=b→m.v7=(b.length:Int)→0≤m.v8→m.v8+(j:Int)=(b.length:Int)→sha_join.L1 Q m:=by
    intro j
    induction j with
    | zero =>
      rintro m e1 e2 h0 h1
      refine sha_join.L1_in ?_
      unfold sha_join.B1
      rw [decide_eq_false (by omega),br_false]
      exact H _
    | succ j ih =>
      rintro m e1 e2 h0 h1
      refine sha_join.L1_in ?_
      unfold sha_join.B1
      rw [decide_eq_true (by omega),br_true]
      refine ixl (by omega) (by rw [e1]; omega) fun _=>ih _ e1 e2 ?_ ?_
      · dsimp only; rw [w64 (by omega)]; omega
      · dsimp only; rw [w64 (by omega)]; omega
  exact l1 b.length _ rfl rfl (by dsimp only; omega) (by dsimp only; omega)
theorem spread_np {b : List Int} {Q : sha_spread.QT} (hb : b.length = 64) (H : ∀ r, Q r) : sha_spread b Q := by
  have l1 : ∀ (j : Nat) (m : sha_spread.V), m.b0 = b → 0 ≤ m.v9 → m.v9 + (j : Int) = 64 → sha_spread.L1 Q m := by
    intro j
    induction j with
    | zero =>
      rintro m e1 h0 h1
      refine sha_spread.L1_in ?_
      unfold sha_spread.B1
      rw [decide_eq_false (by omega),br_false]
      exact H _
    | succ j ih =>
      rintro m e1 h0 h1
      refine sha_spread.L1_in ?_
      unfold sha_spread.B1
      rw [decide_eq_true (by omega),br_true]
      have k2: ∀ m':sha_spread.V,m'.b0=b→m'.v9=m.v9→sha_spread.K2 (sha_spread.L1 Q) Q m':=by
        intro m' e2 e3
        unfold sha_spread.K2
        refine ih _ e2 ?_ ?_
        · dsimp only; rw [w64 (by omega)]; omega
        · dsimp only; rw [w64 (by omega)]; omega
      by_cases h:m.v9<16
      · rw [decide_eq_true h, br_true, e1, w64 (n := 4 * m.v9) (by omega), w64 (n := 4 * m.v9 + 4) (by omega)]
        refine ⟨⟨by omega,by omega,by omega⟩,sjoin_np ?_ fun _=>ixv (by omega) (by omega) fun _=>k2 _ rfl rfl⟩
        have:=sub_len (l:=b) (i:=4*m.v9) (j:=4*m.v9+4) (by omega)
        omega
      · rw [decide_eq_false h, br_false, w64 (n := m.v9 - 15) (by omega), w64 (n := m.v9 - 2) (by omega), w64 (n := m.v9 - 7) (by omega), w64 (n := m.v9 - 16) (by omega)]
        exact ixv (by omega) (by omega) fun _=>ixv (by omega) (by omega) fun _=>turn_np fun _=>turn_np fun _=>turn_np fun _=>turn_np fun _=>
          ixv (by omega) (by omega) fun _=>ixv (by omega) (by omega) fun _=>ixv (by omega) (by omega) fun _=>k2 _ e1 rfl
  exact l1 64 _ rfl (by dsimp only; omega) (by dsimp only; omega)
theorem sblock_np {h : Vector Int 8} {b : List Int} {Q : sha_block.QT} (hb : b.length = 64) (H : ∀ r, Q r) : sha_block h b Q := by
  have l2: ∀ (j:Nat) (m:sha_block.V),0≤m.v92→m.v92+(j:Int)=8→sha_block.L2 Q m:=by
    intro j
    induction j with
    | zero =>
      rintro m h0 h1
      refine sha_block.L2_in ?_
      unfold sha_block.B2
      rw [decide_eq_false (by omega),br_false]
      exact H _
    | succ j ih =>
      rintro m h0 h1
      refine sha_block.L2_in ?_
      unfold sha_block.B2
      rw [decide_eq_true (by omega),br_true]
      refine ixv (by omega) (by omega) fun _=>ixv (by omega) (by omega) fun _=>ixv (by omega) (by omega) fun _=>ih _ ?_ ?_
      · dsimp only; rw [w64 (by omega)]; omega
      · dsimp only; rw [w64 (by omega)]; omega
  have l1: ∀ (j:Nat) (m:sha_block.V),0≤m.v18→m.v18+(j:Int)=64→sha_block.L1 Q m:=by
    intro j
    induction j with
    | zero =>
      rintro m h0 h1
      refine sha_block.L1_in ?_
      unfold sha_block.B1
      rw [decide_eq_false (by omega),br_false]
      exact l2 8 _ (by dsimp only; omega) (by dsimp only; omega)
    | succ j ih =>
      rintro m h0 h1
      refine sha_block.L1_in ?_
      unfold sha_block.B1
      rw [decide_eq_true (by omega),br_true]
      refine ixv (by omega) (by omega) fun _=>ixv (by omega) (by omega) fun _=>ixv (by omega) (by omega) fun _=>ixv (by omega) (by omega) fun _=>ixv (by omega) (by omega) fun _=>ixv (by omega) (by omega) fun _=>ixv (by omega) (by omega) fun _=>
        turn_np fun _=>turn_np fun _=>turn_np fun _=>ixv (by omega) (by omega) fun _=>ixv (by omega) (by omega) fun _=>ixv (by omega) (by omega) fun _=>ixv (by omega) (by omega) fun _=>turn_np fun _=>turn_np fun _=>turn_np fun _=>
        ⟨⟨by omega,by omega,by rw [Vector.length_toList]; omega⟩,⟨by omega,by omega,by rw [Vector.length_toList]; omega⟩,ixv (by omega) (by omega) fun _=>ixv (by omega) (by omega) fun _=>ixv (by omega) (by omega) fun _=>ih _ ?_ ?_⟩
      · dsimp only; rw [w64 (by omega)]; omega
      · dsimp only; rw [w64 (by omega)]; omega
  unfold sha_block
  exact spread_np hb fun _=>l1 64 _ (by dsimp only; omega) (by dsimp only; omega)
theorem swrite_np {s : sha_State} {b : List Int} {Q : sha_State_Write.QT} (hb : b.length ≤ 1000000) (hr : s.rest.length ≤ 1000) (H : ∀ r : sha_State, r.rest.length = (s.rest.length + b.length) % 64 → Q r) : sha_State_Write s b Q := by
  have l2 : ∀ (j : Nat) (m : sha_State_Write.V), m.all5.length ≤ j → m.all5.length % 64 = (s.rest.length + b.length) % 64 → sha_State_Write.L2 Q m := by
    intro j
    induction j with
    | zero =>
      rintro m h0 h1
      refine sha_State_Write.L2_in ?_
      unfold sha_State_Write.B2
      rw [decide_eq_false (by omega),br_false]
      exact H _ (by dsimp only; omega)
    | succ j ih =>
      rintro m h0 h1
      refine sha_State_Write.L2_in ?_
      unfold sha_State_Write.B2
      by_cases h:(m.all5.length:Int)≥64
      · rw [decide_eq_true h, br_true]
        refine ⟨⟨by omega,by omega,by omega⟩,sblock_np ?_ fun _=>⟨⟨by omega,by omega,by omega⟩,ih _ ?_ ?_⟩⟩
        · have:=sub_len (l:=m.all5) (i:=0) (j:=64) (by omega); omega
        · have := sub_len (l := m.all5) (i := 64) (j := (m.all5.length : Int)) (by omega)
          dsimp only; omega
        · have := sub_len (l := m.all5) (i := 64) (j := (m.all5.length : Int)) (by omega)
          dsimp only; omega
      · rw [decide_eq_false h, br_false]
        exact H _ (by dsimp only; omega)
  have k3: ∀ m:sha_State_Write.V,m.s2.rest=s.rest→m.b1=b→sha_State_Write.K3 Q m:=by
    intro m e1 e2
    unfold sha_State_Write.K3
    rw [e1,e2]
    refine ⟨bnd_le (by simp only [List.length_nil]; omega),bnd_le (by simp only [List.length_append,List.length_nil]; omega),l2 (s.rest.length+b.length) _ ?_ ?_⟩
    · dsimp only; simp only [List.length_append,List.length_nil]; omega
    · dsimp only; simp only [List.length_append,List.length_nil,Nat.zero_add]
  have k1: ∀ m:sha_State_Write.V,m.s2.rest=s.rest→m.b1=b→sha_State_Write.K1 Q m:=by
    intro m e1 e2
    unfold sha_State_Write.K1
    cases m.v17 with
    | true=>exact k3 _ e1 e2
    | false=>exact k3 _ e1 e2
  unfold sha_State_Write
  cases decide (s.n<64) with
  | true=>rw [br_true]; refine k1 _ ?_ ?_ <;> rfl
  | false=>rw [br_false]; refine k1 _ ?_ ?_ <;> rfl
theorem ssum1_np {s : sha_State} {Q : sha_State_Sum.QT} (hr : s.rest.length ≤ 1000) (H : ∀ r, Q r) : sha_State_Sum s Q := by
  have l3: ∀ (j:Nat) (m:sha_State_Sum.V),0≤m.v39→m.v39+(j:Int)=32→sha_State_Sum.L3 Q m:=by
    intro j
    induction j with
    | zero =>
      rintro m h0 h1
      refine sha_State_Sum.L3_in ?_
      unfold sha_State_Sum.B3
      rw [decide_eq_false (by omega),br_false]
      exact H _
    | succ j ih =>
      rintro m h0 h1
      refine sha_State_Sum.L3_in ?_
      unfold sha_State_Sum.B3
      rw [decide_eq_true (by omega),br_true]
      rw [dv4 (by omega),md4 (by omega),w64 (n:=m.v39 / 4) (by omega),w64 (n:=8*(m.v39 % 4)) (by omega),w64 (n:=24 - 8*(m.v39 % 4)) (by omega)]
      refine ixv (by omega) (by omega) fun _=>⟨by omega,ixv (by omega) (by omega) fun _=>ih _ ?_ ?_⟩
      · dsimp only; rw [w64 (by omega)]; omega
      · dsimp only; rw [w64 (by omega)]; omega
  have l2: ∀ (j:Nat) (m:sha_State_Sum.V),m.s1=s→m.pad3.length+j≤200→0≤m.v21→m.v21+(j:Int)=8→sha_State_Sum.L2 Q m:=by
    intro j
    induction j with
    | zero =>
      rintro m e h h0 h1
      refine sha_State_Sum.L2_in ?_
      unfold sha_State_Sum.B2
      rw [decide_eq_false (by omega),br_false,e]
      exact swrite_np (by omega) hr fun _ _=>l3 32 _ (by dsimp only; omega) (by dsimp only; omega)
    | succ j ih =>
      rintro m e h h0 h1
      refine sha_State_Sum.L2_in ?_
      unfold sha_State_Sum.B2
      rw [decide_eq_true (by omega),br_true]
      rw [w64 (n:=7 - m.v21) (by omega),w64 (n:=8*(7 - m.v21)) (by omega)]
      refine ⟨by omega,bnd_le (by simp only [List.length_cons,List.length_nil]; omega),ih _ e ?_ ?_ ?_⟩
      · dsimp only; simp only [List.length_append,List.length_cons,List.length_nil]; omega
      · dsimp only; rw [w64 (by omega)]; omega
      · dsimp only; rw [w64 (by omega)]; omega
  have l1: ∀ (j:Nat) (m:sha_State_Sum.V),m.s1=s→m.pad3.length+j≤100→(s.rest.length+m.pad3.length+8+j) % 64=0→sha_State_Sum.L1 Q m:=by
    intro j
    induction j with
    | zero =>
      rintro m e h h0
      refine sha_State_Sum.L1_in ?_
      unfold sha_State_Sum.B1
      rw [e,w64 (n:=(s.rest.length:Int)+(m.pad3.length:Int)) (by omega),w64 (n:=(s.rest.length:Int)+(m.pad3.length:Int)+8) (by omega),Int.tmod_eq_emod_of_nonneg (by omega)]
      rw [show (((s.rest.length:Int)+(m.pad3.length:Int)+8) % 64 !=0)=false by simp; omega,br_false]
      exact l2 8 _ (by first | exact e | rfl) (by dsimp only; omega) (by dsimp only; omega) (by dsimp only; omega)
    | succ j ih =>
      rintro m e h h0
      refine sha_State_Sum.L1_in ?_
      unfold sha_State_Sum.B1
      rw [e,w64 (n:=(s.rest.length:Int)+(m.pad3.length:Int)) (by omega),w64 (n:=(s.rest.length:Int)+(m.pad3.length:Int)+8) (by omega),Int.tmod_eq_emod_of_nonneg (by omega)]
      cases hh:(((s.rest.length:Int)+(m.pad3.length:Int)+8) % 64 !=0) with
      | false =>
        rw [br_false]
        exact l2 8 _ (by first | exact e | rfl) (by dsimp only; omega) (by dsimp only; omega) (by dsimp only; omega)
      | true =>
        rw [br_true]
        refine ⟨bnd_le (by simp only [List.length_cons,List.length_nil]; omega),ih _ (by first | exact e | rfl) ?_ ?_⟩
        · dsimp only; simp only [List.length_append,List.length_cons,List.length_nil]; omega
        · dsimp only; simp only [List.length_append,List.length_cons,List.length_nil]; omega
  unfold sha_State_Sum
  refine l1 ((64 - (s.rest.length+9) % 64) % 64) _ rfl ?_ ?_
  · dsimp only; simp only [List.length_cons,List.length_nil]; omega
  · dsimp only; simp only [List.length_cons,List.length_nil]; omega
theorem ssum_np {b:List Int} {Q:sha_Sum.QT} (hb:b.length≤1000000) (H: ∀ r,Q r):sha_Sum [b] Q:=by
  unfold sha_Sum sha_New
  refine sha_Sum.L1_in ?_
  unfold sha_Sum.B1; dsimp only
  rw [show decide ((0:Int)<(([b].length:Nat):Int))=true from rfl,br_true]
  refine ixP_eq 0 rfl (by simp) ?_
  refine swrite_np hb (by decide) fun r hr=> ?_
  refine sha_Sum.L1_in ?_
  unfold sha_Sum.B1; dsimp only
  rw [show decide (IntKind.wrap .i64 ((0:Int)+1)<(([b].length:Nat):Int))=false from rfl,br_false]
  exact ssum1_np (by rw [hr]; omega) fun _=>H _
theorem digest_np {b:List Int} {σ:St Obj} {Q:seal_Book_Digest.QT} (hb:b.length≤1000000) (H: ∀ r,Q r σ):seal_Book_Digest none b σ Q:=by
  unfold seal_Book_Digest
  rw [show (!(Option.isNone (none:Option Addr)))=false from rfl,br_false]
  unfold seal_Book_Digest.K1; dsimp only
  rw [br_false]
  exact ssum_np hb fun _=>H _
theorem hide_np {k:Vector Int 32} {e pl n:Int} {p:List Int} {σ:St Obj} {Q:seal_Hide.QT} (hp:p.length=256) (hn:0≤n) (hpl:pl=0∨pl=1) (H: ∀ r d,Q r ⟨pl,e,d⟩ 0 σ):seal_Hide none k e pl n p σ Q:=by
  unfold seal_Hide
  refine seal_np hp hn fun r hr=> ?_
  rw [show ((0:Int) !=0)=false from rfl,br_false]
  unfold seal_isPlace
  have fin: ∀ m:seal_Hide.V,m.b0=none→m.epoch2=e→m.place3=pl→m.v31=false→m.x15.length=256→seal_Hide.K1 Q m σ:=by
    rintro ⟨b0,epoch2,place3,v13,x15,v31⟩ e1 e2 e3 e4 e5
    dsimp only at e1 e2 e3 e4 e5
    subst e1 e2 e3 e4
    unfold seal_Hide.K1; dsimp only
    rw [br_false]
    exact digest_np (by omega) fun _=>H _ _
  rcases hpl with rfl | rfl
  · rw [show ((0 : Int) == 0) = true from rfl, br_true]
    refine fin _ ?_ ?_ ?_ ?_ ?_ <;> first | rfl | exact hr
  · rw [show ((1 : Int) == 0) = false from rfl, br_false]
    refine fin _ ?_ ?_ ?_ ?_ ?_ <;> first | rfl | exact hr
end Go.Pt
