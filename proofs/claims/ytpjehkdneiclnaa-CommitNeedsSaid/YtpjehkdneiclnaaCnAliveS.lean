import Derived.Test.YtpjehkdneiclnaaCnNpS2
set_option linter.unusedVariables false
set_option linter.unusedSimpArgs false
namespace Go.Pt
open Go Go.Wc Go.Pu
theorem num7_np {m:pack_Num.V} {Q:pack_Num.QT} (hb:m.out7.length≤1000) (H: ∀ r,r.length=m.out7.length+1→Q r):pack_Num.K7 Q m:=by
  unfold pack_Num.K7
  exact ⟨bnd_le (by simp only [List.length_cons,List.length_nil]; omega),H _ (by simp only [List.length_append,List.length_cons,List.length_nil])⟩
theorem num1_np {b:List Int} {n:Int} {Q:pack_Num.QT} (hb:b.length≤900) (H: ∀ r,r.length=b.length+1→Q r):pack_Num b n 1 Q:=by
  unfold pack_Num
  refine ⟨bnd_le (by omega), ?_⟩
  unfold pack_sized
  exact num7_np (by dsimp only; omega) H
theorem num4_np {b:List Int} {n:Int} {Q:pack_Num.QT} (hb:b.length≤900) (H: ∀ r,r.length=b.length+4→Q r):pack_Num b n 4 Q:=by
  unfold pack_Num
  refine ⟨bnd_le (by omega), ?_⟩
  unfold pack_sized
  show pack_Num.K4 Q _
  unfold pack_Num.K4 pack_Num.K5 pack_Num.K6
  refine ⟨bnd_le ?_,bnd_le ?_,bnd_le ?_,num7_np ?_ fun r hr=>H r ?_⟩
  · dsimp only; simp only [List.length_append,List.length_cons,List.length_nil]; omega
  · dsimp only; simp only [List.length_append,List.length_cons,List.length_nil]; omega
  · dsimp only; simp only [List.length_append,List.length_cons,List.length_nil]; omega
  · dsimp only; simp only [List.length_append,List.length_cons,List.length_nil]; omega
  · dsimp only at hr; simp only [List.length_append,List.length_cons,List.length_nil] at hr; omega
theorem slay_np {r:seal_Ref} {Q:List Int→Prop} (H: ∀ x,x.length=37→Q x):seal_Lay r Q:=by
  unfold seal_Lay
  refine num1_np (by decide) fun a ha=>num4_np (by simp only [List.length_nil] at ha; omega) fun c hc=> ?_
  have:=Vector.length_toList (xs:=r.Digest)
  exact ⟨bnd_le (by simp only [List.length_nil] at ha; omega),H _ (by simp only [List.length_append]; simp only [List.length_nil] at ha; omega)⟩
theorem fill_np {b:List Int} {Q:List Int→Int→Prop} (hb:b.length≤256) (H: ∀ x,x.length=256→Q x 0):pack_Fill b 256 Q:=by
  unfold pack_Fill
  rw [decide_eq_false (by omega),br_false]
  refine ⟨bnd_le (by omega), ?_⟩
  rw [w64 (n:=256 - (b.length:Int)) (by omega)]
  refine ⟨by omega,bnd_le (by omega),H _ ?_⟩
  simp only [List.length_append,List.length_replicate]; omega
theorem nlay_np {r:seal_Ref} {Q:node_Lay.QT} (hr:r.Place=0∨r.Place=1) (H: ∀ x,x.length=256→Q x 0):node_Lay [r] Q:=by
  unfold node_Lay
  rw [show decide ((([r].length:Nat):Int)<1)=false from rfl,br_false]
  rw [show decide ((([r].length:Nat):Int)>6)=false from rfl]
  unfold node_Lay.K1; dsimp only
  rw [br_false]
  refine node_Lay.L2_in ?_
  unfold node_Lay.B2; dsimp only
  rw [show decide ((0:Int)<(([r].length:Nat):Int))=true from rfl,br_true]
  refine ixP_eq 0 rfl (by simp) ?_
  show br (r.Place !=0) _ _
  have k3: ∀ m:node_Lay.V,m.v32=false→m.b4.length=1→m.v20=1→m.v21=0→node_Lay.K3 (node_Lay.L2 Q) Q m:=by
    rintro ⟨refs0,v14,b4,v19,v20,v21,r6,v32⟩ e1 e2 e3 e4
    dsimp only at e1 e2 e3 e4
    subst e1 e3 e4
    unfold node_Lay.K3; dsimp only
    rw [br_false]
    refine slay_np fun x hx=>⟨bnd_le (by omega), ?_⟩
    refine node_Lay.L2_in ?_
    unfold node_Lay.B2; dsimp only
    rw [show decide (IntKind.wrap .i64 ((0:Int)+1)<1)=false from rfl,br_false]
    refine fill_np ?_ H
    simp only [List.length_append]; omega
  rcases hr with h | h
  · rw [h, show ((0 : Int) != 0) = false from rfl, br_false]
    refine k3 _ ?_ ?_ ?_ ?_ <;> rfl
  · rw [h, show ((1 : Int) != 0) = true from rfl, br_true]
    refine k3 _ ?_ ?_ ?_ ?_
    · show (r.Place != 1) = false
      rw [h]; rfl
    · rfl
    · rfl
    · rfl
def aN:List carlingref16_Node:=[⟨1,[⟨1,0,Vector.replicate 32 0⟩]⟩]
def aC:List carlingref16_Change:=[⟨0,List.replicate (Int.toNat 256) 0⟩]
theorem aMay:mayS 1 (hOf 1) aN aC=true:=by decide+kernel
theorem aNeed:needS (hOf 1) [0]=[1]:=by decide+kernel
theorem aPar0:parentS (newB 1) 0=(1,0,true):=by decide+kernel
theorem aPar1:(parentS (newB 1) 1).2.2=false:=by decide+kernel
theorem aBlk0:blockS (newB 1) 0 0=2:=by decide+kernel
theorem aBlk1:blockS (newB 1) 1 1=5:=by decide+kernel
theorem aFnd:fnd aN 1=some ⟨1,[⟨1,0,Vector.replicate 32 0⟩]⟩:=rfl
theorem nok1:NOk 1:=nok (by decide)
theorem blk_eq {b:List Int} (hb:WfB b) {item place v:Int} {Q:shape_Shape_Block.QT} (h:blockS b item place=v) (H:Q v):shape_Shape_Block ⟨b⟩ item place Q:=block_spec hb (h ▸ H)
theorem hide0 {p:Addr} {key:Vector Int 32} {pg:List Int} {σ:St Obj} {Q:St Obj→Prop} {x:commit_planner} (hp:pg.length=256) (hx:σ p=some (.commit_planner x))
    (e:x=⟨none,key,2,⟨newB 1⟩,⟨0,0,Vector.replicate 32 0⟩,some [(1,[⟨1,0,Vector.replicate 32 0⟩])],[]⟩)
    (H: ∀ r d,Q (sset σ p (.commit_planner ⟨none,key,2,⟨newB 1⟩,⟨0,0,Vector.replicate 32 0⟩,some [(1,[⟨0,2,d⟩])],[⟨2,r⟩]⟩))):commit_planner_hide (some p) 0 pg σ Q:=by
  subst e
  unfold commit_planner_hide
  refine ⟨_,hx, ?_⟩
  refine parent_spec nok1.wb ?_
  rw [aPar0]
  refine ⟨_,_,rfl,rfl, ?_⟩
  refine ixP_eq 0 rfl (by simp) ?_
  refine blk_eq nok1.wb aBlk0 ?_
  dsimp only
  refine ⟨?_, ?_⟩
  · refine hide_np hp (by decide) (.inl rfl) fun r d => ⟨bnd_le (by simp), fun _ => ?_⟩
    rw [sset_sdel]
    exact H r d
  · refine hide_np hp (by decide) (.inl rfl) fun r d => ⟨bnd_le (by simp), fun _ => ?_⟩
    rw [sset_sdel]
    exact H r d
theorem hide1 {p:Addr} {pg:List Int} {σ:St Obj} {Q:St Obj→Prop} {x:commit_planner} {b:List Int} {key:Vector Int 32} {N:Option (List (Int × List seal_Ref))} (hp:pg.length=256) (hx:σ p=some (.commit_planner x))
    (e:x=⟨none,key,2,⟨newB 1⟩,⟨0,0,Vector.replicate 32 0⟩,N,[⟨2,b⟩]⟩)
    (H: ∀ r d,Q (sset σ p (.commit_planner ⟨none,key,2,⟨newB 1⟩,⟨1,2,d⟩,N,[⟨2,b⟩,⟨5,r⟩]⟩))):commit_planner_hide (some p) 1 pg σ Q:=by
  subst e
  unfold commit_planner_hide
  refine ⟨_,hx, ?_⟩
  refine parent_spec nok1.wb ?_
  rw [aPar1,br_false]
  refine blk_eq nok1.wb aBlk1 ?_
  dsimp only
  refine ⟨?_, ?_⟩
  · exact hide_np hp (by decide) (.inr rfl) fun r d=>⟨_,hx,bnd_le (by simp),H r d⟩
  · exact hide_np hp (by decide) (.inr rfl) fun r d=>⟨_,hx,bnd_le (by simp),H r d⟩
theorem plan_alive {key:Vector Int 32} {σ:St Obj} {Q:commit_Plan.QT} (H: ∀ b1 b2 n d σ',Q [⟨2,b1⟩,⟨5,b2⟩] [n] ⟨1,2,d⟩ 0 σ'):
    commit_Plan none key 2 ⟨newB 1⟩ ⟨0,0,Vector.replicate 32 0⟩ [⟨1,[⟨1,0,Vector.replicate 32 0⟩]⟩] [⟨0,List.replicate (Int.toNat 256) 0⟩] σ Q:=by
  unfold commit_Plan
  refine may_spec nok1 (l:=aN) (cs:=aC) (by decide) (by decide) (by decide) ?_
  rw [aMay]
  rw [show (!true)=false from rfl,br_false]
  refine isPlace_spec ?_
  show commit_Plan.K1 Q _ σ
  unfold commit_Plan.K1; dsimp only
  rw [show (!(rgt 0))=false from rfl,br_false]
  intro p
  refine pages16_spec (show (1:Nat)≤100000 by decide) ?_
  refine need_spec nok1 (ps:=[0]) (by decide) ?_
  rw [aNeed]
  intro hp
  refine commit_Plan.L2_in ?_
  unfold commit_Plan.B2; dsimp only
  rw [show decide ((0:Int)<(([(1:Int)].length:Nat):Int))=true from rfl,br_true]
  refine ixP_eq 0 rfl Nat.zero_lt_one ?_
  refine ⟨_,sset_same _ _ _, ?_⟩
  refine find_spec (l:=aN) (it:=1) (by decide) (by decide) ?_
  refine ⟨_,rfl, ?_⟩
  try dsimp only
  rw [sset_sset]
  refine commit_Plan.L2_in ?_
  unfold commit_Plan.B2; dsimp only
  rw [show decide (IntKind.wrap .i64 ((0:Int)+1)<(([(1:Int)].length:Nat):Int))=false from rfl,br_false]
  refine commit_Plan.L3_in ?_
  unfold commit_Plan.B3; dsimp only
  rw [show decide ((0:Int)<(([(⟨0,List.replicate (Int.toNat 256) 0⟩:commit_Change)].length:Nat):Int))=true from rfl,br_true]
  refine ixP_eq 0 rfl Nat.zero_lt_one ?_
  refine hide0 (List.length_replicate ..) (sset_same _ _ _) rfl fun r d=> ?_
  try dsimp only
  rw [sset_sset]
  refine commit_Plan.L3_in ?_
  unfold commit_Plan.B3; dsimp only
  rw [show decide (IntKind.wrap .i64 ((0:Int)+1)<(([(⟨0,List.replicate (Int.toNat 256) 0⟩:commit_Change)].length:Nat):Int))=false from rfl,br_false]
  refine commit_Plan.L4_in ?_
  unfold commit_Plan.B4; dsimp only
  rw [show decide ((0:Int)<(([(1:Int)].length:Nat):Int))=true from rfl,br_true]
  refine ixP_eq 0 rfl Nat.zero_lt_one ?_
  refine ⟨_,sset_same _ _ _, ?_⟩
  refine ⟨_,_,rfl,rfl, ?_⟩
  refine ⟨bnd_le (show (1:Nat)≤4000000000 by decide),bnd_le (show (1:Nat)≤4000000000 by decide), ?_⟩
  refine ⟨_,_,rfl,rfl, ?_⟩
  refine nlay_np (.inl rfl) fun pg hpg=> ?_
  try dsimp only
  rw [sset_sset]
  refine hide1 hpg (sset_same _ _ _) rfl fun r2 d2=> ?_
  try dsimp only
  rw [sset_sset]
  refine commit_Plan.L4_in ?_
  unfold commit_Plan.B4; dsimp only
  rw [show decide (IntKind.wrap .i64 ((0:Int)+1)<(([(1:Int)].length:Nat):Int))=false from rfl,br_false]
  refine ⟨_,sset_same _ _ _, ?_⟩
  exact H _ _ _ _ _
theorem aEnd {m:carlinglaw16_alive.V} {σ:St Obj} {b1 b2:List Int} {n:commit_Node} {d:Vector Int 32} {Q:carlinglaw16_alive.QT} (e1:m.s1=⟨newB 1⟩) (H:Q true σ):
    carlinglaw16_alive.K1 Q {m with l3:=[⟨2,b1⟩,⟨5,b2⟩],n4:=[n],r5:=⟨1,2,d⟩,e6:=0} σ:=by
  unfold carlinglaw16_alive.K1
  dsimp only
  rw [show ((0:Int)==0)=true from rfl,br_true]
  rw [show (((([(⟨2,b1⟩:tree_Put),⟨5,b2⟩]:List tree_Put).length:Nat):Int)==2)=true from rfl,br_true]
  refine ixP_eq 0 rfl (by simp) ?_
  show br ((2:Int)==2) _ _
  rw [show ((2:Int)==2)=true from rfl,br_true]
  refine ixP_eq 1 rfl (by simp) ?_
  show br ((5:Int)==5) _ _
  rw [show ((5:Int)==5)=true from rfl,br_true,show ((1:Int)==1)=true from rfl,br_true,br_true]
  rw [show ((([n].length:Nat):Int)==1)=true from rfl,br_true,e1]
  refine need_spec nok1 (by simp) ?_
  rw [aNeed]
  exact H
theorem alive_spec {σ:St Obj} {Q:carlinglaw16_alive.QT} (H: ∀ σ',Q true σ'):carlinglaw16_alive σ Q:=by
  unfold carlinglaw16_alive
  refine shape_New_spec (by decide) ?_
  have fin: ∀ m:carlinglaw16_alive.V,m.s1=⟨newB 1⟩→m.v12=Vector.replicate 32 0→m.v14=⟨0,0,Vector.replicate 32 0⟩→m.v18=[⟨1,[⟨1,0,Vector.replicate 32 0⟩]⟩]→m.v21=[⟨0,List.replicate (Int.toNat 256) 0⟩]→
      carlinglaw16_alive.K8 Q m σ:=by
    rintro m e1 e2 e3 e4 e5
    unfold carlinglaw16_alive.K8
    rw [e1,e2,e3,e4,e5]
    refine plan_alive fun b1 b2 n d σ'=> ?_
    exact aEnd rfl (H σ')
  have fin5: ∀ m:carlinglaw16_alive.V,m.s1=⟨newB 1⟩→m.v12=Vector.replicate 32 0→m.v14=⟨0,0,Vector.replicate 32 0⟩→m.v18=[⟨1,[⟨1,0,Vector.replicate 32 0⟩]⟩]→m.v21=[⟨0,List.replicate (Int.toNat 256) 0⟩]→
      carlinglaw16_alive.K5 Q m σ:=by
    rintro m e1 e2 e3 e4 e5
    unfold carlinglaw16_alive.K5
    refine ⟨?_,fin _ e1 e2 e3 e4 e5⟩
    rw [e1,e2,e3,e4,e5]
    refine plan_alive fun b1 b2 n d σ'=> ?_
    exact aEnd rfl (H σ')
  unfold carlinglaw16_alive.K2 carlinglaw16_alive.K3 carlinglaw16_alive.K4 carlinglaw16_alive.K12 carlinglaw16_alive.K13 carlinglaw16_alive.K14 carlinglaw16_alive.K16 carlinglaw16_alive.K17 carlinglaw16_alive.K19 carlinglaw16_alive.K20 carlinglaw16_alive.K21 carlinglaw16_alive.K22 carlinglaw16_alive.K25 carlinglaw16_alive.K27 carlinglaw16_alive.K28 carlinglaw16_alive.K26 carlinglaw16_alive.K29 carlinglaw16_alive.K18 carlinglaw16_alive.K23 carlinglaw16_alive.K24 carlinglaw16_alive.K10 carlinglaw16_alive.K11 carlinglaw16_alive.K9 carlinglaw16_alive.K15
  repeat' apply And.intro
  all_goals first
    | exact fin _ rfl rfl rfl rfl rfl
    | exact fin5 _ rfl rfl rfl rfl rfl
    | skip
end Go.Pt
