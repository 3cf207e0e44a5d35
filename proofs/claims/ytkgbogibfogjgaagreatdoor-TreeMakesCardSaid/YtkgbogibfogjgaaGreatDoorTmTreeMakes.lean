/-
  This file proves that 'carlinglaw.TreeMakes' returns true, whatever it is given, and leaves what it is given as it was; the package's variables that its library names are laid as the program's text lays them (the card ties them).
-/
import Derived.Test.YtkgbogibfogjgaaGreatDoorTmI
import Derived.Test.YtkgbogibfogjgaaGreatDoorTmK
import Derived.Test.YtkgbogibfogjgaaGreatDoorTmS
import Derived.Test.YtkgbogibfogjgaaGreatDoorRows
import Derived.Test.YtkgbogibfogjgaaGreatDoorCards
import Derived.Test.YtkgbogibfogjgaaGreatDoorTie
import Derived.WalkKit
import Derived.ProofKit
import Derived.OpenShut
import Derived.ShutString
import Derived.ChangeOld
import Derived.Below
import Derived.LaidMore
import Derived.Lay
import Derived.SevenTiedAt
import Derived.Stop.Joined
set_option linter.unusedVariables false
set_option linter.unusedSimpArgs false
set_option maxHeartbeats 4000000
set_option maxRecDepth 100000
namespace Go.Proofs.YtkgbogibfogjgaaGreatDoor.treeMakes
open Go.ChangeShapes Go.WideShapes Go.ChangeAt Go.RowKit
open Go.ChangeMaps (open_string shut_string)
theorem own:ownKnob Tryz.prog.godebug=none:=by kernel_rfl
theorem laidOut:laidOutB Tryz.prog=true:=by kernel_rfl
set_option maxRecDepth 100000 in
theorem lifted (os:Os) (started:os.Started) (H:Type) (enc:TypeId × Value→H):
  ReturnsInHanded {} Tryz.checked os 3 .any (fun w args=>(Rows.treeMakesSpec.pre enc Tryz.prog Tryz.f3 Rows.treeMakesRow.domain false w args∧laidMetH Tryz.prog Rows.treeMakesRow.laid w)∧sizedMet enc Tryz.prog Tryz.f3 (OpenSpec.ofChange Rows.treeMakesSpec) false w args)
   (Rows.treeMakesSpec.post enc Tryz.prog Tryz.f3 false true false false):=by
 refine returnsInHanded_of_change_and (C:=Tryz.checked) (X:=fun w _=>laidMetH Tryz.prog Rows.treeMakesRow.laid w) (fun _ _ _ hh h=>h.of_heap hh) own started (by kernel_rfl) Tryz.func3
  (ChangeSpec.witness_shaped (enc:=enc) (C:=Tryz.checked) (os:=os) (X:=fun w _=>laidMetH Tryz.prog Rows.treeMakesRow.laid w) false (World.laidAll Tryz.prog os Rows.treeMakesRow.laid) #[.agg #[.int .u8 0, .int .u8 0, .int .u8 0, .int .u8 0, .int .u8 0, .int .u8 0, .int .u8 0, .int .u8 0, .int .u8 0, .int .u8 0, .int .u8 0, .int .u8 0, .int .u8 0, .int .u8 0, .int .u8 0, .int .u8 0, .int .u8 0, .int .u8 0, .int .u8 0, .int .u8 0, .int .u8 0, .int .u8 0, .int .u8 0, .int .u8 0, .int .u8 0, .int .u8 0, .int .u8 0, .int .u8 0, .int .u8 0, .int .u8 0, .int .u8 0, .int .u8 0], .int .u32 0, .slice none 0 0] 8 (World.laidAll_os _ _ _)
   (World.shaped_of_ZipB (by kernel_rfl) (by kernel_rfl)) (by kernel_rfl) (by kernel_rfl) (by kernel_rfl)
   (by rw [MakeChecks.laidMetH_plain _ _ _ (by kernel_rfl)]; exact laidMet_laidAll _ (by kernel_rfl) (by kernel_rfl))) ?_
 intro W base args ds gs before Hg hW hcnd _ hL _
 have hval: ∀ (j:Nat) t v,Tryz.f3.params[j]? =some t→args[j]? =some v→Value.okWide Tryz.prog W .any base t v:=Hg
 have hW':=hW
 obtain ⟨p,q,YR,hV,rfl,hfz,hnd⟩:=hW
 have hA:DataW.TrodAll enc Tryz.prog W 0 (fun _=>true) true Tryz.f3.params.toList args.toList ds p:=YR
 rw [Tryz.params3] at hA hval
 obtain ⟨v0,vs0,d0,ds0,p0,q0,hargs,rfl,rfl,h0,r0⟩:=trodAll_cons hA
 obtain ⟨v1,vs1,d1,Ea,p1,q1,rfl,rfl,rfl,h1,r1⟩:=trodAll_cons r0
 obtain ⟨v2,vs2,d2,WH,p2,q2,rfl,rfl,rfl,h2,r2⟩:=trodAll_cons r1
 obtain ⟨rfl,rfl,rfl⟩:=trodAll_nil r2
 obtain rfl:args= #[v0,v1,v2]:=by cases args; simp_all
 obtain ⟨rfl,rfl⟩:=trodVars_none hV
 have k0:=h0
 have lt0: ∀ x ∈ p0,x.block<W.heap.size:=by obtain ⟨m,hm⟩:=k0; exact DataW.trod_lt m _ _ _ hm
 obtain ⟨YS,rfl⟩: ∃ cs,v0= .agg cs:=by
  have hv:=hval 0 22 v0 rfl rfl
  unfold Value.okWide at hv
  rw [show Tryz.prog.underlying 22=some (.array 32 5) by kernel_rfl] at hv
  obtain ⟨cs,e,_⟩:=hv
  exact ⟨cs,e⟩
 obtain ⟨f0,hf0⟩:=h0
 obtain ⟨x0,s0,n0⟩:=(Laws.vK (P:=Tryz.prog) (t:=22) (e:=5) (k:= .u8) (n:=32) (by kernel_rfl) (by kernel_rfl) (by kernel_rfl) (by kernel_rfl)).2 hf0
 obtain rfl:YS=(Go.Wc.lumpV .u8 32 x0.toList).toArray:=by have e:YS.toList=Go.Wc.lumpV .u8 32 x0.toList:=s0; rw [← e]
 obtain ⟨a1,rfl,rfl,rfl,w1⟩:=open_int (k:= .u32) (by kernel_rfl) (hval 1 23 v1 rfl rfl) h1
 have k2:=h2
 have s8: ∀ x ∈ p2,x.block<W.heap.size:=by obtain ⟨m,hm⟩:=k2; exact DataW.trod_lt m _ _ _ hm
 obtain ⟨a2,mP,Gp,rfl⟩:=okWide_slice (e:=39) (by kernel_rfl) (hval 2 24 v2 rfl rfl)
 obtain ⟨f2,WG⟩:=h2
 obtain ⟨x2,⟨a2',c2',e2,s2⟩,n2⟩:=(Laws.nR (e:=39) (by kernel_rfl) (by kernel_rfl) (Laws.nR (e:=5) (by kernel_rfl) (by kernel_rfl) (Laws.AR (k:= .u8) (by kernel_rfl) (by kernel_rfl)) (by decide)) (by decide)).2 WG
 have e2:[Value.slice a2 mP Gp]=[.slice a2' x2.length c2']:=e2
 simp only [List.cons.injEq,Value.slice.injEq,and_true] at e2
 obtain ⟨rfl,rfl,rfl⟩:=e2
 clear YR Hg
 have hlaw:Tx.cn Ek.ρ [.agg (Go.Wc.lumpV .u8 32 x0.toList).toArray, .int .u32 a1, .slice a2 x2.length Gp] W.heap (fun v h'=>v= .bool true∧Wc.Keep [] W.heap h'):=Pt.hU s2 (Pt.iu x0 n0 a1 w1 x2 n2)
 have walk:Calls Tryz.prog 3 #[.agg (Go.Wc.lumpV .u8 32 x0.toList).toArray, .int .u32 a1, .slice a2 x2.length Gp] W fun e w'=>e= .returned (.bool true)∧Below W.heap.size W w':=by
  refine (Ek.t3.2 [.agg (Go.Wc.lumpV .u8 32 x0.toList).toArray, .int .u32 a1, .slice a2 x2.length Gp] (fun v h'=>v= .bool true∧Wc.Keep [] W.heap h') W hlaw).mono ?_
  rintro e w' ⟨v,rfl,hs,rfl,hk⟩
  exact ⟨rfl,⟨hs.1,hs.2.2,hs.2.1,hk.1,fun k Nn=>hk.2 k Nn (by simp)⟩⟩
 refine walk.mono fun e W' ⟨he,bel⟩=> ?_
 subst he
 exact ⟨_,rfl,_,_,_,[],_,[],hW',trodAll_mk1 (shut_bool (by kernel_rfl) _),(trodAll_cons_mk (Below.trod laidOut (by kernel_rfl) (of_decide_eq_true (by kernel_rfl)) k0 bel lt0) (trodAll_cons_mk (shut_int (by kernel_rfl) w1) (trodAll_cons_mk (Below.trod laidOut (by kernel_rfl) (of_decide_eq_true (by kernel_rfl)) k2 bel s8) trodAll_mk0))),rfl,bel.frame _,fun h=>by cases h⟩
theorem over:Rows.treeMakesRow.holds Tryz.pinned (OpenSpec.ofChange Rows.treeMakesSpec):=
 OpenClaim.holds_of_wide 3 Tryz.f3 rfl rfl rfl rfl rfl rfl rfl ⟨rfl,rfl,rfl,rfl,rfl⟩ rfl rfl rfl rfl rfl (by kernel_rfl) Tryz.func3 (by kernel_rfl)
  (of_decide_eq_true (by kernel_rfl)) (by unfold Func.isWrapper; first | (rw [if_pos (by decide+kernel)]; kernel_rfl) | (rw [if_neg (by decide+kernel)]; exact ⟨rfl,rfl⟩))
  (fun os started H enc _=>lifted os started H enc)
theorem proved:Rows.TreeMakesCardSaid:=
 Claim7.holds_tied_plain_at .later [] [.data, .pinned] true (true, "1d0e12b7b53de3c8090db97348bd639fd3e90c344ba91a3ffb92b38d127c18ac") false over (fun _ h=>by cases h) (by kernel_rfl) (fun _ h=>by cases h) treeMakes_row_tie rfl ⟨rfl,rfl⟩ (by kernel_rfl) rfl
  (fun f fn hf hfn=>by
   obtain rfl:f=3:=Option.some.inj ((show Tryz.prog.funcNamed "carling/carlinglaw14.TreeMakes" =some 3 by kernel_rfl).symm.trans hf) |>.symm
   obtain rfl:fn=Tryz.f3:=(Option.some.inj (Tryz.func3.symm.trans hfn)).symm
   exact ⟨by kernel_rfl,fun j t ht=>by
    rw [Tryz.params3] at ht
    have hm:t ∈ [22,23,24]:=by simpa using Array.mem_of_getElem? ht
    have hall:([22,23,24].all fun u=> !Tryz.prog.wantsStandIn u)=true:=by kernel_rfl
    exact (show Tryz.prog.wantsStandIn t=false by simpa using List.all_eq_true.1 hall t hm)⟩)
  (by kernel_rfl)
#print axioms proved
end Go.Proofs.YtkgbogibfogjgaaGreatDoor.treeMakes
