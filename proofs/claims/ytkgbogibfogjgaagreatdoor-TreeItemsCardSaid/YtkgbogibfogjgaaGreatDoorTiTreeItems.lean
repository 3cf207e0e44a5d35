/-
  This file proves that 'carlinglaw.TreeItems' returns true, whatever it is given, and leaves what it is given as it was; the package's variables that its library names are laid as the program's text lays them (the card ties them).
-/
import Derived.Test.YtkgbogibfogjgaaGreatDoorTiK
import Derived.Test.YtkgbogibfogjgaaGreatDoorTiM
import Derived.Test.YtkgbogibfogjgaaGreatDoorTiV
import Derived.Test.YtkgbogibfogjgaaGreatDoorRows
import Derived.Test.YtkgbogibfogjgaaGreatDoorCards
import Derived.Test.YtkgbogibfogjgaaGreatDoorTie
import Derived.WalkKit
import Derived.ProofKit
import Derived.OpenShut
import Derived.ShutString
import Derived.ChangeOld
import Derived.Below
import Derived.LaidMore
import Derived.Lay
import Derived.SevenTiedAt
import Derived.Stop.Joined
set_option linter.unusedVariables false
set_option linter.unusedSimpArgs false
set_option maxHeartbeats 4000000
set_option maxRecDepth 100000
namespace Go.Proofs.YtkgbogibfogjgaaGreatDoor.treeItems
open Go.ChangeShapes Go.WideShapes Go.ChangeAt Go.RowKit
open Go.ChangeMaps (open_string shut_string)
theorem own:ownKnob Tryz.prog.godebug=none:=by kernel_rfl
theorem laidOut:laidOutB Tryz.prog=true:=by kernel_rfl
set_option maxRecDepth 100000 in
theorem lifted (os:Os) (started:os.Started) (H:Type) (enc:TypeId × Value->H):
  ReturnsInHanded {} Tryz.checked os 4 .any (fun w args=>(Rows.treeItemsSpec.pre enc Tryz.prog Tryz.f4 Rows.treeItemsRow.domain false w args/\laidMetH Tryz.prog Rows.treeItemsRow.laid w)/\sizedMet enc Tryz.prog Tryz.f4 (OpenSpec.ofChange Rows.treeItemsSpec) false w args)
   (Rows.treeItemsSpec.post enc Tryz.prog Tryz.f4 false true false false):=by
 refine returnsInHanded_of_change_and (C:=Tryz.checked) (X:=fun w _=>laidMetH Tryz.prog Rows.treeItemsRow.laid w) (fun _ _ _ hh h=>h.of_heap hh) own started (by kernel_rfl) Tryz.func4
  (ChangeSpec.witness_shaped (enc:=enc) (C:=Tryz.checked) (os:=os) (X:=fun w _=>laidMetH Tryz.prog Rows.treeItemsRow.laid w) false (World.laidAll Tryz.prog os Rows.treeItemsRow.laid) #[.slice none 0 0, .int .i64 0, .agg #[.int .i64 0, .int .u32 0, .int .u8 0, .int .u8 0, .int .u8 0, .int .u8 0, .int .u8 0, .int .u8 0, .int .u8 0, .int .u8 0, .int .u8 0, .int .u8 0, .int .u8 0, .int .u8 0, .int .u8 0, .int .u8 0, .int .u8 0, .int .u8 0, .int .u8 0, .int .u8 0, .int .u8 0, .int .u8 0, .int .u8 0, .int .u8 0, .int .u8 0, .int .u8 0, .int .u8 0, .int .u8 0, .int .u8 0, .int .u8 0, .int .u8 0, .int .u8 0, .int .u8 0, .int .u8 0]] 8 (World.laidAll_os _ _ _)
   (World.shaped_of_ZipB (by kernel_rfl) (by kernel_rfl)) (by kernel_rfl) (by kernel_rfl) (by kernel_rfl)
   (by rw [MakeChecks.laidMetH_plain _ _ _ (by kernel_rfl)]; exact laidMet_laidAll _ (by kernel_rfl) (by kernel_rfl))) ?_
 intro W base args ds gs before LU hW hcnd _ hL _;have hval: ∀ (j:Nat) t v,Tryz.f4.params[j]? =some t->args[j]? =some v->Value.okWide Tryz.prog W .any base t v:=LU;have hW':=hW;obtain ⟨p,q,hA0,hV,rfl,hfz,hnd⟩:=hW;have hA:DataW.TrodAll enc Tryz.prog W 0 (fun _=>true) true Tryz.f4.params.toList args.toList ds p:=hA0;rw [Tryz.params4] at hA hval;obtain ⟨v0,vs0,d0,ds0,p0,q0,hargs,rfl,rfl,h0,r0⟩:=trodAll_cons hA;obtain ⟨v1,vs1,d1,HY,p1,q1,rfl,rfl,rfl,h1,r1⟩:=trodAll_cons r0;obtain ⟨v2,vs2,d2,ds2,p2,q2,rfl,rfl,rfl,h2,r2⟩:=trodAll_cons r1;obtain ⟨rfl,rfl,rfl⟩:=trodAll_nil r2;obtain rfl:args= #[v0,v1,v2]:=by cases args; simp_all
 obtain ⟨rfl,rfl⟩:=trodVars_none hV;have k0:=h0;have lt0: ∀ x ∈ p0,x.block<W.heap.size:=by obtain ⟨m,hm⟩:=k0; exact DataW.trod_lt m _ _ _ hm
 obtain ⟨a0,D1,KJ,rfl⟩:=okWide_slice (e:=39) (by kernel_rfl) (hval 0 24 v0 rfl rfl);obtain ⟨f0,hf0⟩:=h0;obtain ⟨x0,⟨a0',c0',e0,s0⟩,n0⟩:=(Laws.pQ (e:=39) (by kernel_rfl) (by kernel_rfl) (Laws.pQ (e:=5) (by kernel_rfl) (by kernel_rfl) (Laws.oK (k:= .u8) (by kernel_rfl) (by kernel_rfl)) (by decide)) (by decide)).2 hf0;have e0:[Value.slice a0 D1 KJ]=[.slice a0' x0.length c0']:=e0;simp only [List.cons.injEq,Value.slice.injEq,and_true] at e0;obtain ⟨rfl,rfl,rfl⟩:=e0;obtain ⟨a1,rfl,rfl,rfl,w1⟩:=open_int (k:= .i64) (by kernel_rfl) (hval 1 3 v1 rfl rfl) h1;have k2:=h2;have y9: ∀ x ∈ p2,x.block<W.heap.size:=by obtain ⟨m,hm⟩:=k2; exact DataW.trod_lt m _ _ _ hm
 obtain ⟨O1,rfl⟩:=Laws.Dk (by rw [show Laws.fieldsOf Tryz.prog 36=[(3,0),(23,1),(22,2)] by kernel_rfl]; simp) (hval 2 36 v2 rfl rfl);obtain ⟨f2,hf2⟩:=h2;obtain ⟨x2,s2,n2⟩:=(Pt.kr (P:=Tryz.prog) (t:=36) (t0:=3) (t1:=23) (t2:=22) (by kernel_rfl) (by kernel_rfl) (Laws.oK (k:= .i64) (by kernel_rfl) (by kernel_rfl)) (Laws.oK (k:= .u32) (by kernel_rfl) (by kernel_rfl)) (Laws.xZ (e:=5) (k:= .u8) (by kernel_rfl) (by kernel_rfl) (by kernel_rfl) (by kernel_rfl))).2 hf2;clear hA0 LU;have hlaw:Tx.cJ Ek.ρ [.slice a0 x0.length KJ, .int .i64 a1, .agg O1] W.heap (fun v h'=>v= .bool true/\Wc.Keep [] W.heap h'):=Pt.jk s0 s2 (Pt.jr x0 n0 a1 w1 x2 n2)
 have walk:Calls Tryz.prog 4 #[.slice a0 x0.length KJ, .int .i64 a1, .agg O1] W fun e w'=>e= .returned (.bool true)/\Below W.heap.size W w':=by refine (Ek.t4.2 [.slice a0 x0.length KJ, .int .i64 a1, .agg O1] (fun v h'=>v= .bool true/\Wc.Keep [] W.heap h') W hlaw).mono ?_;rintro e w' ⟨v,rfl,hs,rfl,hk⟩;exact ⟨rfl,⟨hs.1,hs.2.2,hs.2.1,hk.1,fun k EO=>hk.2 k EO (by simp)⟩⟩
 refine walk.mono fun e W' ⟨he,bel⟩=> ?_;subst he;exact ⟨_,rfl,_,_,_,[],_,[],hW',trodAll_mk1 (shut_bool (by kernel_rfl) _),(trodAll_cons_mk (Below.trod laidOut (by kernel_rfl) (of_decide_eq_true (by kernel_rfl)) k0 bel lt0) (trodAll_cons_mk (shut_int (by kernel_rfl) w1) (trodAll_cons_mk (Below.trod laidOut (by kernel_rfl) (of_decide_eq_true (by kernel_rfl)) k2 bel y9) trodAll_mk0))),rfl,bel.frame _,fun h=>by cases h⟩
theorem over:Rows.treeItemsRow.holds Tryz.pinned (OpenSpec.ofChange Rows.treeItemsSpec):=
 OpenClaim.holds_of_wide 4 Tryz.f4 rfl rfl rfl rfl rfl rfl rfl ⟨rfl,rfl,rfl,rfl,rfl⟩ rfl rfl rfl rfl rfl (by kernel_rfl) Tryz.func4 (by kernel_rfl)
  (of_decide_eq_true (by kernel_rfl)) (by unfold Func.isWrapper; first | (rw [if_pos (by decide+kernel)]; kernel_rfl) | (rw [if_neg (by decide+kernel)]; exact ⟨rfl,rfl⟩))
  (fun os started H enc _=>lifted os started H enc)
theorem proved:Rows.TreeItemsCardSaid:=
 Claim7.holds_tied_plain_at .later [] [.data, .pinned] true (true, "1d0e12b7b53de3c8090db97348bd639fd3e90c344ba91a3ffb92b38d127c18ac") false over (fun _ h=>by cases h) (by kernel_rfl) (fun _ h=>by cases h) treeItems_row_tie rfl ⟨rfl,rfl⟩ (by kernel_rfl) rfl
  (fun f fn hf hfn=>by
   obtain rfl:f=4:=Option.some.inj ((show Tryz.prog.funcNamed "carling/carlinglaw14.TreeItems" =some 4 by kernel_rfl).symm.trans hf) |>.symm;obtain rfl:fn=Tryz.f4:=(Option.some.inj (Tryz.func4.symm.trans hfn)).symm
   exact ⟨by kernel_rfl,fun j t ht=>by
    rw [Tryz.params4] at ht;have hm:t ∈ [24,3,36]:=by simpa using Array.mem_of_getElem? ht
    have hall:([24,3,36].all fun u=> !Tryz.prog.wantsStandIn u)=true:=by kernel_rfl
    exact (show Tryz.prog.wantsStandIn t=false by simpa using List.all_eq_true.1 hall t hm)⟩)
  (by kernel_rfl)
#print axioms proved
end Go.Proofs.YtkgbogibfogjgaaGreatDoor.treeItems
