/-
  This file proves that 'carlinglaw.CommitNeeds' returns true, whatever it is given, and leaves what it is given as it was; no condition.
-/
import Derived.Test.YtpjehkdneiclnaaRows
import Derived.WalkKit
import Derived.ProofKit
import Derived.OpenShut
import Derived.ShutString
import Derived.ChangeOld
import Derived.Below
import Derived.Test.YtpjehkdneiclnaaCnCommitNeedsOk
import Derived.Test.YtpjehkdneiclnaaCnPo
import Derived.Test.YtpjehkdneiclnaaCnLk
set_option linter.unusedSimpArgs false
namespace Go.Proofs.Ytpjehkdneiclnaa.commitNeeds
open Go.ChangeShapes Go.WideShapes Go.ChangeAt Go.RowKit
open Go.ChangeMaps (open_string shut_string)
set_option linter.unusedVariables false
theorem own:ownKnob Try.prog.godebug=none:=by kernel_rfl
theorem laidOut:laidOutB Try.prog=true:=by kernel_rfl
set_option maxRecDepth 100000 in
theorem lifted (os:Os) (started:os.Started) (H:Type) (enc:TypeId × Value→H):
    ReturnsInHanded {} Try.checked os 3 .any (Rows.commitNeedsSpec.pre6 enc Try.prog Try.f3 Rows.commitNeedsRow.domain false) (Rows.commitNeedsSpec.post enc Try.prog Try.f3 false true false false):=by
  refine returnsInHanded_of_change (C:=Try.checked) own started (by kernel_rfl) Try.func3
    (ChangeSpec.witness6 (enc:=enc) (C:=Try.checked) false ⟨#[],#[.int .u8 0, .slice none 0 0, .slice none 0 0],[]⟩ 8 (by kernel_rfl) (by kernel_rfl) (by kernel_rfl) (by kernel_rfl)) ?_
  intro W base args ds gs before hval0 hW hcnd _
  have hval: ∀ (j:Nat) t v,Try.f3.params[j]? =some t→args[j]? =some v→Value.okWide Try.prog W .any base t v:=hval0
  have hW':=hW
  obtain ⟨p,q,hA0,hV,rfl,hfz,hnd⟩:=hW
  have hA:DataW.TrodAll enc Try.prog W 0 (fun _=>true) true Try.f3.params.toList args.toList ds p:=hA0
  rw [Try.params3] at hA hval
  obtain ⟨v0,vs0,d0,ds0,p0,q0,hargs,rfl,rfl,h0,r0⟩:=trodAll_cons hA
  obtain ⟨v1,vs1,d1,ds1,p1,q1,rfl,rfl,rfl,h1,r1⟩:=trodAll_cons r0
  obtain ⟨v2,vs2,d2,ds2,p2,q2,rfl,rfl,rfl,h2,r2⟩:=trodAll_cons r1
  obtain ⟨rfl,rfl,rfl⟩:=trodAll_nil r2
  obtain rfl:args= #[v0,v1,v2]:=by cases args; simp_all
  obtain ⟨rfl,rfl⟩:=trodVars_none hV
  obtain ⟨a0,rfl,rfl,rfl,w0⟩:=open_int (k:= .u8) (by kernel_rfl) (hval 0 5 v0 rfl rfl) h0
  have k1:=h1
  have lt1: ∀ x ∈ p1,x.block<W.heap.size:=by obtain ⟨m,hm⟩:=k1; exact DataW.trod_lt m _ _ _ hm
  obtain ⟨a1,len1,cap1,rfl⟩:=okWide_slice (e:=54) (by kernel_rfl) (hval 1 22 v1 rfl rfl)
  obtain ⟨f1,hf1⟩:=h1
  obtain ⟨x1,⟨a1',c1',e1,s1⟩,n1⟩:=(Laws.opens_slice (e:=54) (by kernel_rfl) (by kernel_rfl) (Pt.opens_carlingref16_Node (P:=Try.prog) (t:=54) (t0:=3) (t1:=47) (by kernel_rfl) (by kernel_rfl) (Laws.opens_int (k:= .i64) (by kernel_rfl) (by kernel_rfl)) (Laws.opens_slice (e:=81) (by kernel_rfl) (by kernel_rfl) (Pt.opens_carlingref09_Ref (P:=Try.prog) (t:=81) (t0:=3) (t1:=62) (t2:=63) (by kernel_rfl) (by kernel_rfl) (Laws.opens_int (k:= .i64) (by kernel_rfl) (by kernel_rfl)) (Laws.opens_int (k:= .u32) (by kernel_rfl) (by kernel_rfl)) (Laws.opens_array (e:=5) (k:= .u8) (by kernel_rfl) (by kernel_rfl) (by kernel_rfl) (by kernel_rfl))) (by decide))) (by decide)).2 hf1
  have e1:[Value.slice a1 len1 cap1]=[.slice a1' x1.length c1']:=e1
  simp only [List.cons.injEq,Value.slice.injEq,and_true] at e1
  obtain ⟨rfl,rfl,rfl⟩:=e1
  have k2:=h2
  have lt2: ∀ x ∈ p2,x.block<W.heap.size:=by obtain ⟨m,hm⟩:=k2; exact DataW.trod_lt m _ _ _ hm
  obtain ⟨a2,len2,cap2,rfl⟩:=okWide_slice (e:=38) (by kernel_rfl) (hval 2 23 v2 rfl rfl)
  obtain ⟨f2,hf2⟩:=h2
  obtain ⟨x2,⟨a2',c2',e2,s2⟩,n2⟩:=(Laws.opens_slice (e:=38) (by kernel_rfl) (by kernel_rfl) (Pt.opens_carlingref16_Change (P:=Try.prog) (t:=38) (t0:=3) (t1:=36) (by kernel_rfl) (by kernel_rfl) (Laws.opens_int (k:= .i64) (by kernel_rfl) (by kernel_rfl)) (Laws.opens_slice (e:=5) (by kernel_rfl) (by kernel_rfl) (Laws.opens_int (k:= .u8) (by kernel_rfl) (by kernel_rfl)) (by decide))) (by decide)).2 hf2
  have e2:[Value.slice a2 len2 cap2]=[.slice a2' x2.length c2']:=e2
  simp only [List.cons.injEq,Value.slice.injEq,and_true] at e2
  obtain ⟨rfl,rfl,rfl⟩:=e2
  clear hA0 hval0
  have hlaw:Tx.carlinglaw16_CommitNeeds_S Lk.ρ [.int .u8 a0, .slice a1 x1.length cap1, .slice a2 x2.length cap2] W.heap (fun v h'=>v= .bool true∧Wc.Keep [] W.heap h'):=Pt.carlinglaw16_CommitNeeds_law s1 s2 (Pt.carlinglaw16_CommitNeeds_ok a0 w0 x1 n1 x2 n2)
  have walk:Calls Try.prog 3 #[.int .u8 a0, .slice a1 x1.length cap1, .slice a2 x2.length cap2] W fun e w'=>e= .returned (.bool true)∧Below W.heap.size W w':=by
    refine (Lk.ok3.2 [.int .u8 a0, .slice a1 x1.length cap1, .slice a2 x2.length cap2] (fun v h'=>v= .bool true∧Wc.Keep [] W.heap h') W hlaw).mono ?_
    rintro e w' ⟨v,rfl,hs,rfl,hk⟩
    exact ⟨rfl,⟨hs.1,hs.2.2,hs.2.1,hk.1,fun k hk2=>hk.2 k hk2 (by simp)⟩⟩
  refine walk.mono fun e W' ⟨he,bel⟩=> ?_
  subst he
  exact ⟨_,rfl,_,_,_,[],_,[],hW',trodAll_mk1 (shut_bool (by kernel_rfl) _),(trodAll_cons_mk (shut_int (by kernel_rfl) w0) (trodAll_cons_mk (Below.trod laidOut (by kernel_rfl) (of_decide_eq_true (by kernel_rfl)) k1 bel lt1) (trodAll_cons_mk (Below.trod laidOut (by kernel_rfl) (of_decide_eq_true (by kernel_rfl)) k2 bel lt2) trodAll_mk0))),rfl,bel.frame _,fun h=>by cases h⟩
theorem over:Rows.commitNeedsRow.holds Try.pinned (OpenSpec.ofChange Rows.commitNeedsSpec):=
  OpenClaim.holds_of_wide 3 Try.f3 rfl rfl rfl rfl rfl rfl rfl ⟨rfl,rfl,rfl,rfl,rfl⟩ rfl rfl rfl rfl rfl (by kernel_rfl) Try.func3 (by kernel_rfl)
    (of_decide_eq_true (by kernel_rfl)) (by unfold Func.isWrapper; first | (rw [if_pos (by decide+kernel)]; kernel_rfl) | (rw [if_neg (by decide+kernel)]; exact ⟨rfl,rfl⟩))
    (fun os started H enc _=>lifted os started H enc)
theorem proved:Rows.CommitNeedsSaid:=over
#print axioms proved
end Go.Proofs.Ytpjehkdneiclnaa.commitNeeds
