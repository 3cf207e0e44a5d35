/-
  This file proves that 'carlinglaw.CommitPlans' returns true, whatever it is given, and leaves what it is given as it was; no condition.
-/
import Derived.Test.YtpjehkdneiclnaaGreatCpI
import Derived.Test.YtpjehkdneiclnaaGreatCpM
import Derived.Test.YtpjehkdneiclnaaGreatCpT
import Derived.Test.YtpjehkdneiclnaaGreatRows
import Derived.WalkKit
import Derived.ProofKit
import Derived.OpenShut
import Derived.ShutString
import Derived.ChangeOld
import Derived.Below
set_option linter.unusedVariables false
set_option linter.unusedSimpArgs false
set_option maxHeartbeats 4000000
set_option maxRecDepth 100000
namespace Go.Proofs.YtpjehkdneiclnaaGreat.commitPlans
open Go.ChangeShapes Go.WideShapes Go.ChangeAt Go.RowKit
open Go.ChangeMaps (open_string shut_string)
theorem own:ownKnob Tryz.prog.godebug=none:=by kernel_rfl
theorem laidOut:laidOutB Tryz.prog=true:=by kernel_rfl
set_option maxRecDepth 100000 in
theorem lifted (os:Os) (started:os.Started) (H:Type) (enc:TypeId × Value→H):
    ReturnsInHanded {} Tryz.checked os 3 .any (Rows.commitPlansSpec.pre6 enc Tryz.prog Tryz.f3 Rows.commitPlansRow.domain false) (Rows.commitPlansSpec.post enc Tryz.prog Tryz.f3 false true false false):=by
  refine returnsInHanded_of_change (C:=Tryz.checked) own started (by kernel_rfl) Tryz.func3
    (ChangeSpec.witness6 (enc:=enc) (C:=Tryz.checked) false ⟨#[],#[.agg #[.int .u8 0, .int .u8 0, .int .u8 0, .int .u8 0, .int .u8 0, .int .u8 0, .int .u8 0, .int .u8 0, .int .u8 0, .int .u8 0, .int .u8 0, .int .u8 0, .int .u8 0, .int .u8 0, .int .u8 0, .int .u8 0, .int .u8 0, .int .u8 0, .int .u8 0, .int .u8 0, .int .u8 0, .int .u8 0, .int .u8 0, .int .u8 0, .int .u8 0, .int .u8 0, .int .u8 0, .int .u8 0, .int .u8 0, .int .u8 0, .int .u8 0, .int .u8 0, .int .u8 0, .int .u32 0, .int .i64 0, .int .u32 0, .int .u8 0, .int .u8 0, .int .u8 0, .int .u8 0, .int .u8 0, .int .u8 0, .int .u8 0, .int .u8 0, .int .u8 0, .int .u8 0, .int .u8 0, .int .u8 0, .int .u8 0, .int .u8 0, .int .u8 0, .int .u8 0, .int .u8 0, .int .u8 0, .int .u8 0, .int .u8 0, .int .u8 0, .int .u8 0, .int .u8 0, .int .u8 0, .int .u8 0, .int .u8 0, .int .u8 0, .int .u8 0, .int .u8 0, .int .u8 0, .int .u8 0, .int .u8 0], .slice none 0 0, .slice none 0 0],[]⟩ 8 (by kernel_rfl) (by kernel_rfl) (by kernel_rfl) (by kernel_rfl)) ?_
  intro W base args ds gs before MT hW hcnd _
  have hval: ∀ (j:Nat) t v,Tryz.f3.params[j]? =some t→args[j]? =some v→Value.okWide Tryz.prog W .any base t v:=MT
  have hW':=hW
  obtain ⟨p,q,hA0,hV,rfl,hfz,hnd⟩:=hW
  have hA:DataW.TrodAll enc Tryz.prog W 0 (fun _=>true) true Tryz.f3.params.toList args.toList ds p:=hA0
  rw [Tryz.params3] at hA hval
  obtain ⟨v0,vs0,d0,ds0,p0,q0,hargs,rfl,rfl,h0,r0⟩:=trodAll_cons hA
  obtain ⟨v1,vs1,d1,ds1,p1,q1,rfl,rfl,rfl,h1,r1⟩:=trodAll_cons r0
  obtain ⟨v2,vs2,d2,ds2,p2,q2,rfl,rfl,rfl,h2,r2⟩:=trodAll_cons r1
  obtain ⟨rfl,rfl,rfl⟩:=trodAll_nil r2
  obtain rfl:args= #[v0,v1,v2]:=by cases args; simp_all
  obtain ⟨rfl,rfl⟩:=trodVars_none hV
  have k0:=h0
  have lt0: ∀ x ∈ p0,x.block<W.heap.size:=by obtain ⟨m,hm⟩:=k0; exact DataW.trod_lt m _ _ _ hm
  obtain ⟨NS,rfl⟩:=Laws.Ef (by rw [show Laws.fieldsOf Tryz.prog 27=[(5,0),(22,1),(23,33),(25,34)] by kernel_rfl]; simp) (hval 0 27 v0 rfl rfl)
  obtain ⟨f0,hf0⟩:=h0
  obtain ⟨x0,s0,n0⟩:=(Pt.nv (P:=Tryz.prog) (t:=27) (t0:=5) (t1:=22) (t2:=23) (t3:=25) (by kernel_rfl) (by kernel_rfl) (Laws.jf (k:= .u8) (by kernel_rfl) (by kernel_rfl)) (Laws.nY (e:=5) (k:= .u8) (by kernel_rfl) (by kernel_rfl) (by kernel_rfl) (by kernel_rfl)) (Laws.jf (k:= .u32) (by kernel_rfl) (by kernel_rfl)) (Pt.jT (P:=Tryz.prog) (t:=25) (t0:=3) (t1:=23) (t2:=22) (by kernel_rfl) (by kernel_rfl) (Laws.jf (k:= .i64) (by kernel_rfl) (by kernel_rfl)) (Laws.jf (k:= .u32) (by kernel_rfl) (by kernel_rfl)) (Laws.nY (e:=5) (k:= .u8) (by kernel_rfl) (by kernel_rfl) (by kernel_rfl) (by kernel_rfl)))).2 hf0
  have k1:=h1
  have lt1: ∀ x ∈ p1,x.block<W.heap.size:=by obtain ⟨m,hm⟩:=k1; exact DataW.trod_lt m _ _ _ hm
  obtain ⟨a1,dh,KT,rfl⟩:=okWide_slice (e:=61) (by kernel_rfl) (hval 1 28 v1 rfl rfl)
  obtain ⟨f1,Yj⟩:=h1
  obtain ⟨x1,⟨a1',c1',e1,s1⟩,n1⟩:=(Laws.mc (e:=61) (by kernel_rfl) (by kernel_rfl) (Pt.mM (P:=Tryz.prog) (t:=61) (t0:=3) (t1:=59) (by kernel_rfl) (by kernel_rfl) (Laws.jf (k:= .i64) (by kernel_rfl) (by kernel_rfl)) (Laws.mc (e:=25) (by kernel_rfl) (by kernel_rfl) (Pt.jT (P:=Tryz.prog) (t:=25) (t0:=3) (t1:=23) (t2:=22) (by kernel_rfl) (by kernel_rfl) (Laws.jf (k:= .i64) (by kernel_rfl) (by kernel_rfl)) (Laws.jf (k:= .u32) (by kernel_rfl) (by kernel_rfl)) (Laws.nY (e:=5) (k:= .u8) (by kernel_rfl) (by kernel_rfl) (by kernel_rfl) (by kernel_rfl))) (by decide))) (by decide)).2 Yj
  have e1:[Value.slice a1 dh KT]=[.slice a1' x1.length c1']:=e1
  simp only [List.cons.injEq,Value.slice.injEq,and_true] at e1
  obtain ⟨rfl,rfl,rfl⟩:=e1
  have k2:=h2
  have lt2: ∀ x ∈ p2,x.block<W.heap.size:=by obtain ⟨m,hm⟩:=k2; exact DataW.trod_lt m _ _ _ hm
  obtain ⟨a2,lV,KU,rfl⟩:=okWide_slice (e:=64) (by kernel_rfl) (hval 2 29 v2 rfl rfl)
  obtain ⟨f2,hf2⟩:=h2
  obtain ⟨x2,⟨a2',c2',e2,s2⟩,n2⟩:=(Laws.mc (e:=64) (by kernel_rfl) (by kernel_rfl) (Pt.lW (P:=Tryz.prog) (t:=64) (t0:=3) (t1:=62) (by kernel_rfl) (by kernel_rfl) (Laws.jf (k:= .i64) (by kernel_rfl) (by kernel_rfl)) (Laws.mc (e:=5) (by kernel_rfl) (by kernel_rfl) (Laws.jf (k:= .u8) (by kernel_rfl) (by kernel_rfl)) (by decide))) (by decide)).2 hf2
  have e2:[Value.slice a2 lV KU]=[.slice a2' x2.length c2']:=e2
  simp only [List.cons.injEq,Value.slice.injEq,and_true] at e2
  obtain ⟨rfl,rfl,rfl⟩:=e2
  clear hA0 MT
  have hlaw:Tx.dO Ek.ρ [.agg NS, .slice a1 x1.length KT, .slice a2 x2.length KU] W.heap (fun v h'=>v= .bool true∧Wc.Keep [] W.heap h'):=Pt.kP s0 s1 s2 (Pt.ld x0 n0 x1 n1 x2 n2)
  have walk:Calls Tryz.prog 3 #[.agg NS, .slice a1 x1.length KT, .slice a2 x2.length KU] W fun e w'=>e= .returned (.bool true)∧Below W.heap.size W w':=by
    refine (Ek.t3.2 [.agg NS, .slice a1 x1.length KT, .slice a2 x2.length KU] (fun v h'=>v= .bool true∧Wc.Keep [] W.heap h') W hlaw).mono ?_
    rintro e w' ⟨v,rfl,hs,rfl,hk⟩
    exact ⟨rfl,⟨hs.1,hs.2.2,hs.2.1,hk.1,fun k Yk=>hk.2 k Yk (by simp)⟩⟩
  refine walk.mono fun e W' ⟨he,bel⟩=> ?_
  subst he
  exact ⟨_,rfl,_,_,_,[],_,[],hW',trodAll_mk1 (shut_bool (by kernel_rfl) _),(trodAll_cons_mk (Below.trod laidOut (by kernel_rfl) (of_decide_eq_true (by kernel_rfl)) k0 bel lt0) (trodAll_cons_mk (Below.trod laidOut (by kernel_rfl) (of_decide_eq_true (by kernel_rfl)) k1 bel lt1) (trodAll_cons_mk (Below.trod laidOut (by kernel_rfl) (of_decide_eq_true (by kernel_rfl)) k2 bel lt2) trodAll_mk0))),rfl,bel.frame _,fun h=>by cases h⟩
theorem over:Rows.commitPlansRow.holds Tryz.pinned (OpenSpec.ofChange Rows.commitPlansSpec):=
  OpenClaim.holds_of_wide 3 Tryz.f3 rfl rfl rfl rfl rfl rfl rfl ⟨rfl,rfl,rfl,rfl,rfl⟩ rfl rfl rfl rfl rfl (by kernel_rfl) Tryz.func3 (by kernel_rfl)
    (of_decide_eq_true (by kernel_rfl)) (by unfold Func.isWrapper; first | (rw [if_pos (by decide+kernel)]; kernel_rfl) | (rw [if_neg (by decide+kernel)]; exact ⟨rfl,rfl⟩))
    (fun os started H enc _=>lifted os started H enc)
theorem proved:Rows.CommitPlansSaid:=over
#print axioms proved
end Go.Proofs.YtpjehkdneiclnaaGreat.commitPlans
