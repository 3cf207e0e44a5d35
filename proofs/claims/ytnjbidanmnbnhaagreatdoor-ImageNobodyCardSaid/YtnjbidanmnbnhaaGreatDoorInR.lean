import Derived.Test.YtnjbidanmnbnhaaGreatDoorInJ
import Derived.Test.YtnjbidanmnbnhaaGreatDoorInK
import Derived.Test.YtnjbidanmnbnhaaGreatDoorInL
import Derived.Test.YtnjbidanmnbnhaaGreatDoorInM
import Derived.Test.YtnjbidanmnbnhaaGreatDoorInN
import Derived.Test.YtnjbidanmnbnhaaGreatDoorInO
import Derived.Test.YtnjbidanmnbnhaaGreatDoorInP
import Derived.Test.YtnjbidanmnbnhaaGreatDoorInQ
set_option linter.unusedVariables false
set_option linter.unusedSimpArgs false
set_option maxHeartbeats 4000000
set_option maxRecDepth 100000
namespace Go.Proofs.YtnjbidanmnbnhaaGreatDoor.ImgT
open Go Go.Wc Go.Ey Go.Proofs.YtnjbidanmnbnhaaGreatDoor
theorem vrl3 {s1 s2 s3:SV} {a b c n:Int} (h1:VR (fun _=>none) s1 (.int .i64 a)) (h2:VR (fun _=>none) s2 (.int .i64 b)) (h3:VR (fun _=>none) s3 (.int .i64 c)):
    VRL (fun _=>none) [.agg [s1,s2,s3], .int .i64 n] [.agg #[.int .i64 a, .int .i64 b, .int .i64 c], .int .i64 n]:=by
  refine VRL.cons ?_ (VRL.cons (by simp only [VR]) VRL.nil)
  simp only [VR]
  exact ⟨[.int .i64 a, .int .i64 b, .int .i64 c],VRL.cons h1 (VRL.cons h2 (VRL.cons h3 VRL.nil)),rfl⟩
theorem vint (a:Int):VR (fun _=>none) (.int .i64 a) (.int .i64 a):=by simp only [VR]
theorem vunk {a lo hi:Int} (h1:lo≤a) (h2:a≤hi):VR (fun _=>none) (.unk .i64 lo hi a) (.int .i64 a):=by simp only [VR]; exact ⟨trivial,h1,h2⟩
theorem walk3 (a b c n:Int) (ha: -9223372036854775808≤a∧a≤9223372036854775807) (hb: -9223372036854775808≤b∧b≤9223372036854775807) (hc: -9223372036854775808≤c∧c≤9223372036854775807) (W:World):
    Calls Tryz.prog 3 #[.agg #[.int .i64 a, .int .i64 b, .int .i64 c], .int .i64 n] W fun e w'=>e= .returned (.bool true)∧Go.RowKit.Below W.heap.size W w':=by
  have go: ∀ {s1 s2 s3:SV},VR (fun _=>none) s1 (.int .i64 a)→VR (fun _=>none) s2 (.int .i64 b)→VR (fun _=>none) s3 (.int .i64 c)→
      callC τ mth 600 ext ft 40 3 [.agg [s1,s2,s3], .int .i64 n] ⟨0, .e⟩ good=True→Calls Tryz.prog 3 #[.agg #[.int .i64 a, .int .i64 b, .int .i64 c], .int .i64 n] W fun e w'=>e= .returned (.bool true)∧Go.RowKit.Below W.heap.size W w':=
    fun h1 h2 h3 H=>run_ok (vrl3 h1 h2 h3) (H ▸ trivial) W
  by_cases h0:a≤0
  · exact go (vunk ha.1 h0) (vint b) (vint c) (r0 a b c n)
  by_cases h3:3≤a
  · exact go (vunk h3 ha.2) (vint b) (vint c) (r3 a b c n)
  by_cases h1:a=1
  · subst h1; exact go (vint 1) (vint b) (vint c) (r1 0 b c n)
  have h2:a=2:=by omega
  subst h2
  by_cases g1:b≤3
  · exact go (vint 2) (vunk hb.1 g1) (vint c) (r2a 0 b c n)
  by_cases g2:1025≤b
  · exact go (vint 2) (vunk g2 hb.2) (vint c) (r2b 0 b c n)
  by_cases g3:c≤ -1
  · exact go (vint 2) (vunk (by omega) (by omega)) (vunk hc.1 g3) (r2c 0 b c n)
  by_cases g4:17≤c
  · exact go (vint 2) (vunk (by omega) (by omega)) (vunk g4 hc.2) (r2d 0 b c n)
  · exact go (vint 2) (vunk (by omega) (by omega)) (vunk (by omega) (by omega)) (r2e 0 b c n)
theorem wf64 {y:Int} (h:(Lit.int .i64 y).wf=true): -9223372036854775808≤y∧y≤9223372036854775807:=by
  simp only [Lit.wf,Bool.and_eq_true,decide_eq_true_eq] at h
  exact h
theorem img_walk (x:Vector Int 3) (hx: ∀ y ∈ x.toList,(Lit.int .i64 y).wf=true) (n:Int) (_:(Lit.int .i64 n).wf=true) (W:World):
    Calls Tryz.prog 3 #[.agg (lumpV .i64 3 x.toList).toArray, .int .i64 n] W fun e w'=>e= .returned (.bool true)∧Go.RowKit.Below W.heap.size W w':=by
  rw [Pu.lumpV_v]
  have hl:x.toList.length=3:=by simp
  match hm:x.toList,hl with
  | [a, b, c], _ =>
    rw [hm] at hx
    exact walk3 a b c n (wf64 (hx a (by simp))) (wf64 (hx b (by simp))) (wf64 (hx c (by simp))) W
end Go.Proofs.YtnjbidanmnbnhaaGreatDoor.ImgT
