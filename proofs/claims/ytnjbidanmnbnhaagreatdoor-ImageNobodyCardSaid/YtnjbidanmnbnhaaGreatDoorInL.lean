import Derived.Test.YtnjbidanmnbnhaaGreatDoorInI
set_option linter.unusedVariables false
set_option linter.unusedSimpArgs false
set_option maxHeartbeats 4000000
set_option maxRecDepth 100000
namespace Go.Proofs.YtnjbidanmnbnhaaGreatDoor.ImgT
open Go Go.Wc Go.Ey Go.Proofs.YtnjbidanmnbnhaaGreatDoor
theorem r3: ∀ (a b c n:Int),callC τ mth 600 ext ft 40 3 [.agg [.unk .i64 (3) (9223372036854775807) a, .int .i64 b, .int .i64 c], .int .i64 n] ⟨0, .e⟩ good=True:=fun a b c n=>by kernel_rfl
end Go.Proofs.YtnjbidanmnbnhaaGreatDoor.ImgT
