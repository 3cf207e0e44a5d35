import Derived.Test.YtkgbogibfogjgaaGreatDoorTiC
import Derived.Test.YtkgbogibfogjgaaGreatDoorTiI
import Derived.Test.YtkgbogibfogjgaaGreatDoorTiP
set_option linter.unusedVariables false
set_option linter.unusedSimpArgs false
set_option maxHeartbeats 4000000
set_option maxRecDepth 100000
namespace Go.Proofs.YtkgbogibfogjgaaGreatDoor.Ek
open Go Go.Wc Go.Ey Go.Proofs.YtkgbogibfogjgaaGreatDoor
noncomputable def extA:CallF:=fun f xs S K=>bif Nat.beq f 84 then sumX Pt.sumL xs S K else bif Nat.beq f 96 then blockX Pt.blkS xs S K else False
theorem KH (H84:SpecOk Tryz.prog 84 (Tx.ic ρ)) (H96:SpecOk Tryz.prog 96 (Tx.cZ ρ)):CallOk Tryz.prog extA:=by
 intro f xs S K H;unfold extA at H
 cases hb:Nat.beq f 84 with
 | true=>
  have e:f=84:=Nat.eq_of_beq_eq_true hb;subst e
  exact Ey.ja H84 fun args h Kr ⟨ν,F,S,xs,K,hv,R,hc,hk⟩=>KG (fun _=>rfl) hv R hc hk
 | false=>
  rw [hb] at H
  cases m7:Nat.beq f 96 with
  | true=>
   have e:f=96:=Nat.eq_of_beq_eq_true m7;subst e
   exact Ey.ja H96 fun args h Kr ⟨ν,F,S,xs,K,hv,R,hc,hk⟩=>DH (fun _ _ _=>rfl) hv R hc hk
  | false=>rw [m7] at H; exact H.elim
noncomputable def bkA:FT:=[(80,Tryz.f80),(79,Tryz.f79)]
theorem Pe:FOk Tryz.prog bkA:=aD Tryz.func80 (by kernel_rfl) <| aD Tryz.func79 (by kernel_rfl) <| Cs
theorem adK:callR TrA.τ TrA.dF bkA 600 extA TrA.ft 40 7 [] ⟨0, .e⟩ isTrue=True:=by kernel_rfl
theorem ok7 (H84:SpecOk Tryz.prog 84 (Tx.ic ρ)) (H96:SpecOk Tryz.prog 96 (Tx.cZ ρ)):SO 7 V0:=
 Ie Pe TrA.agree TrA.Bm TrA.Ig (KH H84 H96) TrA.mixed (lf:=600) (dp:=40) (adK ▸ trivial)
end Go.Proofs.YtkgbogibfogjgaaGreatDoor.Ek
