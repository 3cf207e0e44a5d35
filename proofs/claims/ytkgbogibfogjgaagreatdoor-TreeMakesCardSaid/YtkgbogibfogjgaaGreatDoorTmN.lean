import Derived.Test.YtkgbogibfogjgaaGreatDoorTmC
import Derived.Test.YtkgbogibfogjgaaGreatDoorTmH
import Derived.Test.YtkgbogibfogjgaaGreatDoorTmM
set_option linter.unusedVariables false
set_option linter.unusedSimpArgs false
set_option maxHeartbeats 4000000
set_option maxRecDepth 100000
namespace Go.Proofs.YtkgbogibfogjgaaGreatDoor.Ek
open Go Go.Wc Go.Ey Go.Proofs.YtkgbogibfogjgaaGreatDoor
noncomputable def extA:CallF:=fun f xs S K=>bif Nat.beq f 84 then sumX Pt.sumL xs S K else bif Nat.beq f 96 then blockX Pt.blkS xs S K else False
theorem Gn (WL:SpecOk Tryz.prog 84 (Tx.gh ρ)) (WM:SpecOk Tryz.prog 96 (Tx.cE ρ)):CallOk Tryz.prog extA:=by
 intro f xs S K H
 unfold extA at H
 cases hb:Nat.beq f 84 with
 | true=>
  have e:f=84:=Nat.eq_of_beq_eq_true hb
  subst e
  exact Ey.gS WL fun args h Kr ⟨ν,F,S,xs,K,hv,R,hc,hk⟩=>Gl (fun _=>rfl) hv R hc hk
 | false=>
  rw [hb] at H
  cases lH:Nat.beq f 96 with
  | true=>
   have e:f=96:=Nat.eq_of_beq_eq_true lH
   subst e
   exact Ey.gS WM fun args h Kr ⟨ν,F,S,xs,K,hv,R,hc,hk⟩=>A4 (fun _ _ _=>rfl) hv R hc hk
  | false=>rw [lH] at H; exact H.elim
noncomputable def bkA:FT:=[(80,Tryz.f80),(79,Tryz.f79)]
theorem KI:FOk Tryz.prog bkA:=aB Tryz.func80 (by kernel_rfl) <| aB Tryz.func79 (by kernel_rfl) <| zM
theorem WN:callR TrA.τ TrA.cL bkA 600 extA TrA.ft 40 7 [] ⟨0, .e⟩ isTrue=True:=by kernel_rfl
theorem ok7 (WL:SpecOk Tryz.prog 84 (Tx.gh ρ)) (WM:SpecOk Tryz.prog 96 (Tx.cE ρ)):SO 7 QJ:=
 Ef KI TrA.agree TrA.yB TrA.Eg (Gn WL WM) TrA.mixed (lf:=600) (dp:=40) (WN ▸ trivial)
end Go.Proofs.YtkgbogibfogjgaaGreatDoor.Ek
