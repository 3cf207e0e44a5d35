import Derived.Test.YtkgbogibfogjgaaGreatDoorTiE
import Derived.Test.YtkgbogibfogjgaaGreatDoorTiI
set_option linter.unusedVariables false
set_option linter.unusedSimpArgs false
set_option maxHeartbeats 4000000
set_option maxRecDepth 100000
namespace Go.Proofs.YtkgbogibfogjgaaGreatDoor.Ek
open Go Go.Wc Go.Pu Go.Ex Go.Proofs.YtkgbogibfogjgaaGreatDoor Go.Pt
theorem acY (hC:CO ZI):SO 90 Gj:=
 fk (code:=c90) hC Tryz.func90 (by kernel_rfl) (by kernel_rfl) A90 ZJ (fun _ _=>()) (by kernel_rfl)
  (fun _ _ _=>kc)
  (fun Q=>trivial)
theorem UJ (hC:CO N4):SO 106 yK:=
 fk (code:=ZK) hC Tryz.func106 (by kernel_rfl) (by kernel_rfl) ZL Sx (fun _ _=>()) (by kernel_rfl)
  (fun _ _ _=>kc)
  (fun Q=>trivial)
theorem UK (hC:CO N5):SO 107 yL:=
 fk (code:=ZM) hC Tryz.func107 (by kernel_rfl) (by kernel_rfl) ZN Sy (fun _ _=>()) (by kernel_rfl)
  (fun _ _ _=>kc)
  (fun Q=>trivial)
theorem acZ (hC:CO ZO):SO 93 Gk:=
 fk (code:=c93) hC Tryz.func93 (by kernel_rfl) (by kernel_rfl) A93 ZP (fun _ _=>()) (by kernel_rfl)
  (fun _ _ _=>kc)
  (fun Q=>trivial)
theorem ac0 (hC:CO ZQ):SO 91 Gl:=
 fk (code:=c91) hC Tryz.func91 (by kernel_rfl) (by kernel_rfl) A91 ZT (fun _ _=>aK.v0) (by kernel_rfl)
  (fun _ _ _=>kc)
  (fun Q=>⟨(q1 fun _ v σ hs=>kc hs),(q0 fun v σ hs=>kc hs),trivial⟩)
theorem ac1 (hC:CO ZU):SO 92 Gn:=
 fk (code:=c92) hC Tryz.func92 (by kernel_rfl) (by kernel_rfl) A92 ZV (fun _ _=>()) (by kernel_rfl)
  (fun _ _ _=>kc)
  (fun Q=>trivial)
theorem UL (hC:CO N7):SO 126 yM:=
 fk (code:=ZW) hC Tryz.func126 (by kernel_rfl) (by kernel_rfl) ZX SC (fun _ _=>bf.v0) (by kernel_rfl)
  (fun _ _ _=>kc)
  (fun Q=>⟨(q1 fun _ v σ hs=>kc hs),(q1 fun _ v σ hs=>kc hs),trivial⟩)
theorem UM (hC:CO N9):SO 127 yN:=
 fk (code:=ZY) hC Tryz.func127 (by kernel_rfl) (by kernel_rfl) ZZ SI (fun _ _=>aU.v0) (by kernel_rfl)
  (fun _ _ _=>kc)
  (fun Q=>⟨(q1 fun _ v σ hs=>kc hs),(q1 fun _ v σ hs=>kc hs),trivial⟩)
theorem UN (hC:CO Ob):SO 118 yO:=
 fk (code:=Z0) hC Tryz.func118 (by kernel_rfl) (by kernel_rfl) Z1 SL (fun _ _=>cF.v0) (by kernel_rfl)
  (fun _ _ _=>kc)
  (fun Q=>⟨(q0 fun v σ hs=>kc hs),trivial⟩)
theorem UO (hC:CO Od):SO 108 yP:=
 fk (code:=Z2) hC Tryz.func108 (by kernel_rfl) (by kernel_rfl) Z3 SN (fun _ _=>()) (by kernel_rfl)
  (fun _ _ _=>kc)
  (fun Q=>trivial)
theorem ac2 (hC:CO Z4):SO 94 Gt:=
 fk (code:=c94) hC Tryz.func94 (by kernel_rfl) (by kernel_rfl) A94 Z7 (fun _ _=>bB.v0) (by kernel_rfl)
  (fun _ _ _=>kc)
  (fun Q=>⟨(q0 fun v σ hs=>kc hs),(q0 fun v σ hs=>kc hs),trivial⟩)
theorem ac3 (hC:CO Z8):SO 77 Gu:=
 fk (code:=c77) hC Tryz.func77 (by kernel_rfl) (by kernel_rfl) A77 aab (fun _ _=>cr.v0) (by kernel_rfl)
  (fun _ _ _=>kc)
  (fun Q=>⟨(q1 fun _ v σ hs=>kc hs),(q0 fun v σ hs=>kc hs),trivial⟩)
theorem ac4 (hC:CO C50):SO 50 Gv:=
 fk (code:=c50) hC Tryz.func50 (by kernel_rfl) (by kernel_rfl) A50 aaf (fun _ _=>cj.v0) (by kernel_rfl)
  (fun _ _ _=>kc)
  (fun Q=>⟨(q0 fun v σ hs=>kc hs),trivial⟩)
theorem ac5 (hC:CO C19):SO 19 Gw:=
 fk (code:=c19) hC Tryz.func19 (by kernel_rfl) (by kernel_rfl) A19 aah (fun _ _=>()) (by kernel_rfl)
  (fun _ _ _=>kc)
  (fun Q=>trivial)
theorem ac6 (hC:CO C46):SO 46 Gx:=
 fk (code:=c46) hC Tryz.func46 (by kernel_rfl) (by kernel_rfl) A46 aaj (fun _ _=>()) (by kernel_rfl)
  (fun _ _ _=>kc)
  (fun Q=>trivial)
theorem ac7 (hC:CO C47):SO 47 Gy:=
 fk (code:=c47) hC Tryz.func47 (by kernel_rfl) (by kernel_rfl) A47 aal (fun _ _=>()) (by kernel_rfl)
  (fun _ _ _=>kc)
  (fun Q=>trivial)
theorem ac8 (hC:CO C15):SO 15 Gz:=
 fk (code:=c15) hC Tryz.func15 (by kernel_rfl) (by kernel_rfl) A15 aap (fun _ _=>bW.v0) (by kernel_rfl)
  (fun x o Q h=>match o,h with | some σ,h=>kc h | none,h=>h.elim)
  (fun Q=>⟨(q1 fun _ v σ hs=>match σ,hs with | some σ,hs=>kc hs | none,hs=>hs.elim),(q1 fun _ v σ hs=>match σ,hs with | some σ,hs=>kc hs | none,hs=>hs.elim),trivial⟩)
theorem ac9 (hC:CO C67):SO 67 GA:=
 fk (code:=c67) hC Tryz.func67 (by kernel_rfl) (by kernel_rfl) A67 aar (fun _ _=>()) (by kernel_rfl)
  (fun _ _ _=>kc)
  (fun Q=>trivial)
theorem ada (hC:CO C41):SO 41 GB:=
 fk (code:=c41) hC Tryz.func41 (by kernel_rfl) (by kernel_rfl) A41 aav (fun _ _=>ax.v0) (by kernel_rfl)
  (fun _ _ _=>kc)
  (fun Q=>⟨(q0 fun v σ hs=>kc hs),trivial⟩)
theorem UP (hC:CO Oj):SO 101 yQ:=
 fk (code:=aaw) hC Tryz.func101 (by kernel_rfl) (by kernel_rfl) aax S6 (fun _ _=>an.v0) (by kernel_rfl)
  (fun _ _ _=>kc)
  (fun Q=>⟨(q1 fun _ v σ hs=>kc hs),(q1 fun _ v σ hs=>kc hs),(fun inner hl=>by obtain ⟨S1,S2,rfl⟩:=vl hl; exact fun v σ hs=>kc hs),(fun inner hl=>by obtain ⟨S1,S2,rfl⟩:=vl hl; exact fun v σ hs=>kc hs),trivial⟩)
theorem UQ (hC:CO Ol):SO 114 yR:=
 fk (code:=aay) hC Tryz.func114 (by kernel_rfl) (by kernel_rfl) aaz S9 (fun _ _=>()) (by kernel_rfl)
  (fun _ _ _=>kc)
  (fun Q=>trivial)
theorem UR (hC:CO Om):SO 102 yS:=
 fk (code:=aaA) hC Tryz.func102 (by kernel_rfl) (by kernel_rfl) aaB Tc (fun _ _=>aE.v0) (by kernel_rfl)
  (fun _ _ _=>kc)
  (fun Q=>⟨(q1 fun _ v σ hs=>kc hs),(q1 fun _ v σ hs=>kc hs),(q1 fun _ v σ hs=>kc hs),(q1 fun _ v σ hs=>kc hs),trivial⟩)
theorem US (hC:CO Oo):SO 103 yT:=
 fk (code:=aaC) hC Tryz.func103 (by kernel_rfl) (by kernel_rfl) aaD Tf (fun _ _=>aA.v0) (by kernel_rfl)
  (fun _ _ _=>kc)
  (fun Q=>⟨(q1 fun _ v σ hs=>kc hs),(q1 fun _ v σ hs=>kc hs),(q1 fun _ v σ hs=>kc hs),trivial⟩)
theorem adb (hC:CO C86):SO 86 GG:=
 fk (code:=c86) hC Tryz.func86 (by kernel_rfl) (by kernel_rfl) A86 aaH (fun _ _=>aR.v0) (by kernel_rfl)
  (fun _ _ _=>kc)
  (fun Q=>⟨(q1 fun _ v σ hs=>kc hs),(q1 fun _ v σ hs=>kc hs),trivial⟩)
theorem ade (hC:CO C87):SO 87 GH:=
 fk (code:=c87) hC Tryz.func87 (by kernel_rfl) (by kernel_rfl) A87 aaL (fun _ _=>aS.v0) (by kernel_rfl)
  (fun _ _ _=>kc)
  (fun Q=>⟨(q1 fun _ v σ hs=>kc hs),(q1 fun _ v σ hs=>kc hs),trivial⟩)
theorem UT (hC:CO Ov):SO 104 yU:=
 fk (code:=aaM) hC Tryz.func104 (by kernel_rfl) (by kernel_rfl) aaN Tk (fun _ _=>aI.v0) (by kernel_rfl)
  (fun _ _ _=>kc)
  (fun Q=>⟨(q1 fun _ v σ hs=>kc hs),trivial⟩)
end Go.Proofs.YtkgbogibfogjgaaGreatDoor.Ek
