import Derived.Test.YtkgbogibfogjgaaGreatDoorTiE
import Derived.Test.YtkgbogibfogjgaaGreatDoorTiI
set_option linter.unusedVariables false
set_option linter.unusedSimpArgs false
set_option maxHeartbeats 4000000
set_option maxRecDepth 100000
namespace Go.Proofs.YtkgbogibfogjgaaGreatDoor.Ek
open Go Go.Wc Go.Pu Go.Ex Go.Proofs.YtkgbogibfogjgaaGreatDoor Go.Pt
theorem adf (hC:CO C88):SO 88 GJ:=
 fk (code:=c88) hC Tryz.func88 (by kernel_rfl) (by kernel_rfl) A88 aaR (fun _ _=>aq.v0) (by kernel_rfl)
  (fun _ _ _=>kc)
  (fun Q=>⟨(q1 fun _ v σ hs=>kc hs),(q1 fun _ v σ hs=>kc hs),(q1 fun _ v σ hs=>kc hs),(q1 fun _ v σ hs=>kc hs),trivial⟩)
theorem adg (hC:CO C70):SO 70 GK:=
 fk (code:=c70) hC Tryz.func70 (by kernel_rfl) (by kernel_rfl) A70 aaV (fun _ _=>aT.v0) (by kernel_rfl)
  (fun _ _ _=>kc)
  (fun Q=>⟨(q1 fun _ v σ hs=>kc hs),(q1 fun _ v σ hs=>kc hs),trivial⟩)
theorem UU (hC:CO Oz):SO 115 yV:=
 fk (code:=aaW) hC Tryz.func115 (by kernel_rfl) (by kernel_rfl) aaX Tn (fun _ _=>()) (by kernel_rfl)
  (fun _ _ _=>kc)
  (fun Q=>trivial)
theorem UW (hC:CO OA):SO 116 yW:=
 fk (code:=aaY) hC Tryz.func116 (by kernel_rfl) (by kernel_rfl) aaZ To (fun _ _=>()) (by kernel_rfl)
  (fun _ _ _=>kc)
  (fun Q=>trivial)
theorem UX (hC:CO OC):SO 125 yX:=
 fk (code:=aa0) hC Tryz.func125 (by kernel_rfl) (by kernel_rfl) aa1 Ts (fun _ _=>aZ.v0) (by kernel_rfl)
  (fun _ _ _=>kc)
  (fun Q=>⟨(q1 fun _ v σ hs=>kc hs),trivial⟩)
theorem UY (hC:CO OE):SO 117 yY:=
 fk (code:=aa2) hC Tryz.func117 (by kernel_rfl) (by kernel_rfl) aa3 Tt (fun _ _=>()) (by kernel_rfl)
  (fun _ _ _=>kc)
  (fun Q=>trivial)
theorem UZ (hC:CO OF):SO 105 yZ:=
 fk (code:=aa4) hC Tryz.func105 (by kernel_rfl) (by kernel_rfl) aa5 Tw (fun _ _=>ai.v0) (by kernel_rfl)
  (fun _ _ _=>kc)
  (fun Q=>⟨(q1 fun _ v σ hs=>kc hs),(q1 fun _ v σ hs=>kc hs),(q1 fun _ v σ hs=>kc hs),(fun inner hl=>by obtain ⟨S3,S4,rfl⟩:=vl hl; exact fun v σ hs=>kc hs),(fun inner hl=>by obtain ⟨S3,S4,rfl⟩:=vl hl; exact fun v σ hs=>kc hs),(fun inner hl=>by obtain ⟨S3,S4,S5,rfl⟩:=V6 hl; exact fun v σ hs=>kc hs),(q1 fun _ v σ hs=>kc hs),(fun inner hl=>by obtain ⟨S7,S8,rfl⟩:=vl hl; exact fun v σ hs=>kc hs),trivial⟩)
theorem adh (hC:CO C89):SO 89 GN:=
 fk (code:=c89) hC Tryz.func89 (by kernel_rfl) (by kernel_rfl) A89 aa9 (fun _ _=>aJ.v0) (by kernel_rfl)
  (fun _ _ _=>kc)
  (fun Q=>⟨(q0 fun v σ hs=>kc hs),(q1 fun _ v σ hs=>kc hs),trivial⟩)
theorem adi (hC:CO C75):SO 75 GO:=
 fk (code:=c75) hC Tryz.func75 (by kernel_rfl) (by kernel_rfl) A75 abd (fun _ _=>bw.v0) (by kernel_rfl)
  (fun _ _ _=>kc)
  (fun Q=>⟨(q1 fun _ v σ hs=>kc hs),trivial⟩)
theorem adj (hC:CO C76):SO 76 GP:=
 fk (code:=c76) hC Tryz.func76 (by kernel_rfl) (by kernel_rfl) A76 abh (fun _ _=>aN.v0) (by kernel_rfl)
  (fun _ _ _=>kc)
  (fun Q=>⟨(q1 fun _ v σ hs=>kc hs),(q1 fun _ v σ hs=>kc hs),trivial⟩)
theorem adk (hC:CO C49):SO 49 GQ:=
 fk (code:=c49) hC Tryz.func49 (by kernel_rfl) (by kernel_rfl) A49 abl (fun _ _=>bD.v0) (by kernel_rfl)
  (fun _ _ _=>kc)
  (fun Q=>⟨(q0 fun v σ hs=>kc hs),trivial⟩)
theorem adl (hC:CO C18):SO 18 GR:=
 fk (code:=c18) hC Tryz.func18 (by kernel_rfl) (by kernel_rfl) A18 abp (fun _ _=>bz.v0) (by kernel_rfl)
  (fun _ _ _=>kc)
  (fun Q=>⟨(q0 fun v σ hs=>kc hs),trivial⟩)
theorem adm (hC:CO C38):SO 38 GS:=
 fk (code:=c38) hC Tryz.func38 (by kernel_rfl) (by kernel_rfl) A38 abu (fun _ _=>au.v0) (by kernel_rfl)
  (fun _ _ _=>kc)
  (fun Q=>⟨(q0 fun v σ hs=>kc hs),(q1 fun _ v σ hs=>kc hs),(q1 fun _ v σ hs=>kc hs),trivial⟩)
theorem adn (hC:CO C68):SO 68 GU:=
 fk (code:=c68) hC Tryz.func68 (by kernel_rfl) (by kernel_rfl) A68 aby (fun _ _=>bF.v0) (by kernel_rfl)
  (fun _ _ _=>kc)
  (fun Q=>⟨(q1 fun _ v σ hs=>kc hs),trivial⟩)
theorem ado (hC:CO C39):SO 39 GV:=
 fk (code:=c39) hC Tryz.func39 (by kernel_rfl) (by kernel_rfl) A39 abC (fun _ _=>aB.v0) (by kernel_rfl)
  (fun _ _ _=>kc)
  (fun Q=>⟨(q0 fun v σ hs=>kc hs),(q1 fun _ v σ hs=>kc hs),(q1 fun _ v σ hs=>kc hs),(q1 fun _ v σ hs=>kc hs),trivial⟩)
theorem adp (hC:CO C95):SO 95 GW:=
 fk (code:=c95) hC Tryz.func95 (by kernel_rfl) (by kernel_rfl) A95 abG (fun _ _=>ay.v0) (by kernel_rfl)
  (fun _ _ _=>kc)
  (fun Q=>⟨(q0 fun v σ hs=>kc hs),(q1 fun _ v σ hs=>kc hs),(q1 fun _ v σ hs=>kc hs),trivial⟩)
theorem adq (hC:CO C78):SO 78 GX:=
 fk (code:=c78) hC Tryz.func78 (by kernel_rfl) (by kernel_rfl) A78 abK (fun _ _=>aL.v0) (by kernel_rfl)
  (fun _ _ _=>kc)
  (fun Q=>⟨(q1 fun _ v σ hs=>kc hs),(q1 fun _ v σ hs=>kc hs),(q0 fun v σ hs=>kc hs),trivial⟩)
theorem ads (hC:CO C51):SO 51 GY:=
 fk (code:=c51) hC Tryz.func51 (by kernel_rfl) (by kernel_rfl) A51 abO (fun _ _=>az.v0) (by kernel_rfl)
  (fun _ _ _=>kc)
  (fun Q=>⟨(q0 fun v σ hs=>kc hs),(q0 fun v σ hs=>kc hs),trivial⟩)
theorem adt (hC:CO C20):SO 20 GZ:=
 fk (code:=c20) hC Tryz.func20 (by kernel_rfl) (by kernel_rfl) A20 abQ (fun _ _=>()) (by kernel_rfl)
  (fun _ _ _=>kc)
  (fun Q=>trivial)
theorem adu (hC:CO VZ):SO 21 Dw:=
 fk (code:=c21) hC Tryz.func21 (by kernel_rfl) (by kernel_rfl) A21 abT (fun _ _=>bx.v0) (by kernel_rfl)
  (fun _ _ _=>kc)
  (fun Q=>⟨(q1 fun _ v σ hs=>kc hs),trivial⟩)
theorem ok4 (hC:CO C4):SO 4 TM:=
 fk (code:=c4) hC Tryz.func4 (by kernel_rfl) (by kernel_rfl) A4 pt4 (fun _ _=>aj.v0) (by kernel_rfl)
  (fun x o Q h=>match o,h with | some σ,h=>kc h | none,h=>h.elim)
  (fun Q=>⟨(q0 fun v σ hs=>match σ,hs with | some σ,hs=>kc hs | none,hs=>hs.elim),(q0 fun v σ hs=>match σ,hs with | some σ,hs=>kc hs | none,hs=>hs.elim),(q0 fun v σ hs=>match σ,hs with | some σ,hs=>kc hs | none,hs=>hs.elim),(q0 fun v σ hs=>match σ,hs with | some σ,hs=>kc hs | none,hs=>hs.elim),(q1 fun _ v σ hs=>match σ,hs with | some σ,hs=>kc hs | none,hs=>hs.elim),(q1 fun _ v σ hs=>match σ,hs with | some σ,hs=>kc hs | none,hs=>hs.elim),trivial⟩)
end Go.Proofs.YtkgbogibfogjgaaGreatDoor.Ek
