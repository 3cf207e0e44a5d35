import Derived.Test.YtkgbogibfogjgaaGreatDoorTiE
import Derived.Test.YtkgbogibfogjgaaGreatDoorTiI
set_option linter.unusedVariables false
set_option linter.unusedSimpArgs false
set_option maxHeartbeats 4000000
set_option maxRecDepth 100000
namespace Go.Proofs.YtkgbogibfogjgaaGreatDoor.Ek
open Go Go.Wc Go.Pu Go.Ex Go.Proofs.YtkgbogibfogjgaaGreatDoor Go.Pt
theorem ok6 (hC:CO C6):SO 6 RE:=
 fk (code:=c6) hC Tryz.func6 (by kernel_rfl) (by kernel_rfl) A6 pt6 (fun _ _=>aO.v0) (by kernel_rfl)
  (fun _ _ _=>kc)
  (fun Q=>⟨(q0 fun v σ hs=>kc hs),(q1 fun _ v σ hs=>kc hs),trivial⟩)
theorem ok8 (hC:CO C8):SO 8 RF:=
 fk (code:=c8) hC Tryz.func8 (by kernel_rfl) (by kernel_rfl) A8 pt8 (fun _ _=>bu.v0) (by kernel_rfl)
  (fun _ _ _=>kc)
  (fun Q=>⟨(q1 fun _ v σ hs=>kc hs),trivial⟩)
theorem acn (hC:CO Xj):SO 11 Fv:=
 fk (code:=c11) hC Tryz.func11 (by kernel_rfl) (by kernel_rfl) A11 Xm (fun _ _=>bq.v0) (by kernel_rfl)
  (fun _ _ _=>kc)
  (fun Q=>⟨(q1 fun _ v σ hs=>kc hs),trivial⟩)
theorem aco (hC:CO Xn):SO 16 Fw:=
 fk (code:=c16) hC Tryz.func16 (by kernel_rfl) (by kernel_rfl) A16 Xo (fun _ _=>()) (by kernel_rfl)
  (fun _ _ _=>kc)
  (fun Q=>trivial)
theorem acp (hC:CO Xp):SO 30 Fx:=
 fk (code:=c30) hC Tryz.func30 (by kernel_rfl) (by kernel_rfl) A30 Xs (fun _ _=>bM.v0) (by kernel_rfl)
  (fun _ _ _=>kc)
  (fun Q=>⟨(q0 fun v σ hs=>kc hs),(q1 fun _ v σ hs=>kc hs),(q1 fun _ v σ hs=>kc hs),trivial⟩)
theorem acq (hC:CO Xt):SO 31 Fy:=
 fk (code:=c31) hC Tryz.func31 (by kernel_rfl) (by kernel_rfl) A31 Xu (fun _ _=>()) (by kernel_rfl)
  (fun _ _ _=>kc)
  (fun Q=>trivial)
theorem acr (hC:CO Xv):SO 81 FA:=
 fk (code:=c81) hC Tryz.func81 (by kernel_rfl) (by kernel_rfl) A81 Xw (fun _ _=>()) (by kernel_rfl)
  (fun _ _ _=>kc)
  (fun Q=>trivial)
theorem acs (hC:CO Xx):SO 61 FB:=
 fk (code:=c61) hC Tryz.func61 (by kernel_rfl) (by kernel_rfl) A61 XA (fun _ _=>bC.v0) (by kernel_rfl)
  (fun _ _ _=>kc)
  (fun Q=>⟨(q1 fun _ v σ hs=>kc hs),trivial⟩)
theorem acu (hC:CO XB):SO 34 FC:=
 fk (code:=c34) hC Tryz.func34 (by kernel_rfl) (by kernel_rfl) A34 XE (fun _ _=>bn.v0) (by kernel_rfl)
  (fun _ _ _=>kc)
  (fun Q=>⟨(q0 fun v σ hs=>kc hs),trivial⟩)
theorem Uz (hC:CO Nq):SO 119 yy:=
 fk (code:=XF) hC Tryz.func119 (by kernel_rfl) (by kernel_rfl) XG RK (fun _ _=>()) (by kernel_rfl)
  (fun _ _ _=>kc)
  (fun Q=>trivial)
theorem G9 (hC:CO Nr):SO 109 sH:=
 fk (code:=XH) hC Tryz.func109 (by kernel_rfl) (by kernel_rfl) XI RN (fun _ _=>aV.v0) (by kernel_rfl)
  (fun _ _ _=>kc)
  (fun Q=>⟨(q1 fun _ v σ hs=>kc hs),(q1 fun _ v σ hs=>kc hs),trivial⟩)
theorem UA (hC:CO Nt):SO 121 yz:=
 fk (code:=XJ) hC Tryz.func121 (by kernel_rfl) (by kernel_rfl) XK RO (fun _ _=>()) (by kernel_rfl)
  (fun _ _ _=>kc)
  (fun Q=>trivial)
theorem UB (hC:CO Nv):SO 120 yA:=
 fk (code:=XL) hC Tryz.func120 (by kernel_rfl) (by kernel_rfl) XN RP (fun _ _=>()) (by kernel_rfl)
  (fun _ _ _=>kc)
  (fun Q=>trivial)
theorem He (hC:CO JY):SO 111 pV:=
 fk (code:=XO) hC Tryz.func111 (by kernel_rfl) (by kernel_rfl) XP RQ (fun _ _=>()) (by kernel_rfl)
  (fun _ _ _=>kc)
  (fun Q=>trivial)
theorem acv (hC:CO XQ):SO 82 FE:=
 fk (code:=c82) hC Tryz.func82 (by kernel_rfl) (by kernel_rfl) A82 XT (fun _ _=>bK.v0) (by kernel_rfl)
  (fun _ _ _=>kc)
  (fun Q=>⟨(q1 fun _ v σ hs=>kc hs),(fun inner hl=>by obtain ⟨S1,S2,rfl⟩:=vl hl; exact fun v σ hs=>kc hs),trivial⟩)
theorem acw (hC:CO XU):SO 83 FF:=
 fk (code:=c83) hC Tryz.func83 (by kernel_rfl) (by kernel_rfl) A83 XY (fun _ _=>bL.v0) (by kernel_rfl)
  (fun _ _ _=>kc)
  (fun Q=>⟨(q1 fun _ v σ hs=>kc hs),(q1 fun _ v σ hs=>kc hs),trivial⟩)
theorem acy (hC:CO XZ):SO 62 FG:=
 fk (code:=c62) hC Tryz.func62 (by kernel_rfl) (by kernel_rfl) A62 X3 (fun _ _=>cE.v0) (by kernel_rfl)
  (fun _ _ _=>kc)
  (fun Q=>⟨(q0 fun v σ hs=>kc hs),trivial⟩)
theorem acz (hC:CO VX):SO 63 Dv:=
 fk (code:=c63) hC Tryz.func63 (by kernel_rfl) (by kernel_rfl) A63 X4 (fun _ _=>()) (by kernel_rfl)
  (fun _ _ _=>kc)
  (fun Q=>trivial)
theorem acA (hC:CO X5):SO 97 FH:=
 fk (code:=c97) hC Tryz.func97 (by kernel_rfl) (by kernel_rfl) A97 X6 (fun _ _=>()) (by kernel_rfl)
  (fun _ _ _=>kc)
  (fun Q=>trivial)
theorem UC (hC:CO Nz):SO 112 yB:=
 fk (code:=X7) hC Tryz.func112 (by kernel_rfl) (by kernel_rfl) X9 RV (fun _ _=>()) (by kernel_rfl)
  (fun _ _ _=>kc)
  (fun Q=>trivial)
theorem UD (hC:CO NA):SO 124 yC:=
 fk (code:=Ya) hC Tryz.func124 (by kernel_rfl) (by kernel_rfl) Yb RW (fun _ _=>()) (by kernel_rfl)
  (fun _ _ _=>kc)
  (fun Q=>trivial)
theorem UE (hC:CO NB):SO 133 yD:=
 fk (code:=Yc) hC Tryz.func133 (by kernel_rfl) (by kernel_rfl) Yd RZ (fun _ _=>cy.v0) (by kernel_rfl)
  (fun _ _ _=>kc)
  (fun Q=>⟨(q1 fun _ v σ hs=>kc hs),trivial⟩)
theorem UF (hC:CO ND):SO 122 yE:=
 fk (code:=Ye) hC Tryz.func122 (by kernel_rfl) (by kernel_rfl) Yf R7 (fun _ _=>bT.v0) (by kernel_rfl)
  (fun _ _ _=>kc)
  (fun Q=>⟨(q1 fun _ v σ hs=>kc hs),(q1 fun _ v σ hs=>kc hs),trivial⟩)
theorem UG (hC:CO NG):SO 123 yF:=
 fk (code:=Yg) hC Tryz.func123 (by kernel_rfl) (by kernel_rfl) Yh R8 (fun _ _=>()) (by kernel_rfl)
  (fun _ _ _=>kc)
  (fun Q=>trivial)
theorem UH (hC:CO NH):SO 113 yG:=
 fk (code:=Yi) hC Tryz.func113 (by kernel_rfl) (by kernel_rfl) Yj Sb (fun _ _=>bU.v0) (by kernel_rfl)
  (fun _ _ _=>kc)
  (fun Q=>⟨(q1 fun _ v σ hs=>kc hs),(q1 fun _ v σ hs=>kc hs),trivial⟩)
theorem acB (hC:CO Yk):SO 98 FM:=
 fk (code:=c98) hC Tryz.func98 (by kernel_rfl) (by kernel_rfl) A98 Yo (fun _ _=>aQ.v0) (by kernel_rfl)
  (fun _ _ _=>kc)
  (fun Q=>⟨(q0 fun v σ hs=>kc hs),(q0 fun v σ hs=>kc hs),(q1 fun _ v σ hs=>kc hs),trivial⟩)
theorem acC (hC:CO Yp):SO 99 FN:=
 fk (code:=c99) hC Tryz.func99 (by kernel_rfl) (by kernel_rfl) A99 Ys (fun _ _=>aY.v0) (by kernel_rfl)
  (fun _ _ _=>kc)
  (fun Q=>⟨(q1 fun _ v σ hs=>kc hs),(q1 fun _ v σ hs=>kc hs),(q1 fun _ v σ hs=>kc hs),trivial⟩)
end Go.Proofs.YtkgbogibfogjgaaGreatDoor.Ek
