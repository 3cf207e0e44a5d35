import Derived.Test.YtkgbogibfogjgaaGreatDoorTiE
import Derived.Test.YtkgbogibfogjgaaGreatDoorTiI
set_option linter.unusedVariables false
set_option linter.unusedSimpArgs false
set_option maxHeartbeats 4000000
set_option maxRecDepth 100000
namespace Go.Proofs.YtkgbogibfogjgaaGreatDoor.Ek
open Go Go.Wc Go.Pu Go.Ex Go.Proofs.YtkgbogibfogjgaaGreatDoor Go.Pt
theorem O2 (hC:CO VY):SO 84 yH:=
 fk (code:=c84) hC Tryz.func84 (by kernel_rfl) (by kernel_rfl) A84 Yv (fun _ _=>cx.v0) (by kernel_rfl)
  (fun _ _ _=>kc)
  (fun Q=>⟨(q1 fun _ v σ hs=>kc hs),trivial⟩)
theorem acD (hC:CO Yw):SO 35 FO:=
 fk (code:=c35) hC Tryz.func35 (by kernel_rfl) (by kernel_rfl) A35 Yz (fun _ _=>cB.v0) (by kernel_rfl)
  (fun x o Q h=>match o,h with | some σ,h=>kc h | none,h=>h.elim)
  (fun Q=>⟨(q0 fun v σ hs=>match σ,hs with | some σ,hs=>kc hs | none,hs=>hs.elim),trivial⟩)
theorem acE (hC:CO YA):SO 33 FP:=
 fk (code:=c33) hC Tryz.func33 (by kernel_rfl) (by kernel_rfl) A33 YB (fun _ _=>()) (by kernel_rfl)
  (fun x o Q h=>match o,h with | some σ,h=>kc h | none,h=>h.elim)
  (fun Q=>trivial)
theorem acF (hC:CO YC):SO 36 FQ:=
 fk (code:=c36) hC Tryz.func36 (by kernel_rfl) (by kernel_rfl) A36 YF (fun _ _=>bA.v0) (by kernel_rfl)
  (fun _ _ _=>kc)
  (fun Q=>⟨(q1 fun _ v σ hs=>kc hs),trivial⟩)
theorem UI (hC:CO NP):SO 100 yI:=
 fk (code:=YG) hC Tryz.func100 (by kernel_rfl) (by kernel_rfl) YI Si (fun _ _=>()) (by kernel_rfl)
  (fun _ _ _=>kc)
  (fun Q=>trivial)
theorem acG (hC:CO YJ):SO 85 FU:=
 fk (code:=c85) hC Tryz.func85 (by kernel_rfl) (by kernel_rfl) A85 YM (fun _ _=>bJ.v0) (by kernel_rfl)
  (fun _ _ _=>kc)
  (fun Q=>⟨(q0 fun v σ hs=>kc hs),(q0 fun v σ hs=>kc hs),(q0 fun v σ hs=>kc hs),(q0 fun v σ hs=>kc hs),(q0 fun v σ hs=>kc hs),(q0 fun v σ hs=>kc hs),(q0 fun v σ hs=>kc hs),trivial⟩)
theorem acH (hC:CO YN):SO 65 FV:=
 fk (code:=c65) hC Tryz.func65 (by kernel_rfl) (by kernel_rfl) A65 YO (fun _ _=>()) (by kernel_rfl)
  (fun _ _ _=>kc)
  (fun Q=>trivial)
theorem acI (hC:CO YP):SO 66 FW:=
 fk (code:=c66) hC Tryz.func66 (by kernel_rfl) (by kernel_rfl) A66 YQ (fun _ _=>()) (by kernel_rfl)
  (fun _ _ _=>kc)
  (fun Q=>trivial)
theorem acJ (hC:CO YR):SO 37 FX:=
 fk (code:=c37) hC Tryz.func37 (by kernel_rfl) (by kernel_rfl) A37 YU (fun _ _=>cq.v0) (by kernel_rfl)
  (fun _ _ _=>kc)
  (fun Q=>⟨(q0 fun v σ hs=>kc hs),(q1 fun _ v σ hs=>kc hs),(q1 fun _ v σ hs=>kc hs),trivial⟩)
theorem Kh (hC:CO AS):SO 60 nU:=
 fk (code:=NS) hC Tryz.func60 (by kernel_rfl) (by kernel_rfl) NT J6 (fun _ x=>(aC.v0,())) (by kernel_rfl)
  (fun _ _ _=>kc)
  (fun Q=>⟨(q1 fun _ v σ hs=>kc hs),trivial⟩)
theorem Ki (hC:CO AT):SO 32 nV:=
 fk (code:=NU) hC Tryz.func32 (by kernel_rfl) (by kernel_rfl) NV J7 (fun _ _=>()) (by kernel_rfl)
  (fun _ _ _=>kc)
  (fun Q=>trivial)
theorem ok9 (hC:CO C9):SO 9 Sm:=
 fk (code:=c9) hC Tryz.func9 (by kernel_rfl) (by kernel_rfl) A9 pt9 (fun _ _=>bR.v0) (by kernel_rfl)
  (fun x o Q h=>match o,h with | some σ,h=>kc h | none,h=>h.elim)
  (fun Q=>⟨(q0 fun v σ hs=>match σ,hs with | some σ,hs=>kc hs | none,hs=>hs.elim),(q1 fun _ v σ hs=>match σ,hs with | some σ,hs=>kc hs | none,hs=>hs.elim),(q1 fun _ v σ hs=>match σ,hs with | some σ,hs=>kc hs | none,hs=>hs.elim),trivial⟩)
theorem acK (hC:CO YX):SO 22 F4:=
 fk (code:=c22) hC Tryz.func22 (by kernel_rfl) (by kernel_rfl) A22 YY (fun _ _=>()) (by kernel_rfl)
  (fun _ _ _=>kc)
  (fun Q=>trivial)
theorem acL (hC:CO YZ):SO 42 F5:=
 fk (code:=c42) hC Tryz.func42 (by kernel_rfl) (by kernel_rfl) A42 Y6 (fun _ _=>dm.v0) (by kernel_rfl)
  (fun _ _ _=>kc)
  (fun Q=>⟨(q0 fun v σ hs=>kc hs),trivial⟩)
theorem acM (hC:CO Y7):SO 72 F6:=
 fk (code:=c72) hC Tryz.func72 (by kernel_rfl) (by kernel_rfl) A72 Y8 (fun _ _=>()) (by kernel_rfl)
  (fun _ _ _=>kc)
  (fun Q=>trivial)
theorem acN (hC:CO Y9):SO 52 F7:=
 fk (code:=c52) hC Tryz.func52 (by kernel_rfl) (by kernel_rfl) A52 Zc (fun _ _=>bQ.v0) (by kernel_rfl)
  (fun _ _ _=>kc)
  (fun Q=>⟨(q0 fun v σ hs=>kc hs),trivial⟩)
theorem acO (hC:CO Zd):SO 74 F8:=
 fk (code:=c74) hC Tryz.func74 (by kernel_rfl) (by kernel_rfl) A74 Ze (fun _ _=>()) (by kernel_rfl)
  (fun _ _ _=>kc)
  (fun Q=>trivial)
theorem acP (hC:CO Zf):SO 71 F9:=
 fk (code:=c71) hC Tryz.func71 (by kernel_rfl) (by kernel_rfl) A71 Zg (fun _ _=>()) (by kernel_rfl)
  (fun _ _ _=>kc)
  (fun Q=>trivial)
theorem acQ (hC:CO Zh):SO 43 Ga:=
 fk (code:=c43) hC Tryz.func43 (by kernel_rfl) (by kernel_rfl) A43 Zk (fun _ _=>cM.v0) (by kernel_rfl)
  (fun _ _ _=>kc)
  (fun Q=>⟨(q1 fun _ v σ hs=>kc hs),trivial⟩)
theorem acR (hC:CO Zl):SO 73 Gb:=
 fk (code:=c73) hC Tryz.func73 (by kernel_rfl) (by kernel_rfl) A73 Zm (fun _ _=>()) (by kernel_rfl)
  (fun _ _ _=>kc)
  (fun Q=>trivial)
theorem acS (hC:CO Zn):SO 44 Gc:=
 fk (code:=c44) hC Tryz.func44 (by kernel_rfl) (by kernel_rfl) A44 Zq (fun _ _=>bE.v0) (by kernel_rfl)
  (fun _ _ _=>kc)
  (fun Q=>⟨(q1 fun _ v σ hs=>kc hs),trivial⟩)
theorem acT (hC:CO Zr):SO 12 Gd:=
 fk (code:=c12) hC Tryz.func12 (by kernel_rfl) (by kernel_rfl) A12 Zu (fun _ _=>bt.v0) (by kernel_rfl)
  (fun x o Q h=>match o,h with | some σ,h=>kc h | none,h=>h.elim)
  (fun Q=>⟨(q0 fun v σ hs=>match σ,hs with | some σ,hs=>kc hs | none,hs=>hs.elim),trivial⟩)
theorem acU (hC:CO Zv):SO 13 Ge:=
 fk (code:=c13) hC Tryz.func13 (by kernel_rfl) (by kernel_rfl) A13 Zy (fun _ _=>av.v0) (by kernel_rfl)
  (fun _ _ _=>kc)
  (fun Q=>⟨(q0 fun v σ hs=>kc hs),(q1 fun _ v σ hs=>kc hs),(q1 fun _ v σ hs=>kc hs),(q1 fun _ v σ hs=>kc hs),(fun inner hl=>by obtain ⟨S3,S5,rfl⟩:=vl hl; exact fun v σ hs=>kc hs),trivial⟩)
theorem acV (hC:CO Zz):SO 14 Gf:=
 fk (code:=c14) hC Tryz.func14 (by kernel_rfl) (by kernel_rfl) A14 ZA (fun _ _=>()) (by kernel_rfl)
  (fun _ _ _=>kc)
  (fun Q=>trivial)
theorem acW (hC:CO ZC):SO 48 Gh:=
 fk (code:=c48) hC Tryz.func48 (by kernel_rfl) (by kernel_rfl) A48 ZF (fun _ _=>cI.v0) (by kernel_rfl)
  (fun x o Q h=>match o,h with | some σ,h=>kc h | none,h=>h.elim)
  (fun Q=>⟨(q0 fun v σ hs=>match σ,hs with | some σ,hs=>kc hs | none,hs=>hs.elim),trivial⟩)
theorem acX (hC:CO ZG):SO 17 Gi:=
 fk (code:=c17) hC Tryz.func17 (by kernel_rfl) (by kernel_rfl) A17 ZH (fun _ _=>()) (by kernel_rfl)
  (fun x o Q h=>match o,h with | some σ,h=>kc h | none,h=>h.elim)
  (fun Q=>trivial)
end Go.Proofs.YtkgbogibfogjgaaGreatDoor.Ek
