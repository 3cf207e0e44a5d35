import Derived.Test.YtkgbogibfogjgaaGreatDoorTmH
set_option linter.unusedVariables false
set_option linter.unusedSimpArgs false
set_option maxHeartbeats 4000000
set_option maxRecDepth 100000
namespace Go.Proofs.YtkgbogibfogjgaaGreatDoor.Ek
open Go Go.Wc Go.Pu Go.Ex Go.Proofs.YtkgbogibfogjgaaGreatDoor Go.Pt
theorem ok6 (hC:CO C6):SO 6 Nq:=
 fk (code:=c6) hC Tryz.func6 (by kernel_rfl) (by kernel_rfl) A6 Zg (fun _ _=>aJ.v0) (by kernel_rfl)
  (fun x σ Q h=>cast (by kernel_rfl) h)
  (fun Q=>⟨(fun inner hl=>by obtain rfl:=gv hl; exact fun v σ hs=>cast (by kernel_rfl) hs),(fun inner hl=>by obtain ⟨S2,rfl⟩:=cq hl; exact fun v σ hs=>cast (by kernel_rfl) hs),trivial⟩)
end Go.Proofs.YtkgbogibfogjgaaGreatDoor.Ek
namespace Go.Proofs.YtkgbogibfogjgaaGreatDoor.Ek
open Go Go.Wc Go.Pu Go.Ex Go.Proofs.YtkgbogibfogjgaaGreatDoor Go.Pt
theorem ok8 (hC:CO C8):SO 8 Nr:=
 fk (code:=c8) hC Tryz.func8 (by kernel_rfl) (by kernel_rfl) A8 Zj (fun _ _=>aX.v0) (by kernel_rfl)
  (fun x σ Q h=>cast (by kernel_rfl) h)
  (fun Q=>⟨(fun inner hl=>by obtain ⟨S1,rfl⟩:=cq hl; exact fun v σ hs=>cast (by kernel_rfl) hs),trivial⟩)
end Go.Proofs.YtkgbogibfogjgaaGreatDoor.Ek
namespace Go.Proofs.YtkgbogibfogjgaaGreatDoor.Ek
open Go Go.Wc Go.Pu Go.Ex Go.Proofs.YtkgbogibfogjgaaGreatDoor Go.Pt
theorem VN (hC:CO RV):SO 16 CI:=
 fk (code:=Zk) hC Tryz.func16 (by kernel_rfl) (by kernel_rfl) Zl RW (fun _ _=>()) (by kernel_rfl)
  (fun x σ Q h=>cast (by kernel_rfl) h)
  (fun Q=>trivial)
end Go.Proofs.YtkgbogibfogjgaaGreatDoor.Ek
namespace Go.Proofs.YtkgbogibfogjgaaGreatDoor.Ek
open Go Go.Wc Go.Pu Go.Ex Go.Proofs.YtkgbogibfogjgaaGreatDoor Go.Pt
theorem VO (hC:CO RX):SO 30 CJ:=
 fk (code:=Zm) hC Tryz.func30 (by kernel_rfl) (by kernel_rfl) Zn R5 (fun _ _=>bx.v0) (by kernel_rfl)
  (fun x σ Q h=>cast (by kernel_rfl) h)
  (fun Q=>⟨(fun inner hl=>by obtain rfl:=gv hl; exact fun v σ hs=>cast (by kernel_rfl) hs),(fun inner hl=>by obtain ⟨S2,rfl⟩:=cq hl; exact fun v σ hs=>cast (by kernel_rfl) hs),(fun inner hl=>by obtain ⟨S2,rfl⟩:=cq hl; exact fun v σ hs=>cast (by kernel_rfl) hs),trivial⟩)
end Go.Proofs.YtkgbogibfogjgaaGreatDoor.Ek
namespace Go.Proofs.YtkgbogibfogjgaaGreatDoor.Ek
open Go Go.Wc Go.Pu Go.Ex Go.Proofs.YtkgbogibfogjgaaGreatDoor Go.Pt
theorem VP (hC:CO R6):SO 31 CL:=
 fk (code:=Zo) hC Tryz.func31 (by kernel_rfl) (by kernel_rfl) Zp R7 (fun _ _=>()) (by kernel_rfl)
  (fun x σ Q h=>cast (by kernel_rfl) h)
  (fun Q=>trivial)
end Go.Proofs.YtkgbogibfogjgaaGreatDoor.Ek
namespace Go.Proofs.YtkgbogibfogjgaaGreatDoor.Ek
open Go Go.Wc Go.Pu Go.Ex Go.Proofs.YtkgbogibfogjgaaGreatDoor Go.Pt
theorem VQ (hC:CO R8):SO 81 CM:=
 fk (code:=Zq) hC Tryz.func81 (by kernel_rfl) (by kernel_rfl) Zr R9 (fun _ _=>()) (by kernel_rfl)
  (fun x σ Q h=>cast (by kernel_rfl) h)
  (fun Q=>trivial)
end Go.Proofs.YtkgbogibfogjgaaGreatDoor.Ek
namespace Go.Proofs.YtkgbogibfogjgaaGreatDoor.Ek
open Go Go.Wc Go.Pu Go.Ex Go.Proofs.YtkgbogibfogjgaaGreatDoor Go.Pt
theorem VS (hC:CO Sa):SO 61 CN:=
 fk (code:=Zs) hC Tryz.func61 (by kernel_rfl) (by kernel_rfl) Zt Se (fun _ _=>bp.v0) (by kernel_rfl)
  (fun x σ Q h=>cast (by kernel_rfl) h)
  (fun Q=>⟨(fun inner hl=>by obtain ⟨S1,rfl⟩:=cq hl; exact fun v σ hs=>cast (by kernel_rfl) hs),trivial⟩)
end Go.Proofs.YtkgbogibfogjgaaGreatDoor.Ek
namespace Go.Proofs.YtkgbogibfogjgaaGreatDoor.Ek
open Go Go.Wc Go.Pu Go.Ex Go.Proofs.YtkgbogibfogjgaaGreatDoor Go.Pt
theorem VT (hC:CO Sf):SO 34 CP:=
 fk (code:=Zu) hC Tryz.func34 (by kernel_rfl) (by kernel_rfl) Zv Si (fun _ _=>aW.v0) (by kernel_rfl)
  (fun x σ Q h=>cast (by kernel_rfl) h)
  (fun Q=>⟨(fun inner hl=>by obtain rfl:=gv hl; exact fun v σ hs=>cast (by kernel_rfl) hs),trivial⟩)
end Go.Proofs.YtkgbogibfogjgaaGreatDoor.Ek
namespace Go.Proofs.YtkgbogibfogjgaaGreatDoor.Ek
open Go Go.Wc Go.Pu Go.Ex Go.Proofs.YtkgbogibfogjgaaGreatDoor Go.Pt
theorem Py (hC:CO Jb):SO 119 vh:=
 fk (code:=Sj) hC Tryz.func119 (by kernel_rfl) (by kernel_rfl) Sk Nw (fun _ _=>()) (by kernel_rfl)
  (fun x σ Q h=>cast (by kernel_rfl) h)
  (fun Q=>trivial)
end Go.Proofs.YtkgbogibfogjgaaGreatDoor.Ek
namespace Go.Proofs.YtkgbogibfogjgaaGreatDoor.Ek
open Go Go.Wc Go.Pu Go.Ex Go.Proofs.YtkgbogibfogjgaaGreatDoor Go.Pt
theorem DJ (hC:CO Jc):SO 109 qa:=
 fk (code:=Sm) hC Tryz.func109 (by kernel_rfl) (by kernel_rfl) Sn Nz (fun _ _=>aP.v0) (by kernel_rfl)
  (fun x σ Q h=>cast (by kernel_rfl) h)
  (fun Q=>⟨(fun inner hl=>by obtain ⟨S1,rfl⟩:=cq hl; exact fun v σ hs=>cast (by kernel_rfl) hs),(fun inner hl=>by obtain ⟨S2,rfl⟩:=cq hl; exact fun v σ hs=>cast (by kernel_rfl) hs),trivial⟩)
end Go.Proofs.YtkgbogibfogjgaaGreatDoor.Ek
namespace Go.Proofs.YtkgbogibfogjgaaGreatDoor.Ek
open Go Go.Wc Go.Pu Go.Ex Go.Proofs.YtkgbogibfogjgaaGreatDoor Go.Pt
theorem Pz (hC:CO Je):SO 121 vj:=
 fk (code:=So) hC Tryz.func121 (by kernel_rfl) (by kernel_rfl) Sq NA (fun _ _=>()) (by kernel_rfl)
  (fun x σ Q h=>cast (by kernel_rfl) h)
  (fun Q=>trivial)
end Go.Proofs.YtkgbogibfogjgaaGreatDoor.Ek
namespace Go.Proofs.YtkgbogibfogjgaaGreatDoor.Ek
open Go Go.Wc Go.Pu Go.Ex Go.Proofs.YtkgbogibfogjgaaGreatDoor Go.Pt
theorem PA (hC:CO Jf):SO 120 vk:=
 fk (code:=Sr) hC Tryz.func120 (by kernel_rfl) (by kernel_rfl) Su NB (fun _ _=>()) (by kernel_rfl)
  (fun x σ Q h=>cast (by kernel_rfl) h)
  (fun Q=>trivial)
end Go.Proofs.YtkgbogibfogjgaaGreatDoor.Ek
namespace Go.Proofs.YtkgbogibfogjgaaGreatDoor.Ek
open Go Go.Wc Go.Pu Go.Ex Go.Proofs.YtkgbogibfogjgaaGreatDoor Go.Pt
theorem DK (hC:CO FF):SO 111 nQ:=
 fk (code:=Sv) hC Tryz.func111 (by kernel_rfl) (by kernel_rfl) Sw NC (fun _ _=>()) (by kernel_rfl)
  (fun x σ Q h=>cast (by kernel_rfl) h)
  (fun Q=>trivial)
end Go.Proofs.YtkgbogibfogjgaaGreatDoor.Ek
namespace Go.Proofs.YtkgbogibfogjgaaGreatDoor.Ek
open Go Go.Wc Go.Pu Go.Ex Go.Proofs.YtkgbogibfogjgaaGreatDoor Go.Pt
theorem VU (hC:CO Sx):SO 82 CS:=
 fk (code:=Zw) hC Tryz.func82 (by kernel_rfl) (by kernel_rfl) Zx SA (fun _ _=>bz.v0) (by kernel_rfl)
  (fun x σ Q h=>cast (by kernel_rfl) h)
  (fun Q=>⟨(fun inner hl=>by obtain ⟨S1,rfl⟩:=cq hl; exact fun v σ hs=>cast (by kernel_rfl) hs),(fun inner hl=>by obtain ⟨S1,S2,rfl⟩:=mP hl; exact fun v σ hs=>cast (by kernel_rfl) hs),trivial⟩)
end Go.Proofs.YtkgbogibfogjgaaGreatDoor.Ek
namespace Go.Proofs.YtkgbogibfogjgaaGreatDoor.Ek
open Go Go.Wc Go.Pu Go.Ex Go.Proofs.YtkgbogibfogjgaaGreatDoor Go.Pt
theorem VV (hC:CO SB):SO 83 CT:=
 fk (code:=Zy) hC Tryz.func83 (by kernel_rfl) (by kernel_rfl) Zz SE (fun _ _=>bA.v0) (by kernel_rfl)
  (fun x σ Q h=>cast (by kernel_rfl) h)
  (fun Q=>⟨(fun inner hl=>by obtain ⟨S1,rfl⟩:=cq hl; exact fun v σ hs=>cast (by kernel_rfl) hs),(fun inner hl=>by obtain ⟨S1,rfl⟩:=cq hl; exact fun v σ hs=>cast (by kernel_rfl) hs),trivial⟩)
end Go.Proofs.YtkgbogibfogjgaaGreatDoor.Ek
namespace Go.Proofs.YtkgbogibfogjgaaGreatDoor.Ek
open Go Go.Wc Go.Pu Go.Ex Go.Proofs.YtkgbogibfogjgaaGreatDoor Go.Pt
theorem VW (hC:CO SI):SO 62 CU:=
 fk (code:=ZA) hC Tryz.func62 (by kernel_rfl) (by kernel_rfl) ZB SL (fun _ _=>cm.v0) (by kernel_rfl)
  (fun x σ Q h=>cast (by kernel_rfl) h)
  (fun Q=>⟨(fun inner hl=>by obtain rfl:=gv hl; exact fun v σ hs=>cast (by kernel_rfl) hs),trivial⟩)
end Go.Proofs.YtkgbogibfogjgaaGreatDoor.Ek
namespace Go.Proofs.YtkgbogibfogjgaaGreatDoor.Ek
open Go Go.Wc Go.Pu Go.Ex Go.Proofs.YtkgbogibfogjgaaGreatDoor Go.Pt
theorem VX (hC:CO QG):SO 63 AO:=
 fk (code:=ZC) hC Tryz.func63 (by kernel_rfl) (by kernel_rfl) ZD SM (fun _ _=>()) (by kernel_rfl)
  (fun x σ Q h=>cast (by kernel_rfl) h)
  (fun Q=>trivial)
end Go.Proofs.YtkgbogibfogjgaaGreatDoor.Ek
namespace Go.Proofs.YtkgbogibfogjgaaGreatDoor.Ek
open Go Go.Wc Go.Pu Go.Ex Go.Proofs.YtkgbogibfogjgaaGreatDoor Go.Pt
theorem VY (hC:CO SN):SO 97 CV:=
 fk (code:=ZE) hC Tryz.func97 (by kernel_rfl) (by kernel_rfl) ZF SP (fun _ _=>()) (by kernel_rfl)
  (fun x σ Q h=>cast (by kernel_rfl) h)
  (fun Q=>trivial)
end Go.Proofs.YtkgbogibfogjgaaGreatDoor.Ek
namespace Go.Proofs.YtkgbogibfogjgaaGreatDoor.Ek
open Go Go.Wc Go.Pu Go.Ex Go.Proofs.YtkgbogibfogjgaaGreatDoor Go.Pt
theorem PB (hC:CO Jj):SO 112 vl:=
 fk (code:=SQ) hC Tryz.func112 (by kernel_rfl) (by kernel_rfl) SU NH (fun _ _=>()) (by kernel_rfl)
  (fun x σ Q h=>cast (by kernel_rfl) h)
  (fun Q=>trivial)
end Go.Proofs.YtkgbogibfogjgaaGreatDoor.Ek
namespace Go.Proofs.YtkgbogibfogjgaaGreatDoor.Ek
open Go Go.Wc Go.Pu Go.Ex Go.Proofs.YtkgbogibfogjgaaGreatDoor Go.Pt
theorem PD (hC:CO Jk):SO 124 vm:=
 fk (code:=SW) hC Tryz.func124 (by kernel_rfl) (by kernel_rfl) SX NJ (fun _ _=>()) (by kernel_rfl)
  (fun x σ Q h=>cast (by kernel_rfl) h)
  (fun Q=>trivial)
end Go.Proofs.YtkgbogibfogjgaaGreatDoor.Ek
