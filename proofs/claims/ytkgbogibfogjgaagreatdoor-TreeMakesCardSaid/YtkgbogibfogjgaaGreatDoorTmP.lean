import Derived.Test.YtkgbogibfogjgaaGreatDoorTmH
set_option linter.unusedVariables false
set_option linter.unusedSimpArgs false
set_option maxHeartbeats 4000000
set_option maxRecDepth 100000
namespace Go.Proofs.YtkgbogibfogjgaaGreatDoor.Ek
open Go Go.Wc Go.Pu Go.Ex Go.Proofs.YtkgbogibfogjgaaGreatDoor Go.Pt
theorem PE (hC:CO Jl):SO 133 vn:=
 fk (code:=SY) hC Tryz.func133 (by kernel_rfl) (by kernel_rfl) SZ NM (fun _ _=>bU.v0) (by kernel_rfl)
  (fun x σ Q h=>cast (by kernel_rfl) h)
  (fun Q=>⟨(fun inner hl=>by obtain ⟨S1,rfl⟩:=cq hl; exact fun v σ hs=>cast (by kernel_rfl) hs),trivial⟩)
end Go.Proofs.YtkgbogibfogjgaaGreatDoor.Ek
namespace Go.Proofs.YtkgbogibfogjgaaGreatDoor.Ek
open Go Go.Wc Go.Pu Go.Ex Go.Proofs.YtkgbogibfogjgaaGreatDoor Go.Pt
theorem PF (hC:CO Jn):SO 122 vo:=
 fk (code:=S6) hC Tryz.func122 (by kernel_rfl) (by kernel_rfl) S9 NP (fun _ _=>bE.v0) (by kernel_rfl)
  (fun x σ Q h=>cast (by kernel_rfl) h)
  (fun Q=>⟨(fun inner hl=>by obtain ⟨S1,rfl⟩:=cq hl; exact fun v σ hs=>cast (by kernel_rfl) hs),(fun inner hl=>by obtain ⟨S1,rfl⟩:=cq hl; exact fun v σ hs=>cast (by kernel_rfl) hs),trivial⟩)
end Go.Proofs.YtkgbogibfogjgaaGreatDoor.Ek
namespace Go.Proofs.YtkgbogibfogjgaaGreatDoor.Ek
open Go Go.Wc Go.Pu Go.Ex Go.Proofs.YtkgbogibfogjgaaGreatDoor Go.Pt
theorem PG (hC:CO Jp):SO 123 vp:=
 fk (code:=Ta) hC Tryz.func123 (by kernel_rfl) (by kernel_rfl) Tb NQ (fun _ _=>()) (by kernel_rfl)
  (fun x σ Q h=>cast (by kernel_rfl) h)
  (fun Q=>trivial)
end Go.Proofs.YtkgbogibfogjgaaGreatDoor.Ek
namespace Go.Proofs.YtkgbogibfogjgaaGreatDoor.Ek
open Go Go.Wc Go.Pu Go.Ex Go.Proofs.YtkgbogibfogjgaaGreatDoor Go.Pt
theorem PI (hC:CO Jq):SO 113 vq:=
 fk (code:=Tc) hC Tryz.func113 (by kernel_rfl) (by kernel_rfl) Td NT (fun _ _=>bF.v0) (by kernel_rfl)
  (fun x σ Q h=>cast (by kernel_rfl) h)
  (fun Q=>⟨(fun inner hl=>by obtain ⟨S1,rfl⟩:=cq hl; exact fun v σ hs=>cast (by kernel_rfl) hs),(fun inner hl=>by obtain ⟨S2,rfl⟩:=cq hl; exact fun v σ hs=>cast (by kernel_rfl) hs),trivial⟩)
end Go.Proofs.YtkgbogibfogjgaaGreatDoor.Ek
namespace Go.Proofs.YtkgbogibfogjgaaGreatDoor.Ek
open Go Go.Wc Go.Pu Go.Ex Go.Proofs.YtkgbogibfogjgaaGreatDoor Go.Pt
theorem VZ (hC:CO Te):SO 98 CZ:=
 fk (code:=ZG) hC Tryz.func98 (by kernel_rfl) (by kernel_rfl) ZH Th (fun _ _=>aL.v0) (by kernel_rfl)
  (fun x σ Q h=>cast (by kernel_rfl) h)
  (fun Q=>⟨(fun inner hl=>by obtain rfl:=gv hl; exact fun v σ hs=>cast (by kernel_rfl) hs),(fun inner hl=>by obtain rfl:=gv hl; exact fun v σ hs=>cast (by kernel_rfl) hs),(fun inner hl=>by obtain ⟨S2,rfl⟩:=cq hl; exact fun v σ hs=>cast (by kernel_rfl) hs),trivial⟩)
end Go.Proofs.YtkgbogibfogjgaaGreatDoor.Ek
namespace Go.Proofs.YtkgbogibfogjgaaGreatDoor.Ek
open Go Go.Wc Go.Pu Go.Ex Go.Proofs.YtkgbogibfogjgaaGreatDoor Go.Pt
theorem V0 (hC:CO Ti):SO 99 C0:=
 fk (code:=ZI) hC Tryz.func99 (by kernel_rfl) (by kernel_rfl) ZJ Tl (fun _ _=>aR.v0) (by kernel_rfl)
  (fun x σ Q h=>cast (by kernel_rfl) h)
  (fun Q=>⟨(fun inner hl=>by obtain ⟨S1,rfl⟩:=cq hl; exact fun v σ hs=>cast (by kernel_rfl) hs),(fun inner hl=>by obtain ⟨S2,rfl⟩:=cq hl; exact fun v σ hs=>cast (by kernel_rfl) hs),(fun inner hl=>by obtain ⟨S3,rfl⟩:=cq hl; exact fun v σ hs=>cast (by kernel_rfl) hs),trivial⟩)
end Go.Proofs.YtkgbogibfogjgaaGreatDoor.Ek
namespace Go.Proofs.YtkgbogibfogjgaaGreatDoor.Ek
open Go Go.Wc Go.Pu Go.Ex Go.Proofs.YtkgbogibfogjgaaGreatDoor Go.Pt
theorem Kq (hC:CO QH):SO 84 vr:=
 fk (code:=ZK) hC Tryz.func84 (by kernel_rfl) (by kernel_rfl) ZL To (fun _ _=>bR.v0) (by kernel_rfl)
  (fun x σ Q h=>cast (by kernel_rfl) h)
  (fun Q=>⟨(fun inner hl=>by obtain ⟨S1,rfl⟩:=cq hl; exact fun v σ hs=>cast (by kernel_rfl) hs),trivial⟩)
end Go.Proofs.YtkgbogibfogjgaaGreatDoor.Ek
namespace Go.Proofs.YtkgbogibfogjgaaGreatDoor.Ek
open Go Go.Wc Go.Pu Go.Ex Go.Proofs.YtkgbogibfogjgaaGreatDoor Go.Pt
theorem V1 (hC:CO Tp):SO 35 C1:=
 fk (code:=ZM) hC Tryz.func35 (by kernel_rfl) (by kernel_rfl) ZN Tt (fun _ _=>bY.v0) (by kernel_rfl)
  (fun x o Q h=>match o,h with | some σ,h=>cast (by kernel_rfl) h | none,h=>h.elim)
  (fun Q=>⟨(fun inner hl=>by obtain rfl:=gv hl; exact fun v σ hs=>match σ,hs with | some σ,hs=>cast (by kernel_rfl) hs | none,hs=>hs.elim),trivial⟩)
end Go.Proofs.YtkgbogibfogjgaaGreatDoor.Ek
namespace Go.Proofs.YtkgbogibfogjgaaGreatDoor.Ek
open Go Go.Wc Go.Pu Go.Ex Go.Proofs.YtkgbogibfogjgaaGreatDoor Go.Pt
theorem V2 (hC:CO Tu):SO 33 C2:=
 fk (code:=ZO) hC Tryz.func33 (by kernel_rfl) (by kernel_rfl) ZP Tv (fun _ _=>()) (by kernel_rfl)
  (fun x o Q h=>match o,h with | some σ,h=>cast (by kernel_rfl) h | none,h=>h.elim)
  (fun Q=>trivial)
end Go.Proofs.YtkgbogibfogjgaaGreatDoor.Ek
namespace Go.Proofs.YtkgbogibfogjgaaGreatDoor.Ek
open Go Go.Wc Go.Pu Go.Ex Go.Proofs.YtkgbogibfogjgaaGreatDoor Go.Pt
theorem V3 (hC:CO Tw):SO 36 C4:=
 fk (code:=ZQ) hC Tryz.func36 (by kernel_rfl) (by kernel_rfl) ZR TB (fun _ _=>bq.v0) (by kernel_rfl)
  (fun x σ Q h=>cast (by kernel_rfl) h)
  (fun Q=>⟨(fun inner hl=>by obtain ⟨S1,rfl⟩:=cq hl; exact fun v σ hs=>cast (by kernel_rfl) hs),trivial⟩)
end Go.Proofs.YtkgbogibfogjgaaGreatDoor.Ek
namespace Go.Proofs.YtkgbogibfogjgaaGreatDoor.Ek
open Go Go.Wc Go.Pu Go.Ex Go.Proofs.YtkgbogibfogjgaaGreatDoor Go.Pt
theorem PJ (hC:CO Jx):SO 100 vt:=
 fk (code:=TC) hC Tryz.func100 (by kernel_rfl) (by kernel_rfl) TD N0 (fun _ _=>()) (by kernel_rfl)
  (fun x σ Q h=>cast (by kernel_rfl) h)
  (fun Q=>trivial)
end Go.Proofs.YtkgbogibfogjgaaGreatDoor.Ek
namespace Go.Proofs.YtkgbogibfogjgaaGreatDoor.Ek
open Go Go.Wc Go.Pu Go.Ex Go.Proofs.YtkgbogibfogjgaaGreatDoor Go.Pt
theorem V4 (hC:CO TE):SO 85 C5:=
 fk (code:=ZS) hC Tryz.func85 (by kernel_rfl) (by kernel_rfl) ZT TH (fun _ _=>bw.v0) (by kernel_rfl)
  (fun x σ Q h=>cast (by kernel_rfl) h)
  (fun Q=>⟨(fun inner hl=>by obtain rfl:=gv hl; exact fun v σ hs=>cast (by kernel_rfl) hs),(fun inner hl=>by obtain rfl:=gv hl; exact fun v σ hs=>cast (by kernel_rfl) hs),(fun inner hl=>by obtain rfl:=gv hl; exact fun v σ hs=>cast (by kernel_rfl) hs),(fun inner hl=>by obtain rfl:=gv hl; exact fun v σ hs=>cast (by kernel_rfl) hs),(fun inner hl=>by obtain rfl:=gv hl; exact fun v σ hs=>cast (by kernel_rfl) hs),(fun inner hl=>by obtain rfl:=gv hl; exact fun v σ hs=>cast (by kernel_rfl) hs),(fun inner hl=>by obtain rfl:=gv hl; exact fun v σ hs=>cast (by kernel_rfl) hs),trivial⟩)
end Go.Proofs.YtkgbogibfogjgaaGreatDoor.Ek
namespace Go.Proofs.YtkgbogibfogjgaaGreatDoor.Ek
open Go Go.Wc Go.Pu Go.Ex Go.Proofs.YtkgbogibfogjgaaGreatDoor Go.Pt
theorem V5 (hC:CO TJ):SO 65 C7:=
 fk (code:=ZU) hC Tryz.func65 (by kernel_rfl) (by kernel_rfl) ZV TK (fun _ _=>()) (by kernel_rfl)
  (fun x σ Q h=>cast (by kernel_rfl) h)
  (fun Q=>trivial)
end Go.Proofs.YtkgbogibfogjgaaGreatDoor.Ek
namespace Go.Proofs.YtkgbogibfogjgaaGreatDoor.Ek
open Go Go.Wc Go.Pu Go.Ex Go.Proofs.YtkgbogibfogjgaaGreatDoor Go.Pt
theorem V6 (hC:CO TL):SO 66 Da:=
 fk (code:=ZW) hC Tryz.func66 (by kernel_rfl) (by kernel_rfl) ZX TM (fun _ _=>()) (by kernel_rfl)
  (fun x σ Q h=>cast (by kernel_rfl) h)
  (fun Q=>trivial)
end Go.Proofs.YtkgbogibfogjgaaGreatDoor.Ek
namespace Go.Proofs.YtkgbogibfogjgaaGreatDoor.Ek
open Go Go.Wc Go.Pu Go.Ex Go.Proofs.YtkgbogibfogjgaaGreatDoor Go.Pt
theorem V7 (hC:CO TN):SO 37 Db:=
 fk (code:=ZY) hC Tryz.func37 (by kernel_rfl) (by kernel_rfl) ZZ TQ (fun _ _=>bL.v0) (by kernel_rfl)
  (fun x σ Q h=>cast (by kernel_rfl) h)
  (fun Q=>⟨(fun inner hl=>by obtain rfl:=gv hl; exact fun v σ hs=>cast (by kernel_rfl) hs),(fun inner hl=>by obtain ⟨S2,rfl⟩:=cq hl; exact fun v σ hs=>cast (by kernel_rfl) hs),(fun inner hl=>by obtain ⟨S2,rfl⟩:=cq hl; exact fun v σ hs=>cast (by kernel_rfl) hs),trivial⟩)
end Go.Proofs.YtkgbogibfogjgaaGreatDoor.Ek
namespace Go.Proofs.YtkgbogibfogjgaaGreatDoor.Ek
open Go Go.Wc Go.Pu Go.Ex Go.Proofs.YtkgbogibfogjgaaGreatDoor Go.Pt
theorem FX (hC:CO xZ):SO 60 mA:=
 fk (code:=JA) hC Tryz.func60 (by kernel_rfl) (by kernel_rfl) JB FM (fun _ x=>(aA.v0,())) (by kernel_rfl)
  (fun x σ Q h=>cast (by kernel_rfl) h)
  (fun Q=>⟨(fun inner hl=>by obtain ⟨S1,rfl⟩:=cq hl; exact fun v σ hs=>cast (by kernel_rfl) hs),trivial⟩)
end Go.Proofs.YtkgbogibfogjgaaGreatDoor.Ek
namespace Go.Proofs.YtkgbogibfogjgaaGreatDoor.Ek
open Go Go.Wc Go.Pu Go.Ex Go.Proofs.YtkgbogibfogjgaaGreatDoor Go.Pt
theorem FY (hC:CO x4):SO 32 mB:=
 fk (code:=JC) hC Tryz.func32 (by kernel_rfl) (by kernel_rfl) JD FN (fun _ _=>()) (by kernel_rfl)
  (fun x σ Q h=>cast (by kernel_rfl) h)
  (fun Q=>trivial)
end Go.Proofs.YtkgbogibfogjgaaGreatDoor.Ek
