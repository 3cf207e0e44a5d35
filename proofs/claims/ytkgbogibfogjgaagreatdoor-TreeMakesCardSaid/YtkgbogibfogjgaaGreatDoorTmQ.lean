import Derived.Test.YtkgbogibfogjgaaGreatDoorTmH
set_option linter.unusedVariables false
set_option linter.unusedSimpArgs false
set_option maxHeartbeats 4000000
set_option maxRecDepth 100000
namespace Go.Proofs.YtkgbogibfogjgaaGreatDoor.Ek
open Go Go.Wc Go.Pu Go.Ex Go.Proofs.YtkgbogibfogjgaaGreatDoor Go.Pt
theorem ok9 (hC:CO C9):SO 9 N3:=
 fk (code:=c9) hC Tryz.func9 (by kernel_rfl) (by kernel_rfl) A9 Z2 (fun _ _=>bn.v0) (by kernel_rfl)
  (fun x o Q h=>match o,h with | some σ,h=>cast (by kernel_rfl) h | none,h=>h.elim)
  (fun Q=>⟨(fun inner hl=>by obtain rfl:=gv hl; exact fun v σ hs=>match σ,hs with | some σ,hs=>cast (by kernel_rfl) hs | none,hs=>hs.elim),(fun inner hl=>by obtain ⟨S2,rfl⟩:=cq hl; exact fun v σ hs=>match σ,hs with | some σ,hs=>cast (by kernel_rfl) hs | none,hs=>hs.elim),(fun inner hl=>by obtain ⟨S3,rfl⟩:=cq hl; exact fun v σ hs=>match σ,hs with | some σ,hs=>cast (by kernel_rfl) hs | none,hs=>hs.elim),trivial⟩)
end Go.Proofs.YtkgbogibfogjgaaGreatDoor.Ek
namespace Go.Proofs.YtkgbogibfogjgaaGreatDoor.Ek
open Go Go.Wc Go.Pu Go.Ex Go.Proofs.YtkgbogibfogjgaaGreatDoor Go.Pt
theorem V8 (hC:CO TT):SO 13 De:=
 fk (code:=Z3) hC Tryz.func13 (by kernel_rfl) (by kernel_rfl) Z4 TW (fun _ _=>au.v0) (by kernel_rfl)
  (fun x σ Q h=>cast (by kernel_rfl) h)
  (fun Q=>⟨(fun inner hl=>by obtain rfl:=gv hl; exact fun v σ hs=>cast (by kernel_rfl) hs),(fun inner hl=>by obtain ⟨S2,rfl⟩:=cq hl; exact fun v σ hs=>cast (by kernel_rfl) hs),(fun inner hl=>by obtain ⟨S3,rfl⟩:=cq hl; exact fun v σ hs=>cast (by kernel_rfl) hs),(fun inner hl=>by obtain ⟨S3,rfl⟩:=cq hl; exact fun v σ hs=>cast (by kernel_rfl) hs),(fun inner hl=>by obtain ⟨S3,S5,rfl⟩:=mP hl; exact fun v σ hs=>cast (by kernel_rfl) hs),trivial⟩)
end Go.Proofs.YtkgbogibfogjgaaGreatDoor.Ek
namespace Go.Proofs.YtkgbogibfogjgaaGreatDoor.Ek
open Go Go.Wc Go.Pu Go.Ex Go.Proofs.YtkgbogibfogjgaaGreatDoor Go.Pt
theorem V9 (hC:CO TX):SO 67 Df:=
 fk (code:=Z5) hC Tryz.func67 (by kernel_rfl) (by kernel_rfl) Z6 TY (fun _ _=>()) (by kernel_rfl)
  (fun x σ Q h=>cast (by kernel_rfl) h)
  (fun Q=>trivial)
end Go.Proofs.YtkgbogibfogjgaaGreatDoor.Ek
namespace Go.Proofs.YtkgbogibfogjgaaGreatDoor.Ek
open Go Go.Wc Go.Pu Go.Ex Go.Proofs.YtkgbogibfogjgaaGreatDoor Go.Pt
theorem Wa (hC:CO TZ):SO 38 Dg:=
 fk (code:=Z7) hC Tryz.func38 (by kernel_rfl) (by kernel_rfl) Z8 T7 (fun _ _=>ax.v0) (by kernel_rfl)
  (fun x σ Q h=>cast (by kernel_rfl) h)
  (fun Q=>⟨(fun inner hl=>by obtain rfl:=gv hl; exact fun v σ hs=>cast (by kernel_rfl) hs),(fun inner hl=>by obtain ⟨S2,rfl⟩:=cq hl; exact fun v σ hs=>cast (by kernel_rfl) hs),(fun inner hl=>by obtain ⟨S2,rfl⟩:=cq hl; exact fun v σ hs=>cast (by kernel_rfl) hs),trivial⟩)
end Go.Proofs.YtkgbogibfogjgaaGreatDoor.Ek
namespace Go.Proofs.YtkgbogibfogjgaaGreatDoor.Ek
open Go Go.Wc Go.Pu Go.Ex Go.Proofs.YtkgbogibfogjgaaGreatDoor Go.Pt
theorem Wb (hC:CO T8):SO 68 Dh:=
 fk (code:=Z9) hC Tryz.func68 (by kernel_rfl) (by kernel_rfl) A68 Ub (fun _ _=>bt.v0) (by kernel_rfl)
  (fun x σ Q h=>cast (by kernel_rfl) h)
  (fun Q=>⟨(fun inner hl=>by obtain ⟨S1,rfl⟩:=cq hl; exact fun v σ hs=>cast (by kernel_rfl) hs),trivial⟩)
end Go.Proofs.YtkgbogibfogjgaaGreatDoor.Ek
namespace Go.Proofs.YtkgbogibfogjgaaGreatDoor.Ek
open Go Go.Wc Go.Pu Go.Ex Go.Proofs.YtkgbogibfogjgaaGreatDoor Go.Pt
theorem We (hC:CO Uc):SO 39 Di:=
 fk (code:=c39) hC Tryz.func39 (by kernel_rfl) (by kernel_rfl) A39 Uf (fun _ _=>aD.v0) (by kernel_rfl)
  (fun x σ Q h=>cast (by kernel_rfl) h)
  (fun Q=>⟨(fun inner hl=>by obtain rfl:=gv hl; exact fun v σ hs=>cast (by kernel_rfl) hs),(fun inner hl=>by obtain ⟨S2,rfl⟩:=cq hl; exact fun v σ hs=>cast (by kernel_rfl) hs),(fun inner hl=>by obtain ⟨S2,rfl⟩:=cq hl; exact fun v σ hs=>cast (by kernel_rfl) hs),(fun inner hl=>by obtain ⟨S4,rfl⟩:=cq hl; exact fun v σ hs=>cast (by kernel_rfl) hs),trivial⟩)
end Go.Proofs.YtkgbogibfogjgaaGreatDoor.Ek
namespace Go.Proofs.YtkgbogibfogjgaaGreatDoor.Ek
open Go Go.Wc Go.Pu Go.Ex Go.Proofs.YtkgbogibfogjgaaGreatDoor Go.Pt
theorem PK (hC:CO JI):SO 115 vA:=
 fk (code:=Ug) hC Tryz.func115 (by kernel_rfl) (by kernel_rfl) Uh N8 (fun _ _=>()) (by kernel_rfl)
  (fun x σ Q h=>cast (by kernel_rfl) h)
  (fun Q=>trivial)
end Go.Proofs.YtkgbogibfogjgaaGreatDoor.Ek
namespace Go.Proofs.YtkgbogibfogjgaaGreatDoor.Ek
open Go Go.Wc Go.Pu Go.Ex Go.Proofs.YtkgbogibfogjgaaGreatDoor Go.Pt
theorem PL (hC:CO JJ):SO 116 vB:=
 fk (code:=Ui) hC Tryz.func116 (by kernel_rfl) (by kernel_rfl) Uj N9 (fun _ _=>()) (by kernel_rfl)
  (fun x σ Q h=>cast (by kernel_rfl) h)
  (fun Q=>trivial)
end Go.Proofs.YtkgbogibfogjgaaGreatDoor.Ek
namespace Go.Proofs.YtkgbogibfogjgaaGreatDoor.Ek
open Go Go.Wc Go.Pu Go.Ex Go.Proofs.YtkgbogibfogjgaaGreatDoor Go.Pt
theorem PM (hC:CO JK):SO 125 vC:=
 fk (code:=Uk) hC Tryz.func125 (by kernel_rfl) (by kernel_rfl) Ul Oc (fun _ _=>aT.v0) (by kernel_rfl)
  (fun x σ Q h=>cast (by kernel_rfl) h)
  (fun Q=>⟨(fun inner hl=>by obtain ⟨S1,rfl⟩:=cq hl; exact fun v σ hs=>cast (by kernel_rfl) hs),trivial⟩)
end Go.Proofs.YtkgbogibfogjgaaGreatDoor.Ek
namespace Go.Proofs.YtkgbogibfogjgaaGreatDoor.Ek
open Go Go.Wc Go.Pu Go.Ex Go.Proofs.YtkgbogibfogjgaaGreatDoor Go.Pt
theorem PN (hC:CO JM):SO 117 vD:=
 fk (code:=Um) hC Tryz.func117 (by kernel_rfl) (by kernel_rfl) Un Od (fun _ _=>()) (by kernel_rfl)
  (fun x σ Q h=>cast (by kernel_rfl) h)
  (fun Q=>trivial)
end Go.Proofs.YtkgbogibfogjgaaGreatDoor.Ek
namespace Go.Proofs.YtkgbogibfogjgaaGreatDoor.Ek
open Go Go.Wc Go.Pu Go.Ex Go.Proofs.YtkgbogibfogjgaaGreatDoor Go.Pt
theorem PO (hC:CO JN):SO 105 vE:=
 fk (code:=Uo) hC Tryz.func105 (by kernel_rfl) (by kernel_rfl) Up Og (fun _ _=>aa.v0) (by kernel_rfl)
  (fun x σ Q h=>cast (by kernel_rfl) h)
  (fun Q=>⟨(fun inner hl=>by obtain ⟨S1,rfl⟩:=cq hl; exact fun v σ hs=>cast (by kernel_rfl) hs),(fun inner hl=>by obtain ⟨S2,rfl⟩:=cq hl; exact fun v σ hs=>cast (by kernel_rfl) hs),(fun inner hl=>by obtain ⟨S3,rfl⟩:=cq hl; exact fun v σ hs=>cast (by kernel_rfl) hs),(fun inner hl=>by obtain ⟨S3,S4,rfl⟩:=mP hl; exact fun v σ hs=>cast (by kernel_rfl) hs),(fun inner hl=>by obtain ⟨S3,S4,rfl⟩:=mP hl; exact fun v σ hs=>cast (by kernel_rfl) hs),(fun inner hl=>by obtain ⟨S3,S4,S5,rfl⟩:=QO hl; exact fun v σ hs=>cast (by kernel_rfl) hs),(fun inner hl=>by obtain ⟨S7,rfl⟩:=cq hl; exact fun v σ hs=>cast (by kernel_rfl) hs),(fun inner hl=>by obtain ⟨S7,S8,rfl⟩:=mP hl; exact fun v σ hs=>cast (by kernel_rfl) hs),trivial⟩)
end Go.Proofs.YtkgbogibfogjgaaGreatDoor.Ek
namespace Go.Proofs.YtkgbogibfogjgaaGreatDoor.Ek
open Go Go.Wc Go.Pu Go.Ex Go.Proofs.YtkgbogibfogjgaaGreatDoor Go.Pt
theorem Wf (hC:CO Uq):SO 89 Dl:=
 fk (code:=c89) hC Tryz.func89 (by kernel_rfl) (by kernel_rfl) A89 Ut (fun _ _=>aF.v0) (by kernel_rfl)
  (fun x σ Q h=>cast (by kernel_rfl) h)
  (fun Q=>⟨(fun inner hl=>by obtain rfl:=gv hl; exact fun v σ hs=>cast (by kernel_rfl) hs),(fun inner hl=>by obtain ⟨S2,rfl⟩:=cq hl; exact fun v σ hs=>cast (by kernel_rfl) hs),trivial⟩)
end Go.Proofs.YtkgbogibfogjgaaGreatDoor.Ek
namespace Go.Proofs.YtkgbogibfogjgaaGreatDoor.Ek
open Go Go.Wc Go.Pu Go.Ex Go.Proofs.YtkgbogibfogjgaaGreatDoor Go.Pt
theorem Wg (hC:CO Uu):SO 75 Dm:=
 fk (code:=c75) hC Tryz.func75 (by kernel_rfl) (by kernel_rfl) A75 Ux (fun _ _=>aY.v0) (by kernel_rfl)
  (fun x σ Q h=>cast (by kernel_rfl) h)
  (fun Q=>⟨(fun inner hl=>by obtain ⟨S1,rfl⟩:=cq hl; exact fun v σ hs=>cast (by kernel_rfl) hs),trivial⟩)
end Go.Proofs.YtkgbogibfogjgaaGreatDoor.Ek
namespace Go.Proofs.YtkgbogibfogjgaaGreatDoor.Ek
open Go Go.Wc Go.Pu Go.Ex Go.Proofs.YtkgbogibfogjgaaGreatDoor Go.Pt
theorem Wh (hC:CO Uy):SO 76 Dn:=
 fk (code:=c76) hC Tryz.func76 (by kernel_rfl) (by kernel_rfl) A76 UB (fun _ _=>aI.v0) (by kernel_rfl)
  (fun x σ Q h=>cast (by kernel_rfl) h)
  (fun Q=>⟨(fun inner hl=>by obtain ⟨S1,rfl⟩:=cq hl; exact fun v σ hs=>cast (by kernel_rfl) hs),(fun inner hl=>by obtain ⟨S2,rfl⟩:=cq hl; exact fun v σ hs=>cast (by kernel_rfl) hs),trivial⟩)
end Go.Proofs.YtkgbogibfogjgaaGreatDoor.Ek
namespace Go.Proofs.YtkgbogibfogjgaaGreatDoor.Ek
open Go Go.Wc Go.Pu Go.Ex Go.Proofs.YtkgbogibfogjgaaGreatDoor Go.Pt
theorem Wi (hC:CO UC):SO 69 Dp:=
 fk (code:=c69) hC Tryz.func69 (by kernel_rfl) (by kernel_rfl) A69 UF (fun _ _=>aZ.v0) (by kernel_rfl)
  (fun x σ Q h=>cast (by kernel_rfl) h)
  (fun Q=>⟨(fun inner hl=>by obtain rfl:=gv hl; exact fun v σ hs=>cast (by kernel_rfl) hs),trivial⟩)
end Go.Proofs.YtkgbogibfogjgaaGreatDoor.Ek
namespace Go.Proofs.YtkgbogibfogjgaaGreatDoor.Ek
open Go Go.Wc Go.Pu Go.Ex Go.Proofs.YtkgbogibfogjgaaGreatDoor Go.Pt
theorem PS (hC:CO JT):SO 101 vF:=
 fk (code:=UG) hC Tryz.func101 (by kernel_rfl) (by kernel_rfl) UH On (fun _ _=>an.v0) (by kernel_rfl)
  (fun x σ Q h=>cast (by kernel_rfl) h)
  (fun Q=>⟨(fun inner hl=>by obtain ⟨S1,rfl⟩:=cq hl; exact fun v σ hs=>cast (by kernel_rfl) hs),(fun inner hl=>by obtain ⟨S1,rfl⟩:=cq hl; exact fun v σ hs=>cast (by kernel_rfl) hs),(fun inner hl=>by obtain ⟨S1,S2,rfl⟩:=mP hl; exact fun v σ hs=>cast (by kernel_rfl) hs),(fun inner hl=>by obtain ⟨S1,S2,rfl⟩:=mP hl; exact fun v σ hs=>cast (by kernel_rfl) hs),trivial⟩)
end Go.Proofs.YtkgbogibfogjgaaGreatDoor.Ek
