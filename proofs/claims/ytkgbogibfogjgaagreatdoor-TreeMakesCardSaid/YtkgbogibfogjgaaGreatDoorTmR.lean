import Derived.Test.YtkgbogibfogjgaaGreatDoorTmH
set_option linter.unusedVariables false
set_option linter.unusedSimpArgs false
set_option maxHeartbeats 4000000
set_option maxRecDepth 100000
namespace Go.Proofs.YtkgbogibfogjgaaGreatDoor.Ek
open Go Go.Wc Go.Pu Go.Ex Go.Proofs.YtkgbogibfogjgaaGreatDoor Go.Pt
theorem PT (hC:CO JV):SO 114 vG:=
 fk (code:=UI) hC Tryz.func114 (by kernel_rfl) (by kernel_rfl) UJ Oo (fun _ _=>()) (by kernel_rfl)
  (fun x σ Q h=>cast (by kernel_rfl) h)
  (fun Q=>trivial)
end Go.Proofs.YtkgbogibfogjgaaGreatDoor.Ek
namespace Go.Proofs.YtkgbogibfogjgaaGreatDoor.Ek
open Go Go.Wc Go.Pu Go.Ex Go.Proofs.YtkgbogibfogjgaaGreatDoor Go.Pt
theorem PU (hC:CO JW):SO 102 vH:=
 fk (code:=UK) hC Tryz.func102 (by kernel_rfl) (by kernel_rfl) UL Ou (fun _ _=>aC.v0) (by kernel_rfl)
  (fun x σ Q h=>cast (by kernel_rfl) h)
  (fun Q=>⟨(fun inner hl=>by obtain ⟨S1,rfl⟩:=cq hl; exact fun v σ hs=>cast (by kernel_rfl) hs),(fun inner hl=>by obtain ⟨S1,rfl⟩:=cq hl; exact fun v σ hs=>cast (by kernel_rfl) hs),(fun inner hl=>by obtain ⟨S1,rfl⟩:=cq hl; exact fun v σ hs=>cast (by kernel_rfl) hs),(fun inner hl=>by obtain ⟨S1,rfl⟩:=cq hl; exact fun v σ hs=>cast (by kernel_rfl) hs),trivial⟩)
end Go.Proofs.YtkgbogibfogjgaaGreatDoor.Ek
namespace Go.Proofs.YtkgbogibfogjgaaGreatDoor.Ek
open Go Go.Wc Go.Pu Go.Ex Go.Proofs.YtkgbogibfogjgaaGreatDoor Go.Pt
theorem PW (hC:CO JY):SO 103 vI:=
 fk (code:=UM) hC Tryz.func103 (by kernel_rfl) (by kernel_rfl) UN Ox (fun _ _=>az.v0) (by kernel_rfl)
  (fun x σ Q h=>cast (by kernel_rfl) h)
  (fun Q=>⟨(fun inner hl=>by obtain ⟨S1,rfl⟩:=cq hl; exact fun v σ hs=>cast (by kernel_rfl) hs),(fun inner hl=>by obtain ⟨S1,rfl⟩:=cq hl; exact fun v σ hs=>cast (by kernel_rfl) hs),(fun inner hl=>by obtain ⟨S1,rfl⟩:=cq hl; exact fun v σ hs=>cast (by kernel_rfl) hs),trivial⟩)
end Go.Proofs.YtkgbogibfogjgaaGreatDoor.Ek
namespace Go.Proofs.YtkgbogibfogjgaaGreatDoor.Ek
open Go Go.Wc Go.Pu Go.Ex Go.Proofs.YtkgbogibfogjgaaGreatDoor Go.Pt
theorem Wj (hC:CO UO):SO 86 Du:=
 fk (code:=c86) hC Tryz.func86 (by kernel_rfl) (by kernel_rfl) A86 UR (fun _ _=>aM.v0) (by kernel_rfl)
  (fun x σ Q h=>cast (by kernel_rfl) h)
  (fun Q=>⟨(fun inner hl=>by obtain ⟨S1,rfl⟩:=cq hl; exact fun v σ hs=>cast (by kernel_rfl) hs),(fun inner hl=>by obtain ⟨S2,rfl⟩:=cq hl; exact fun v σ hs=>cast (by kernel_rfl) hs),trivial⟩)
end Go.Proofs.YtkgbogibfogjgaaGreatDoor.Ek
namespace Go.Proofs.YtkgbogibfogjgaaGreatDoor.Ek
open Go Go.Wc Go.Pu Go.Ex Go.Proofs.YtkgbogibfogjgaaGreatDoor Go.Pt
theorem Wk (hC:CO US):SO 87 Dv:=
 fk (code:=c87) hC Tryz.func87 (by kernel_rfl) (by kernel_rfl) A87 UW (fun _ _=>aN.v0) (by kernel_rfl)
  (fun x σ Q h=>cast (by kernel_rfl) h)
  (fun Q=>⟨(fun inner hl=>by obtain ⟨S1,rfl⟩:=cq hl; exact fun v σ hs=>cast (by kernel_rfl) hs),(fun inner hl=>by obtain ⟨S2,rfl⟩:=cq hl; exact fun v σ hs=>cast (by kernel_rfl) hs),trivial⟩)
end Go.Proofs.YtkgbogibfogjgaaGreatDoor.Ek
namespace Go.Proofs.YtkgbogibfogjgaaGreatDoor.Ek
open Go Go.Wc Go.Pu Go.Ex Go.Proofs.YtkgbogibfogjgaaGreatDoor Go.Pt
theorem PX (hC:CO J4):SO 104 vJ:=
 fk (code:=UX) hC Tryz.func104 (by kernel_rfl) (by kernel_rfl) UY OD (fun _ _=>aG.v0) (by kernel_rfl)
  (fun x σ Q h=>cast (by kernel_rfl) h)
  (fun Q=>⟨(fun inner hl=>by obtain ⟨S1,rfl⟩:=cq hl; exact fun v σ hs=>cast (by kernel_rfl) hs),trivial⟩)
end Go.Proofs.YtkgbogibfogjgaaGreatDoor.Ek
namespace Go.Proofs.YtkgbogibfogjgaaGreatDoor.Ek
open Go Go.Wc Go.Pu Go.Ex Go.Proofs.YtkgbogibfogjgaaGreatDoor Go.Pt
theorem Wl (hC:CO UZ):SO 88 Dx:=
 fk (code:=c88) hC Tryz.func88 (by kernel_rfl) (by kernel_rfl) A88 U2 (fun _ _=>aq.v0) (by kernel_rfl)
  (fun x σ Q h=>cast (by kernel_rfl) h)
  (fun Q=>⟨(fun inner hl=>by obtain ⟨S1,rfl⟩:=cq hl; exact fun v σ hs=>cast (by kernel_rfl) hs),(fun inner hl=>by obtain ⟨S1,rfl⟩:=cq hl; exact fun v σ hs=>cast (by kernel_rfl) hs),(fun inner hl=>by obtain ⟨S3,rfl⟩:=cq hl; exact fun v σ hs=>cast (by kernel_rfl) hs),(fun inner hl=>by obtain ⟨S4,rfl⟩:=cq hl; exact fun v σ hs=>cast (by kernel_rfl) hs),trivial⟩)
end Go.Proofs.YtkgbogibfogjgaaGreatDoor.Ek
namespace Go.Proofs.YtkgbogibfogjgaaGreatDoor.Ek
open Go Go.Wc Go.Pu Go.Ex Go.Proofs.YtkgbogibfogjgaaGreatDoor Go.Pt
theorem Wm (hC:CO U3):SO 70 Dy:=
 fk (code:=c70) hC Tryz.func70 (by kernel_rfl) (by kernel_rfl) A70 U6 (fun _ _=>aO.v0) (by kernel_rfl)
  (fun x σ Q h=>cast (by kernel_rfl) h)
  (fun Q=>⟨(fun inner hl=>by obtain ⟨S1,rfl⟩:=cq hl; exact fun v σ hs=>cast (by kernel_rfl) hs),(fun inner hl=>by obtain ⟨S2,rfl⟩:=cq hl; exact fun v σ hs=>cast (by kernel_rfl) hs),trivial⟩)
end Go.Proofs.YtkgbogibfogjgaaGreatDoor.Ek
namespace Go.Proofs.YtkgbogibfogjgaaGreatDoor.Ek
open Go Go.Wc Go.Pu Go.Ex Go.Proofs.YtkgbogibfogjgaaGreatDoor Go.Pt
theorem Wn (hC:CO U7):SO 40 Dz:=
 fk (code:=c40) hC Tryz.func40 (by kernel_rfl) (by kernel_rfl) A40 Va (fun _ _=>aK.v0) (by kernel_rfl)
  (fun x σ Q h=>cast (by kernel_rfl) h)
  (fun Q=>⟨(fun inner hl=>by obtain rfl:=gv hl; exact fun v σ hs=>cast (by kernel_rfl) hs),trivial⟩)
end Go.Proofs.YtkgbogibfogjgaaGreatDoor.Ek
namespace Go.Proofs.YtkgbogibfogjgaaGreatDoor.Ek
open Go Go.Wc Go.Pu Go.Ex Go.Proofs.YtkgbogibfogjgaaGreatDoor Go.Pt
theorem Wo (hC:CO Vb):SO 41 DA:=
 fk (code:=c41) hC Tryz.func41 (by kernel_rfl) (by kernel_rfl) A41 Ve (fun _ _=>ay.v0) (by kernel_rfl)
  (fun x σ Q h=>cast (by kernel_rfl) h)
  (fun Q=>⟨(fun inner hl=>by obtain rfl:=gv hl; exact fun v σ hs=>cast (by kernel_rfl) hs),trivial⟩)
end Go.Proofs.YtkgbogibfogjgaaGreatDoor.Ek
namespace Go.Proofs.YtkgbogibfogjgaaGreatDoor.Ek
open Go Go.Wc Go.Pu Go.Ex Go.Proofs.YtkgbogibfogjgaaGreatDoor Go.Pt
theorem Wp (hC:CO Vf):SO 10 DB:=
 fk (code:=c10) hC Tryz.func10 (by kernel_rfl) (by kernel_rfl) A10 Vi (fun _ _=>ak.v0) (by kernel_rfl)
  (fun x σ Q h=>cast (by kernel_rfl) h)
  (fun Q=>⟨(fun inner hl=>by obtain ⟨S1,rfl⟩:=cq hl; exact fun v σ hs=>cast (by kernel_rfl) hs),(fun inner hl=>by obtain ⟨S1,rfl⟩:=cq hl; exact fun v σ hs=>cast (by kernel_rfl) hs),(fun inner hl=>by obtain ⟨S1,rfl⟩:=cq hl; exact fun v σ hs=>cast (by kernel_rfl) hs),trivial⟩)
end Go.Proofs.YtkgbogibfogjgaaGreatDoor.Ek
namespace Go.Proofs.YtkgbogibfogjgaaGreatDoor.Ek
open Go Go.Wc Go.Pu Go.Ex Go.Proofs.YtkgbogibfogjgaaGreatDoor Go.Pt
theorem Wq (hC:CO QI):SO 11 AP:=
 fk (code:=c11) hC Tryz.func11 (by kernel_rfl) (by kernel_rfl) A11 Vl (fun _ _=>bf.v0) (by kernel_rfl)
  (fun x σ Q h=>cast (by kernel_rfl) h)
  (fun Q=>⟨(fun inner hl=>by obtain ⟨S1,rfl⟩:=cq hl; exact fun v σ hs=>cast (by kernel_rfl) hs),trivial⟩)
end Go.Proofs.YtkgbogibfogjgaaGreatDoor.Ek
namespace Go.Proofs.YtkgbogibfogjgaaGreatDoor.Ek
open Go Go.Wc Go.Pu Go.Ex Go.Proofs.YtkgbogibfogjgaaGreatDoor Go.Pt
theorem ok3 (hC:CO C3):SO 3 OK:=
 fk (code:=c3) hC Tryz.func3 (by kernel_rfl) (by kernel_rfl) A3 pt3 (fun _ _=>af.v0) (by kernel_rfl)
  (fun x o Q h=>match o,h with | some σ,h=>cast (by kernel_rfl) h | none,h=>h.elim)
  (fun Q=>⟨(fun inner hl=>by obtain ⟨S1,rfl⟩:=cq hl; exact fun v σ hs=>match σ,hs with | some σ,hs=>cast (by kernel_rfl) hs | none,hs=>hs.elim),(fun inner hl=>by obtain ⟨S1,rfl⟩:=cq hl; exact fun v σ hs=>match σ,hs with | some σ,hs=>cast (by kernel_rfl) hs | none,hs=>hs.elim),(fun inner hl=>by obtain ⟨S1,S3,rfl⟩:=mP hl; exact fun v σ hs=>match σ,hs with | some σ,hs=>cast (by kernel_rfl) hs | none,hs=>hs.elim),(fun inner hl=>by obtain ⟨S1,S3,rfl⟩:=mP hl; exact fun v σ hs=>match σ,hs with | some σ,hs=>cast (by kernel_rfl) hs | none,hs=>hs.elim),trivial⟩)
end Go.Proofs.YtkgbogibfogjgaaGreatDoor.Ek
