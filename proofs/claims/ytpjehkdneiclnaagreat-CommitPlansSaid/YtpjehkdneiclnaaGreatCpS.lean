import Derived.Test.YtpjehkdneiclnaaGreatCpG
set_option linter.unusedVariables false
set_option linter.unusedSimpArgs false
set_option maxHeartbeats 4000000
set_option maxRecDepth 100000
namespace Go.Proofs.YtpjehkdneiclnaaGreat.Ek
open Go Go.Wc Go.Pu Go.Ex Go.Proofs.YtpjehkdneiclnaaGreat Go.Pt
theorem ac7 (hC:CO C52):SO 52 GD:=
  fk (code:=c52) hC Tryz.func52 (by kernel_rfl) (by kernel_rfl) A52 abG (fun _ _=>cr.v0) (by kernel_rfl)
    (fun x σ Q h=>cast (by kernel_rfl) h)
    (fun Q=>⟨(fun inner hl=>by obtain rfl:=jl hl; exact fun v σ hs=>cast (by kernel_rfl) hs),trivial⟩)
end Go.Proofs.YtpjehkdneiclnaaGreat.Ek
namespace Go.Proofs.YtpjehkdneiclnaaGreat.Ek
open Go Go.Wc Go.Pu Go.Ex Go.Proofs.YtpjehkdneiclnaaGreat Go.Pt
theorem ads (hC:CO C80):SO 80 GF:=
  fk (code:=c80) hC Tryz.func80 (by kernel_rfl) (by kernel_rfl) A80 abK (fun _ _=>aG.v0) (by kernel_rfl)
    (fun x σ Q h=>cast (by kernel_rfl) h)
    (fun Q=>⟨(fun inner hl=>by obtain ⟨S1,rfl⟩:=dh hl; exact fun v σ hs=>cast (by kernel_rfl) hs),(fun inner hl=>by obtain ⟨S1,rfl⟩:=dh hl; exact fun v σ hs=>cast (by kernel_rfl) hs),(fun inner hl=>by obtain ⟨S1,S2,rfl⟩:=lV hl; exact fun v σ hs=>cast (by kernel_rfl) hs),(fun inner hl=>by obtain ⟨S1,S2,rfl⟩:=lV hl; exact fun v σ hs=>cast (by kernel_rfl) hs),trivial⟩)
end Go.Proofs.YtpjehkdneiclnaaGreat.Ek
namespace Go.Proofs.YtpjehkdneiclnaaGreat.Ek
open Go Go.Wc Go.Pu Go.Ex Go.Proofs.YtpjehkdneiclnaaGreat Go.Pt
theorem TH (hC:CO O0):SO 100 zu:=
  fk (code:=abL) hC Tryz.func100 (by kernel_rfl) (by kernel_rfl) abM Ts (fun _ _=>()) (by kernel_rfl)
    (fun x σ Q h=>cast (by kernel_rfl) h)
    (fun Q=>trivial)
end Go.Proofs.YtpjehkdneiclnaaGreat.Ek
namespace Go.Proofs.YtpjehkdneiclnaaGreat.Ek
open Go Go.Wc Go.Pu Go.Ex Go.Proofs.YtpjehkdneiclnaaGreat Go.Pt
theorem adt (hC:CO C81):SO 81 GG:=
  fk (code:=c81) hC Tryz.func81 (by kernel_rfl) (by kernel_rfl) A81 abQ (fun _ _=>aW.v0) (by kernel_rfl)
    (fun x σ Q h=>cast (by kernel_rfl) h)
    (fun Q=>⟨(fun inner hl=>by obtain ⟨S1,rfl⟩:=dh hl; exact fun v σ hs=>cast (by kernel_rfl) hs),(fun inner hl=>by obtain ⟨S1,rfl⟩:=dh hl; exact fun v σ hs=>cast (by kernel_rfl) hs),(fun inner hl=>by obtain ⟨S1,rfl⟩:=dh hl; exact fun v σ hs=>cast (by kernel_rfl) hs),(fun inner hl=>by obtain ⟨S1,rfl⟩:=dh hl; exact fun v σ hs=>cast (by kernel_rfl) hs),trivial⟩)
end Go.Proofs.YtpjehkdneiclnaaGreat.Ek
namespace Go.Proofs.YtpjehkdneiclnaaGreat.Ek
open Go Go.Wc Go.Pu Go.Ex Go.Proofs.YtpjehkdneiclnaaGreat Go.Pt
theorem adu (hC:CO C82):SO 82 GH:=
  fk (code:=c82) hC Tryz.func82 (by kernel_rfl) (by kernel_rfl) A82 abU (fun _ _=>aU.v0) (by kernel_rfl)
    (fun x σ Q h=>cast (by kernel_rfl) h)
    (fun Q=>⟨(fun inner hl=>by obtain ⟨S1,rfl⟩:=dh hl; exact fun v σ hs=>cast (by kernel_rfl) hs),(fun inner hl=>by obtain ⟨S1,rfl⟩:=dh hl; exact fun v σ hs=>cast (by kernel_rfl) hs),(fun inner hl=>by obtain ⟨S1,rfl⟩:=dh hl; exact fun v σ hs=>cast (by kernel_rfl) hs),trivial⟩)
end Go.Proofs.YtpjehkdneiclnaaGreat.Ek
namespace Go.Proofs.YtpjehkdneiclnaaGreat.Ek
open Go Go.Wc Go.Pu Go.Ex Go.Proofs.YtpjehkdneiclnaaGreat Go.Pt
theorem adi (hC:CO C67):SO 67 GI:=
  fk (code:=c67) hC Tryz.func67 (by kernel_rfl) (by kernel_rfl) A67 abY (fun _ _=>bF.v0) (by kernel_rfl)
    (fun x σ Q h=>cast (by kernel_rfl) h)
    (fun Q=>⟨(fun inner hl=>by obtain ⟨S1,rfl⟩:=dh hl; exact fun v σ hs=>cast (by kernel_rfl) hs),(fun inner hl=>by obtain ⟨S2,rfl⟩:=dh hl; exact fun v σ hs=>cast (by kernel_rfl) hs),trivial⟩)
end Go.Proofs.YtpjehkdneiclnaaGreat.Ek
namespace Go.Proofs.YtpjehkdneiclnaaGreat.Ek
open Go Go.Wc Go.Pu Go.Ex Go.Proofs.YtpjehkdneiclnaaGreat Go.Pt
theorem adj (hC:CO C68):SO 68 GJ:=
  fk (code:=c68) hC Tryz.func68 (by kernel_rfl) (by kernel_rfl) A68 ab2 (fun _ _=>bG.v0) (by kernel_rfl)
    (fun x σ Q h=>cast (by kernel_rfl) h)
    (fun Q=>⟨(fun inner hl=>by obtain ⟨S1,rfl⟩:=dh hl; exact fun v σ hs=>cast (by kernel_rfl) hs),(fun inner hl=>by obtain ⟨S2,rfl⟩:=dh hl; exact fun v σ hs=>cast (by kernel_rfl) hs),trivial⟩)
end Go.Proofs.YtpjehkdneiclnaaGreat.Ek
namespace Go.Proofs.YtpjehkdneiclnaaGreat.Ek
open Go Go.Wc Go.Pu Go.Ex Go.Proofs.YtpjehkdneiclnaaGreat Go.Pt
theorem adv (hC:CO C83):SO 83 GK:=
  fk (code:=c83) hC Tryz.func83 (by kernel_rfl) (by kernel_rfl) A83 ab6 (fun _ _=>bu.v0) (by kernel_rfl)
    (fun x σ Q h=>cast (by kernel_rfl) h)
    (fun Q=>⟨(fun inner hl=>by obtain ⟨S1,rfl⟩:=dh hl; exact fun v σ hs=>cast (by kernel_rfl) hs),trivial⟩)
end Go.Proofs.YtpjehkdneiclnaaGreat.Ek
namespace Go.Proofs.YtpjehkdneiclnaaGreat.Ek
open Go Go.Wc Go.Pu Go.Ex Go.Proofs.YtpjehkdneiclnaaGreat Go.Pt
theorem adk (hC:CO C69):SO 69 GL:=
  fk (code:=c69) hC Tryz.func69 (by kernel_rfl) (by kernel_rfl) A69 acd (fun _ _=>aK.v0) (by kernel_rfl)
    (fun x σ Q h=>cast (by kernel_rfl) h)
    (fun Q=>⟨(fun inner hl=>by obtain ⟨S1,rfl⟩:=dh hl; exact fun v σ hs=>cast (by kernel_rfl) hs),(fun inner hl=>by obtain ⟨S1,rfl⟩:=dh hl; exact fun v σ hs=>cast (by kernel_rfl) hs),(fun inner hl=>by obtain ⟨S3,rfl⟩:=dh hl; exact fun v σ hs=>cast (by kernel_rfl) hs),(fun inner hl=>by obtain ⟨S4,rfl⟩:=dh hl; exact fun v σ hs=>cast (by kernel_rfl) hs),trivial⟩)
end Go.Proofs.YtpjehkdneiclnaaGreat.Ek
namespace Go.Proofs.YtpjehkdneiclnaaGreat.Ek
open Go Go.Wc Go.Pu Go.Ex Go.Proofs.YtpjehkdneiclnaaGreat Go.Pt
theorem ac8 (hC:CO C53):SO 53 GM:=
  fk (code:=c53) hC Tryz.func53 (by kernel_rfl) (by kernel_rfl) A53 ach (fun _ _=>bH.v0) (by kernel_rfl)
    (fun x σ Q h=>cast (by kernel_rfl) h)
    (fun Q=>⟨(fun inner hl=>by obtain ⟨S1,rfl⟩:=dh hl; exact fun v σ hs=>cast (by kernel_rfl) hs),(fun inner hl=>by obtain ⟨S2,rfl⟩:=dh hl; exact fun v σ hs=>cast (by kernel_rfl) hs),trivial⟩)
end Go.Proofs.YtpjehkdneiclnaaGreat.Ek
namespace Go.Proofs.YtpjehkdneiclnaaGreat.Ek
open Go Go.Wc Go.Pu Go.Ex Go.Proofs.YtpjehkdneiclnaaGreat Go.Pt
theorem acW (hC:CO C33):SO 33 GN:=
  fk (code:=c33) hC Tryz.func33 (by kernel_rfl) (by kernel_rfl) A33 acm (fun _ _=>cj.v0) (by kernel_rfl)
    (fun x σ Q h=>cast (by kernel_rfl) h)
    (fun Q=>⟨(fun inner hl=>by obtain rfl:=jl hl; exact fun v σ hs=>cast (by kernel_rfl) hs),trivial⟩)
end Go.Proofs.YtpjehkdneiclnaaGreat.Ek
namespace Go.Proofs.YtpjehkdneiclnaaGreat.Ek
open Go Go.Wc Go.Pu Go.Ex Go.Proofs.YtpjehkdneiclnaaGreat Go.Pt
theorem acJ (hC:CO C12):SO 12 GO:=
  fk (code:=c12) hC Tryz.func12 (by kernel_rfl) (by kernel_rfl) A12 acq (fun _ _=>ai.v0) (by kernel_rfl)
    (fun x σ Q h=>cast (by kernel_rfl) h)
    (fun Q=>⟨(fun inner hl=>by obtain rfl:=jl hl; exact fun v σ hs=>cast (by kernel_rfl) hs),(fun inner hl=>by obtain ⟨S2,rfl⟩:=dh hl; exact fun v σ hs=>cast (by kernel_rfl) hs),(fun inner hl=>by obtain ⟨S2,rfl⟩:=dh hl; exact fun v σ hs=>cast (by kernel_rfl) hs),(fun inner hl=>by obtain ⟨S2,rfl⟩:=dh hl; exact fun v σ hs=>cast (by kernel_rfl) hs),(fun inner hl=>by obtain ⟨S2,S3,rfl⟩:=lV hl; exact fun v σ hs=>cast (by kernel_rfl) hs),(fun inner hl=>by obtain ⟨S2,S3,rfl⟩:=lV hl; exact fun v σ hs=>cast (by kernel_rfl) hs),(fun inner hl=>by obtain ⟨S2,S5,rfl⟩:=lV hl; exact fun v σ hs=>cast (by kernel_rfl) hs),(fun inner hl=>by obtain ⟨S2,S5,rfl⟩:=lV hl; exact fun v σ hs=>cast (by kernel_rfl) hs),(fun inner hl=>by obtain ⟨S2,rfl⟩:=dh hl; exact fun v σ hs=>cast (by kernel_rfl) hs),trivial⟩)
end Go.Proofs.YtpjehkdneiclnaaGreat.Ek
namespace Go.Proofs.YtpjehkdneiclnaaGreat.Ek
open Go Go.Wc Go.Pu Go.Ex Go.Proofs.YtpjehkdneiclnaaGreat Go.Pt
theorem acX (hC:CO C34):SO 34 GP:=
  fk (code:=c34) hC Tryz.func34 (by kernel_rfl) (by kernel_rfl) A34 acv (fun _ _=>bZ.v0) (by kernel_rfl)
    (fun x σ Q h=>cast (by kernel_rfl) h)
    (fun Q=>⟨(fun inner hl=>by obtain ⟨S1,rfl⟩:=dh hl; exact fun v σ hs=>cast (by kernel_rfl) hs),trivial⟩)
end Go.Proofs.YtpjehkdneiclnaaGreat.Ek
namespace Go.Proofs.YtpjehkdneiclnaaGreat.Ek
open Go Go.Wc Go.Pu Go.Ex Go.Proofs.YtpjehkdneiclnaaGreat Go.Pt
theorem acK (hC:CO C13):SO 13 GQ:=
  fk (code:=c13) hC Tryz.func13 (by kernel_rfl) (by kernel_rfl) A13 acA (fun _ _=>bP.v0) (by kernel_rfl)
    (fun x σ Q h=>cast (by kernel_rfl) h)
    (fun Q=>⟨(fun inner hl=>by obtain ⟨S1,rfl⟩:=dh hl; exact fun v σ hs=>cast (by kernel_rfl) hs),(fun inner hl=>by obtain ⟨S1,rfl⟩:=dh hl; exact fun v σ hs=>cast (by kernel_rfl) hs),trivial⟩)
end Go.Proofs.YtpjehkdneiclnaaGreat.Ek
namespace Go.Proofs.YtpjehkdneiclnaaGreat.Ek
open Go Go.Wc Go.Pu Go.Ex Go.Proofs.YtpjehkdneiclnaaGreat Go.Pt
theorem acL (hC:CO C14):SO 14 GS:=
  fk (code:=c14) hC Tryz.func14 (by kernel_rfl) (by kernel_rfl) A14 acE (fun _ _=>bn.v0) (by kernel_rfl)
    (fun x σ Q h=>cast (by kernel_rfl) h)
    (fun Q=>⟨(fun inner hl=>by obtain ⟨S1,rfl⟩:=dh hl; exact fun v σ hs=>cast (by kernel_rfl) hs),(fun inner hl=>by obtain ⟨S1,rfl⟩:=dh hl; exact fun v σ hs=>cast (by kernel_rfl) hs),(fun inner hl=>by obtain ⟨S1,S3,rfl⟩:=lV hl; exact fun v σ hs=>cast (by kernel_rfl) hs),trivial⟩)
end Go.Proofs.YtpjehkdneiclnaaGreat.Ek
namespace Go.Proofs.YtpjehkdneiclnaaGreat.Ek
open Go Go.Wc Go.Pu Go.Ex Go.Proofs.YtpjehkdneiclnaaGreat Go.Pt
theorem ok3 (hC:CO C3):SO 3 RA:=
  fk (code:=c3) hC Tryz.func3 (by kernel_rfl) (by kernel_rfl) A3 pt3 (fun _ _=>aj.v0) (by kernel_rfl)
    (fun x o Q h=>match o,h with | some σ,h=>cast (by kernel_rfl) h | none,h=>h.elim)
    (fun Q=>⟨(fun inner hl=>by obtain rfl:=jl hl; exact fun v σ hs=>match σ,hs with | some σ,hs=>cast (by kernel_rfl) hs | none,hs=>hs.elim),(fun inner hl=>by obtain ⟨S2,rfl⟩:=dh hl; exact fun v σ hs=>match σ,hs with | some σ,hs=>cast (by kernel_rfl) hs | none,hs=>hs.elim),(fun inner hl=>by obtain ⟨S2,rfl⟩:=dh hl; exact fun v σ hs=>match σ,hs with | some σ,hs=>cast (by kernel_rfl) hs | none,hs=>hs.elim),(fun inner hl=>by obtain ⟨S2,rfl⟩:=dh hl; exact fun v σ hs=>match σ,hs with | some σ,hs=>cast (by kernel_rfl) hs | none,hs=>hs.elim),trivial⟩)
end Go.Proofs.YtpjehkdneiclnaaGreat.Ek
