import Derived.Test.YtpjehkdneiclnaaGreatCpG
set_option linter.unusedVariables false
set_option linter.unusedSimpArgs false
set_option maxHeartbeats 4000000
set_option maxRecDepth 100000
namespace Go.Proofs.YtpjehkdneiclnaaGreat.Ek
open Go Go.Wc Go.Pu Go.Ex Go.Proofs.YtpjehkdneiclnaaGreat Go.Pt
theorem acI (hC:CO C11):SO 11 Gh:=
  fk (code:=c11) hC Tryz.func11 (by kernel_rfl) (by kernel_rfl) A11 aar (fun _ _=>bC.v0) (by kernel_rfl)
    (fun x σ Q h=>cast (by kernel_rfl) h)
    (fun Q=>⟨(fun inner hl=>by obtain ⟨S1,rfl⟩:=dh hl; exact fun v σ hs=>cast (by kernel_rfl) hs),trivial⟩)
end Go.Proofs.YtpjehkdneiclnaaGreat.Ek
namespace Go.Proofs.YtpjehkdneiclnaaGreat.Ek
open Go Go.Wc Go.Pu Go.Ex Go.Proofs.YtpjehkdneiclnaaGreat Go.Pt
theorem acN (hC:CO C24):SO 24 Gi:=
  fk (code:=c24) hC Tryz.func24 (by kernel_rfl) (by kernel_rfl) A24 aat (fun _ _=>()) (by kernel_rfl)
    (fun x σ Q h=>cast (by kernel_rfl) h)
    (fun Q=>trivial)
end Go.Proofs.YtpjehkdneiclnaaGreat.Ek
namespace Go.Proofs.YtpjehkdneiclnaaGreat.Ek
open Go Go.Wc Go.Pu Go.Ex Go.Proofs.YtpjehkdneiclnaaGreat Go.Pt
theorem acQ (hC:CO C27):SO 27 Gj:=
  fk (code:=c27) hC Tryz.func27 (by kernel_rfl) (by kernel_rfl) A27 aax (fun _ _=>cm.v0) (by kernel_rfl)
    (fun x σ Q h=>cast (by kernel_rfl) h)
    (fun Q=>⟨(fun inner hl=>by obtain ⟨S1,rfl⟩:=dh hl; exact fun v σ hs=>cast (by kernel_rfl) hs),trivial⟩)
end Go.Proofs.YtpjehkdneiclnaaGreat.Ek
namespace Go.Proofs.YtpjehkdneiclnaaGreat.Ek
open Go Go.Wc Go.Pu Go.Ex Go.Proofs.YtpjehkdneiclnaaGreat Go.Pt
theorem ac5 (hC:CO C50):SO 50 Gk:=
  fk (code:=c50) hC Tryz.func50 (by kernel_rfl) (by kernel_rfl) A50 aaz (fun _ _=>()) (by kernel_rfl)
    (fun x σ Q h=>cast (by kernel_rfl) h)
    (fun Q=>trivial)
end Go.Proofs.YtpjehkdneiclnaaGreat.Ek
namespace Go.Proofs.YtpjehkdneiclnaaGreat.Ek
open Go Go.Wc Go.Pu Go.Ex Go.Proofs.YtpjehkdneiclnaaGreat Go.Pt
theorem acS (hC:CO C29):SO 29 Gl:=
  fk (code:=c29) hC Tryz.func29 (by kernel_rfl) (by kernel_rfl) A29 aaD (fun _ _=>aH.v0) (by kernel_rfl)
    (fun x σ Q h=>cast (by kernel_rfl) h)
    (fun Q=>⟨(fun inner hl=>by obtain rfl:=jl hl; exact fun v σ hs=>cast (by kernel_rfl) hs),(fun inner hl=>by obtain ⟨S2,rfl⟩:=dh hl; exact fun v σ hs=>cast (by kernel_rfl) hs),(fun inner hl=>by obtain ⟨S2,rfl⟩:=dh hl; exact fun v σ hs=>cast (by kernel_rfl) hs),trivial⟩)
end Go.Proofs.YtpjehkdneiclnaaGreat.Ek
namespace Go.Proofs.YtpjehkdneiclnaaGreat.Ek
open Go Go.Wc Go.Pu Go.Ex Go.Proofs.YtpjehkdneiclnaaGreat Go.Pt
theorem acU (hC:CO C31):SO 31 Gn:=
  fk (code:=c31) hC Tryz.func31 (by kernel_rfl) (by kernel_rfl) A31 aaH (fun _ _=>aB.v0) (by kernel_rfl)
    (fun x σ Q h=>cast (by kernel_rfl) h)
    (fun Q=>⟨(fun inner hl=>by obtain ⟨S1,rfl⟩:=dh hl; exact fun v σ hs=>cast (by kernel_rfl) hs),(fun inner hl=>by obtain ⟨S1,S2,rfl⟩:=lV hl; exact fun v σ hs=>cast (by kernel_rfl) hs),trivial⟩)
end Go.Proofs.YtpjehkdneiclnaaGreat.Ek
namespace Go.Proofs.YtpjehkdneiclnaaGreat.Ek
open Go Go.Wc Go.Pu Go.Ex Go.Proofs.YtpjehkdneiclnaaGreat Go.Pt
theorem ac4 (hC:CO C49):SO 49 Gp:=
  fk (code:=c49) hC Tryz.func49 (by kernel_rfl) (by kernel_rfl) A49 aaL (fun _ _=>aM.v0) (by kernel_rfl)
    (fun x σ Q h=>cast (by kernel_rfl) h)
    (fun Q=>⟨(fun inner hl=>by obtain rfl:=jl hl; exact fun v σ hs=>cast (by kernel_rfl) hs),(fun inner hl=>by obtain ⟨S2,rfl⟩:=dh hl; exact fun v σ hs=>cast (by kernel_rfl) hs),trivial⟩)
end Go.Proofs.YtpjehkdneiclnaaGreat.Ek
namespace Go.Proofs.YtpjehkdneiclnaaGreat.Ek
open Go Go.Wc Go.Pu Go.Ex Go.Proofs.YtpjehkdneiclnaaGreat Go.Pt
theorem acO (hC:CO C25):SO 25 Gq:=
  fk (code:=c25) hC Tryz.func25 (by kernel_rfl) (by kernel_rfl) A25 aaP (fun _ _=>bp.v0) (by kernel_rfl)
    (fun x σ Q h=>cast (by kernel_rfl) h)
    (fun Q=>⟨(fun inner hl=>by obtain ⟨S1,rfl⟩:=dh hl; exact fun v σ hs=>cast (by kernel_rfl) hs),(fun inner hl=>by obtain ⟨S1,rfl⟩:=dh hl; exact fun v σ hs=>cast (by kernel_rfl) hs),(fun inner hl=>by obtain ⟨S1,S2,rfl⟩:=lV hl; exact fun v σ hs=>cast (by kernel_rfl) hs),trivial⟩)
end Go.Proofs.YtpjehkdneiclnaaGreat.Ek
namespace Go.Proofs.YtpjehkdneiclnaaGreat.Ek
open Go Go.Wc Go.Pu Go.Ex Go.Proofs.YtpjehkdneiclnaaGreat Go.Pt
theorem acP (hC:CO C26):SO 26 Gr:=
  fk (code:=c26) hC Tryz.func26 (by kernel_rfl) (by kernel_rfl) A26 aaT (fun _ _=>bL.v0) (by kernel_rfl)
    (fun x σ Q h=>cast (by kernel_rfl) h)
    (fun Q=>⟨(fun inner hl=>by obtain ⟨S1,rfl⟩:=dh hl; exact fun v σ hs=>cast (by kernel_rfl) hs),trivial⟩)
end Go.Proofs.YtpjehkdneiclnaaGreat.Ek
namespace Go.Proofs.YtpjehkdneiclnaaGreat.Ek
open Go Go.Wc Go.Pu Go.Ex Go.Proofs.YtpjehkdneiclnaaGreat Go.Pt
theorem acR (hC:CO C28):SO 28 Gt:=
  fk (code:=c28) hC Tryz.func28 (by kernel_rfl) (by kernel_rfl) A28 aaX (fun _ _=>bQ.v0) (by kernel_rfl)
    (fun x σ Q h=>cast (by kernel_rfl) h)
    (fun Q=>⟨(fun inner hl=>by obtain ⟨S1,rfl⟩:=dh hl; exact fun v σ hs=>cast (by kernel_rfl) hs),trivial⟩)
end Go.Proofs.YtpjehkdneiclnaaGreat.Ek
namespace Go.Proofs.YtpjehkdneiclnaaGreat.Ek
open Go Go.Wc Go.Pu Go.Ex Go.Proofs.YtpjehkdneiclnaaGreat Go.Pt
theorem acM (hC:CO C23):SO 23 Gu:=
  fk (code:=c23) hC Tryz.func23 (by kernel_rfl) (by kernel_rfl) A23 aa1 (fun _ _=>az.v0) (by kernel_rfl)
    (fun x σ Q h=>cast (by kernel_rfl) h)
    (fun Q=>⟨(fun inner hl=>by obtain ⟨S1,rfl⟩:=dh hl; exact fun v σ hs=>cast (by kernel_rfl) hs),(fun inner hl=>by obtain ⟨S1,rfl⟩:=dh hl; exact fun v σ hs=>cast (by kernel_rfl) hs),(fun inner hl=>by obtain ⟨S3,rfl⟩:=dh hl; exact fun v σ hs=>cast (by kernel_rfl) hs),(fun inner hl=>by obtain ⟨S3,rfl⟩:=dh hl; exact fun v σ hs=>cast (by kernel_rfl) hs),(fun inner hl=>by obtain ⟨S3,S5,rfl⟩:=lV hl; exact fun v σ hs=>cast (by kernel_rfl) hs),trivial⟩)
end Go.Proofs.YtpjehkdneiclnaaGreat.Ek
namespace Go.Proofs.YtpjehkdneiclnaaGreat.Ek
open Go Go.Wc Go.Pu Go.Ex Go.Proofs.YtpjehkdneiclnaaGreat Go.Pt
theorem ac6 (hC:CO C51):SO 51 Gv:=
  fk (code:=c51) hC Tryz.func51 (by kernel_rfl) (by kernel_rfl) A51 aa5 (fun _ _=>cy.v0) (by kernel_rfl)
    (fun x σ Q h=>cast (by kernel_rfl) h)
    (fun Q=>⟨(fun inner hl=>by obtain ⟨S1,rfl⟩:=dh hl; exact fun v σ hs=>cast (by kernel_rfl) hs),trivial⟩)
end Go.Proofs.YtpjehkdneiclnaaGreat.Ek
namespace Go.Proofs.YtpjehkdneiclnaaGreat.Ek
open Go Go.Wc Go.Pu Go.Ex Go.Proofs.YtpjehkdneiclnaaGreat Go.Pt
theorem acT (hC:CO C30):SO 30 Gw:=
  fk (code:=c30) hC Tryz.func30 (by kernel_rfl) (by kernel_rfl) A30 aa9 (fun _ _=>aZ.v0) (by kernel_rfl)
    (fun x σ Q h=>cast (by kernel_rfl) h)
    (fun Q=>⟨(fun inner hl=>by obtain rfl:=jl hl; exact fun v σ hs=>cast (by kernel_rfl) hs),(fun inner hl=>by obtain ⟨S2,rfl⟩:=dh hl; exact fun v σ hs=>cast (by kernel_rfl) hs),(fun inner hl=>by obtain ⟨S2,rfl⟩:=dh hl; exact fun v σ hs=>cast (by kernel_rfl) hs),(fun inner hl=>by obtain ⟨S4,rfl⟩:=dh hl; exact fun v σ hs=>cast (by kernel_rfl) hs),trivial⟩)
end Go.Proofs.YtpjehkdneiclnaaGreat.Ek
namespace Go.Proofs.YtpjehkdneiclnaaGreat.Ek
open Go Go.Wc Go.Pu Go.Ex Go.Proofs.YtpjehkdneiclnaaGreat Go.Pt
theorem acV (hC:CO C32):SO 32 Gx:=
  fk (code:=c32) hC Tryz.func32 (by kernel_rfl) (by kernel_rfl) ON abd (fun _ _=>bg.v0) (by kernel_rfl)
    (fun x σ Q h=>cast (by kernel_rfl) h)
    (fun Q=>⟨(fun inner hl=>by obtain rfl:=jl hl; exact fun v σ hs=>cast (by kernel_rfl) hs),trivial⟩)
end Go.Proofs.YtpjehkdneiclnaaGreat.Ek
namespace Go.Proofs.YtpjehkdneiclnaaGreat.Ek
open Go Go.Wc Go.Pu Go.Ex Go.Proofs.YtpjehkdneiclnaaGreat Go.Pt
theorem TL (hC:CO OP):SO 112 zm:=
  fk (code:=abe) hC Tryz.func112 (by kernel_rfl) (by kernel_rfl) abf Tg (fun _ _=>()) (by kernel_rfl)
    (fun x σ Q h=>cast (by kernel_rfl) h)
    (fun Q=>trivial)
end Go.Proofs.YtpjehkdneiclnaaGreat.Ek
namespace Go.Proofs.YtpjehkdneiclnaaGreat.Ek
open Go Go.Wc Go.Pu Go.Ex Go.Proofs.YtpjehkdneiclnaaGreat Go.Pt
theorem TM (hC:CO OQ):SO 113 zn:=
  fk (code:=abg) hC Tryz.func113 (by kernel_rfl) (by kernel_rfl) abh Th (fun _ _=>()) (by kernel_rfl)
    (fun x σ Q h=>cast (by kernel_rfl) h)
    (fun Q=>trivial)
end Go.Proofs.YtpjehkdneiclnaaGreat.Ek
namespace Go.Proofs.YtpjehkdneiclnaaGreat.Ek
open Go Go.Wc Go.Pu Go.Ex Go.Proofs.YtpjehkdneiclnaaGreat Go.Pt
theorem TU (hC:CO OR):SO 122 zo:=
  fk (code:=abi) hC Tryz.func122 (by kernel_rfl) (by kernel_rfl) abj Tk (fun _ _=>bK.v0) (by kernel_rfl)
    (fun x σ Q h=>cast (by kernel_rfl) h)
    (fun Q=>⟨(fun inner hl=>by obtain ⟨S1,rfl⟩:=dh hl; exact fun v σ hs=>cast (by kernel_rfl) hs),trivial⟩)
end Go.Proofs.YtpjehkdneiclnaaGreat.Ek
namespace Go.Proofs.YtpjehkdneiclnaaGreat.Ek
open Go Go.Wc Go.Pu Go.Ex Go.Proofs.YtpjehkdneiclnaaGreat Go.Pt
theorem TN (hC:CO OT):SO 114 zq:=
  fk (code:=abk) hC Tryz.func114 (by kernel_rfl) (by kernel_rfl) abl Tl (fun _ _=>()) (by kernel_rfl)
    (fun x σ Q h=>cast (by kernel_rfl) h)
    (fun Q=>trivial)
end Go.Proofs.YtpjehkdneiclnaaGreat.Ek
namespace Go.Proofs.YtpjehkdneiclnaaGreat.Ek
open Go Go.Wc Go.Pu Go.Ex Go.Proofs.YtpjehkdneiclnaaGreat Go.Pt
theorem adz (hC:CO C99):SO 99 Gz:=
  fk (code:=c99) hC Tryz.func99 (by kernel_rfl) (by kernel_rfl) A99 abp (fun _ _=>af.v0) (by kernel_rfl)
    (fun x σ Q h=>cast (by kernel_rfl) h)
    (fun Q=>⟨(fun inner hl=>by obtain ⟨S1,rfl⟩:=dh hl; exact fun v σ hs=>cast (by kernel_rfl) hs),(fun inner hl=>by obtain ⟨S2,rfl⟩:=dh hl; exact fun v σ hs=>cast (by kernel_rfl) hs),(fun inner hl=>by obtain ⟨S3,rfl⟩:=dh hl; exact fun v σ hs=>cast (by kernel_rfl) hs),(fun inner hl=>by obtain ⟨S3,S4,rfl⟩:=lV hl; exact fun v σ hs=>cast (by kernel_rfl) hs),(fun inner hl=>by obtain ⟨S3,S4,rfl⟩:=lV hl; exact fun v σ hs=>cast (by kernel_rfl) hs),(fun inner hl=>by obtain ⟨S3,S4,S5,rfl⟩:=adA hl; exact fun v σ hs=>cast (by kernel_rfl) hs),(fun inner hl=>by obtain ⟨S7,rfl⟩:=dh hl; exact fun v σ hs=>cast (by kernel_rfl) hs),(fun inner hl=>by obtain ⟨S7,S8,rfl⟩:=lV hl; exact fun v σ hs=>cast (by kernel_rfl) hs),trivial⟩)
end Go.Proofs.YtpjehkdneiclnaaGreat.Ek
namespace Go.Proofs.YtpjehkdneiclnaaGreat.Ek
open Go Go.Wc Go.Pu Go.Ex Go.Proofs.YtpjehkdneiclnaaGreat Go.Pt
theorem adq (hC:CO C79):SO 79 GA:=
  fk (code:=c79) hC Tryz.func79 (by kernel_rfl) (by kernel_rfl) A79 abu (fun _ _=>bt.v0) (by kernel_rfl)
    (fun x σ Q h=>cast (by kernel_rfl) h)
    (fun Q=>⟨(fun inner hl=>by obtain rfl:=jl hl; exact fun v σ hs=>cast (by kernel_rfl) hs),(fun inner hl=>by obtain ⟨S2,rfl⟩:=dh hl; exact fun v σ hs=>cast (by kernel_rfl) hs),trivial⟩)
end Go.Proofs.YtpjehkdneiclnaaGreat.Ek
namespace Go.Proofs.YtpjehkdneiclnaaGreat.Ek
open Go Go.Wc Go.Pu Go.Ex Go.Proofs.YtpjehkdneiclnaaGreat Go.Pt
theorem adg (hC:CO C65):SO 65 GB:=
  fk (code:=c65) hC Tryz.func65 (by kernel_rfl) (by kernel_rfl) A65 aby (fun _ _=>bV.v0) (by kernel_rfl)
    (fun x σ Q h=>cast (by kernel_rfl) h)
    (fun Q=>⟨(fun inner hl=>by obtain ⟨S1,rfl⟩:=dh hl; exact fun v σ hs=>cast (by kernel_rfl) hs),trivial⟩)
end Go.Proofs.YtpjehkdneiclnaaGreat.Ek
namespace Go.Proofs.YtpjehkdneiclnaaGreat.Ek
open Go Go.Wc Go.Pu Go.Ex Go.Proofs.YtpjehkdneiclnaaGreat Go.Pt
theorem adh (hC:CO C66):SO 66 GC:=
  fk (code:=c66) hC Tryz.func66 (by kernel_rfl) (by kernel_rfl) A66 abC (fun _ _=>bx.v0) (by kernel_rfl)
    (fun x σ Q h=>cast (by kernel_rfl) h)
    (fun Q=>⟨(fun inner hl=>by obtain ⟨S1,rfl⟩:=dh hl; exact fun v σ hs=>cast (by kernel_rfl) hs),(fun inner hl=>by obtain ⟨S2,rfl⟩:=dh hl; exact fun v σ hs=>cast (by kernel_rfl) hs),trivial⟩)
end Go.Proofs.YtpjehkdneiclnaaGreat.Ek
