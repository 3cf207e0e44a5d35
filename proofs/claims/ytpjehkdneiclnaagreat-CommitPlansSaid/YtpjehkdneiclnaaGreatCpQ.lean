import Derived.Test.YtpjehkdneiclnaaGreatCpG
set_option linter.unusedVariables false
set_option linter.unusedSimpArgs false
set_option maxHeartbeats 4000000
set_option maxRecDepth 100000
namespace Go.Proofs.YtpjehkdneiclnaaGreat.Ek
open Go Go.Wc Go.Pu Go.Ex Go.Proofs.YtpjehkdneiclnaaGreat Go.Pt
theorem GV (hC:CO Ld):SO 109 sB:=
  fk (code:=Zl) hC Tryz.func109 (by kernel_rfl) (by kernel_rfl) Zm Sm (fun _ _=>()) (by kernel_rfl)
    (fun x σ Q h=>cast (by kernel_rfl) h)
    (fun Q=>trivial)
end Go.Proofs.YtpjehkdneiclnaaGreat.Ek
namespace Go.Proofs.YtpjehkdneiclnaaGreat.Ek
open Go Go.Wc Go.Pu Go.Ex Go.Proofs.YtpjehkdneiclnaaGreat Go.Pt
theorem adn (hC:CO Zn):SO 75 FY:=
  fk (code:=c75) hC Tryz.func75 (by kernel_rfl) (by kernel_rfl) A75 Zq (fun _ _=>bI.v0) (by kernel_rfl)
    (fun x σ Q h=>cast (by kernel_rfl) h)
    (fun Q=>⟨(fun inner hl=>by obtain ⟨S1,rfl⟩:=dh hl; exact fun v σ hs=>cast (by kernel_rfl) hs),(fun inner hl=>by obtain ⟨S1,S2,rfl⟩:=lV hl; exact fun v σ hs=>cast (by kernel_rfl) hs),trivial⟩)
end Go.Proofs.YtpjehkdneiclnaaGreat.Ek
namespace Go.Proofs.YtpjehkdneiclnaaGreat.Ek
open Go Go.Wc Go.Pu Go.Ex Go.Proofs.YtpjehkdneiclnaaGreat Go.Pt
theorem ado (hC:CO Zr):SO 76 FZ:=
  fk (code:=c76) hC Tryz.func76 (by kernel_rfl) (by kernel_rfl) A76 Zu (fun _ _=>bX.v0) (by kernel_rfl)
    (fun x σ Q h=>cast (by kernel_rfl) h)
    (fun Q=>⟨(fun inner hl=>by obtain ⟨S1,rfl⟩:=dh hl; exact fun v σ hs=>cast (by kernel_rfl) hs),(fun inner hl=>by obtain ⟨S1,rfl⟩:=dh hl; exact fun v σ hs=>cast (by kernel_rfl) hs),trivial⟩)
end Go.Proofs.YtpjehkdneiclnaaGreat.Ek
namespace Go.Proofs.YtpjehkdneiclnaaGreat.Ek
open Go Go.Wc Go.Pu Go.Ex Go.Proofs.YtpjehkdneiclnaaGreat Go.Pt
theorem adb (hC:CO Zv):SO 60 F5:=
  fk (code:=c60) hC Tryz.func60 (by kernel_rfl) (by kernel_rfl) A60 Zy (fun _ _=>dF.v0) (by kernel_rfl)
    (fun x σ Q h=>cast (by kernel_rfl) h)
    (fun Q=>⟨(fun inner hl=>by obtain rfl:=jl hl; exact fun v σ hs=>cast (by kernel_rfl) hs),trivial⟩)
end Go.Proofs.YtpjehkdneiclnaaGreat.Ek
namespace Go.Proofs.YtpjehkdneiclnaaGreat.Ek
open Go Go.Wc Go.Pu Go.Ex Go.Proofs.YtpjehkdneiclnaaGreat Go.Pt
theorem ade (hC:CO Xv):SO 61 Em:=
  fk (code:=c61) hC Tryz.func61 (by kernel_rfl) (by kernel_rfl) A61 Zz (fun _ _=>()) (by kernel_rfl)
    (fun x σ Q h=>cast (by kernel_rfl) h)
    (fun Q=>trivial)
end Go.Proofs.YtpjehkdneiclnaaGreat.Ek
namespace Go.Proofs.YtpjehkdneiclnaaGreat.Ek
open Go Go.Wc Go.Pu Go.Ex Go.Proofs.YtpjehkdneiclnaaGreat Go.Pt
theorem adw (hC:CO ZA):SO 96 F6:=
  fk (code:=c96) hC Tryz.func96 (by kernel_rfl) (by kernel_rfl) A96 ZB (fun _ _=>()) (by kernel_rfl)
    (fun x σ Q h=>cast (by kernel_rfl) h)
    (fun Q=>trivial)
end Go.Proofs.YtpjehkdneiclnaaGreat.Ek
namespace Go.Proofs.YtpjehkdneiclnaaGreat.Ek
open Go Go.Wc Go.Pu Go.Ex Go.Proofs.YtpjehkdneiclnaaGreat Go.Pt
theorem TJ (hC:CO Oi):SO 110 ze:=
  fk (code:=ZC) hC Tryz.func110 (by kernel_rfl) (by kernel_rfl) ZD Sr (fun _ _=>()) (by kernel_rfl)
    (fun x σ Q h=>cast (by kernel_rfl) h)
    (fun Q=>trivial)
end Go.Proofs.YtpjehkdneiclnaaGreat.Ek
namespace Go.Proofs.YtpjehkdneiclnaaGreat.Ek
open Go Go.Wc Go.Pu Go.Ex Go.Proofs.YtpjehkdneiclnaaGreat Go.Pt
theorem TT (hC:CO Oj):SO 121 zf:=
  fk (code:=ZE) hC Tryz.func121 (by kernel_rfl) (by kernel_rfl) ZF Su (fun _ _=>()) (by kernel_rfl)
    (fun x σ Q h=>cast (by kernel_rfl) h)
    (fun Q=>trivial)
end Go.Proofs.YtpjehkdneiclnaaGreat.Ek
namespace Go.Proofs.YtpjehkdneiclnaaGreat.Ek
open Go Go.Wc Go.Pu Go.Ex Go.Proofs.YtpjehkdneiclnaaGreat Go.Pt
theorem TV (hC:CO Ol):SO 123 zg:=
  fk (code:=ZG) hC Tryz.func123 (by kernel_rfl) (by kernel_rfl) ZH Sx (fun _ _=>cX.v0) (by kernel_rfl)
    (fun x σ Q h=>cast (by kernel_rfl) h)
    (fun Q=>⟨(fun inner hl=>by obtain ⟨S1,rfl⟩:=dh hl; exact fun v σ hs=>cast (by kernel_rfl) hs),trivial⟩)
end Go.Proofs.YtpjehkdneiclnaaGreat.Ek
namespace Go.Proofs.YtpjehkdneiclnaaGreat.Ek
open Go Go.Wc Go.Pu Go.Ex Go.Proofs.YtpjehkdneiclnaaGreat Go.Pt
theorem TR (hC:CO On):SO 119 zh:=
  fk (code:=ZI) hC Tryz.func119 (by kernel_rfl) (by kernel_rfl) ZJ SA (fun _ _=>cu.v0) (by kernel_rfl)
    (fun x σ Q h=>cast (by kernel_rfl) h)
    (fun Q=>⟨(fun inner hl=>by obtain ⟨S1,rfl⟩:=dh hl; exact fun v σ hs=>cast (by kernel_rfl) hs),(fun inner hl=>by obtain ⟨S1,rfl⟩:=dh hl; exact fun v σ hs=>cast (by kernel_rfl) hs),trivial⟩)
end Go.Proofs.YtpjehkdneiclnaaGreat.Ek
namespace Go.Proofs.YtpjehkdneiclnaaGreat.Ek
open Go Go.Wc Go.Pu Go.Ex Go.Proofs.YtpjehkdneiclnaaGreat Go.Pt
theorem TS (hC:CO Oq):SO 120 zi:=
  fk (code:=ZK) hC Tryz.func120 (by kernel_rfl) (by kernel_rfl) ZL SB (fun _ _=>()) (by kernel_rfl)
    (fun x σ Q h=>cast (by kernel_rfl) h)
    (fun Q=>trivial)
end Go.Proofs.YtpjehkdneiclnaaGreat.Ek
namespace Go.Proofs.YtpjehkdneiclnaaGreat.Ek
open Go Go.Wc Go.Pu Go.Ex Go.Proofs.YtpjehkdneiclnaaGreat Go.Pt
theorem TK (hC:CO Ot):SO 111 zj:=
  fk (code:=ZM) hC Tryz.func111 (by kernel_rfl) (by kernel_rfl) ZN SE (fun _ _=>cq.v0) (by kernel_rfl)
    (fun x σ Q h=>cast (by kernel_rfl) h)
    (fun Q=>⟨(fun inner hl=>by obtain ⟨S1,rfl⟩:=dh hl; exact fun v σ hs=>cast (by kernel_rfl) hs),(fun inner hl=>by obtain ⟨S2,rfl⟩:=dh hl; exact fun v σ hs=>cast (by kernel_rfl) hs),trivial⟩)
end Go.Proofs.YtpjehkdneiclnaaGreat.Ek
namespace Go.Proofs.YtpjehkdneiclnaaGreat.Ek
open Go Go.Wc Go.Pu Go.Ex Go.Proofs.YtpjehkdneiclnaaGreat Go.Pt
theorem adx (hC:CO ZO):SO 97 Ga:=
  fk (code:=c97) hC Tryz.func97 (by kernel_rfl) (by kernel_rfl) A97 ZR (fun _ _=>aJ.v0) (by kernel_rfl)
    (fun x σ Q h=>cast (by kernel_rfl) h)
    (fun Q=>⟨(fun inner hl=>by obtain rfl:=jl hl; exact fun v σ hs=>cast (by kernel_rfl) hs),(fun inner hl=>by obtain rfl:=jl hl; exact fun v σ hs=>cast (by kernel_rfl) hs),(fun inner hl=>by obtain ⟨S2,rfl⟩:=dh hl; exact fun v σ hs=>cast (by kernel_rfl) hs),trivial⟩)
end Go.Proofs.YtpjehkdneiclnaaGreat.Ek
namespace Go.Proofs.YtpjehkdneiclnaaGreat.Ek
open Go Go.Wc Go.Pu Go.Ex Go.Proofs.YtpjehkdneiclnaaGreat Go.Pt
theorem ady (hC:CO ZS):SO 98 Gb:=
  fk (code:=c98) hC Tryz.func98 (by kernel_rfl) (by kernel_rfl) A98 ZV (fun _ _=>aI.v0) (by kernel_rfl)
    (fun x σ Q h=>cast (by kernel_rfl) h)
    (fun Q=>⟨(fun inner hl=>by obtain ⟨S1,rfl⟩:=dh hl; exact fun v σ hs=>cast (by kernel_rfl) hs),(fun inner hl=>by obtain ⟨S2,rfl⟩:=dh hl; exact fun v σ hs=>cast (by kernel_rfl) hs),(fun inner hl=>by obtain ⟨S3,rfl⟩:=dh hl; exact fun v σ hs=>cast (by kernel_rfl) hs),trivial⟩)
end Go.Proofs.YtpjehkdneiclnaaGreat.Ek
namespace Go.Proofs.YtpjehkdneiclnaaGreat.Ek
open Go Go.Wc Go.Pu Go.Ex Go.Proofs.YtpjehkdneiclnaaGreat Go.Pt
theorem Pp (hC:CO Xw):SO 77 yN:=
  fk (code:=c77) hC Tryz.func77 (by kernel_rfl) (by kernel_rfl) A77 ZY (fun _ _=>cZ.v0) (by kernel_rfl)
    (fun x σ Q h=>cast (by kernel_rfl) h)
    (fun Q=>⟨(fun inner hl=>by obtain ⟨S1,rfl⟩:=dh hl; exact fun v σ hs=>cast (by kernel_rfl) hs),trivial⟩)
end Go.Proofs.YtpjehkdneiclnaaGreat.Ek
namespace Go.Proofs.YtpjehkdneiclnaaGreat.Ek
open Go Go.Wc Go.Pu Go.Ex Go.Proofs.YtpjehkdneiclnaaGreat Go.Pt
theorem Po (hC:CO ZZ):SO 46 Bg:=
  fk (code:=c46) hC Tryz.func46 (by kernel_rfl) (by kernel_rfl) A46 Z2 (fun _ _=>cw.v0) (by kernel_rfl)
    (fun x o Q h=>match o,h with | some σ,h=>cast (by kernel_rfl) h | none,h=>h.elim)
    (fun Q=>⟨(fun inner hl=>by obtain rfl:=jl hl; exact fun v σ hs=>match σ,hs with | some σ,hs=>cast (by kernel_rfl) hs | none,hs=>hs.elim),trivial⟩)
end Go.Proofs.YtpjehkdneiclnaaGreat.Ek
namespace Go.Proofs.YtpjehkdneiclnaaGreat.Ek
open Go Go.Wc Go.Pu Go.Ex Go.Proofs.YtpjehkdneiclnaaGreat Go.Pt
theorem adp (hC:CO Z3):SO 78 Gc:=
  fk (code:=c78) hC Tryz.func78 (by kernel_rfl) (by kernel_rfl) A78 Z4 (fun _ _=>()) (by kernel_rfl)
    (fun x σ Q h=>cast (by kernel_rfl) h)
    (fun Q=>trivial)
end Go.Proofs.YtpjehkdneiclnaaGreat.Ek
namespace Go.Proofs.YtpjehkdneiclnaaGreat.Ek
open Go Go.Wc Go.Pu Go.Ex Go.Proofs.YtpjehkdneiclnaaGreat Go.Pt
theorem adf (hC:CO Z5):SO 63 Gd:=
  fk (code:=c63) hC Tryz.func63 (by kernel_rfl) (by kernel_rfl) A63 Z8 (fun _ _=>bR.v0) (by kernel_rfl)
    (fun x σ Q h=>cast (by kernel_rfl) h)
    (fun Q=>⟨(fun inner hl=>by obtain rfl:=jl hl; exact fun v σ hs=>cast (by kernel_rfl) hs),(fun inner hl=>by obtain rfl:=jl hl; exact fun v σ hs=>cast (by kernel_rfl) hs),(fun inner hl=>by obtain rfl:=jl hl; exact fun v σ hs=>cast (by kernel_rfl) hs),(fun inner hl=>by obtain rfl:=jl hl; exact fun v σ hs=>cast (by kernel_rfl) hs),(fun inner hl=>by obtain rfl:=jl hl; exact fun v σ hs=>cast (by kernel_rfl) hs),(fun inner hl=>by obtain rfl:=jl hl; exact fun v σ hs=>cast (by kernel_rfl) hs),(fun inner hl=>by obtain rfl:=jl hl; exact fun v σ hs=>cast (by kernel_rfl) hs),trivial⟩)
end Go.Proofs.YtpjehkdneiclnaaGreat.Ek
namespace Go.Proofs.YtpjehkdneiclnaaGreat.Ek
open Go Go.Wc Go.Pu Go.Ex Go.Proofs.YtpjehkdneiclnaaGreat Go.Pt
theorem ac2 (hC:CO Z9):SO 47 Ge:=
  fk (code:=c47) hC Tryz.func47 (by kernel_rfl) (by kernel_rfl) A47 aaa (fun _ _=>()) (by kernel_rfl)
    (fun x σ Q h=>cast (by kernel_rfl) h)
    (fun Q=>trivial)
end Go.Proofs.YtpjehkdneiclnaaGreat.Ek
namespace Go.Proofs.YtpjehkdneiclnaaGreat.Ek
open Go Go.Wc Go.Pu Go.Ex Go.Proofs.YtpjehkdneiclnaaGreat Go.Pt
theorem ac3 (hC:CO C48):SO 48 Gf:=
  fk (code:=c48) hC Tryz.func48 (by kernel_rfl) (by kernel_rfl) A48 aac (fun _ _=>()) (by kernel_rfl)
    (fun x σ Q h=>cast (by kernel_rfl) h)
    (fun Q=>trivial)
end Go.Proofs.YtpjehkdneiclnaaGreat.Ek
namespace Go.Proofs.YtpjehkdneiclnaaGreat.Ek
open Go Go.Wc Go.Pu Go.Ex Go.Proofs.YtpjehkdneiclnaaGreat Go.Pt
theorem Pj (hC:CO Xx):SO 22 yO:=
  fk (code:=c22) hC Tryz.func22 (by kernel_rfl) (by kernel_rfl) A22 aaf (fun _ _=>cn.v0) (by kernel_rfl)
    (fun x σ Q h=>cast (by kernel_rfl) h)
    (fun Q=>⟨(fun inner hl=>by obtain rfl:=jl hl; exact fun v σ hs=>cast (by kernel_rfl) hs),(fun inner hl=>by obtain ⟨S2,rfl⟩:=dh hl; exact fun v σ hs=>cast (by kernel_rfl) hs),(fun inner hl=>by obtain ⟨S2,rfl⟩:=dh hl; exact fun v σ hs=>cast (by kernel_rfl) hs),trivial⟩)
end Go.Proofs.YtpjehkdneiclnaaGreat.Ek
namespace Go.Proofs.YtpjehkdneiclnaaGreat.Ek
open Go Go.Wc Go.Pu Go.Ex Go.Proofs.YtpjehkdneiclnaaGreat Go.Pt
theorem ok7 (hC:CO C7):SO 7 SP:=
  fk (code:=c7) hC Tryz.func7 (by kernel_rfl) (by kernel_rfl) A7 pt7 (fun _ _=>au.v0) (by kernel_rfl)
    (fun x o Q h=>match o,h with | some σ,h=>cast (by kernel_rfl) h | none,h=>h.elim)
    (fun Q=>⟨(fun inner hl=>by obtain rfl:=jl hl; exact fun v σ hs=>match σ,hs with | some σ,hs=>cast (by kernel_rfl) hs | none,hs=>hs.elim),trivial⟩)
end Go.Proofs.YtpjehkdneiclnaaGreat.Ek
namespace Go.Proofs.YtpjehkdneiclnaaGreat.Ek
open Go Go.Wc Go.Pu Go.Ex Go.Proofs.YtpjehkdneiclnaaGreat Go.Pt
theorem FN (hC:CO C8):SO 8 SQ:=
  fk (code:=c8) hC Tryz.func8 (by kernel_rfl) (by kernel_rfl) A8 pt8 (fun _ _=>cg.v0) (by kernel_rfl)
    (fun x σ Q h=>cast (by kernel_rfl) h)
    (fun Q=>⟨(fun inner hl=>by obtain ⟨S1,rfl⟩:=dh hl; exact fun v σ hs=>cast (by kernel_rfl) hs),trivial⟩)
end Go.Proofs.YtpjehkdneiclnaaGreat.Ek
namespace Go.Proofs.YtpjehkdneiclnaaGreat.Ek
open Go Go.Wc Go.Pu Go.Ex Go.Proofs.YtpjehkdneiclnaaGreat Go.Pt
theorem acH (hC:CO C10):SO 10 Gg:=
  fk (code:=c10) hC Tryz.func10 (by kernel_rfl) (by kernel_rfl) A10 aan (fun _ _=>aV.v0) (by kernel_rfl)
    (fun x σ Q h=>cast (by kernel_rfl) h)
    (fun Q=>⟨(fun inner hl=>by obtain ⟨S1,rfl⟩:=dh hl; exact fun v σ hs=>cast (by kernel_rfl) hs),(fun inner hl=>by obtain ⟨S1,S2,rfl⟩:=lV hl; exact fun v σ hs=>cast (by kernel_rfl) hs),trivial⟩)
end Go.Proofs.YtpjehkdneiclnaaGreat.Ek
