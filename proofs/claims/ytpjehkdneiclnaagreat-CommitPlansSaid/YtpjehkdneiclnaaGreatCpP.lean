import Derived.Test.YtpjehkdneiclnaaGreatCpG
set_option linter.unusedVariables false
set_option linter.unusedSimpArgs false
set_option maxHeartbeats 4000000
set_option maxRecDepth 100000
namespace Go.Proofs.YtpjehkdneiclnaaGreat.Ek
open Go Go.Wc Go.Pu Go.Ex Go.Proofs.YtpjehkdneiclnaaGreat Go.Pt
theorem ok4 (hC:CO C4):SO 4 RZ:=
  fk (code:=c4) hC Tryz.func4 (by kernel_rfl) (by kernel_rfl) A4 pt4 (fun _ _=>cD.v0) (by kernel_rfl)
    (fun x σ Q h=>cast (by kernel_rfl) h)
    (fun Q=>⟨(fun inner hl=>by obtain rfl:=jl hl; exact fun v σ hs=>cast (by kernel_rfl) hs),(fun inner hl=>by obtain ⟨S2,rfl⟩:=dh hl; exact fun v σ hs=>cast (by kernel_rfl) hs),(fun inner hl=>by obtain ⟨S2,rfl⟩:=dh hl; exact fun v σ hs=>cast (by kernel_rfl) hs),trivial⟩)
end Go.Proofs.YtpjehkdneiclnaaGreat.Ek
namespace Go.Proofs.YtpjehkdneiclnaaGreat.Ek
open Go Go.Wc Go.Pu Go.Ex Go.Proofs.YtpjehkdneiclnaaGreat Go.Pt
theorem Fx (hC:CO C5):SO 5 R5:=
  fk (code:=c5) hC Tryz.func5 (by kernel_rfl) (by kernel_rfl) A5 pt5 (fun _ _=>aQ.v0) (by kernel_rfl)
    (fun x σ Q h=>cast (by kernel_rfl) h)
    (fun Q=>⟨(fun inner hl=>by obtain rfl:=jl hl; exact fun v σ hs=>cast (by kernel_rfl) hs),(fun inner hl=>by obtain ⟨S2,rfl⟩:=dh hl; exact fun v σ hs=>cast (by kernel_rfl) hs),(fun inner hl=>by obtain ⟨S3,rfl⟩:=dh hl; exact fun v σ hs=>cast (by kernel_rfl) hs),(fun inner hl=>by obtain ⟨S3,rfl⟩:=dh hl; exact fun v σ hs=>cast (by kernel_rfl) hs),(fun inner hl=>by obtain ⟨S3,S5,rfl⟩:=lV hl; exact fun v σ hs=>cast (by kernel_rfl) hs),trivial⟩)
end Go.Proofs.YtpjehkdneiclnaaGreat.Ek
namespace Go.Proofs.YtpjehkdneiclnaaGreat.Ek
open Go Go.Wc Go.Pu Go.Ex Go.Proofs.YtpjehkdneiclnaaGreat Go.Pt
theorem ok6 (hC:CO C6):SO 6 R6:=
  fk (code:=c6) hC Tryz.func6 (by kernel_rfl) (by kernel_rfl) A6 pt6 (fun _ _=>bq.v0) (by kernel_rfl)
    (fun x σ Q h=>cast (by kernel_rfl) h)
    (fun Q=>⟨(fun inner hl=>by obtain rfl:=jl hl; exact fun v σ hs=>cast (by kernel_rfl) hs),(fun inner hl=>by obtain ⟨S2,rfl⟩:=dh hl; exact fun v σ hs=>cast (by kernel_rfl) hs),(fun inner hl=>by obtain ⟨S3,rfl⟩:=dh hl; exact fun v σ hs=>cast (by kernel_rfl) hs),trivial⟩)
end Go.Proofs.YtpjehkdneiclnaaGreat.Ek
namespace Go.Proofs.YtpjehkdneiclnaaGreat.Ek
open Go Go.Wc Go.Pu Go.Ex Go.Proofs.YtpjehkdneiclnaaGreat Go.Pt
theorem adl (hC:CO Yt):SO 70 FJ:=
  fk (code:=c70) hC Tryz.func70 (by kernel_rfl) (by kernel_rfl) A70 Yu (fun _ _=>()) (by kernel_rfl)
    (fun x σ Q h=>cast (by kernel_rfl) h)
    (fun Q=>trivial)
end Go.Proofs.YtpjehkdneiclnaaGreat.Ek
namespace Go.Proofs.YtpjehkdneiclnaaGreat.Ek
open Go Go.Wc Go.Pu Go.Ex Go.Proofs.YtpjehkdneiclnaaGreat Go.Pt
theorem ac9 (hC:CO Yv):SO 54 FK:=
  fk (code:=c54) hC Tryz.func54 (by kernel_rfl) (by kernel_rfl) A54 Yy (fun _ _=>b9.v0) (by kernel_rfl)
    (fun x σ Q h=>cast (by kernel_rfl) h)
    (fun Q=>⟨(fun inner hl=>by obtain ⟨S1,rfl⟩:=dh hl; exact fun v σ hs=>cast (by kernel_rfl) hs),trivial⟩)
end Go.Proofs.YtpjehkdneiclnaaGreat.Ek
namespace Go.Proofs.YtpjehkdneiclnaaGreat.Ek
open Go Go.Wc Go.Pu Go.Ex Go.Proofs.YtpjehkdneiclnaaGreat Go.Pt
theorem adm (hC:CO Yz):SO 74 FL:=
  fk (code:=c74) hC Tryz.func74 (by kernel_rfl) (by kernel_rfl) A74 YA (fun _ _=>()) (by kernel_rfl)
    (fun x σ Q h=>cast (by kernel_rfl) h)
    (fun Q=>trivial)
end Go.Proofs.YtpjehkdneiclnaaGreat.Ek
namespace Go.Proofs.YtpjehkdneiclnaaGreat.Ek
open Go Go.Wc Go.Pu Go.Ex Go.Proofs.YtpjehkdneiclnaaGreat Go.Pt
theorem ada (hC:CO YB):SO 59 FM:=
  fk (code:=c59) hC Tryz.func59 (by kernel_rfl) (by kernel_rfl) A59 YC (fun _ _=>()) (by kernel_rfl)
    (fun x σ Q h=>cast (by kernel_rfl) h)
    (fun Q=>trivial)
end Go.Proofs.YtpjehkdneiclnaaGreat.Ek
namespace Go.Proofs.YtpjehkdneiclnaaGreat.Ek
open Go Go.Wc Go.Pu Go.Ex Go.Proofs.YtpjehkdneiclnaaGreat Go.Pt
theorem Pm (hC:CO YD):SO 44 Bb:=
  fk (code:=c44) hC Tryz.func44 (by kernel_rfl) (by kernel_rfl) A44 YG (fun _ _=>aR.v0) (by kernel_rfl)
    (fun x σ Q h=>cast (by kernel_rfl) h)
    (fun Q=>⟨(fun inner hl=>by obtain rfl:=jl hl; exact fun v σ hs=>cast (by kernel_rfl) hs),trivial⟩)
end Go.Proofs.YtpjehkdneiclnaaGreat.Ek
namespace Go.Proofs.YtpjehkdneiclnaaGreat.Ek
open Go Go.Wc Go.Pu Go.Ex Go.Proofs.YtpjehkdneiclnaaGreat Go.Pt
theorem Pk (hC:CO Xt):SO 35 yL:=
  fk (code:=c35) hC Tryz.func35 (by kernel_rfl) (by kernel_rfl) A35 YJ (fun _ _=>aY.v0) (by kernel_rfl)
    (fun x σ Q h=>cast (by kernel_rfl) h)
    (fun Q=>⟨(fun inner hl=>by obtain ⟨S1,rfl⟩:=dh hl; exact fun v σ hs=>cast (by kernel_rfl) hs),trivial⟩)
end Go.Proofs.YtpjehkdneiclnaaGreat.Ek
namespace Go.Proofs.YtpjehkdneiclnaaGreat.Ek
open Go Go.Wc Go.Pu Go.Ex Go.Proofs.YtpjehkdneiclnaaGreat Go.Pt
theorem Pg (hC:CO Xu):SO 18 yM:=
  fk (code:=c18) hC Tryz.func18 (by kernel_rfl) (by kernel_rfl) A18 YM (fun _ _=>bW.v0) (by kernel_rfl)
    (fun x σ Q h=>cast (by kernel_rfl) h)
    (fun Q=>⟨(fun inner hl=>by obtain ⟨S1,rfl⟩:=dh hl; exact fun v σ hs=>cast (by kernel_rfl) hs),trivial⟩)
end Go.Proofs.YtpjehkdneiclnaaGreat.Ek
namespace Go.Proofs.YtpjehkdneiclnaaGreat.Ek
open Go Go.Wc Go.Pu Go.Ex Go.Proofs.YtpjehkdneiclnaaGreat Go.Pt
theorem ac1 (hC:CO YN):SO 43 FO:=
  fk (code:=c43) hC Tryz.func43 (by kernel_rfl) (by kernel_rfl) A43 YO (fun _ _=>()) (by kernel_rfl)
    (fun x σ Q h=>cast (by kernel_rfl) h)
    (fun Q=>trivial)
end Go.Proofs.YtpjehkdneiclnaaGreat.Ek
namespace Go.Proofs.YtpjehkdneiclnaaGreat.Ek
open Go Go.Wc Go.Pu Go.Ex Go.Proofs.YtpjehkdneiclnaaGreat Go.Pt
theorem Lh (hC:CO Bp):SO 42 qw:=
  fk (code:=N1) hC Tryz.func42 (by kernel_rfl) (by kernel_rfl) N2 KZ (fun _ x=>(av.v0,(x.2.1.1.1))) (by kernel_rfl)
    (fun x σ Q h=>cast (by kernel_rfl) h)
    (fun Q=>⟨(fun inner hl=>by obtain ⟨S1,rfl⟩:=dh hl; exact fun v σ hs=>cast (by kernel_rfl) hs),trivial⟩)
end Go.Proofs.YtpjehkdneiclnaaGreat.Ek
namespace Go.Proofs.YtpjehkdneiclnaaGreat.Ek
open Go Go.Wc Go.Pu Go.Ex Go.Proofs.YtpjehkdneiclnaaGreat Go.Pt
theorem Ph (hC:CO YP):SO 19 Bc:=
  fk (code:=c19) hC Tryz.func19 (by kernel_rfl) (by kernel_rfl) A19 YQ (fun _ _=>()) (by kernel_rfl)
    (fun x σ Q h=>cast (by kernel_rfl) h)
    (fun Q=>trivial)
end Go.Proofs.YtpjehkdneiclnaaGreat.Ek
namespace Go.Proofs.YtpjehkdneiclnaaGreat.Ek
open Go Go.Wc Go.Pu Go.Ex Go.Proofs.YtpjehkdneiclnaaGreat Go.Pt
theorem acY (hC:CO YR):SO 38 FQ:=
  fk (code:=c38) hC Tryz.func38 (by kernel_rfl) (by kernel_rfl) A38 YS (fun _ _=>()) (by kernel_rfl)
    (fun x σ Q h=>cast (by kernel_rfl) h)
    (fun Q=>trivial)
end Go.Proofs.YtpjehkdneiclnaaGreat.Ek
namespace Go.Proofs.YtpjehkdneiclnaaGreat.Ek
open Go Go.Wc Go.Pu Go.Ex Go.Proofs.YtpjehkdneiclnaaGreat Go.Pt
theorem Pf (hC:CO YT):SO 17 Bd:=
  fk (code:=c17) hC Tryz.func17 (by kernel_rfl) (by kernel_rfl) A17 YU (fun _ _=>()) (by kernel_rfl)
    (fun x σ Q h=>cast (by kernel_rfl) h)
    (fun Q=>trivial)
end Go.Proofs.YtpjehkdneiclnaaGreat.Ek
namespace Go.Proofs.YtpjehkdneiclnaaGreat.Ek
open Go Go.Wc Go.Pu Go.Ex Go.Proofs.YtpjehkdneiclnaaGreat Go.Pt
theorem acZ (hC:CO YV):SO 39 FT:=
  fk (code:=c39) hC Tryz.func39 (by kernel_rfl) (by kernel_rfl) A39 YW (fun _ _=>()) (by kernel_rfl)
    (fun x σ Q h=>cast (by kernel_rfl) h)
    (fun Q=>trivial)
end Go.Proofs.YtpjehkdneiclnaaGreat.Ek
namespace Go.Proofs.YtpjehkdneiclnaaGreat.Ek
open Go Go.Wc Go.Pu Go.Ex Go.Proofs.YtpjehkdneiclnaaGreat Go.Pt
theorem ac0 (hC:CO YX):SO 40 FU:=
  fk (code:=c40) hC Tryz.func40 (by kernel_rfl) (by kernel_rfl) A40 Y0 (fun _ _=>cx.v0) (by kernel_rfl)
    (fun x σ Q h=>cast (by kernel_rfl) h)
    (fun Q=>⟨(fun inner hl=>by obtain ⟨S1,rfl⟩:=dh hl; exact fun v σ hs=>cast (by kernel_rfl) hs),trivial⟩)
end Go.Proofs.YtpjehkdneiclnaaGreat.Ek
namespace Go.Proofs.YtpjehkdneiclnaaGreat.Ek
open Go Go.Wc Go.Pu Go.Ex Go.Proofs.YtpjehkdneiclnaaGreat Go.Pt
theorem Li (hC:CO Bq):SO 58 qx:=
  fk (code:=N4) hC Tryz.func58 (by kernel_rfl) (by kernel_rfl) N5 Lb (fun _ x=>(aA.v0,())) (by kernel_rfl)
    (fun x σ Q h=>cast (by kernel_rfl) h)
    (fun Q=>⟨(fun inner hl=>by obtain ⟨S1,rfl⟩:=dh hl; exact fun v σ hs=>cast (by kernel_rfl) hs),trivial⟩)
end Go.Proofs.YtpjehkdneiclnaaGreat.Ek
namespace Go.Proofs.YtpjehkdneiclnaaGreat.Ek
open Go Go.Wc Go.Pu Go.Ex Go.Proofs.YtpjehkdneiclnaaGreat Go.Pt
theorem Lg (hC:CO Br):SO 41 qy:=
  fk (code:=N6) hC Tryz.func41 (by kernel_rfl) (by kernel_rfl) N7 Lc (fun _ _=>()) (by kernel_rfl)
    (fun x σ Q h=>cast (by kernel_rfl) h)
    (fun Q=>trivial)
end Go.Proofs.YtpjehkdneiclnaaGreat.Ek
namespace Go.Proofs.YtpjehkdneiclnaaGreat.Ek
open Go Go.Wc Go.Pu Go.Ex Go.Proofs.YtpjehkdneiclnaaGreat Go.Pt
theorem Pe (hC:CO Y5):SO 16 Be:=
  fk (code:=c16) hC Tryz.func16 (by kernel_rfl) (by kernel_rfl) A16 Y8 (fun _ _=>bJ.v0) (by kernel_rfl)
    (fun x σ Q h=>cast (by kernel_rfl) h)
    (fun Q=>⟨(fun inner hl=>by obtain ⟨S1,rfl⟩:=dh hl; exact fun v σ hs=>cast (by kernel_rfl) hs),(fun inner hl=>by obtain ⟨S1,rfl⟩:=dh hl; exact fun v σ hs=>cast (by kernel_rfl) hs),(fun inner hl=>by obtain ⟨S3,rfl⟩:=dh hl; exact fun v σ hs=>cast (by kernel_rfl) hs),(fun inner hl=>by obtain ⟨S3,rfl⟩:=dh hl; exact fun v σ hs=>cast (by kernel_rfl) hs),trivial⟩)
end Go.Proofs.YtpjehkdneiclnaaGreat.Ek
namespace Go.Proofs.YtpjehkdneiclnaaGreat.Ek
open Go Go.Wc Go.Pu Go.Ex Go.Proofs.YtpjehkdneiclnaaGreat Go.Pt
theorem Pn (hC:CO Y9):SO 45 Bf:=
  fk (code:=c45) hC Tryz.func45 (by kernel_rfl) (by kernel_rfl) A45 Zc (fun _ _=>aS.v0) (by kernel_rfl)
    (fun x σ Q h=>cast (by kernel_rfl) h)
    (fun Q=>⟨(fun inner hl=>by obtain rfl:=jl hl; exact fun v σ hs=>cast (by kernel_rfl) hs),trivial⟩)
end Go.Proofs.YtpjehkdneiclnaaGreat.Ek
namespace Go.Proofs.YtpjehkdneiclnaaGreat.Ek
open Go Go.Wc Go.Pu Go.Ex Go.Proofs.YtpjehkdneiclnaaGreat Go.Pt
theorem TO (hC:CO Oa):SO 116 za:=
  fk (code:=Zd) hC Tryz.func116 (by kernel_rfl) (by kernel_rfl) Ze Sf (fun _ _=>()) (by kernel_rfl)
    (fun x σ Q h=>cast (by kernel_rfl) h)
    (fun Q=>trivial)
end Go.Proofs.YtpjehkdneiclnaaGreat.Ek
namespace Go.Proofs.YtpjehkdneiclnaaGreat.Ek
open Go Go.Wc Go.Pu Go.Ex Go.Proofs.YtpjehkdneiclnaaGreat Go.Pt
theorem GU (hC:CO Ob):SO 107 tZ:=
  fk (code:=Zf) hC Tryz.func107 (by kernel_rfl) (by kernel_rfl) Zg Si (fun _ _=>aT.v0) (by kernel_rfl)
    (fun x σ Q h=>cast (by kernel_rfl) h)
    (fun Q=>⟨(fun inner hl=>by obtain ⟨S1,rfl⟩:=dh hl; exact fun v σ hs=>cast (by kernel_rfl) hs),(fun inner hl=>by obtain ⟨S2,rfl⟩:=dh hl; exact fun v σ hs=>cast (by kernel_rfl) hs),trivial⟩)
end Go.Proofs.YtpjehkdneiclnaaGreat.Ek
namespace Go.Proofs.YtpjehkdneiclnaaGreat.Ek
open Go Go.Wc Go.Pu Go.Ex Go.Proofs.YtpjehkdneiclnaaGreat Go.Pt
theorem TQ (hC:CO Od):SO 118 zb:=
  fk (code:=Zh) hC Tryz.func118 (by kernel_rfl) (by kernel_rfl) Zi Sj (fun _ _=>()) (by kernel_rfl)
    (fun x σ Q h=>cast (by kernel_rfl) h)
    (fun Q=>trivial)
end Go.Proofs.YtpjehkdneiclnaaGreat.Ek
namespace Go.Proofs.YtpjehkdneiclnaaGreat.Ek
open Go Go.Wc Go.Pu Go.Ex Go.Proofs.YtpjehkdneiclnaaGreat Go.Pt
theorem TP (hC:CO Oe):SO 117 zc:=
  fk (code:=Zj) hC Tryz.func117 (by kernel_rfl) (by kernel_rfl) Zk Sk (fun _ _=>()) (by kernel_rfl)
    (fun x σ Q h=>cast (by kernel_rfl) h)
    (fun Q=>trivial)
end Go.Proofs.YtpjehkdneiclnaaGreat.Ek
