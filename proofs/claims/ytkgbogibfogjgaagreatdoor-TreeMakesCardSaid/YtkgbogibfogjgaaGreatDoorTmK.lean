import Derived.Test.YtkgbogibfogjgaaGreatDoorTmC
import Derived.Test.YtkgbogibfogjgaaGreatDoorTmE
import Derived.Test.YtkgbogibfogjgaaGreatDoorTmJ
set_option linter.unusedVariables false
set_option linter.unusedSimpArgs false
set_option maxHeartbeats 4000000
set_option maxRecDepth 100000
namespace Go.Pt
open Go Go.Wc Go.Pu Go.Ex
open Go.Proofs.YtkgbogibfogjgaaGreatDoor
open Go.Proofs.YtkgbogibfogjgaaGreatDoor.Ek (ρ)
variable {h:Hp} {A:List At}
namespace aP
abbrev RT:=List Int→Hp→Prop
def kt (ρ:Ids) (A:List At) (Q':QT) (Q:RT):Prop:=
 ∀ (r0:Vector Int 16) (h':Hp),Inv h' (A)→Q' r0→Q r0.toList h'
end aP
theorem qd {dL:Vector Int 32} {cZ:Vector Int 12} {aU:Int} {Q':aP.QT} {Q:aP.RT} (I:Inv h (A)) (H:aP dL cZ aU Q')
  (k:aP.kt ρ A Q' Q):Tx.aP ρ dL.toList cZ.toList aU h Q:=by
 unfold Tx.aP
 try simp only [dW]
 replace I:=CH I
 replace I:=mkN (D:=Ek.D) (X:=(bigA (A))) I
 replace I:=mkC (mkV (D:=Ek.D) (.int .u32) aU ([.int .u32 aU]) rfl (fun _ _=>rfl) I)
 replace I:=mkC (mkV (D:=Ek.D) (.vec .u8 12) cZ (lumpV .u8 12 cZ.toList) rfl (fun _ _=>rfl) I)
 replace I:=mkC (mkV (D:=Ek.D) (.vec .u8 32) dL (lumpV .u8 32 dL.toList) rfl (fun _ _=>rfl) I)
 replace I:=Inv.dx I
 replace I:=I.b9
 replace I:=I.b9
 replace I:=I.bI
 refine ⟨bigA (A),(dL,cZ,aU,()),none,(fun y z o=>Q' y.1),I,H,fun y z o HQ vs h' I=> ?_⟩
 obtain ⟨r0,⟨⟩⟩:=y
 replace I:=I.bI
 obtain ⟨Vs,Vt,e0,J⟩:=dsE I
 clear I; subst e0; have I:=J; clear J
 obtain ⟨Kk,e0,⟨_,_,Km⟩,J⟩:=unP I
 clear I; subst e0; have I:=J; clear J
 obtain rfl:Kk=lumpV .u32 16 r0.toList:=Km
 obtain ⟨e0,J⟩:=dsN I
 clear I; subst e0; have I:=J; clear J
 replace I:=I.bI
 replace I:=I.cU
 replace I:=I.b9
 replace I:=I.cU
 replace I:=Inv.bigU (F:=[]) I
 exact ⟨_,rfl,k _ _ I HQ⟩
theorem jb {w0:Vector Int 4} {Q':(Vector Int 4)→Prop} {Q:List Int→Hp→Prop} (I:Inv h (A)) (H:bX w0 Q')
  (k: ∀ (r0:Vector Int 4) (h':Hp),Inv h' (A)→Q' r0→Q r0.toList h'):Tx.bX ρ w0.toList h Q:=by
 unfold Tx.bX
 try simp only [dW]
 replace I:=CH I
 replace I:=mkN (D:=Ek.D) (X:=(bigA (A))) I
 replace I:=mkC (mkV (D:=Ek.D) (.vec .u32 4) w0 (lumpV .u32 4 w0.toList) rfl (fun _ _=>rfl) I)
 replace I:=Inv.dx I
 replace I:=I.b9
 replace I:=I.b9
 replace I:=I.bI
 refine ⟨bigA (A),(w0,()),none,(fun y z o=>Q' y.1),I,H,fun y z o HQ vs h' I=> ?_⟩
 obtain ⟨r0,⟨⟩⟩:=y
 replace I:=I.bI
 obtain ⟨Vs,Vt,e0,J⟩:=dsE I
 clear I; subst e0; have I:=J; clear J
 obtain ⟨Kk,e0,⟨_,_,Km⟩,J⟩:=unP I
 clear I; subst e0; have I:=J; clear J
 obtain rfl:Kk=lumpV .u32 4 r0.toList:=Km
 obtain ⟨e0,J⟩:=dsN I
 clear I; subst e0; have I:=J; clear J
 replace I:=I.bI
 replace I:=I.cU
 replace I:=I.b9
 replace I:=I.cU
 replace I:=Inv.bigU (F:=[]) I
 exact ⟨_,rfl,k _ _ I HQ⟩
namespace aQ
structure W where
 ya:Addr
def w0:W:=⟨⟨0,0,none⟩⟩
abbrev RT:=Hp→Prop
def kt (ρ:Ids) (fS:Addr) (A:List At) (Q':QT) (Q:RT):Prop:=
 ∀ (ON:Vector Int 16) (h':Hp),Inv h' (blk fS (ρ.T 24) [.vec .u32 16 ON]::A)→Q' ON→Q h'
def I1 (ρ:Ids) (fS:Addr) (c:V) (w:W) (A:List At) (h:Hp):Prop:=
 Inv h (blk fS (ρ.T 24) [.vec .u32 16 c.v4]::blk w.ya (ρ.T 25) [.vec .u32 4 c.q9]::A)
def I2 (ρ:Ids) (fS:Addr) (c:V) (w:W) (A:List At) (h:Hp):Prop:=
 Inv h (blk fS (ρ.T 24) [.vec .u32 16 c.v4]::A)
def I3 (ρ:Ids) (fS:Addr) (c:V) (w:W) (A:List At) (h:Hp):Prop:=
 Inv h (blk fS (ρ.T 24) [.vec .u32 16 c.v4]::blk w.ya (ρ.T 25) [.vec .u32 4 c.q9]::A)
variable {fS:Addr} {c:V} {w:W} {Q':QT} {Q:RT}
theorem FQ (I:I1 ρ fS c w A h) (H:K1 Q' c) (k:kt ρ fS A Q' Q):Tx.eI ρ Q c.a0 c.b1 c.c2 c.d3 fS w.ya h:=by
 unfold I1 at I
 unfold Tx.eI
 unfold K1 at H
 refine eS I.b9 (j:=0) (off:=0) rfl (cO H) fun aaK mS XA XB OO H=> ?_
 obtain ⟨XC,H⟩:=H
 refine kF OO ?_
 refine eS I.b9 (j:=0) (off:=0) rfl (cO H) fun aaL qy OP OQ OR H=> ?_
 obtain ⟨OS,H⟩:=H
 refine kF OR ?_
 refine eS I.b9 (j:=0) (off:=0) rfl (cO H) fun aaM sC G3 G4 OT H=> ?_
 obtain ⟨G5,H⟩:=H
 refine kF OT ?_
 refine eS I.b9 (j:=0) (off:=0) rfl (cO H) fun aaN uf DF DG OU H=> ?_
 obtain ⟨DH,H⟩:=H
 refine kF OU ?_
 refine eS I (j:=0) (off:=0) rfl (cO H) fun aaO sD OV OW XD H=> ?_
 obtain ⟨XE,H⟩:=H
 refine mQ (I) (j:=0) (off:=0) rfl OV OW fun h I=> ?_
 refine ⟨(eX I.b9 (j:=0) (off:=0) rfl DF DG DH), ?_⟩
 refine ⟨(eX I.b9 (j:=0) (off:=0) rfl G3 G4 G5), ?_⟩
 refine ⟨(eX I.b9 (j:=0) (off:=0) rfl OP OQ OS), ?_⟩
 refine eS I (j:=0) (off:=0) rfl (cO H) fun aaP Q4 OX OY XF H=> ?_
 obtain ⟨XG,H⟩:=H
 refine mQ (I) (j:=0) (off:=0) rfl OX OY fun h I=> ?_
 refine ⟨(eX I.b9 (j:=0) (off:=0) rfl DF DG DH), ?_⟩
 refine ⟨(eX I.b9 (j:=0) (off:=0) rfl G3 G4 G5), ?_⟩
 refine eS I (j:=0) (off:=0) rfl (cO H) fun aaQ Q5 OZ O0 XH H=> ?_
 obtain ⟨XI,H⟩:=H
 refine mQ (I) (j:=0) (off:=0) rfl OZ O0 fun h I=> ?_
 refine ⟨(eX I.b9 (j:=0) (off:=0) rfl DF DG DH), ?_⟩
 refine eS I (j:=0) (off:=0) rfl (cO H) fun aaR BG O1 O2 XJ H=> ?_
 obtain ⟨XK,H⟩:=H
 refine mQ (I) (j:=0) (off:=0) rfl O1 O2 fun h I=> ?_
 replace I:=I.b9.cU
 exact k ((((c.v4.setIfInBounds (Int.toNat c.a0) mS).setIfInBounds (Int.toNat c.b1) qy).setIfInBounds (Int.toNat c.c2) sC).setIfInBounds (Int.toNat c.d3) uf) _ I H
theorem O3 (I:I3 ρ fS c w A h) (H:K3 Q' c) (k:kt ρ fS A Q' Q):Tx.eJ ρ Q c.a0 c.b1 c.c2 c.d3 fS w.ya c.jI.toList h:=by
 unfold I3 at I
 unfold Tx.eJ
 unfold K3 at H
 try simp only [dW]
 refine qN I.b9 0 1 0 [.vec .u32 4 c.jI] rfl rfl rfl (by first | exact jN rfl | exact dy (by simp [segs,Seg.cells,allOne,gk,dh,Value.oneCell'])) fun h (I:Inv h (blk w.ya (ρ.T 25) [.vec .u32 4 c.jI]::_))=> ?_
 replace I:=I.b9
 exact FQ (c:= {c with q9:=c.jI}) (w:=w) I H k
theorem FU (I:I2 ρ fS c w A h) (H:K2 Q' c) (k:kt ρ fS A Q' Q):Tx.fR ρ Q c.a0 c.b1 c.c2 c.d3 fS c.jI.toList h:=by
 unfold I2 at I
 unfold Tx.fR
 unfold K2 at H
 try simp only [dW]
 refine lN [.vec .u32 4 (Vector.replicate 4 (0:Int))] rfl I fun Vu h I=> ?_
 replace I:=I.b9
 try simp only [dW]
 exact O3 (c:= {c with q9:=(Vector.replicate 4 (0:Int))}) (w:= {w with ya:=Vu}) I H k
end aQ
theorem jc {a0:Int} {b1:Int} {c2:Int} {d3:Int} {v4:Vector Int 16} {fS:Addr} {Q':aQ.QT} {Q:aQ.RT} (I:Inv h (blk fS (ρ.T 24) [.vec .u32 16 v4]::A)) (H:aQ a0 b1 c2 d3 v4 Q')
  (k:aQ.kt ρ fS A Q' Q):Tx.aQ ρ a0 b1 c2 d3 fS h Q:=by
 unfold Tx.aQ
 unfold aQ at H
 refine eS I (j:=0) (off:=0) rfl (cO H) fun q_2 A7 Vv Vw Vx H=> ?_
 obtain ⟨Vy,H⟩:=H
 refine kF Vx ?_
 refine eS I (j:=0) (off:=0) rfl (cO H) fun q_8 wV O4 O5 O6 H=> ?_
 obtain ⟨O7,H⟩:=H
 refine kF O6 ?_
 refine eS I (j:=0) (off:=0) rfl (cO H) fun aaS nT O8 O9 Pa H=> ?_
 obtain ⟨Pb,H⟩:=H
 refine kF Pa ?_
 refine eS I (j:=0) (off:=0) rfl (cO H) fun aaT gE Pc Pe Pf H=> ?_
 obtain ⟨Pg,H⟩:=H
 refine kF Pf ?_
 refine HT H (fun H=> ?_) (fun H=> ?_)
 ·try simp only [dW]
  refine jb (w0:= #v[A7,wV,nT,gE]) I H fun Ic h I H=> ?_
  try simp only [dW]
  exact aQ.FU (c:= {aQ.v0 with v4:=v4,a0:=a0,b1:=b1,c2:=c2,d3:=d3,jI:=Ic}) (w:=aQ.w0) I H k
 ·refine lN [.vec .u32 4 (Vector.replicate 4 (0:Int))] rfl I fun Vz h I=> ?_
  refine ⟨(eX I.b9 (j:=0) (off:=0) rfl Pc Pe Pg), ?_⟩
  refine ⟨(eX I.b9 (j:=0) (off:=0) rfl O8 O9 Pb), ?_⟩
  refine ⟨(eX I.b9 (j:=0) (off:=0) rfl O4 O5 O7), ?_⟩
  refine ⟨(eX I.b9 (j:=0) (off:=0) rfl Vv Vw Vy), ?_⟩
  try simp only [dW]
  refine jb (w0:= #v[A7,wV,nT,gE]) I H fun qz h I H=> ?_
  replace I:=I.b9
  try simp only [dW]
  exact aQ.O3 (c:= {aQ.v0 with v4:=v4,a0:=a0,b1:=b1,c2:=c2,d3:=d3,q9:=(Vector.replicate 4 (0:Int)),jI:=qz}) (w:= {aQ.w0 with ya:=Vz}) I H k
namespace aE
structure W where
 qB:Addr
 fT:Addr
 nV:Addr
 DI:Addr
def w0:W:=⟨⟨0,0,none⟩,⟨0,0,none⟩,⟨0,0,none⟩,⟨0,0,none⟩⟩
abbrev RT:=List Int→Hp→Prop
def kt (ρ:Ids) (A:List At) (Q':QT) (Q:RT):Prop:=
 ∀ (r0:Vector Int 64) (h':Hp),Inv h' (A)→Q' r0→Q r0.toList h'
def I1 (ρ:Ids) (c:V) (w:W) (A:List At) (h:Hp):Prop:=
 Inv h (blk w.qB (ρ.T 23) [.vec .u8 64 c.v6]::blk w.fT (ρ.T 24) [.vec .u32 16 c.aH]::blk w.nV (ρ.T 24) [.vec .u32 16 c.w8]::A)
abbrev Y1:=Addr→Addr→Addr→Addr→Int→Hp→Prop
abbrev T1 (S:Y1) (c:V) (w:W) (h:Hp):Prop:=S w.qB w.fT w.nV w.nV c.v20 h
def Ph (ρ:Ids) (A:List At) (S':V→Prop) (S:Y1):Prop:= ∀ (c:V) (w:W) (h:Hp),I1 ρ c w A h→S' c→T1 S c w h
def I2 (ρ:Ids) (c:V) (w:W) (A:List At) (h:Hp):Prop:=
 Inv h (blk w.qB (ρ.T 23) [.vec .u8 64 c.v6]::blk w.fT (ρ.T 24) [.vec .u32 16 c.aH]::blk w.nV (ρ.T 24) [.vec .u32 16 c.w8]::A)
abbrev Y2:=Addr→Addr→Addr→Addr→Int→Int→Hp→Prop
abbrev T2 (S:Y2) (c:V) (w:W) (h:Hp):Prop:=S w.qB w.fT w.nV w.nV c.v20 c.fU h
def k2t (ρ:Ids) (A:List At) (S':V→Prop) (S:Y2):Prop:= ∀ (c:V) (w:W) (h:Hp),I2 ρ c w A h→S' c→T2 S c w h
def I3 (ρ:Ids) (c:V) (w:W) (A:List At) (h:Hp):Prop:=
 Inv h (blk w.qB (ρ.T 23) [.vec .u8 64 c.v6]::blk w.fT (ρ.T 24) [.vec .u32 16 c.aH]::blk w.nV (ρ.T 24) [.vec .u32 16 c.w8]::A)
abbrev Y3:=Addr→Addr→Addr→Addr→Int→Int→Hp→Prop
abbrev T3 (S:Y3) (c:V) (w:W) (h:Hp):Prop:=S w.qB w.fT w.nV w.nV c.v20 c.fC h
def k3t (ρ:Ids) (A:List At) (S':V→Prop) (S:Y3):Prop:= ∀ (c:V) (w:W) (h:Hp),I3 ρ c w A h→S' c→T3 S c w h
def I4 (ρ:Ids) (c:V) (w:W) (A:List At) (h:Hp):Prop:=
 Inv h (blk w.qB (ρ.T 23) [.vec .u8 64 c.v6]::blk w.fT (ρ.T 24) [.vec .u32 16 c.aH]::blk w.nV (ρ.T 24) [.vec .u32 16 c.w8]::blk w.DI (ρ.T 23) [.vec .u8 64 c.iA]::A)
abbrev Y4:=Addr→Addr→Addr→Addr→Int→Hp→Prop
abbrev T4 (S:Y4) (c:V) (w:W) (h:Hp):Prop:=S w.qB w.fT w.nV w.DI c.jo h
def k4t (ρ:Ids) (A:List At) (S':V→Prop) (S:Y4):Prop:= ∀ (c:V) (w:W) (h:Hp),I4 ρ c w A h→S' c→T4 S c w h
variable {c:V} {w:W} {Q':QT} {Q:RT} {S1' S2' S3' S4':V→Prop} {S1:Y1} {S2:Y2} {S3:Y3} {S4:Y4}
theorem VA (I:I3 ρ c w A h) (H:B3 S1' S3' Q' c) (FV:Ph ρ A S1' S1) (kS3:k3t ρ A S3' S3) (k:kt ρ A Q' Q):T3 (Tx.dZ ρ S1 S3 Q) c w h:=by
 unfold I3 at I
 unfold T3 Tx.dZ
 unfold B3 at H
 refine z4 H (fun hb H=> ?_) (fun hb H=> ?_)
 ·refine ⟨by decide, ?_⟩
  refine ⟨by decide, ?_⟩
  refine ⟨by decide, ?_⟩
  replace I:=I.bI
  refine jc (a0:=c.fC) (b1:=(IntKind.wrap .i64 ((4:Int)+(Int.tmod (IntKind.wrap .i64 (c.fC+(1:Int))) (4:Int))))) (c2:=(IntKind.wrap .i64 ((8:Int)+(Int.tmod (IntKind.wrap .i64 (c.fC+(2:Int))) (4:Int))))) (d3:=(IntKind.wrap .i64 ((12:Int)+(Int.tmod (IntKind.wrap .i64 (c.fC+(3:Int))) (4:Int))))) (v4:=c.w8) I H fun wY h I H=> ?_
  refine ⟨_,rfl, ?_⟩
  replace I:=I.bI.bI
  exact kS3 {c with w8:=wY,fC:=(IntKind.wrap .i64 (c.fC+(1:Int)))} w _ I H
 ·replace I:=I.bI.bI.bI
  exact FV {c with v20:=(IntKind.wrap .i64 (c.v20+(1:Int)))} w _ I H
theorem VB (I:I3 ρ c w A h) (H:L3 S1' Q' c) (FV:Ph ρ A S1' S1) (k:kt ρ A Q' Q):T3 (Tx.ee ρ S1 Q) c w h:=by
 refine Lf.ind H (fun v=> ∀ (w:W) (h:Hp),I3 ρ v w A h→T3 (Tx.ee ρ S1 Q) v w h) ?_ w h I
 rintro c S hS HB w h I
 refine Tx.lq _ _ _ _ _ _ _ _ _ _ ?_
 try simp only [dW]
 exact VA (c:=c) (w:=w) I HB FV (fun c w h I H=>hS _ H w h I) k
theorem VC (I:I2 ρ c w A h) (H:B2 S1' S2' Q' c) (FV:Ph ρ A S1' S1) (kS2:k2t ρ A S2' S2) (k:kt ρ A Q' Q):T2 (Tx.ef ρ S1 S2 Q) c w h:=by
 unfold I2 at I
 unfold T2 Tx.ef
 unfold B2 at H
 refine z4 H (fun hb H=> ?_) (fun hb H=> ?_)
 ·replace I:=I.bI
  refine jc (a0:=c.fU) (b1:=(IntKind.wrap .i64 ((4:Int)+c.fU))) (c2:=(IntKind.wrap .i64 ((8:Int)+c.fU))) (d3:=(IntKind.wrap .i64 ((12:Int)+c.fU))) (v4:=c.w8) I H fun Ie h I H=> ?_
  refine ⟨_,rfl, ?_⟩
  replace I:=I.bI.bI
  exact kS2 {c with w8:=Ie,fU:=(IntKind.wrap .i64 (c.fU+(1:Int)))} w _ I H
 ·replace I:=I.bI.bI.bI
  exact VB (c:= {c with fC:=(0:Int)}) (w:=w) I H FV k
theorem VD (I:I2 ρ c w A h) (H:L2 S1' Q' c) (FV:Ph ρ A S1' S1) (k:kt ρ A Q' Q):T2 (Tx.ej ρ S1 Q) c w h:=by
 refine Lf.ind H (fun v=> ∀ (w:W) (h:Hp),I2 ρ v w A h→T2 (Tx.ej ρ S1 Q) v w h) ?_ w h I
 rintro c S hS HB w h I
 refine Tx.lu _ _ _ _ _ _ _ _ _ _ ?_
 try simp only [dW]
 exact VC (c:=c) (w:=w) I HB FV (fun c w h I H=>hS _ H w h I) k
theorem VE (I:I4 ρ c w A h) (H:B4 S4' Q' c) (kS4:k4t ρ A S4' S4) (k:kt ρ A Q' Q):T4 (Tx.eo ρ S4 Q) c w h:=by
 unfold I4 at I
 unfold T4 Tx.eo
 unfold B4 at H
 refine z4 H (fun hb H=> ?_) (fun hb H=> ?_)
 ·refine ⟨by decide, ?_⟩
  refine eS I.bI (j:=0) (off:=0) rfl (cO H) fun aa0 wZ XL XM Pj H=> ?_
  obtain ⟨XN,H⟩:=H
  refine kF Pj ?_
  refine ⟨by decide, ?_⟩
  refine eS I.b9 (j:=0) (off:=0) rfl (cO H) fun aa1 Ig XO XP Pk H=> ?_
  obtain ⟨XQ,H⟩:=H
  refine kF Pk ?_
  refine ⟨by decide, ?_⟩
  refine Lt H fun H=> ?_
  refine eS I.gT (j:=0) (off:=0) rfl (cO H) fun aa2 LO Pm Pn XR H=> ?_
  obtain ⟨XS,H⟩:=H
  refine mQ (I.gT) (j:=0) (off:=0) rfl Pm Pn fun h I=> ?_
  replace I:=I.gT.gT.gT
  exact kS4 {c with iA:=(c.iA.setIfInBounds (Int.toNat c.jo) (IntKind.wrap .u8 (Int.fdiv (IntKind.wrap .u32 (wZ+Ig)) (2 ^ (min (Int.toNat (IntKind.wrap .i64 ((8:Int)*(Int.tmod c.jo (4:Int))))) (IntKind.bits .u32)))))),jo:=(IntKind.wrap .i64 (c.jo+(1:Int)))} w _ I H
 ·refine qM (I.gT.lump 0 0 rfl) ?_
  try simp only [dW]
  refine qN I 0 1 0 [.vec .u8 64 c.iA] rfl rfl rfl (by first | exact jN rfl | exact dy (by simp [segs,Seg.cells,allOne,gk,dh,Value.oneCell'])) fun h (I:Inv h (blk w.qB (ρ.T 23) [.vec .u8 64 c.iA]::_))=> ?_
  refine qM (I.lump 0 0 rfl) ?_
  try simp only [dW]
  replace I:=I.cU
  replace I:=I.cU
  replace I:=I.cU
  replace I:=I.cU
  exact k c.iA _ I H
theorem VF (I:I4 ρ c w A h) (H:L4 Q' c) (k:kt ρ A Q' Q):T4 (Tx.er ρ Q) c w h:=by
 refine Lf.ind H (fun v=> ∀ (w:W) (h:Hp),I4 ρ v w A h→T4 (Tx.er ρ Q) v w h) ?_ w h I
 rintro c S hS HB w h I
 refine Tx.lA _ _ _ _ _ _ _ _ ?_
 try simp only [dW]
 exact VE (c:=c) (w:=w) I HB (fun c w h I H=>hS _ H w h I) k
theorem VG (I:I1 ρ c w A h) (H:B1 S1' Q' c) (FV:Ph ρ A S1' S1) (k:kt ρ A Q' Q):T1 (Tx.eu ρ S1 Q) c w h:=by
 unfold I1 at I
 unfold T1 Tx.eu
 unfold B1 at H
 refine z4 H (fun hb H=> ?_) (fun hb H=> ?_)
 ·replace I:=I.bI.bI.bI
  exact VD (c:= {c with fU:=(0:Int)}) (w:=w) I H FV k
 ·refine lN [.vec .u8 64 (Vector.replicate 64 (0:Int))] rfl I fun x8 h I=> ?_
  replace I:=I.gT.gT.gT
  exact VF (c:= {c with iA:=(Vector.replicate 64 (0:Int)),jo:=(0:Int)}) (w:= {w with DI:=x8}) I H k
theorem VH (I:I1 ρ c w A h) (H:L1 Q' c) (k:kt ρ A Q' Q):T1 (Tx.eA ρ Q) c w h:=by
 refine Lf.ind H (fun v=> ∀ (w:W) (h:Hp),I1 ρ v w A h→T1 (Tx.eA ρ Q) v w h) ?_ w h I
 rintro c S hS HB w h I
 refine Tx.lB _ _ _ _ _ _ _ _ ?_
 try simp only [dW]
 exact VG (c:=c) (w:=w) I HB (fun c w h I H=>hS _ H w h I) k
end aE
theorem jZ {dL:Vector Int 32} {cZ:Vector Int 12} {aU:Int} {Q':aE.QT} {Q:aE.RT} (I:Inv h (A)) (H:aE dL cZ aU Q')
  (k:aE.kt ρ A Q' Q):Tx.aE ρ dL.toList cZ.toList aU h Q:=by
 unfold Tx.aE
 unfold aE at H
 try simp only [dW]
 refine lN [.vec .u8 32 dL] rfl I fun Er h I=> ?_
 refine lN [.vec .u8 12 cZ] rfl I fun Es h I=> ?_
 refine lN [.vec .u8 64 (Vector.replicate 64 (0:Int))] rfl I fun Aj h I=> ?_
 refine qM (I.bI.lump 0 0 rfl) ?_
 try simp only [dW]
 refine qM (I.b9.lump 0 0 rfl) ?_
 try simp only [dW]
 try simp only [dW]
 refine qd (dL:=dL) (cZ:=cZ) (aU:=aU) I H fun kK h I H=> ?_
 refine lN [.vec .u32 16 (Vector.replicate 16 (0:Int))] rfl I fun XT h I=> ?_
 refine qN I 0 1 0 [.vec .u32 16 kK] rfl rfl rfl (by first | exact jN rfl | exact dy (by simp [segs,Seg.cells,allOne,gk,dh,Value.oneCell'])) fun h (I:Inv h (blk XT (ρ.T 24) [.vec .u32 16 kK]::_))=> ?_
 refine qM (I.lump 0 0 rfl) ?_
 try simp only [dW]
 refine lN [.vec .u32 16 (Vector.replicate 16 (0:Int))] rfl I fun Po h I=> ?_
 refine qN I 0 1 0 [.vec .u32 16 kK] rfl rfl rfl (by first | exact jN rfl | exact dy (by simp [segs,Seg.cells,allOne,gk,dh,Value.oneCell'])) fun h (I:Inv h (blk Po (ρ.T 24) [.vec .u32 16 kK]::_))=> ?_
 replace I:=I.gT.cU
 replace I:=I.gT.cU
 replace I:=I.b9.bI
 exact aE.VH (c:= {aE.v0 with v6:=(Vector.replicate 64 (0:Int)),aH:=kK,w8:=kK,v20:=(0:Int)}) (w:= {aE.w0 with qB:=Aj,fT:=XT,nV:=Po}) I H k
theorem kO {ρ:Ids} {h:Hp} {A:List At} {s0:List Int} {a:Option Addr} {nl c:Nat} {X:At} {Q':List Int→Prop} {Q:Sl→Hp→Prop} (hX:Rd (rI .u8) X a nl c s0) (I:Inv h (X::A)) (H:cQ s0 Q')
  (k: ∀ (r:List Int) (ra:Option Addr) (rc:Nat) (h':Hp),Inv h' (ownS (rI .u8) ra r.length rc r::X::A)→Q' r→Q ⟨ra,r.length,rc⟩ h'):Tx.cQ ρ ⟨a,nl,c⟩ h Q:=by
 unfold Tx.cQ
 exact EL hX I (by decide) rfl (by decide) (by decide) H k
namespace bR
abbrev RT:=List Int→Hp→Prop
def kt (ρ:Ids) (gD:At) (A:List At) (Q':QT) (Q:RT):Prop:=
 ∀ (r0:Vector Int 32) (h':Hp),Inv h' (gD::A)→Q' r0→Q r0.toList h'
end bR
theorem rF {fj:List (List Int)} {vM:Option Addr} {vN:Nat} {vO:Nat} {gD:At} {Q':bR.QT} {Q:bR.RT} (rG:Rd (rS (rI .u8)) gD vM vO vN fj) (I:Inv h (gD::A)) (H:bR fj Q')
  (k:bR.kt ρ gD A Q' Q):Tx.bR ρ ⟨vM,vO,vN⟩ h Q:=by
 obtain rfl:=eK rG I
 unfold Tx.bR
 try simp only [dW]
 replace I:=CH I
 replace I:=mkN (D:=Ek.D) (X:=(bigA (gD::A))) I
 replace I:=mkC (mkR (D:=Ek.D) (.list (.int .u8)) rG (by simp) I)
 replace I:=Inv.dx I
 replace I:=I.b9
 replace I:=I.b9
 replace I:=I.bI
 refine ⟨bigA (gD::A),(fj,()),none,(fun y z o=>Q' y.1),I,H,fun y z o HQ vs h' I=> ?_⟩
 obtain ⟨r0,⟨⟩⟩:=y
 replace I:=I.bI
 obtain ⟨Vs,Vt,e0,J⟩:=dsE I
 clear I; subst e0; have I:=J; clear J
 obtain ⟨Kk,e0,⟨_,_,Km⟩,J⟩:=unP I
 clear I; subst e0; have I:=J; clear J
 obtain rfl:Kk=lumpV .u8 32 r0.toList:=Km
 obtain ⟨e0,J⟩:=dsN I
 clear I; subst e0; have I:=J; clear J
 replace I:=I.bI
 replace I:=I.cU
 replace I:=I.b9
 replace I:=I.cU
 replace I:=Inv.bigU (F:=[]) I
 exact ⟨_,rfl,k _ _ I HQ⟩
namespace aS
structure W where
 ff:Option Addr
 fh:Nat
 fS:Addr
def w0:W:=⟨none,0,⟨0,0,none⟩⟩
abbrev RT:=List Int→Hp→Prop
def kt (ρ:Ids) (A:List At) (Q':QT) (Q:RT):Prop:=
 ∀ (r0:Vector Int 32) (h':Hp) (σ':St Obj),Inv h' (hpA (obA ρ) σ'::A)→Q' r0 σ'→Q r0.toList h'
def I1 (ρ:Ids) (c:V) (w:W) (σ:St Obj) (A:List At) (h:Hp):Prop:=
 Inv h (roS (rI .u8) w.ff c.cx.length w.fh c.cx::blk w.fS (ρ.T 19) [.vec .u8 32 c.v4]::hpA (obA ρ) σ::A)
def I2 (ρ:Ids) (c:V) (w:W) (σ:St Obj) (A:List At) (h:Hp):Prop:=
 Inv h (roS (rI .u8) w.ff c.cx.length w.fh c.cx::blk w.fS (ρ.T 19) [.vec .u8 32 c.v4]::hpA (obA ρ) σ::A)
variable {c:V} {w:W} {σ:St Obj} {Q':QT} {Q:RT}
theorem FU (I:I2 ρ c w σ A h) (H:K2 Q' c σ) (k:kt ρ A Q' Q):Tx.cW ρ Q ⟨w.ff,c.cx.length,w.fh⟩ w.fS h:=by
 unfold I2 at I
 unfold Tx.cW
 unfold K2 at H
 refine lN [.one (.slice w.ff c.cx.length w.fh)] rfl I fun aa3 h I=> ?_
 replace I:=I.litN (rS (rI .u8))
 replace I:=I.bI.dupR
 replace I:=I.repSl
 replace I:=I.bI.b9
 replace I:=I.litC
 replace I:=I.bI.b9
 replace I:=Inv.litL (l:=[c.cx]) I rfl rfl
 refine rF (fj:=[c.cx]) sy I H fun BH h I H=> ?_
 refine qN I.bI 0 1 0 [.vec .u8 32 BH] rfl rfl rfl (by first | exact jN rfl | exact dy (by simp [segs,Seg.cells,allOne,gk,dh,Value.oneCell'])) fun h (I:Inv h (blk w.fS (ρ.T 19) [.vec .u8 32 BH]::_))=> ?_
 refine qM (I.lump 0 0 rfl) ?_
 try simp only [dW]
 replace I:=I.cU
 replace I:=I.cU
 replace I:=I.cU
 exact k BH _ σ I H
theorem FQ (I:I1 ρ c w σ A h) (H:K1 Q' c σ) (k:kt ρ A Q' Q):Tx.cX ρ Q c.b0 ⟨w.ff,c.cx.length,w.fh⟩ w.fS c.uh h:=by
 unfold I1 at I
 unfold Tx.cX
 unfold K1 at H
 refine z4 H (fun hb H=> ?_) (fun hb H=> ?_)
 ·refine Gw H fun w9 Pp H=> ?_
  obtain ⟨mR,Pq,H⟩:=H
  obtain ⟨XU,XV,I⟩:=lP (I.bI.take Pq)
  refine Gx (I.cell 0 0 rfl) ?_
  replace I:=I.gT
  refine kO (s0:=c.cx) yG I H fun xb VI VJ h I H=> ?_
  refine ⟨I.bI.cell 0 0 rfl, ?_⟩
  refine lN [.one (.slice VI xb.length VJ)] rfl I fun OL h I=> ?_
  replace I:=I.litN (rS (rI .u8))
  replace I:=I.bI.freeze
  replace I:=I.dupR
  replace I:=I.repSl
  replace I:=I.bI.b9
  replace I:=I.litC
  replace I:=I.bI.b9
  replace I:=Inv.litL (l:=[xb]) I rfl rfl
  refine ⟨I.gT.cell 0 0 rfl, ?_⟩
  refine HF sy I.Gv rfl (by decide) (by decide) H.1 fun VK VM h I=> ?_
  replace H:=H.2
  replace I:=I.b9.cU
  refine Lu Pp ?_
  refine QV I.gT 0 0 rfl fun h (I:Inv h (blk w9 (ρ.T 43) [.one (.slice VK (mR.texts++[xb]).length VM)]::_))=> ?_
  replace I:=I.Gv.bI.bI
  replace I:=(lR (⟨(mR.texts++[xb])⟩:cA) I).putB
  replace I:=I.bI.dupR
  replace I:=I.b9.cU
  replace I:=I.bI.cU
  replace I:=I.b9.bI.bI
  exact FU (c:=c) (w:=w) I H k
 ·replace I:=I.dupR
  replace I:=I.b9.cU
  replace I:=I.bI.bI.bI
  exact FU (c:=c) (w:=w) I H k
end aS
theorem lC {b0:Option Addr} {cx:List Int} {ff:Option Addr} {fh:Nat} {zG:Nat} {σ:St Obj} {Q':aS.QT} {Q:aS.RT} (I:Inv h (roS (rI .u8) ff zG fh cx::hpA (obA ρ) σ::A)) (H:aS b0 cx σ Q')
  (k:aS.kt ρ A Q' Q):Tx.aS ρ b0 ⟨ff,zG,fh⟩ h Q:=by
 obtain rfl:=wO I
 unfold Tx.aS
 unfold aS at H
 refine lN [.vec .u8 32 (Vector.replicate 32 (0:Int))] rfl I fun Es h I=> ?_
 refine z4 H (fun hb H=> ?_) (fun hb H=> ?_)
 ·refine Gw H fun Aj aa4 H=> ?_
  obtain ⟨EU,Pr,H⟩:=H
  obtain ⟨aa5,XW,I⟩:=lP (I.bI.take Pr)
  refine Gx (I.cell 0 0 rfl) ?_
  apply withB (decide ((EU.texts.length:Int)<(100000:Int)))
  intro BI G6
  try dsimp only
  rw [← G6]
  replace H:=H BI G6
  replace I:=I.bI.bI.bI
  replace I:=(lR EU I).putS Pr
  replace I:=I.bI.dupR
  replace I:=I.b9.cU
  replace I:=I.b9.bI.bI
  exact aS.FQ (c:= {aS.v0 with b0:=b0,cx:=cx,v4:=(Vector.replicate 32 (0:Int)),uh:=BI}) (w:= {aS.w0 with ff:=ff,fh:=fh,fS:=Es}) I H k
 ·replace I:=I.b9.dupR
  replace I:=I.b9.cU
  replace I:=I.bI.bI.bI
  exact aS.FQ (c:= {aS.v0 with b0:=b0,cx:=cx,v4:=(Vector.replicate 32 (0:Int)),uh:=false}) (w:= {aS.w0 with ff:=ff,fh:=fh,fS:=Es}) I H k
namespace af
abbrev RT:=Bool→Hp→Prop
def kt (ρ:Ids) (A:List At) (Q':QT) (Q:RT):Prop:=
 ∀ (r0:Bool) (h':Hp) (σ':St Obj),Inv h' (hpA (obA ρ) σ'::A)→Q' r0 σ'→Q r0 h'
end af
theorem iI {dL:Vector Int 32} {bu:Int} {l2:List (List Int)} {Pv:Option Addr} {Pw:Nat} {Px:Nat} {σ:St Obj} {Q':af.QT} {Q:af.RT} (I:Inv h (roS (rS (rI .u8)) Pv Px Pw l2::hpA (obA ρ) σ::A)) (H:af dL bu l2 σ Q')
  (k:af.kt ρ A Q' Q):Tx.af ρ dL.toList bu ⟨Pv,Px,Pw⟩ h Q:=by
 obtain rfl:=wO I
 unfold Tx.af
 try simp only [dW]
 replace I:=Np I
 replace I:=mkN (D:=Ek.D) (X:=(bigA (A))) I
 replace I:=I.b9
 replace I:=mkC (mkL (D:=Ek.D) (.list (.int .u8)) I)
 replace I:=mkC (mkV (D:=Ek.D) (.int .u32) bu ([.int .u32 bu]) rfl (fun _ _=>rfl) I)
 replace I:=mkC (mkV (D:=Ek.D) (.vec .u8 32) dL (lumpV .u8 32 dL.toList) rfl (fun _ _=>rfl) I)
 replace I:=I.b9
 replace I:=I.bI
 refine ⟨bigA (A),(dL,bu,l2,()),(some σ),(fun y z o=>match o with | some σ'=>Q' y.1 σ' | none=>False),I,H,fun y z o HQ vs h' I=> ?_⟩
 obtain ⟨r0,⟨⟩⟩:=y
 obtain _ | σ':=o
 ·exact HQ.elim
 replace I:=I.bI
 obtain ⟨Vs,Vt,e0,J⟩:=dsE I
 clear I; subst e0; have I:=J; clear J
 obtain ⟨Kk,e0,⟨_,_,Km⟩,J⟩:=unP I
 clear I; subst e0; have I:=J; clear J
 obtain rfl:Kk=[.bool r0]:=Km
 obtain ⟨e0,J⟩:=dsN I
 clear I; subst e0; have I:=J; clear J
 replace I:=I.bI
 replace I:=I.cU
 replace I:=I.b9
 replace I:=Inv.bigU (F:=[_]) I
 exact ⟨_,rfl,k _ _ _ I HQ⟩
end Go.Pt
namespace Go.Pt
open Go Go.Wc Go.Pu Go.Laws
open Go.Proofs.YtkgbogibfogjgaaGreatDoor.Ek (ρ)
theorem hU {h:Hp} {x0:Vector Int 32} {x1:Int} {x2:List (List Int)} {a2:Option Addr} {c2:Nat} (h2:SlE (rS (rI .u8)) h [] a2 c2 x2) (HP:af x0 x1 x2 Kj (fun b _=>b=true)):
  Tx.cn ρ [.agg (lumpV .u8 32 x0.toList).toArray, .int .u32 x1, .slice a2 x2.length c2] h (fun v h'=>v= .bool true∧Keep [] h h'):=by
 unfold Tx.cn
 dsimp only [List.cons_append,List.nil_append,List.toList_toArray,tI,tA,tN,tS,tB,tT,tP,tM,tV,tG,cnd,sameKind]
 try simp only [List.append_assoc,List.cons_append,List.nil_append]
 refine qc ?_
 try dsimp only [List.cons_append,List.nil_append,tI,tA,tN,tS,tB,tT,tP,tM,tV,tG,cnd,sameKind]
 have I:Inv h (roS (rS (rI .u8)) a2 x2.length c2 x2::hpA (obA ρ) Kj::[leA h []]):=FP (A:=[roS (rS (rI .u8)) a2 x2.length c2 x2,hpA (obA ρ) Kj]) (by
  intro a ha
  simp only [List.mem_cons,List.not_mem_nil,or_false] at ha
  rcases ha with rfl | rfl
  ·exact ro0 h2
  ·exact hp0)
 refine iI I HP fun r h' σ I H=> ?_
 exact ⟨by rw [show r=true from H],EI (I.cU)⟩
end Go.Pt
namespace Go.Proofs.YtkgbogibfogjgaaGreatDoor.Ek
open Go Go.Wc Go.Pu Go.Ex Go.Laws Go.Proofs.YtkgbogibfogjgaaGreatDoor Go.Pt
theorem PY (H:SpecOk Tryz.prog 109 (specOf qa)):SpecOk Tryz.prog 109 (Tx.fQ ρ):=by
 refine ⟨H.1,fun args K w H0=> ?_⟩
 unfold Tx.fQ at H0
 obtain ⟨Wr,Ws,rfl,H1⟩:=kj H0
 obtain ⟨fO,qq,rfl,H2⟩:=kg H1
 obtain ⟨rfl,H3⟩:=cB H2
 obtain ⟨cc1,rr1,rfl,H4⟩:=kj H3
 obtain ⟨fP,qq,rfl,H5⟩:=kg H4
 obtain ⟨rfl,H6⟩:=cB H5
 obtain ⟨aU,rr,rfl,H7⟩:=dA H6
 obtain ⟨rfl,H8⟩:=cB H7
 unfold Tx.aP at H8
 try simp only [kz,List.append_nil] at H8 ⊢
 refine (H.2 _ _ w H8).mono ?_
 rintro e w' ⟨v,rfl,hs,r0,rfl,hk⟩
 exact ⟨_,rfl,hs,hk⟩
theorem PZ (H:SpecOk Tryz.prog 111 (specOf nQ)):SpecOk Tryz.prog 111 (Tx.eN ρ):=by
 refine ⟨H.1,fun args K w H0=> ?_⟩
 unfold Tx.eN at H0
 obtain ⟨Wr,Ws,rfl,H1⟩:=kj H0
 obtain ⟨FO,qq,rfl,H2⟩:=kg H1
 obtain ⟨rfl,H3⟩:=cB H2
 obtain ⟨rfl,H4⟩:=cB H3
 unfold Tx.bX at H4
 try simp only [kz,List.append_nil] at H4 ⊢
 refine (H.2 _ _ w H4).mono ?_
 rintro e w' ⟨v,rfl,hs,r0,rfl,hk⟩
 exact ⟨_,rfl,hs,hk⟩
theorem Wt (H:SpecOk Tryz.prog 84 (specOf vr)):SpecOk Tryz.prog 84 (Tx.gh ρ):=by
 refine ⟨H.1,fun args K w H0=> ?_⟩
 unfold Tx.gh at H0
 obtain ⟨fj,rr,rfl,H1⟩:=ki H0
 obtain ⟨rfl,H2⟩:=cB H1
 unfold Tx.bR at H2
 try simp only [kz,List.append_nil] at H2 ⊢
 refine (H.2 _ _ w H2).mono ?_
 rintro e w' ⟨v,rfl,hs,r0,rfl,hk⟩
 exact ⟨_,rfl,hs,hk⟩
theorem tx3 (H:SpecOk Tryz.prog 3 (specOf OK)):SpecOk Tryz.prog 3 (Tx.cn ρ):=by
 refine ⟨H.1,fun args K w H0=> ?_⟩
 unfold Tx.cn at H0
 obtain ⟨Wr,Ws,rfl,H1⟩:=kj H0
 obtain ⟨fO,qq,rfl,H2⟩:=kg H1
 obtain ⟨rfl,H3⟩:=cB H2
 obtain ⟨bu,rr,rfl,H4⟩:=dA H3
 obtain ⟨l2,rr,rfl,H5⟩:=ki H4
 obtain ⟨rfl,H6⟩:=cB H5
 unfold Tx.af at H6
 try simp only [kz,List.append_nil] at H6 ⊢
 refine (H.2 _ _ w H6).mono ?_
 rintro e w' ⟨v,rfl,hs,r0,rfl,hk⟩
 exact ⟨_,rfl,hs,hk⟩
theorem Wu:SpecOk Tryz.prog 96 (Tx.cE ρ)→SpecOk Tryz.prog 96 (specOf FG):=by
 refine fun H=>gS H fun args h K ⟨XX,x,o,Q,I,HP,hQ⟩=> ?_
 obtain ⟨x0,x1,x2,⟨⟩⟩:=x
 replace I:=I.bI
 obtain ⟨XY,XZ,e0,J⟩:=dsE I
 clear I; subst e0; have I:=J; clear J
 obtain ⟨Wv,e0,⟨_,_,Ww⟩,J⟩:=unP I
 clear I; subst e0; have I:=J; clear J
 obtain rfl:Wv=lumpV .u8 32 x0.toList:=Ww
 obtain ⟨wv1,ww1,e0,J⟩:=dsE I
 clear I; subst e0; have I:=J; clear J
 obtain ⟨w1u,e0,⟨_,_,w1e⟩,J⟩:=unP I
 clear I; subst e0; have I:=J; clear J
 obtain rfl:w1u=lumpV .u8 12 x1.toList:=w1e
 obtain ⟨wv2,ww2,e0,J⟩:=dsE I
 clear I; subst e0; have I:=J; clear J
 obtain ⟨w2u,e0,⟨_,_,w2e⟩,J⟩:=unP I
 clear I; subst e0; have I:=J; clear J
 obtain rfl:w2u=[.int .u32 x2]:=w2e
 obtain ⟨e0,J⟩:=dsN I
 clear I; subst e0; have I:=J; clear J
 unfold Tx.cE
 try dsimp only [List.cons_append,List.nil_append,List.toList_toArray,vOf,aggT,List.headD_cons,tI,tA,tN,tS,tB,tT,tP,tM,tV,tG,cnd,sameKind]
 try simp only [List.append_assoc,List.cons_append,List.nil_append]
 refine qc ?_
 try dsimp only [List.cons_append,List.nil_append,tI,tA,tN,tS,tB,tT,tP,tM,tV,tG,cnd,sameKind]
 try simp only [List.append_assoc,List.cons_append,List.nil_append]
 refine qc ?_
 try dsimp only [List.cons_append,List.nil_append,tI,tA,tN,tS,tB,tT,tP,tM,tV,tG,cnd,sameKind]
 replace HP:aE x0 x1 x2 (fun r0=>Q (r0,()) () o):=HP
 refine jZ I HP fun r0 h' I HQ=> ?_
 replace I:=mkN (D:=Ek.D) (X:=XX) I
 replace I:=mkC (mkV (D:=Ek.D) (.vec .u8 64) r0 (lumpV .u8 64 r0.toList) rfl (fun _ _=>rfl) I)
 replace I:=I.bI
 replace I:=I.bI
 replace I:=Inv.addE I
 exact hQ (r0,()) () _ HQ [_] h' I
theorem Wx:SpecOk Tryz.prog 45 (Tx.eD ρ)→SpecOk Tryz.prog 45 (specOf FH):=by
 refine fun H=>gS H fun args h K ⟨XX,x,o,Q,I,HP,hQ⟩=> ?_
 obtain ⟨x0,⟨⟩⟩:=x
 replace I:=I.bI
 obtain ⟨XY,XZ,e0,J⟩:=dsE I
 clear I; subst e0; have I:=J; clear J
 obtain ⟨w0a,w0c,e0,w0h,J⟩:=unR I
 clear I; subst e0; have I:=J; clear J
 obtain ⟨e0,J⟩:=dsN I
 clear I; subst e0; have I:=J; clear J
 unfold Tx.eD
 try dsimp only [List.cons_append,List.nil_append,List.toList_toArray,vOf,aggT,List.headD_cons,tI,tA,tN,tS,tB,tT,tP,tM,tV,tG,cnd,sameKind]
 replace HP:cQ x0 (fun r0=>Q (r0,()) () o):=HP
 refine kO w0h I HP fun r0 ra0 rc0 h' I HQ=> ?_
 replace I:=mkN (D:=Ek.D) (X:=XX) I
 replace I:=I.b9
 replace I:=mkC (mkO (D:=Ek.D) (.int .u8) I)
 replace I:=I.bI
 replace I:=I.bI
 replace I:=Inv.addE I
 exact hQ (r0,()) () _ HQ [_] h' I
theorem Wy:SpecOk Tryz.prog 64 (Tx.dw ρ)→SpecOk Tryz.prog 64 (specOf FJ):=by
 refine fun H=>gS H fun args h K ⟨XX,x,o,Q,I,HP,hQ⟩=> ?_
 obtain ⟨x0,x1,⟨⟩⟩:=x
 obtain _ | σ:=o
 ·exact HP.elim
 replace I:=I.bI
 obtain ⟨XY,XZ,e0,J⟩:=dsE I
 clear I; subst e0; have I:=J; clear J
 obtain ⟨Wv,e0,⟨_,_,Ww⟩,J⟩:=unP I
 clear I; subst e0; have I:=J; clear J
 obtain rfl:Wv=[.pointer x0]:=Ww
 obtain ⟨wv1,ww1,e0,J⟩:=dsE I
 clear I; subst e0; have I:=J; clear J
 obtain ⟨w1a,w1c,e0,J⟩:=RH I
 clear I; subst e0; have I:=J; clear J
 replace I:=I.b9
 obtain ⟨e0,J⟩:=dsN I
 clear I; subst e0; have I:=J; clear J
 replace I:=I.b9
 replace I:=I.bI
 replace I:=I.bI
 unfold Tx.dw
 try dsimp only [List.cons_append,List.nil_append,List.toList_toArray,vOf,aggT,List.headD_cons,tI,tA,tN,tS,tB,tT,tP,tM,tV,tG,cnd,sameKind]
 replace HP:aS x0 x1 σ (fun r0 σ1=>Q (r0,()) () (some σ1)):=HP
 refine lC I HP fun r0 h' σ' I HQ=> ?_
 replace I:=mkN (D:=Ek.D) (X:=XX) I
 replace I:=mkC (mkV (D:=Ek.D) (.vec .u8 32) r0 (lumpV .u8 32 r0.toList) rfl (fun _ _=>rfl) I)
 replace I:=I.b9
 replace I:=I.bI
 replace I:=Inv.addE I
 exact hQ (r0,()) () (some σ') HQ [_] h' I
end Go.Proofs.YtkgbogibfogjgaaGreatDoor.Ek
