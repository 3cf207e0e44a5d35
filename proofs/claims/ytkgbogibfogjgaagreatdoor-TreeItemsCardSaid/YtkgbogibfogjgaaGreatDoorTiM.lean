import Derived.Test.YtkgbogibfogjgaaGreatDoorTiC
import Derived.Test.YtkgbogibfogjgaaGreatDoorTiE
import Derived.Test.YtkgbogibfogjgaaGreatDoorTiL
set_option linter.unusedVariables false
set_option linter.unusedSimpArgs false
set_option maxHeartbeats 4000000
set_option maxRecDepth 100000
namespace Go.Pt
open Go Go.Wc Go.Pu Go.Ex
open Go.Proofs.YtkgbogibfogjgaaGreatDoor
open Go.Proofs.YtkgbogibfogjgaaGreatDoor.Ek (ρ)
variable {h:Hp} {A:List At}
namespace aV
abbrev RT:=List Int->Hp->Prop
def kt (ρ:Ids) (A:List At) (Q':QT) (Q:RT):Prop:=
 ∀ (r0:Vector Int 16) (h':Hp),Inv h' (A)->Q' r0->Q r0.toList h'
end aV
theorem sJ {gD:Vector Int 32} {dK:Vector Int 12} {bg:Int} {Q':aV.QT} {Q:aV.RT} (I:Inv h (A)) (H:aV gD dK bg Q')
  (k:aV.kt ρ A Q' Q):Tx.aV ρ gD.toList dK.toList bg h Q:=by
 unfold Tx.aV
 try simp only [eV]
 replace I:=Fu I;replace I:=mkN (D:=Ek.D) (X:=(bigA (A))) I;replace I:=mkC (mkV (D:=Ek.D) (.int .u32) bg ([.int .u32 bg]) rfl (fun _ _=>rfl) I);replace I:=mkC (mkV (D:=Ek.D) (.vec .u8 12) dK (lumpV .u8 12 dK.toList) rfl (fun _ _=>rfl) I);replace I:=mkC (mkV (D:=Ek.D) (.vec .u8 32) gD (lumpV .u8 32 gD.toList) rfl (fun _ _=>rfl) I);replace I:=Inv.dV I;replace I:=I.cz;replace I:=I.cz;replace I:=I.bV;refine ⟨bigA (A),(gD,dK,bg,()),none,(fun y z o=>Q' y.1),I,H,fun y z o HQ vs h' I=> ?_⟩;obtain ⟨r0,⟨⟩⟩:=y;replace I:=I.bV;obtain ⟨uv0,uw0,e0,J⟩:=dsE I;clear I; subst e0; have I:=J; clear J;obtain ⟨OZ,e0,⟨_,_,O0⟩,J⟩:=unP I;clear I; subst e0; have I:=J; clear J;obtain rfl:OZ=lumpV .u32 16 r0.toList:=O0;obtain ⟨e0,J⟩:=dsN I;clear I; subst e0; have I:=J; clear J;replace I:=I.bV;replace I:=I.dn;replace I:=I.cz;replace I:=I.dn;replace I:=Inv.bigU (F:=[]) I;exact ⟨_,rfl,k _ _ I HQ⟩
theorem jQ {w0:Vector Int 4} {Q':(Vector Int 4)->Prop} {Q:List Int->Hp->Prop} (I:Inv h (A)) (H:cA w0 Q')
  (k: ∀ (r0:Vector Int 4) (h':Hp),Inv h' (A)->Q' r0->Q r0.toList h'):Tx.cA ρ w0.toList h Q:=by
 unfold Tx.cA
 try simp only [eV]
 replace I:=Fu I;replace I:=mkN (D:=Ek.D) (X:=(bigA (A))) I;replace I:=mkC (mkV (D:=Ek.D) (.vec .u32 4) w0 (lumpV .u32 4 w0.toList) rfl (fun _ _=>rfl) I);replace I:=Inv.dV I;replace I:=I.cz;replace I:=I.cz;replace I:=I.bV;refine ⟨bigA (A),(w0,()),none,(fun y z o=>Q' y.1),I,H,fun y z o HQ vs h' I=> ?_⟩;obtain ⟨r0,⟨⟩⟩:=y;replace I:=I.bV;obtain ⟨uv0,uw0,e0,J⟩:=dsE I;clear I; subst e0; have I:=J; clear J;obtain ⟨OZ,e0,⟨_,_,O0⟩,J⟩:=unP I;clear I; subst e0; have I:=J; clear J;obtain rfl:OZ=lumpV .u32 4 r0.toList:=O0;obtain ⟨e0,J⟩:=dsN I;clear I; subst e0; have I:=J; clear J;replace I:=I.bV;replace I:=I.dn;replace I:=I.cz;replace I:=I.dn;replace I:=Inv.bigU (F:=[]) I;exact ⟨_,rfl,k _ _ I HQ⟩
namespace aX
structure W where
 AW:Addr
def w0:W:=⟨⟨0,0,none⟩⟩
abbrev RT:=Hp->Prop
def kt (ρ:Ids) (gU:Addr) (A:List At) (Q':QT) (Q:RT):Prop:=
 ∀ (TP:Vector Int 16) (h':Hp),Inv h' (blk gU (ρ.T 24) [.vec .u32 16 TP]::A)->Q' TP->Q h'
def I1 (ρ:Ids) (gU:Addr) (c:V) (w:W) (A:List At) (h:Hp):Prop:=
 Inv h (blk gU (ρ.T 24) [.vec .u32 16 c.v4]::blk w.AW (ρ.T 25) [.vec .u32 4 c.q9]::A)
def I2 (ρ:Ids) (gU:Addr) (c:V) (w:W) (A:List At) (h:Hp):Prop:=
 Inv h (blk gU (ρ.T 24) [.vec .u32 16 c.v4]::A)
def I3 (ρ:Ids) (gU:Addr) (c:V) (w:W) (A:List At) (h:Hp):Prop:=
 Inv h (blk gU (ρ.T 24) [.vec .u32 16 c.v4]::blk w.AW (ρ.T 25) [.vec .u32 4 c.q9]::A)
variable {gU:Addr} {c:V} {w:W} {Q':QT} {Q:RT}
theorem Ke (I:I1 ρ gU c w A h) (H:K1 Q' c) (k:kt ρ gU A Q' Q):Tx.fG ρ Q c.a0 c.b1 c.c2 c.d3 gU w.AW h:=by unfold I1 at I;unfold Tx.fG;unfold K1 at H;refine fU I.cz (j:=0) (off:=0) rfl (dw H) fun ai4 oy aeC aeD TQ H=> ?_;obtain ⟨aeE,H⟩:=H;refine mb TQ ?_;refine fU I.cz (j:=0) (off:=0) rfl (dw H) fun ai5 qT TR TS TT H=> ?_;obtain ⟨TU,H⟩:=H;refine mb TT ?_;refine fU I.cz (j:=0) (off:=0) rfl (dw H) fun ai6 vp LI LJ TV H=> ?_;obtain ⟨LK,H⟩:=H;refine mb TV ?_;refine fU I.cz (j:=0) (off:=0) rfl (dw H) fun ai7 wY G5 G6 TW H=> ?_;obtain ⟨G7,H⟩:=H;refine mb TW ?_;refine fU I (j:=0) (off:=0) rfl (dw H) fun ai8 vq TX TY aeF H=> ?_;obtain ⟨aeG,H⟩:=H;refine ou (I) (j:=0) (off:=0) rfl TX TY fun h I=> ?_;refine ⟨(fZ I.cz (j:=0) (off:=0) rfl G5 G6 G7), ?_⟩;refine ⟨(fZ I.cz (j:=0) (off:=0) rfl LI LJ LK), ?_⟩;refine ⟨(fZ I.cz (j:=0) (off:=0) rfl TR TS TU), ?_⟩;refine fU I (j:=0) (off:=0) rfl (dw H) fun ai9 Wk TZ T5 aeH H=> ?_;obtain ⟨aeI,H⟩:=H;refine ou (I) (j:=0) (off:=0) rfl TZ T5 fun h I=> ?_;refine ⟨(fZ I.cz (j:=0) (off:=0) rfl G5 G6 G7), ?_⟩;refine ⟨(fZ I.cz (j:=0) (off:=0) rfl LI LJ LK), ?_⟩;refine fU I (j:=0) (off:=0) rfl (dw H) fun aja Wl T6 T7 aeJ H=> ?_;obtain ⟨aeK,H⟩:=H;refine ou (I) (j:=0) (off:=0) rfl T6 T7 fun h I=> ?_;refine ⟨(fZ I.cz (j:=0) (off:=0) rfl G5 G6 G7), ?_⟩;refine fU I (j:=0) (off:=0) rfl (dw H) fun ajb El T8 T9 aeL H=> ?_;obtain ⟨aeM,H⟩:=H;refine ou (I) (j:=0) (off:=0) rfl T8 T9 fun h I=> ?_;replace I:=I.cz.dn;exact k ((((c.v4.setIfInBounds (Int.toNat c.a0) oy).setIfInBounds (Int.toNat c.b1) qT).setIfInBounds (Int.toNat c.c2) vp).setIfInBounds (Int.toNat c.d3) wY) _ I H
theorem Ua (I:I3 ρ gU c w A h) (H:K3 Q' c) (k:kt ρ gU A Q' Q):Tx.fH ρ Q c.a0 c.b1 c.c2 c.d3 gU w.AW c.vo.toList h:=by
 unfold I3 at I;unfold Tx.fH;unfold K3 at H
 try simp only [eV]
 refine tX I.cz 0 1 0 [.vec .u32 4 c.vo] rfl rfl rfl (by first | exact kN rfl | exact dz (by simp [segs,Seg.cells,allOne,iz,dN,Value.oneCell'])) fun h (I:Inv h (blk w.AW (ρ.T 25) [.vec .u32 4 c.vo]::_))=> ?_;replace I:=I.cz;exact Ke (c:= {c with q9:=c.vo}) (w:=w) I H k
theorem Kf (I:I2 ρ gU c w A h) (H:K2 Q' c) (k:kt ρ gU A Q' Q):Tx.gT ρ Q c.a0 c.b1 c.c2 c.d3 gU c.vo.toList h:=by
 unfold I2 at I;unfold Tx.gT;unfold K2 at H
 try simp only [eV]
 refine ni [.vec .u32 4 (Vector.replicate 4 (0:Int))] rfl I fun ab1 h I=> ?_;replace I:=I.cz
 try simp only [eV]
 exact Ua (c:= {c with q9:=(Vector.replicate 4 (0:Int))}) (w:= {w with AW:=ab1}) I H k
end aX
theorem jR {a0:Int} {b1:Int} {c2:Int} {d3:Int} {v4:Vector Int 16} {gU:Addr} {Q':aX.QT} {Q:aX.RT} (I:Inv h (blk gU (ρ.T 24) [.vec .u32 16 v4]::A)) (H:aX a0 b1 c2 d3 v4 Q')
  (k:aX.kt ρ gU A Q' Q):Tx.aX ρ a0 b1 c2 d3 gU h Q:=by
 unfold Tx.aX;unfold aX at H;refine fU I (j:=0) (off:=0) rfl (dw H) fun q_2 DI ab2 ab3 ab4 H=> ?_;obtain ⟨ab5,H⟩:=H;refine mb ab4 ?_;refine fU I (j:=0) (off:=0) rfl (dw H) fun q_8 zQ Ub Uc Ud H=> ?_;obtain ⟨Ue,H⟩:=H;refine mb Ud ?_;refine fU I (j:=0) (off:=0) rfl (dw H) fun ajc pY Uf Ug Uh H=> ?_;obtain ⟨Ui,H⟩:=H;refine mb Uh ?_;refine fU I (j:=0) (off:=0) rfl (dw H) fun ajd iL Uj Uk Ul H=> ?_;obtain ⟨Um,H⟩:=H;refine mb Ul ?_;refine Mj H (fun H=> ?_) (fun H=> ?_)
 ·try simp only [eV]
  refine jQ (w0:= #v[DI,zQ,pY,iL]) I H fun tc h I H=> ?_
  try simp only [eV]
  exact aX.Kf (c:= {aX.v0 with v4:=v4,a0:=a0,b1:=b1,c2:=c2,d3:=d3,vo:=tc}) (w:=aX.w0) I H k
 ·refine ni [.vec .u32 4 (Vector.replicate 4 (0:Int))] rfl I fun ab6 h I=> ?_
  refine ⟨(fZ I.cz (j:=0) (off:=0) rfl Uj Uk Um), ?_⟩;refine ⟨(fZ I.cz (j:=0) (off:=0) rfl Uf Ug Ui), ?_⟩;refine ⟨(fZ I.cz (j:=0) (off:=0) rfl Ub Uc Ue), ?_⟩;refine ⟨(fZ I.cz (j:=0) (off:=0) rfl ab2 ab3 ab5), ?_⟩
  try simp only [eV]
  refine jQ (w0:= #v[DI,zQ,pY,iL]) I H fun mJ h I H=> ?_;replace I:=I.cz
  try simp only [eV]
  exact aX.Ua (c:= {aX.v0 with v4:=v4,a0:=a0,b1:=b1,c2:=c2,d3:=d3,q9:=(Vector.replicate 4 (0:Int)),vo:=mJ}) (w:= {aX.w0 with AW:=ab6}) I H k
namespace aG
structure W where
 tv:Addr
 gV:Addr
 p9:Addr
 G8:Addr
def w0:W:=⟨⟨0,0,none⟩,⟨0,0,none⟩,⟨0,0,none⟩,⟨0,0,none⟩⟩
abbrev RT:=List Int->Hp->Prop
def kt (ρ:Ids) (A:List At) (Q':QT) (Q:RT):Prop:=
 ∀ (r0:Vector Int 64) (h':Hp),Inv h' (A)->Q' r0->Q r0.toList h'
def I1 (ρ:Ids) (c:V) (w:W) (A:List At) (h:Hp):Prop:=
 Inv h (blk w.tv (ρ.T 23) [.vec .u8 64 c.v6]::blk w.gV (ρ.T 24) [.vec .u32 16 c.aM]::blk w.p9 (ρ.T 24) [.vec .u32 16 c.w8]::A)
abbrev Y1:=Addr->Addr->Addr->Addr->Int->Hp->Prop
abbrev T1 (S:Y1) (c:V) (w:W) (h:Hp):Prop:=S w.tv w.gV w.p9 w.p9 c.v20 h
def Un (ρ:Ids) (A:List At) (S':V->Prop) (S:Y1):Prop:= ∀ (c:V) (w:W) (h:Hp),I1 ρ c w A h->S' c->T1 S c w h
def I2 (ρ:Ids) (c:V) (w:W) (A:List At) (h:Hp):Prop:=
 Inv h (blk w.tv (ρ.T 23) [.vec .u8 64 c.v6]::blk w.gV (ρ.T 24) [.vec .u32 16 c.aM]::blk w.p9 (ρ.T 24) [.vec .u32 16 c.w8]::A)
abbrev Y2:=Addr->Addr->Addr->Addr->Int->Int->Hp->Prop
abbrev T2 (S:Y2) (c:V) (w:W) (h:Hp):Prop:=S w.tv w.gV w.p9 w.p9 c.v20 c.gX h
def k2t (ρ:Ids) (A:List At) (S':V->Prop) (S:Y2):Prop:= ∀ (c:V) (w:W) (h:Hp),I2 ρ c w A h->S' c->T2 S c w h
def I3 (ρ:Ids) (c:V) (w:W) (A:List At) (h:Hp):Prop:=
 Inv h (blk w.tv (ρ.T 23) [.vec .u8 64 c.v6]::blk w.gV (ρ.T 24) [.vec .u32 16 c.aM]::blk w.p9 (ρ.T 24) [.vec .u32 16 c.w8]::A)
abbrev Y3:=Addr->Addr->Addr->Addr->Int->Int->Hp->Prop
abbrev T3 (S:Y3) (c:V) (w:W) (h:Hp):Prop:=S w.tv w.gV w.p9 w.p9 c.v20 c.fM h
def k3t (ρ:Ids) (A:List At) (S':V->Prop) (S:Y3):Prop:= ∀ (c:V) (w:W) (h:Hp),I3 ρ c w A h->S' c->T3 S c w h
def I4 (ρ:Ids) (c:V) (w:W) (A:List At) (h:Hp):Prop:=
 Inv h (blk w.tv (ρ.T 23) [.vec .u8 64 c.v6]::blk w.gV (ρ.T 24) [.vec .u32 16 c.aM]::blk w.p9 (ρ.T 24) [.vec .u32 16 c.w8]::blk w.G8 (ρ.T 23) [.vec .u8 64 c.mK]::A)
abbrev Y4:=Addr->Addr->Addr->Addr->Int->Hp->Prop
abbrev T4 (S:Y4) (c:V) (w:W) (h:Hp):Prop:=S w.tv w.gV w.p9 w.G8 c.jo h
def k4t (ρ:Ids) (A:List At) (S':V->Prop) (S:Y4):Prop:= ∀ (c:V) (w:W) (h:Hp),I4 ρ c w A h->S' c->T4 S c w h
variable {c:V} {w:W} {Q':QT} {Q:RT} {S1' S2' S3' S4':V->Prop} {S1:Y1} {S2:Y2} {S3:Y3} {S4:Y4}
theorem ab7 (I:I3 ρ c w A h) (H:B3 S1' S3' Q' c) (Kg:Un ρ A S1' S1) (kS3:k3t ρ A S3' S3) (k:kt ρ A Q' Q):T3 (Tx.eZ ρ S1 S3 Q) c w h:=by
 unfold I3 at I;unfold T3 Tx.eZ;unfold B3 at H;refine CF H (fun hb H=> ?_) (fun hb H=> ?_)
 ·refine ⟨by decide, ?_⟩
  refine ⟨by decide, ?_⟩;refine ⟨by decide, ?_⟩;replace I:=I.bV;refine jR (a0:=c.fM) (b1:=(IntKind.wrap .i64 ((4:Int)+(Int.tmod (IntKind.wrap .i64 (c.fM+(1:Int))) (4:Int))))) (c2:=(IntKind.wrap .i64 ((8:Int)+(Int.tmod (IntKind.wrap .i64 (c.fM+(2:Int))) (4:Int))))) (d3:=(IntKind.wrap .i64 ((12:Int)+(Int.tmod (IntKind.wrap .i64 (c.fM+(3:Int))) (4:Int))))) (v4:=c.w8) I H fun kQ h I H=> ?_;refine ⟨_,rfl, ?_⟩;replace I:=I.bV.bV;exact kS3 {c with w8:=kQ,fM:=(IntKind.wrap .i64 (c.fM+(1:Int)))} w _ I H
 ·replace I:=I.bV.bV.bV
  exact Kg {c with v20:=(IntKind.wrap .i64 (c.v20+(1:Int)))} w _ I H
theorem ab8 (I:I3 ρ c w A h) (H:L3 S1' Q' c) (Kg:Un ρ A S1' S1) (k:kt ρ A Q' Q):T3 (Tx.fe ρ S1 Q) c w h:=by
 refine Lf.ind H (fun v=> ∀ (w:W) (h:Hp),I3 ρ v w A h->T3 (Tx.fe ρ S1 Q) v w h) ?_ w h I;rintro c S hS HB w h I;refine Tx.mS _ _ _ _ _ _ _ _ _ _ ?_
 try simp only [eV]
 exact ab7 (c:=c) (w:=w) I HB Kg (fun c w h I H=>hS _ H w h I) k
theorem ab9 (I:I2 ρ c w A h) (H:B2 S1' S2' Q' c) (Kg:Un ρ A S1' S1) (kS2:k2t ρ A S2' S2) (k:kt ρ A Q' Q):T2 (Tx.ff ρ S1 S2 Q) c w h:=by
 unfold I2 at I;unfold T2 Tx.ff;unfold B2 at H;refine CF H (fun hb H=> ?_) (fun hb H=> ?_)
 ·replace I:=I.bV
  refine jR (a0:=c.gX) (b1:=(IntKind.wrap .i64 ((4:Int)+c.gX))) (c2:=(IntKind.wrap .i64 ((8:Int)+c.gX))) (d3:=(IntKind.wrap .i64 ((12:Int)+c.gX))) (v4:=c.w8) I H fun tg h I H=> ?_;refine ⟨_,rfl, ?_⟩;replace I:=I.bV.bV;exact kS2 {c with w8:=tg,gX:=(IntKind.wrap .i64 (c.gX+(1:Int)))} w _ I H
 ·replace I:=I.bV.bV.bV
  exact ab8 (c:= {c with fM:=(0:Int)}) (w:=w) I H Kg k
theorem acd (I:I2 ρ c w A h) (H:L2 S1' Q' c) (Kg:Un ρ A S1' S1) (k:kt ρ A Q' Q):T2 (Tx.fh ρ S1 Q) c w h:=by
 refine Lf.ind H (fun v=> ∀ (w:W) (h:Hp),I2 ρ v w A h->T2 (Tx.fh ρ S1 Q) v w h) ?_ w h I;rintro c S hS HB w h I;refine Tx.mT _ _ _ _ _ _ _ _ _ _ ?_
 try simp only [eV]
 exact ab9 (c:=c) (w:=w) I HB Kg (fun c w h I H=>hS _ H w h I) k
theorem ace (I:I4 ρ c w A h) (H:B4 S4' Q' c) (kS4:k4t ρ A S4' S4) (k:kt ρ A Q' Q):T4 (Tx.fj ρ S4 Q) c w h:=by
 unfold I4 at I;unfold T4 Tx.fj;unfold B4 at H;refine CF H (fun hb H=> ?_) (fun hb H=> ?_)
 ·refine ⟨by decide, ?_⟩
  refine fU I.bV (j:=0) (off:=0) rfl (dw H) fun ajk wZ aeN aeO Uo H=> ?_;obtain ⟨aeP,H⟩:=H;refine mb Uo ?_;refine ⟨by decide, ?_⟩;refine fU I.cz (j:=0) (off:=0) rfl (dw H) fun ajl Mp aeQ aeR Up H=> ?_;obtain ⟨aeS,H⟩:=H;refine mb Up ?_;refine ⟨by decide, ?_⟩;refine PO H fun H=> ?_;refine fU I.jc (j:=0) (off:=0) rfl (dw H) fun ajm Qb Uq Ur aeT H=> ?_;obtain ⟨aeU,H⟩:=H;refine ou (I.jc) (j:=0) (off:=0) rfl Uq Ur fun h I=> ?_;replace I:=I.jc.jc.jc;exact kS4 {c with mK:=(c.mK.setIfInBounds (Int.toNat c.jo) (IntKind.wrap .u8 (Int.fdiv (IntKind.wrap .u32 (wZ+Mp)) (2 ^ (min (Int.toNat (IntKind.wrap .i64 ((8:Int)*(Int.tmod c.jo (4:Int))))) (IntKind.bits .u32)))))),jo:=(IntKind.wrap .i64 (c.jo+(1:Int)))} w _ I H
 ·refine tW (I.jc.lump 0 0 rfl) ?_
  try simp only [eV]
  refine tX I 0 1 0 [.vec .u8 64 c.mK] rfl rfl rfl (by first | exact kN rfl | exact dz (by simp [segs,Seg.cells,allOne,iz,dN,Value.oneCell'])) fun h (I:Inv h (blk w.tv (ρ.T 23) [.vec .u8 64 c.mK]::_))=> ?_;refine tW (I.lump 0 0 rfl) ?_
  try simp only [eV]
  replace I:=I.dn;replace I:=I.dn;replace I:=I.dn;replace I:=I.dn;exact k c.mK _ I H
theorem acf (I:I4 ρ c w A h) (H:L4 Q' c) (k:kt ρ A Q' Q):T4 (Tx.fl ρ Q) c w h:=by
 refine Lf.ind H (fun v=> ∀ (w:W) (h:Hp),I4 ρ v w A h->T4 (Tx.fl ρ Q) v w h) ?_ w h I;rintro c S hS HB w h I;refine Tx.mU _ _ _ _ _ _ _ _ ?_
 try simp only [eV]
 exact ace (c:=c) (w:=w) I HB (fun c w h I H=>hS _ H w h I) k
theorem acg (I:I1 ρ c w A h) (H:B1 S1' Q' c) (Kg:Un ρ A S1' S1) (k:kt ρ A Q' Q):T1 (Tx.fm ρ S1 Q) c w h:=by
 unfold I1 at I;unfold T1 Tx.fm;unfold B1 at H;refine CF H (fun hb H=> ?_) (fun hb H=> ?_)
 ·replace I:=I.bV.bV.bV
  exact acd (c:= {c with gX:=(0:Int)}) (w:=w) I H Kg k
 ·refine ni [.vec .u8 64 (Vector.replicate 64 (0:Int))] rfl I fun AV h I=> ?_
  replace I:=I.jc.jc.jc;exact acf (c:= {c with mK:=(Vector.replicate 64 (0:Int)),jo:=(0:Int)}) (w:= {w with G8:=AV}) I H k
theorem ach (I:I1 ρ c w A h) (H:L1 Q' c) (k:kt ρ A Q' Q):T1 (Tx.fq ρ Q) c w h:=by
 refine Lf.ind H (fun v=> ∀ (w:W) (h:Hp),I1 ρ v w A h->T1 (Tx.fq ρ Q) v w h) ?_ w h I;rintro c S hS HB w h I;refine Tx.mV _ _ _ _ _ _ _ _ ?_
 try simp only [eV]
 exact acg (c:=c) (w:=w) I HB (fun c w h I H=>hS _ H w h I) k
end aG
theorem lB {gD:Vector Int 32} {dK:Vector Int 12} {bg:Int} {Q':aG.QT} {Q:aG.RT} (I:Inv h (A)) (H:aG gD dK bg Q')
  (k:aG.kt ρ A Q' Q):Tx.aG ρ gD.toList dK.toList bg h Q:=by
 unfold Tx.aG;unfold aG at H
 try simp only [eV]
 refine ni [.vec .u8 32 gD] rfl I fun Ir h I=> ?_;refine ni [.vec .u8 12 dK] rfl I fun Is h I=> ?_;refine ni [.vec .u8 64 (Vector.replicate 64 (0:Int))] rfl I fun CN h I=> ?_;refine tW (I.bV.lump 0 0 rfl) ?_
 try simp only [eV]
 refine tW (I.cz.lump 0 0 rfl) ?_
 try simp only [eV]
 try simp only [eV]
 refine sJ (gD:=gD) (dK:=dK) (bg:=bg) I H fun gW h I H=> ?_;refine ni [.vec .u32 16 (Vector.replicate 16 (0:Int))] rfl I fun p_8 h I=> ?_;refine tX I 0 1 0 [.vec .u32 16 gW] rfl rfl rfl (by first | exact kN rfl | exact dz (by simp [segs,Seg.cells,allOne,iz,dN,Value.oneCell'])) fun h (I:Inv h (blk p_8 (ρ.T 24) [.vec .u32 16 gW]::_))=> ?_;refine tW (I.lump 0 0 rfl) ?_
 try simp only [eV]
 refine ni [.vec .u32 16 (Vector.replicate 16 (0:Int))] rfl I fun Us h I=> ?_;refine tX I 0 1 0 [.vec .u32 16 gW] rfl rfl rfl (by first | exact kN rfl | exact dz (by simp [segs,Seg.cells,allOne,iz,dN,Value.oneCell'])) fun h (I:Inv h (blk Us (ρ.T 24) [.vec .u32 16 gW]::_))=> ?_;replace I:=I.jc.dn;replace I:=I.jc.dn;replace I:=I.cz.bV;exact aG.ach (c:= {aG.v0 with v6:=(Vector.replicate 64 (0:Int)),aM:=gW,w8:=gW,v20:=(0:Int)}) (w:= {aG.w0 with tv:=CN,gV:=p_8,p9:=Us}) I H k
theorem mo {ρ:Ids} {h:Hp} {A:List At} {s0:List Int} {a:Option Addr} {nl c:Nat} {X:At} {Q':List Int->Prop} {Q:Sl->Hp->Prop} (hX:Rd (rI .u8) X a nl c s0) (I:Inv h (X::A)) (H:cL s0 Q')
  (k: ∀ (r:List Int) (ra:Option Addr) (rc:Nat) (h':Hp),Inv h' (ownS (rI .u8) ra r.length rc r::X::A)->Q' r->Q ⟨ra,r.length,rc⟩ h'):Tx.cL ρ ⟨a,nl,c⟩ h Q:=by
 unfold Tx.cL;exact IM hX I (by decide) rfl (by decide) (by decide) H k
namespace cx
abbrev RT:=List Int->Hp->Prop
def kt (ρ:Ids) (iK:At) (A:List At) (Q':QT) (Q:RT):Prop:=
 ∀ (r0:Vector Int 32) (h':Hp),Inv h' (iK::A)->Q' r0->Q r0.toList h'
end cx
theorem uR {gq:List (List Int)} {y5:Option Addr} {y6:Nat} {y7:Nat} {iK:At} {Q':cx.QT} {Q:cx.RT} (uS:Rd (rS (rI .u8)) iK y5 y7 y6 gq) (I:Inv h (iK::A)) (H:cx gq Q')
  (k:cx.kt ρ iK A Q' Q):Tx.cx ρ ⟨y5,y7,y6⟩ h Q:=by
 obtain rfl:=fB uS I;unfold Tx.cx
 try simp only [eV]
 replace I:=Fu I;replace I:=mkN (D:=Ek.D) (X:=(bigA (iK::A))) I;replace I:=mkC (mkR (D:=Ek.D) (.list (.int .u8)) uS (by simp) I);replace I:=Inv.dV I;replace I:=I.cz;replace I:=I.cz;replace I:=I.bV;refine ⟨bigA (iK::A),(gq,()),none,(fun y z o=>Q' y.1),I,H,fun y z o HQ vs h' I=> ?_⟩;obtain ⟨r0,⟨⟩⟩:=y;replace I:=I.bV;obtain ⟨uv0,uw0,e0,J⟩:=dsE I;clear I; subst e0; have I:=J; clear J;obtain ⟨OZ,e0,⟨_,_,O0⟩,J⟩:=unP I;clear I; subst e0; have I:=J; clear J;obtain rfl:OZ=lumpV .u8 32 r0.toList:=O0;obtain ⟨e0,J⟩:=dsN I;clear I; subst e0; have I:=J; clear J;replace I:=I.bV;replace I:=I.dn;replace I:=I.cz;replace I:=I.dn;replace I:=Inv.bigU (F:=[]) I;exact ⟨_,rfl,k _ _ I HQ⟩
namespace aP
structure W where
 gk:Option Addr
 gp:Nat
 gU:Addr
def w0:W:=⟨none,0,⟨0,0,none⟩⟩
abbrev RT:=List Int->Hp->Prop
def kt (ρ:Ids) (A:List At) (Q':QT) (Q:RT):Prop:=
 ∀ (r0:Vector Int 32) (h':Hp) (σ':St Obj),Inv h' (hpA (obA ρ) σ'::A)->Q' r0 σ'->Q r0.toList h'
def I1 (ρ:Ids) (c:V) (w:W) (σ:St Obj) (A:List At) (h:Hp):Prop:=
 Inv h (roS (rI .u8) w.gk c.cS.length w.gp c.cS::blk w.gU (ρ.T 19) [.vec .u8 32 c.v4]::hpA (obA ρ) σ::A)
def I2 (ρ:Ids) (c:V) (w:W) (σ:St Obj) (A:List At) (h:Hp):Prop:=
 Inv h (roS (rI .u8) w.gk c.cS.length w.gp c.cS::blk w.gU (ρ.T 19) [.vec .u8 32 c.v4]::hpA (obA ρ) σ::A)
variable {c:V} {w:W} {σ:St Obj} {Q':QT} {Q:RT}
theorem Kf (I:I2 ρ c w σ A h) (H:K2 Q' c σ) (k:kt ρ A Q' Q):Tx.dH ρ Q ⟨w.gk,c.cS.length,w.gp⟩ w.gU h:=by
 unfold I2 at I;unfold Tx.dH;unfold K2 at H;refine ni [.one (.slice w.gk c.cS.length w.gp)] rfl I fun ajn h I=> ?_;replace I:=I.litN (rS (rI .u8));replace I:=I.bV.dupR;replace I:=I.repSl;replace I:=I.bV.cz;replace I:=I.litC;replace I:=I.bV.cz;replace I:=Inv.litL (l:=[c.cS]) I rfl rfl;refine uR (gq:=[c.cS]) vn I H fun Em h I H=> ?_;refine tX I.bV 0 1 0 [.vec .u8 32 Em] rfl rfl rfl (by first | exact kN rfl | exact dz (by simp [segs,Seg.cells,allOne,iz,dN,Value.oneCell'])) fun h (I:Inv h (blk w.gU (ρ.T 19) [.vec .u8 32 Em]::_))=> ?_;refine tW (I.lump 0 0 rfl) ?_
 try simp only [eV]
 replace I:=I.dn;replace I:=I.dn;replace I:=I.dn;exact k Em _ σ I H
theorem Ke (I:I1 ρ c w σ A h) (H:K1 Q' c σ) (k:kt ρ A Q' Q):Tx.dI ρ Q c.b0 ⟨w.gk,c.cS.length,w.gp⟩ w.gU c.l9 h:=by
 unfold I1 at I;unfold Tx.dI;unfold K1 at H;refine CF H (fun hb H=> ?_) (fun hb H=> ?_)
 ·refine KP H fun zY Ut H=> ?_
  obtain ⟨s7,Uu,H⟩:=H;obtain ⟨aeW,aeX,I⟩:=nk (I.bV.take Uu);refine KQ (I.cell 0 0 rfl) ?_;replace I:=I.jc;refine mo (s0:=c.cS) wT I H fun zZ aci acj h I H=> ?_;refine ⟨I.bV.cell 0 0 rfl, ?_⟩;refine ni [.one (.slice aci zZ.length acj)] rfl I fun TN h I=> ?_;replace I:=I.litN (rS (rI .u8));replace I:=I.bV.freeze;replace I:=I.dupR;replace I:=I.repSl;replace I:=I.bV.cz;replace I:=I.litC;replace I:=I.bV.cz;replace I:=Inv.litL (l:=[zZ]) I rfl rfl;refine ⟨I.jc.cell 0 0 rfl, ?_⟩;refine Mg vn I.KO rfl (by decide) (by decide) H.1 fun ack acm h I=> ?_;replace H:=H.2;replace I:=I.cz.dn;refine PS Ut ?_;refine V9 I.jc 0 0 rfl fun h (I:Inv h (blk zY (ρ.T 44) [.one (.slice ack (s7.texts++[zZ]).length acm)]::_))=> ?_;replace I:=I.KO.bV.bV;replace I:=(nr (⟨(s7.texts++[zZ])⟩:cU) I).putB;replace I:=I.bV.dupR;replace I:=I.cz.dn;replace I:=I.bV.dn;replace I:=I.cz.bV.bV;exact Kf (c:=c) (w:=w) I H k
 ·replace I:=I.dupR
  replace I:=I.cz.dn;replace I:=I.bV.bV.bV;exact Kf (c:=c) (w:=w) I H k
end aP
theorem mW {b0:Option Addr} {cS:List Int} {gk:Option Addr} {gp:Nat} {Cm:Nat} {σ:St Obj} {Q':aP.QT} {Q:aP.RT} (I:Inv h (roS (rI .u8) gk Cm gp cS::hpA (obA ρ) σ::A)) (H:aP b0 cS σ Q')
  (k:aP.kt ρ A Q' Q):Tx.aP ρ b0 ⟨gk,Cm,gp⟩ h Q:=by
 obtain rfl:=D2 I;unfold Tx.aP;unfold aP at H;refine ni [.vec .u8 32 (Vector.replicate 32 (0:Int))] rfl I fun Is h I=> ?_;refine CF H (fun hb H=> ?_) (fun hb H=> ?_)
 ·refine KP H fun CN ajo H=> ?_
  obtain ⟨I5,Uv,H⟩:=H;obtain ⟨ajp,aeY,I⟩:=nk (I.bV.take Uv);refine KQ (I.cell 0 0 rfl) ?_;apply withB (decide ((I5.texts.length:Int)<(100000:Int)));intro En LM
  try dsimp only
  rw [<- LM];replace H:=H En LM;replace I:=I.bV.bV.bV;replace I:=(nr I5 I).putS Uv;replace I:=I.bV.dupR;replace I:=I.cz.dn;replace I:=I.cz.bV.bV;exact aP.Ke (c:= {aP.v0 with b0:=b0,cS:=cS,v4:=(Vector.replicate 32 (0:Int)),l9:=En}) (w:= {aP.w0 with gk:=gk,gp:=gp,gU:=Is}) I H k
 ·replace I:=I.cz.dupR
  replace I:=I.cz.dn;replace I:=I.bV.bV.bV;exact aP.Ke (c:= {aP.v0 with b0:=b0,cS:=cS,v4:=(Vector.replicate 32 (0:Int)),l9:=false}) (w:= {aP.w0 with gk:=gk,gp:=gp,gU:=Is}) I H k
namespace aj
abbrev RT:=Bool->Hp->Prop
def kt (ρ:Ids) (AX:At) (A:List At) (Q':QT) (Q:RT):Prop:=
 ∀ (r0:Bool) (h':Hp) (σ':St Obj),Inv h' (AX::hpA (obA ρ) σ'::A)->Q' r0 σ'->Q r0 h'
end aj
theorem jz {l0:List (List Int)} {bI:Int} {r2:af} {Uw:Option Addr} {Ux:Nat} {Uy:Nat} {AX:At} {σ:St Obj} {Q':aj.QT} {Q:aj.RT} (LN:Rd (rS (rI .u8)) AX Uw Uy Ux l0) (I:Inv h (AX::hpA (obA ρ) σ::A)) (H:aj l0 bI r2 σ Q')
  (k:aj.kt ρ AX A Q' Q):Tx.aj ρ ⟨Uw,Uy,Ux⟩ bI r2.Place r2.cu r2.bY.toList h Q:=by
 obtain rfl:=fB LN I;unfold Tx.aj
 try simp only [eV]
 replace I:=I.cz;replace I:=RD I;replace I:=mkN (D:=Ek.D) (X:=(bigA (AX::A))) I;replace I:=mkC (mkV (D:=Ek.D) (.st 7) r2 (([.int .i64 r2.Place, .int .u32 r2.cu]:List Value)++(lumpV .u8 32 r2.bY.toList:List Value)) rfl (fun _ _=>rfl) I);replace I:=mkC (mkV (D:=Ek.D) (.int .i64) bI ([.int .i64 bI]) rfl (fun _ _=>rfl) I);replace I:=mkC (mkR (D:=Ek.D) (.list (.int .u8)) LN (by simp) I);replace I:=I.cz;replace I:=I.bV;refine ⟨bigA (AX::A),(l0,bI,r2,()),(some σ),(fun y z o=>match o with | some σ'=>Q' y.1 σ' | none=>False),I,H,fun y z o HQ vs h' I=> ?_⟩;obtain ⟨r0,⟨⟩⟩:=y;obtain _ | σ':=o
 ·exact HQ.elim
 replace I:=I.bV;obtain ⟨uv0,uw0,e0,J⟩:=dsE I;clear I; subst e0; have I:=J; clear J;obtain ⟨OZ,e0,⟨_,_,O0⟩,J⟩:=unP I;clear I; subst e0; have I:=J; clear J;obtain rfl:OZ=[.bool r0]:=O0;obtain ⟨e0,J⟩:=dsN I;clear I; subst e0; have I:=J; clear J;replace I:=I.bV;replace I:=I.dn;replace I:=I.cz;replace I:=Inv.bigU (F:=[_]) I;replace I:=I.cz;exact ⟨_,rfl,k _ _ _ I HQ⟩
end Go.Pt
namespace Go.Pt
open Go Go.Wc Go.Pu Go.Laws
open Go.Proofs.YtkgbogibfogjgaaGreatDoor.Ek (ρ)
def mX (x:af):Prop:=(fun n:Int=>(Lit.int .i64 n).wf=true) x.Place/\(fun n:Int=>(Lit.int .u32 n).wf=true) x.cu/\(fun v:Vector Int 32=> ∀ x ∈ v.toList,(Lit.int .u8 x).wf=true) x.bY
theorem kr {P:Program} {t t0 t1 t2:TypeId} (hf:fieldsOf P t=[(t0,0),(t1,1),(t2,2)]) (hc:P.cellsOf t=34) (o0:Opens P t0 (rI .i64) (fun n:Int=>(Lit.int .i64 n).wf=true)) (o1:Opens P t1 (rI .u32) (fun n:Int=>(Lit.int .u32 n).wf=true)) (o2:Opens P t2 (rV .u8 32) (fun v:Vector Int 32=> ∀ x ∈ v.toList,(Lit.int .u8 x).wf=true)):Opens P t eM mX:=by
 refine ⟨hc,fun {_ _ w _ _ _} hd=> ?_⟩;obtain ⟨hl,hfs⟩:=xY hf (by simp) hd;rw [hc] at hl;obtain ⟨v0,r0,rfl,Iq⟩:=rR hl;obtain ⟨v1,r1,rfl,Cn⟩:=rR Iq;obtain ⟨u2,w2,rfl,V1,VW⟩:=x4 (n:=32) (m:=0) Cn;obtain rfl:=List.length_eq_zero_iff.1 VW;obtain ⟨_,_,d0⟩:=hfs (t0,0) (by simp);obtain ⟨x0,p0,q0⟩:=o0.2 d0;dsimp only at p0;rw [o0.1] at p0;have e0:=p0;have e0:[v0]=[.int .i64 x0]:=e0;simp only [List.cons.injEq,and_true] at e0;subst e0;obtain ⟨_,_,d1⟩:=hfs (t1,1) (by simp);obtain ⟨x1,p1,q1⟩:=o1.2 d1;dsimp only at p1;rw [o1.1] at p1;have e1:=p1;have e1:[v1]=[.int .u32 x1]:=e1;simp only [List.cons.injEq,and_true] at e1;subst e1;obtain ⟨_,_,d2⟩:=hfs (t2,2) (by simp);obtain ⟨x2,p2,q2⟩:=o2.2 d2;dsimp only at p2;rw [o2.1] at p2;have e2:u2=lumpV .u8 32 x2.toList:=by have q:List.take 32 _=_:=p2; simpa [V1,List.take_of_length_le (Nat.le_of_eq V1)] using q
 subst e2;exact ⟨⟨x0,x1,x2⟩,(by show _=_; simp),q0,q1,q2⟩
theorem jk {h:Hp} {x0:List (List Int)} {a0:Option Addr} {c0:Nat} {x1:Int} {x2:af} {O1:Array Value} (h0:SlE (rS (rI .u8)) h [] a0 c0 x0) (h2:eM.P h [] O1.toList x2) (HP:aj x0 x1 x2 ug (fun b _=>b=true)):
  Tx.cJ ρ [.slice a0 x0.length c0, .int .i64 x1, .agg O1] h (fun v h'=>v= .bool true/\Keep [] h h'):=by
 have e2:=h2;obtain rfl:O1=(([.int .i64 x2.Place, .int .u32 x2.cu]:List Value)++lumpV .u8 32 x2.bY.toList).toArray:=by rw [<- e2]
 unfold Tx.cJ;dsimp only [List.cons_append,List.nil_append,List.toList_toArray,tI,tA,tN,tS,tB,tT,tP,tM,tV,tG,cnd,sameKind]
 try simp only [List.append_assoc,List.cons_append,List.nil_append]
 refine rQ ?_
 try dsimp only [List.cons_append,List.nil_append,tI,tA,tN,tS,tB,tT,tP,tM,tV,tG,cnd,sameKind]
 have I:Inv h (roS (rS (rI .u8)) a0 x0.length c0 x0::hpA (obA ρ) ug::[leA h []]):=JC (A:=[roS (rS (rI .u8)) a0 x0.length c0 x0,hpA (obA ρ) ug]) (by
  intro a ha;simp only [List.mem_cons,List.not_mem_nil,or_false] at ha;rcases ha with rfl | rfl
  ·exact ro0 h0
  ·exact hp0)
 refine jz wT I HP fun r h' σ I H=> ?_;exact ⟨by rw [show r=true from H],IJ (I.dn.dn)⟩
end Go.Pt
namespace Go.Proofs.YtkgbogibfogjgaaGreatDoor.Ek
open Go Go.Wc Go.Pu Go.Ex Go.Laws Go.Proofs.YtkgbogibfogjgaaGreatDoor Go.Pt
theorem U0 (H:SpecOk Tryz.prog 109 (specOf sH)):SpecOk Tryz.prog 109 (Tx.gS ρ):=by
 refine ⟨H.1,fun args K w H0=> ?_⟩;unfold Tx.gS at H0;obtain ⟨cc0,rr0,rfl,H1⟩:=lO H0;obtain ⟨kq,qq,rfl,H2⟩:=lM H1;obtain ⟨rfl,H3⟩:=cV H2;obtain ⟨cc1,rr1,rfl,H4⟩:=lO H3;obtain ⟨gR,qq,rfl,H5⟩:=lM H4;obtain ⟨rfl,H6⟩:=cV H5;obtain ⟨bg,rr,rfl,H7⟩:=dJ H6;obtain ⟨rfl,H8⟩:=cV H7;unfold Tx.aV at H8
 try simp only [lY,List.append_nil] at H8 |-
 refine (H.2 _ _ w H8).mono ?_;rintro e w' ⟨v,rfl,hs,r0,rfl,hk⟩;exact ⟨_,rfl,hs,hk⟩
theorem U1 (H:SpecOk Tryz.prog 111 (specOf pV)):SpecOk Tryz.prog 111 (Tx.fR ρ):=by
 refine ⟨H.1,fun args K w H0=> ?_⟩;unfold Tx.fR at H0;obtain ⟨cc0,rr0,rfl,H1⟩:=lO H0;obtain ⟨J8,qq,rfl,H2⟩:=lM H1;obtain ⟨rfl,H3⟩:=cV H2;obtain ⟨rfl,H4⟩:=cV H3;unfold Tx.cA at H4
 try simp only [lY,List.append_nil] at H4 |-
 refine (H.2 _ _ w H4).mono ?_;rintro e w' ⟨v,rfl,hs,r0,rfl,hk⟩;exact ⟨_,rfl,hs,hk⟩
theorem adv (H:SpecOk Tryz.prog 84 (specOf yH)):SpecOk Tryz.prog 84 (Tx.ic ρ):=by
 refine ⟨H.1,fun args K w H0=> ?_⟩;unfold Tx.ic at H0;obtain ⟨gq,rr,rfl,H1⟩:=lN H0;obtain ⟨rfl,H2⟩:=cV H1;unfold Tx.cx at H2
 try simp only [lY,List.append_nil] at H2 |-
 refine (H.2 _ _ w H2).mono ?_;rintro e w' ⟨v,rfl,hs,r0,rfl,hk⟩;exact ⟨_,rfl,hs,hk⟩
theorem tx4 (H:SpecOk Tryz.prog 4 (specOf TM)):SpecOk Tryz.prog 4 (Tx.cJ ρ):=by
 refine ⟨H.1,fun args K w H0=> ?_⟩;unfold Tx.cJ at H0;obtain ⟨l0,rr,rfl,H1⟩:=lN H0;obtain ⟨bI,rr,rfl,H2⟩:=dJ H1;obtain ⟨cc2,rr2,rfl,H3⟩:=lO H2;obtain ⟨J9,qq,rfl,H4⟩:=dJ H3;obtain ⟨Ka,qq,rfl,H5⟩:=dJ H4;obtain ⟨Kc,qq,rfl,H6⟩:=lM H5;obtain ⟨rfl,H7⟩:=cV H6;obtain ⟨rfl,H8⟩:=cV H7;unfold Tx.aj at H8
 try simp only [lY,List.append_nil] at H8 |-
 refine (H.2 _ _ w H8).mono ?_;rintro e w' ⟨v,rfl,hs,r0,rfl,hk⟩;exact ⟨_,rfl,hs,hk⟩
theorem adw:SpecOk Tryz.prog 96 (Tx.cZ ρ)->SpecOk Tryz.prog 96 (specOf JZ):=by
 refine fun H=>ja H fun args h K ⟨XX,x,o,Q,I,HP,hQ⟩=> ?_;obtain ⟨x0,x1,x2,⟨⟩⟩:=x;replace I:=I.bV;obtain ⟨wv0,ww0,e0,J⟩:=dsE I;clear I; subst e0; have I:=J; clear J;obtain ⟨w0u,e0,⟨_,_,w0e⟩,J⟩:=unP I;clear I; subst e0; have I:=J; clear J;obtain rfl:w0u=lumpV .u8 32 x0.toList:=w0e;obtain ⟨wv1,ww1,e0,J⟩:=dsE I;clear I; subst e0; have I:=J; clear J;obtain ⟨w1u,e0,⟨_,_,w1e⟩,J⟩:=unP I;clear I; subst e0; have I:=J; clear J;obtain rfl:w1u=lumpV .u8 12 x1.toList:=w1e;obtain ⟨wv2,ww2,e0,J⟩:=dsE I;clear I; subst e0; have I:=J; clear J;obtain ⟨w2u,e0,⟨_,_,w2e⟩,J⟩:=unP I;clear I; subst e0; have I:=J; clear J;obtain rfl:w2u=[.int .u32 x2]:=w2e;obtain ⟨e0,J⟩:=dsN I;clear I; subst e0; have I:=J; clear J;unfold Tx.cZ
 try dsimp only [List.cons_append,List.nil_append,List.toList_toArray,vOf,aggT,List.headD_cons,tI,tA,tN,tS,tB,tT,tP,tM,tV,tG,cnd,sameKind]
 try simp only [List.append_assoc,List.cons_append,List.nil_append]
 refine rQ ?_
 try dsimp only [List.cons_append,List.nil_append,tI,tA,tN,tS,tB,tT,tP,tM,tV,tG,cnd,sameKind]
 try simp only [List.append_assoc,List.cons_append,List.nil_append]
 refine rQ ?_
 try dsimp only [List.cons_append,List.nil_append,tI,tA,tN,tS,tB,tT,tP,tM,tV,tG,cnd,sameKind]
 replace HP:aG x0 x1 x2 (fun r0=>Q (r0,()) () o):=HP;refine lB I HP fun r0 h' I HQ=> ?_;replace I:=mkN (D:=Ek.D) (X:=XX) I;replace I:=mkC (mkV (D:=Ek.D) (.vec .u8 64) r0 (lumpV .u8 64 r0.toList) rfl (fun _ _=>rfl) I);replace I:=I.bV;replace I:=I.bV;replace I:=Inv.addE I;exact hQ (r0,()) () _ HQ [_] h' I
theorem adz:SpecOk Tryz.prog 45 (Tx.fA ρ)->SpecOk Tryz.prog 45 (specOf J0):=by
 refine fun H=>ja H fun args h K ⟨XX,x,o,Q,I,HP,hQ⟩=> ?_;obtain ⟨x0,⟨⟩⟩:=x;replace I:=I.bV;obtain ⟨wv0,ww0,e0,J⟩:=dsE I;clear I; subst e0; have I:=J; clear J;obtain ⟨w0a,w0c,e0,w0h,J⟩:=unR I;clear I; subst e0; have I:=J; clear J;obtain ⟨e0,J⟩:=dsN I;clear I; subst e0; have I:=J; clear J;unfold Tx.fA
 try dsimp only [List.cons_append,List.nil_append,List.toList_toArray,vOf,aggT,List.headD_cons,tI,tA,tN,tS,tB,tT,tP,tM,tV,tG,cnd,sameKind]
 replace HP:cL x0 (fun r0=>Q (r0,()) () o):=HP;refine mo w0h I HP fun r0 ra0 rc0 h' I HQ=> ?_;replace I:=mkN (D:=Ek.D) (X:=XX) I;replace I:=I.cz;replace I:=mkC (mkO (D:=Ek.D) (.int .u8) I);replace I:=I.bV;replace I:=I.bV;replace I:=Inv.addE I;exact hQ (r0,()) () _ HQ [_] h' I
theorem adA:SpecOk Tryz.prog 64 (Tx.dU ρ)->SpecOk Tryz.prog 64 (specOf J1):=by
 refine fun H=>ja H fun args h K ⟨XX,x,o,Q,I,HP,hQ⟩=> ?_;obtain ⟨x0,x1,⟨⟩⟩:=x;obtain _ | σ:=o
 ·exact HP.elim
 replace I:=I.bV;obtain ⟨wv0,ww0,e0,J⟩:=dsE I;clear I; subst e0; have I:=J; clear J;obtain ⟨w0u,e0,⟨_,_,w0e⟩,J⟩:=unP I;clear I; subst e0; have I:=J; clear J;obtain rfl:w0u=[.pointer x0]:=w0e;obtain ⟨wv1,ww1,e0,J⟩:=dsE I;clear I; subst e0; have I:=J; clear J;obtain ⟨w1a,w1c,e0,J⟩:=W4 I;clear I; subst e0; have I:=J; clear J;replace I:=I.cz;obtain ⟨e0,J⟩:=dsN I;clear I; subst e0; have I:=J; clear J;replace I:=I.cz;replace I:=I.bV;replace I:=I.bV;unfold Tx.dU
 try dsimp only [List.cons_append,List.nil_append,List.toList_toArray,vOf,aggT,List.headD_cons,tI,tA,tN,tS,tB,tT,tP,tM,tV,tG,cnd,sameKind]
 replace HP:aP x0 x1 σ (fun r0 σ1=>Q (r0,()) () (some σ1)):=HP;refine mW I HP fun r0 h' σ' I HQ=> ?_;replace I:=mkN (D:=Ek.D) (X:=XX) I;replace I:=mkC (mkV (D:=Ek.D) (.vec .u8 32) r0 (lumpV .u8 32 r0.toList) rfl (fun _ _=>rfl) I);replace I:=I.cz;replace I:=I.bV;replace I:=Inv.addE I;exact hQ (r0,()) () (some σ') HQ [_] h' I
end Go.Proofs.YtkgbogibfogjgaaGreatDoor.Ek
