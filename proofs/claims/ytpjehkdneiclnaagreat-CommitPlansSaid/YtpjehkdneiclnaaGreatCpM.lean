import Derived.Test.YtpjehkdneiclnaaGreatCpC
import Derived.Test.YtpjehkdneiclnaaGreatCpE
import Derived.Test.YtpjehkdneiclnaaGreatCpJ
set_option linter.unusedVariables false
set_option linter.unusedSimpArgs false
set_option maxHeartbeats 4000000
set_option maxRecDepth 100000
namespace Go.Pt
open Go Go.Wc Go.Pu Go.Ex
open Go.Proofs.YtpjehkdneiclnaaGreat
open Go.Proofs.YtpjehkdneiclnaaGreat.Ek (ρ)
variable {h:Hp} {A:List At}
namespace aR
abbrev RT:=Int→Int→Bool→Hp→Prop
def kt (ρ:Ids) (A:List At) (Q':QT) (Q:RT):Prop:=
  ∀ (r0:Int) (r1:Int) (r2:Bool) (h':Hp),Inv h' (A)→Q' r0 r1 r2→Q r0 r1 r2 h'
end aR
theorem ou {s0:bE} {bA:Int} {eZ:Option Addr} {e8:Nat} {jZ:Nat} {Q':aR.QT} {Q:aR.RT} (I:Inv h (roS (rI .i64) eZ jZ e8 s0.cE::A)) (H:aR s0 bA Q')
    (k:aR.kt ρ A Q' Q):Tx.aR ρ ⟨eZ,jZ,e8⟩ bA h Q:=by
  obtain rfl:=kQ I
  unfold Tx.aR
  try simp only [dy]
  replace I:=zQ I
  replace I:=mkN (D:=Ek.D) (X:=(bigA (A))) I
  replace I:=mkC (mkV (D:=Ek.D) (.int .i64) bA ([.int .i64 bA]) rfl (fun _ _=>rfl) I)
  replace I:=I.aX
  replace I:=mkC (Inv.conv (b:=dsA Ek.D (bigA (A)) (.val (.st 0)) s0 (.agg ([.slice eZ s0.cE.length e8]).toArray)) I fun F M ⟨q1,q2,q3⟩=>⟨[.slice eZ s0.cE.length e8],rfl,q1,eZ,e8,rfl,q3⟩)
  replace I:=Inv.eH I
  replace I:=I.aX
  replace I:=I.aX
  replace I:=I.aP
  refine ⟨bigA (A),(s0,bA,()),none,(fun y z o=>Q' y.1 y.2.1 y.2.2.1),I,H,fun y z o HQ vs h' I=> ?_⟩
  obtain ⟨r0,r1,r2,⟨⟩⟩:=y
  replace I:=I.aP
  obtain ⟨FA,FB,e0,J⟩:=dsE I
  clear I; subst e0; have I:=J; clear J
  obtain ⟨BN,e0,⟨_,_,BO⟩,J⟩:=unP I
  clear I; subst e0; have I:=J; clear J
  obtain rfl:BN=[.int .i64 r0]:=BO
  obtain ⟨uv1,uw1,e0,J⟩:=dsE I
  clear I; subst e0; have I:=J; clear J
  obtain ⟨P8,e0,⟨_,_,P9⟩,J⟩:=unP I
  clear I; subst e0; have I:=J; clear J
  obtain rfl:P8=[.int .i64 r1]:=P9
  obtain ⟨uv2,uw2,e0,J⟩:=dsE I
  clear I; subst e0; have I:=J; clear J
  obtain ⟨u2u,e0,⟨_,_,u2e⟩,J⟩:=unP I
  clear I; subst e0; have I:=J; clear J
  obtain rfl:u2u=[.bool r2]:=u2e
  obtain ⟨e0,J⟩:=dsN I
  clear I; subst e0; have I:=J; clear J
  replace I:=I.aP
  replace I:=I.bN
  replace I:=I.aX
  replace I:=I.bN
  replace I:=Inv.bigU (F:=[]) I
  exact ⟨_,_,_,rfl,k _ _ _ _ I HQ⟩
namespace aY
abbrev RT:=Sl→Hp→Prop
def kt (ρ:Ids) (A:List At) (Q':QT) (Q:RT):Prop:=
  ∀ (r0:List Int) (tg:Option Addr) (th:Nat) (h':Hp),Inv h' (ownS (rI .i64) tg r0.length th r0::A)→Q' r0→Q ⟨tg,r0.length,th⟩ h'
end aY
theorem pQ {s0:bE} {gI:Int} {eZ:Option Addr} {e8:Nat} {jZ:Nat} {Q':aY.QT} {Q:aY.RT} (I:Inv h (roS (rI .i64) eZ jZ e8 s0.cE::A)) (H:aY s0 gI Q')
    (k:aY.kt ρ A Q' Q):Tx.aY ρ ⟨eZ,jZ,e8⟩ gI h Q:=by
  obtain rfl:=kQ I
  unfold Tx.aY
  try simp only [dy]
  replace I:=zQ I
  replace I:=mkN (D:=Ek.D) (X:=(bigA (A))) I
  replace I:=mkC (mkV (D:=Ek.D) (.int .i64) gI ([.int .i64 gI]) rfl (fun _ _=>rfl) I)
  replace I:=I.aX
  replace I:=mkC (Inv.conv (b:=dsA Ek.D (bigA (A)) (.val (.st 0)) s0 (.agg ([.slice eZ s0.cE.length e8]).toArray)) I fun F M ⟨q1,q2,q3⟩=>⟨[.slice eZ s0.cE.length e8],rfl,q1,eZ,e8,rfl,q3⟩)
  replace I:=Inv.eH I
  replace I:=I.aX
  replace I:=I.aX
  replace I:=I.aP
  refine ⟨bigA (A),(s0,gI,()),none,(fun y z o=>Q' y.1),I,H,fun y z o HQ vs h' I=> ?_⟩
  obtain ⟨r0,⟨⟩⟩:=y
  replace I:=I.aP
  obtain ⟨FA,FB,e0,J⟩:=dsE I
  clear I; subst e0; have I:=J; clear J
  obtain ⟨XD,XE,e0,J⟩:=unO I
  clear I; subst e0; have I:=J; clear J
  replace I:=I.aX
  obtain ⟨e0,J⟩:=dsN I
  clear I; subst e0; have I:=J; clear J
  replace I:=I.cI
  replace I:=I.bN
  replace I:=I.aP
  replace I:=I.bN
  replace I:=Inv.bigU (F:=[_]) I
  exact ⟨_,rfl,k _ _ _ _ I HQ⟩
namespace bU
structure W where
  BP:Addr
  BQ:Option Addr
  BR:Nat
  ow:Option Nat
  uQ:Option (Array MapEntry × Nat)
  uR:Option Addr
  uS:Nat
  zT:Option Addr
  zU:Nat
def w0:W:=⟨⟨0,0,none⟩,none,0,none,none,none,0,none,0⟩
abbrev RT:=Sl→Hp→Prop
def kt (ρ:Ids) (cC:At) (A:List At) (Q':QT) (Q:RT):Prop:=
  ∀ (r0:List Int) (tg:Option Addr) (th:Nat) (h':Hp),Inv h' (ownS (rI .i64) tg r0.length th r0::cC::A)→Q' r0→Q ⟨tg,r0.length,th⟩ h'
def I1 (ρ:Ids) (cC:At) (c:V) (w:W) (A:List At) (h:Hp):Prop:=
  Rd (rI .i64) cC w.uR c.v11.length w.uS c.v11∧Inv h (cC::blk w.BP (ρ.T 11) [.one (.slice w.BQ c.s2.cE.length w.BR)]::roS (rI .i64) w.BQ c.s2.cE.length w.BR c.s2.cE::mapX (kI .i64) rB false w.ow w.uQ c.eS::A)
abbrev Y1:=Addr→Option Nat→Sl→Int→Int→Hp→Prop
abbrev T1 (cC:At) (S:Y1) (c:V) (w:W) (h:Hp):Prop:=S w.BP w.ow ⟨w.uR,c.v11.length,w.uS⟩ c.v12 c.gF h
def Kj (ρ:Ids) (cC:At) (A:List At) (S':V→Prop) (S:Y1):Prop:= ∀ (c:V) (w:W) (h:Hp),I1 ρ cC c w A h→S' c→T1 cC S c w h
def I2 (ρ:Ids) (cC:At) (c:V) (w:W) (A:List At) (h:Hp):Prop:=
  Rd (rI .i64) cC w.uR c.v11.length w.uS c.v11∧Inv h (cC::blk w.BP (ρ.T 11) [.one (.slice w.BQ c.s2.cE.length w.BR)]::roS (rI .i64) w.BQ c.s2.cE.length w.BR c.s2.cE::mapX (kI .i64) rB false w.ow w.uQ c.eS::ownS (rI .i64) w.zT c.fF.length w.zU c.fF::A)
abbrev Y2:=Addr→Option Nat→Sl→Int→Int→Sl→Int→Int→Hp→Prop
abbrev T2 (cC:At) (S:Y2) (c:V) (w:W) (h:Hp):Prop:=S w.BP w.ow ⟨w.uR,c.v11.length,w.uS⟩ c.v12 c.gF ⟨w.zT,c.fF.length,w.zU⟩ c.v20 c.v21 h
def Rq (ρ:Ids) (cC:At) (A:List At) (S':V→Prop) (S:Y2):Prop:= ∀ (c:V) (w:W) (h:Hp),I2 ρ cC c w A h→S' c→T2 cC S c w h
def I3 (ρ:Ids) (cC:At) (c:V) (w:W) (A:List At) (h:Hp):Prop:=
  Rd (rI .i64) cC w.uR c.v11.length w.uS c.v11∧Inv h (cC::blk w.BP (ρ.T 11) [.one (.slice w.BQ c.s2.cE.length w.BR)]::roS (rI .i64) w.BQ c.s2.cE.length w.BR c.s2.cE::mapX (kI .i64) rB false w.ow w.uQ c.eS::ownS (rI .i64) w.zT c.fF.length w.zU c.fF::A)
variable {cC:At} {c:V} {w:W} {Q':QT} {Q:RT} {S1' S2':V→Prop} {S1:Y1} {S2:Y2}
theorem Iu (I:I3 ρ cC c w A h) (H:K3 S1' S2' Q' c) (yJ:Kj ρ cC A S1' S1) (Ni:Rq ρ cC A S2' S2) (k:kt ρ cC A Q' Q):Tx.iN ρ S1 S2 Q w.BP w.ow ⟨w.uR,c.v11.length,w.uS⟩ c.v12 c.gF ⟨w.zT,c.fF.length,w.zU⟩ c.v20 c.v21 h:=by
  obtain ⟨oy,I⟩:=I
  unfold Tx.iN
  unfold K3 at H
  replace I:=I.aP.dupR
  replace I:=I.aX.bN
  replace I:=I.dR.dR.aP.dR.dR
  exact Ni {c with v21:=(IntKind.wrap .i64 (c.v21+(1:Int)))} w _ ⟨oy,I⟩ H
theorem Iv (I:I2 ρ cC c w A h) (H:B2 S1' S2' Q' c) (yJ:Kj ρ cC A S1' S1) (Ni:Rq ρ cC A S2' S2) (k:kt ρ cC A Q' Q):T2 cC (Tx.iM ρ S1 S2 Q) c w h:=by
  obtain ⟨oy,I⟩:=I
  unfold T2 Tx.iM
  unfold B2 at H
  refine pR H (fun hb H=> ?_) (fun hb H=> ?_)
  · refine Dh iT I.dR (eE H) fun amX sW ahz ahA VC H => ?_
    obtain ⟨ahB,H⟩:=H
    refine eR VC ?_
    refine pR H (fun hb H=> ?_) (fun hb H=> ?_)
    · replace I := I.repB true
      replace I:=I.dR.aX
      refine Vz (Kx:=(kI .i64)) (key:=sW) (x:=true) I rfl H fun h aeA Pq I H=> ?_
      replace I:=I.cI.dupR
      replace I:=I.aX.bN
      replace I:=I.dR.aP.aP.dR.dR
      exact Iu (c:= {c with eS:=Pq}) (w:= {w with uQ:=aeA}) ⟨oy,I⟩ H yJ Ni k
    · replace I := I.aP.dupR
      replace I:=I.aX.bN
      replace I:=I.dR.dR.aP.dR.dR
      exact Iu (c:=c) (w:=w) ⟨oy,I⟩ H yJ Ni k
  · replace I := I.aP.dupR
    replace I:=I.aX.bN
    replace I:=I.dR.bN
    replace I:=I.cI.aX.cI.cI
    exact yJ {c with gF:=(IntKind.wrap .i64 (c.gF+(1:Int)))} w _ ⟨oy,I⟩ H
theorem Iw (I:I2 ρ cC c w A h) (H:L2 S1' Q' c) (yJ:Kj ρ cC A S1' S1) (k:kt ρ cC A Q' Q):T2 cC (Tx.iU ρ S1 Q) c w h:=by
  refine Lf.ind H (fun v=> ∀ (w:W) (h:Hp),I2 ρ cC v w A h→T2 cC (Tx.iU ρ S1 Q) v w h) ?_ w h I
  rintro c S hS HB w h I
  refine Tx.qI _ _ _ _ _ _ _ _ _ _ _ _ ?_
  try simp only [dy]
  exact Iv (c:=c) (w:=w) I HB yJ (fun c w h I H=>hS _ H w h I) k
theorem Qa (I:I1 ρ cC c w A h) (H:B1 S1' Q' c) (yJ:Kj ρ cC A S1' S1) (k:kt ρ cC A Q' Q):T1 cC (Tx.iL ρ S1 Q) c w h:=by
  obtain ⟨oy,I⟩:=I
  unfold T1 Tx.iL
  unfold B1 at H
  refine pR H (fun hb H=> ?_) (fun hb H=> ?_)
  · refine Dh oy I (eE H) fun EP zx ahC ahD VD H => ?_
    obtain ⟨ahE,H⟩:=H
    refine eR VD ?_
    refine kX (I.aX.cell 0 0 rfl) ?_
    replace I:=I.aP.dupR
    try simp only [dy]
    refine pQ (s0:=c.s2) (gI:=zx) I H fun mO aeB aeC h I H=> ?_
    replace I:=I.aX.dupR
    replace I:=I.aX.bN
    replace I:=I.aX.dR.aP.dR.dR
    exact Iw (c:= {c with fF:=mO,v20:=(mO.length:Int),v21:=(0:Int)}) (w:= {w with zT:=aeB,zU:=aeC}) ⟨oy,I⟩ H yJ k
  · unfold Tx.fe
    refine jy [.one (.map w.ow)] rfl I fun amY h I=> ?_
    replace I:=I.dR.aX
    refine LV (k:=93) (by decide) I H fun Pr aeD aeE h I H=> ?_
    replace I:=I.aX.bN
    replace I:=I.aX.bN
    replace I:=I.aP.bN
    replace I:=I.aP.bN
    replace I:=I.aX.aX
    exact k Pr aeD aeE _ I H
theorem Qb (I:I1 ρ cC c w A h) (H:L1 Q' c) (k:kt ρ cC A Q' Q):T1 cC (Tx.iV ρ Q) c w h:=by
  refine Lf.ind H (fun v=> ∀ (w:W) (h:Hp),I1 ρ cC v w A h→T1 cC (Tx.iV ρ Q) v w h) ?_ w h I
  rintro c S hS HB w h I
  refine Tx.qJ _ _ _ _ _ _ _ _ ?_
  try simp only [dy]
  exact Qa (c:=c) (w:=w) I HB (fun c w h I H=>hS _ H w h I) k
end bU
theorem pz {s0:bE} {eo:List Int} {eZ:Option Addr} {e8:Nat} {jZ:Nat} {uT:Option Addr} {uU:Nat} {zV:Nat} {cC:At} {Q':bU.QT} {Q:bU.RT} (wT:Rd (rI .i64) cC uT zV uU eo) (I:Inv h (roS (rI .i64) eZ jZ e8 s0.cE::cC::A)) (H:bU s0 eo Q')
    (k:bU.kt ρ cC A Q' Q):Tx.bU ρ ⟨eZ,jZ,e8⟩ ⟨uT,zV,uU⟩ h Q:=by
  obtain rfl:=kQ I
  obtain rfl:=fD wT I.aX
  unfold Tx.bU
  unfold bU at H
  refine jy [.one (.slice eZ s0.cE.length e8)] rfl I fun mS h I=> ?_
  refine Ix (kI .i64) rB false I fun m_5 h o_6 I=> ?_
  replace I:=I.aP.dupR
  replace I:=I.aX.bN
  replace I:=I.aX.aX.aP.cI
  exact bU.Qb (c:= {bU.v0 with s2:=s0,eS:=(some []:Option (List (Int × Bool))),v11:=eo,v12:=(eo.length:Int),gF:=(0:Int)}) (w:= {bU.w0 with BP:=mS,BQ:=eZ,BR:=e8,ow:=(some m_5),uQ:=o_6,uR:=uT,uS:=uU}) ⟨wT,I⟩ H k
namespace bW
abbrev RT:=Sl→Hp→Prop
def kt (ρ:Ids) (jz:At) (A:List At) (Q':QT) (Q:RT):Prop:=
  ∀ (r0:List Int) (tg:Option Addr) (th:Nat) (h':Hp),Inv h' (ownS (rI .i64) tg r0.length th r0::jz::A)→Q' r0→Q ⟨tg,r0.length,th⟩ h'
end bW
theorem uV {gh:List bf} {uW:Option Addr} {uX:Nat} {uY:Nat} {jz:At} {Q':bW.QT} {Q:bW.RT} (sH:Rd eA jz uW uY uX gh) (I:Inv h (jz::A)) (H:bW gh Q')
    (k:bW.kt ρ jz A Q' Q):Tx.bW ρ ⟨uW,uY,uX⟩ h Q:=by
  obtain rfl:=fD sH I
  unfold Tx.bW
  try simp only [dy]
  replace I:=uZ I
  replace I:=mkN (D:=Ek.D) (X:=(bigA (jz::A))) I
  replace I:=mkC (mkR (D:=Ek.D) (.st 5) sH (by simp) I)
  replace I:=Inv.eH I
  replace I:=I.aX
  replace I:=I.aX
  replace I:=I.aP
  refine ⟨bigA (jz::A),(gh,()),none,(fun y z o=>Q' y.1),I,H,fun y z o HQ vs h' I=> ?_⟩
  obtain ⟨r0,⟨⟩⟩:=y
  replace I:=I.aP
  obtain ⟨FA,FB,e0,J⟩:=dsE I
  clear I; subst e0; have I:=J; clear J
  obtain ⟨XD,XE,e0,J⟩:=unO I
  clear I; subst e0; have I:=J; clear J
  replace I:=I.aX
  obtain ⟨e0,J⟩:=dsN I
  clear I; subst e0; have I:=J; clear J
  replace I:=I.cI
  replace I:=I.bN
  replace I:=I.aP
  replace I:=I.bN
  replace I:=Inv.bigU (F:=[_]) I
  exact ⟨_,rfl,k _ _ _ _ I HQ⟩
theorem gi {ρ:Ids} {h:Hp} {A:List At} {s0:List aF} {a:Option Addr} {nl c:Nat} {X:At} {Q':List aF→Prop} {Q:Sl→Hp→Prop} (hX:Rd er X a nl c s0) (I:Inv h (X::A)) (H:cz s0 Q')
    (k: ∀ (r:List aF) (ra:Option Addr) (rc:Nat) (h':Hp),Inv h' (ownS er ra r.length rc r::X::A)→Q' r→Q ⟨ra,r.length,rc⟩ h'):Tx.cz ρ ⟨a,nl,c⟩ h Q:=by
  unfold Tx.cz
  exact Di hX I (by decide) rfl (by decide) (by decide) H k
theorem wq {jJ:List aO} {bA:Int} {zW:Option Addr} {zX:Nat} {zY:Nat} {oz:At} {Q':(List aF)→Bool→Prop} {Q:Sl→Bool→Hp→Prop} (wU:Rd dY oz zW zY zX jJ) (I:Inv h (oz::A)) (H:eX jJ bA Q')
    (k: ∀ (r0:List aF) (tg:Option Addr) (th:Nat) (r1:Bool) (h':Hp),Inv h' (ownS er tg r0.length th r0::oz::A)→Q' r0 r1→Q ⟨tg,r0.length,th⟩ r1 h'):Tx.eX ρ ⟨zW,zY,zX⟩ bA h Q:=by
  obtain rfl:=fD wU I
  unfold Tx.eX
  try simp only [dy]
  replace I:=uZ I
  replace I:=mkN (D:=Ek.D) (X:=(bigA (oz::A))) I
  replace I:=mkC (mkV (D:=Ek.D) (.int .i64) bA ([.int .i64 bA]) rfl (fun _ _=>rfl) I)
  replace I:=mkC (mkR (D:=Ek.D) (.st 7) wU (by simp) I)
  replace I:=Inv.eH I
  replace I:=I.aX
  replace I:=I.aX
  replace I:=I.aP
  refine ⟨bigA (oz::A),(jJ,bA,()),none,(fun y z o=>Q' y.1 y.2.1),I,H,fun y z o HQ vs h' I=> ?_⟩
  obtain ⟨r0,r1,⟨⟩⟩:=y
  replace I:=I.aP
  obtain ⟨FA,FB,e0,J⟩:=dsE I
  clear I; subst e0; have I:=J; clear J
  obtain ⟨XD,XE,e0,J⟩:=unO I
  clear I; subst e0; have I:=J; clear J
  replace I:=I.aX
  obtain ⟨uv1,uw1,e0,J⟩:=dsE I
  clear I; subst e0; have I:=J; clear J
  obtain ⟨P8,e0,⟨_,_,P9⟩,J⟩:=unP I
  clear I; subst e0; have I:=J; clear J
  obtain rfl:P8=[.bool r1]:=P9
  obtain ⟨e0,J⟩:=dsN I
  clear I; subst e0; have I:=J; clear J
  replace I:=I.cI
  replace I:=I.bN
  replace I:=I.aP
  replace I:=I.bN
  replace I:=Inv.bigU (F:=[_]) I
  exact ⟨_,_,rfl,k _ _ _ _ _ I HQ⟩
theorem rO {r0:aF} {Q':Bool→Prop} {Q:Bool→Hp→Prop} (I:Inv h (A)) (H:dV r0 Q')
    (k: ∀ (r0:Bool) (h':Hp),Inv h' (A)→Q' r0→Q r0 h'):Tx.dV ρ r0.Place r0.bO r0.bD.toList h Q:=by
  unfold Tx.dV
  try simp only [dy]
  replace I:=uZ I
  replace I:=mkN (D:=Ek.D) (X:=(bigA (A))) I
  replace I:=mkC (mkV (D:=Ek.D) (.st 6) r0 (([.int .i64 r0.Place, .int .u32 r0.bO]:List Value)++(lumpV .u8 32 r0.bD.toList:List Value)) rfl (fun _ _=>rfl) I)
  replace I:=Inv.eH I
  replace I:=I.aX
  replace I:=I.aX
  replace I:=I.aP
  refine ⟨bigA (A),(r0,()),none,(fun y z o=>Q' y.1),I,H,fun y z o HQ vs h' I=> ?_⟩
  obtain ⟨r0,⟨⟩⟩:=y
  replace I:=I.aP
  obtain ⟨FA,FB,e0,J⟩:=dsE I
  clear I; subst e0; have I:=J; clear J
  obtain ⟨BN,e0,⟨_,_,BO⟩,J⟩:=unP I
  clear I; subst e0; have I:=J; clear J
  obtain rfl:BN=[.bool r0]:=BO
  obtain ⟨e0,J⟩:=dsN I
  clear I; subst e0; have I:=J; clear J
  replace I:=I.aP
  replace I:=I.bN
  replace I:=I.aX
  replace I:=I.bN
  replace I:=Inv.bigU (F:=[]) I
  exact ⟨_,rfl,k _ _ I HQ⟩
namespace bJ
abbrev RT:=Bool→Hp→Prop
def kt (ρ:Ids) (kG:At) (iW:At) (A:List At) (Q':QT) (Q:RT):Prop:=
  ∀ (r0:Bool) (h':Hp),Inv h' (kG::iW::A)→Q' r0→Q r0 h'
end bJ
theorem ya {s0:bE} {eO:List aO} {dN:List bf} {eZ:Option Addr} {e8:Nat} {jZ:Nat} {zZ:Option Addr} {z6:Nat} {z7:Nat} {kG:At} {u0:Option Addr} {u5:Nat} {u6:Nat} {iW:At} {Q':bJ.QT} {Q:bJ.RT} (wV:Rd dY kG zZ z7 z6 eO) (sI:Rd eA iW u0 u6 u5 dN) (I:Inv h (roS (rI .i64) eZ jZ e8 s0.cE::kG::iW::A)) (H:bJ s0 eO dN Q')
    (k:bJ.kt ρ kG iW A Q' Q):Tx.bJ ρ ⟨eZ,jZ,e8⟩ ⟨zZ,z7,z6⟩ ⟨u0,u6,u5⟩ h Q:=by
  obtain rfl:=kQ I
  obtain rfl:=fD wV I.aX
  obtain rfl:=fD sI I.aP
  unfold Tx.bJ
  try simp only [dy]
  replace I:=zQ I
  replace I:=mkN (D:=Ek.D) (X:=(bigA (kG::iW::A))) I
  replace I:=mkC (mkR (D:=Ek.D) (.st 5) sI (by simp) I)
  replace I:=mkC (mkR (D:=Ek.D) (.st 7) wV (by simp) I)
  replace I:=I.aX
  replace I:=mkC (Inv.conv (b:=dsA Ek.D (bigA (kG::iW::A)) (.val (.st 0)) s0 (.agg ([.slice eZ s0.cE.length e8]).toArray)) I fun F M ⟨q1,q2,q3⟩=>⟨[.slice eZ s0.cE.length e8],rfl,q1,eZ,e8,rfl,q3⟩)
  replace I:=Inv.eH I
  replace I:=I.aX
  replace I:=I.aX
  replace I:=I.aP
  refine ⟨bigA (kG::iW::A),(s0,eO,dN,()),none,(fun y z o=>Q' y.1),I,H,fun y z o HQ vs h' I=> ?_⟩
  obtain ⟨r0,⟨⟩⟩:=y
  replace I:=I.aP
  obtain ⟨FA,FB,e0,J⟩:=dsE I
  clear I; subst e0; have I:=J; clear J
  obtain ⟨BN,e0,⟨_,_,BO⟩,J⟩:=unP I
  clear I; subst e0; have I:=J; clear J
  obtain rfl:BN=[.bool r0]:=BO
  obtain ⟨e0,J⟩:=dsN I
  clear I; subst e0; have I:=J; clear J
  replace I:=I.aP
  replace I:=I.bN
  replace I:=I.aX
  replace I:=I.bN
  replace I:=Inv.bigU (F:=[]) I
  exact ⟨_,rfl,k _ _ I HQ⟩
namespace aS
abbrev RT:=Int→Hp→Prop
def kt (ρ:Ids) (A:List At) (Q':QT) (Q:RT):Prop:=
  ∀ (r0:Int) (h':Hp),Inv h' (A)→Q' r0→Q r0 h'
end aS
theorem kY {s0:bE} {bA:Int} {dg:Int} {eZ:Option Addr} {e8:Nat} {jZ:Nat} {Q':aS.QT} {Q:aS.RT} (I:Inv h (roS (rI .i64) eZ jZ e8 s0.cE::A)) (H:aS s0 bA dg Q')
    (k:aS.kt ρ A Q' Q):Tx.aS ρ ⟨eZ,jZ,e8⟩ bA dg h Q:=by
  obtain rfl:=kQ I
  unfold Tx.aS
  try simp only [dy]
  replace I:=zQ I
  replace I:=mkN (D:=Ek.D) (X:=(bigA (A))) I
  replace I:=mkC (mkV (D:=Ek.D) (.int .i64) dg ([.int .i64 dg]) rfl (fun _ _=>rfl) I)
  replace I:=mkC (mkV (D:=Ek.D) (.int .i64) bA ([.int .i64 bA]) rfl (fun _ _=>rfl) I)
  replace I:=I.aX
  replace I:=mkC (Inv.conv (b:=dsA Ek.D (bigA (A)) (.val (.st 0)) s0 (.agg ([.slice eZ s0.cE.length e8]).toArray)) I fun F M ⟨q1,q2,q3⟩=>⟨[.slice eZ s0.cE.length e8],rfl,q1,eZ,e8,rfl,q3⟩)
  replace I:=Inv.eH I
  replace I:=I.aX
  replace I:=I.aX
  replace I:=I.aP
  refine ⟨bigA (A),(s0,bA,dg,()),none,(fun y z o=>Q' y.1),I,H,fun y z o HQ vs h' I=> ?_⟩
  obtain ⟨r0,⟨⟩⟩:=y
  replace I:=I.aP
  obtain ⟨FA,FB,e0,J⟩:=dsE I
  clear I; subst e0; have I:=J; clear J
  obtain ⟨BN,e0,⟨_,_,BO⟩,J⟩:=unP I
  clear I; subst e0; have I:=J; clear J
  obtain rfl:BN=[.int .i64 r0]:=BO
  obtain ⟨e0,J⟩:=dsN I
  clear I; subst e0; have I:=J; clear J
  replace I:=I.aP
  replace I:=I.bN
  replace I:=I.aX
  replace I:=I.bN
  replace I:=Inv.bigU (F:=[]) I
  exact ⟨_,rfl,k _ _ I HQ⟩
namespace aT
abbrev RT:=List Int→Hp→Prop
def kt (ρ:Ids) (A:List At) (Q':QT) (Q:RT):Prop:=
  ∀ (r0:Vector Int 16) (h':Hp),Inv h' (A)→Q' r0→Q r0.toList h'
end aT
theorem u7 {iK:Vector Int 32} {fS:Vector Int 12} {bM:Int} {Q':aT.QT} {Q:aT.RT} (I:Inv h (A)) (H:aT iK fS bM Q')
    (k:aT.kt ρ A Q' Q):Tx.aT ρ iK.toList fS.toList bM h Q:=by
  unfold Tx.aT
  try simp only [dy]
  replace I:=uZ I
  replace I:=mkN (D:=Ek.D) (X:=(bigA (A))) I
  replace I:=mkC (mkV (D:=Ek.D) (.int .u32) bM ([.int .u32 bM]) rfl (fun _ _=>rfl) I)
  replace I:=mkC (mkV (D:=Ek.D) (.vec .u8 12) fS (lumpV .u8 12 fS.toList) rfl (fun _ _=>rfl) I)
  replace I:=mkC (mkV (D:=Ek.D) (.vec .u8 32) iK (lumpV .u8 32 iK.toList) rfl (fun _ _=>rfl) I)
  replace I:=Inv.eH I
  replace I:=I.aX
  replace I:=I.aX
  replace I:=I.aP
  refine ⟨bigA (A),(iK,fS,bM,()),none,(fun y z o=>Q' y.1),I,H,fun y z o HQ vs h' I=> ?_⟩
  obtain ⟨r0,⟨⟩⟩:=y
  replace I:=I.aP
  obtain ⟨FA,FB,e0,J⟩:=dsE I
  clear I; subst e0; have I:=J; clear J
  obtain ⟨BN,e0,⟨_,_,BO⟩,J⟩:=unP I
  clear I; subst e0; have I:=J; clear J
  obtain rfl:BN=lumpV .u32 16 r0.toList:=BO
  obtain ⟨e0,J⟩:=dsN I
  clear I; subst e0; have I:=J; clear J
  replace I:=I.aP
  replace I:=I.bN
  replace I:=I.aX
  replace I:=I.bN
  replace I:=Inv.bigU (F:=[]) I
  exact ⟨_,rfl,k _ _ I HQ⟩
theorem mX {w0:Vector Int 4} {Q':(Vector Int 4)→Prop} {Q:List Int→Hp→Prop} (I:Inv h (A)) (H:dG w0 Q')
    (k: ∀ (r0:Vector Int 4) (h':Hp),Inv h' (A)→Q' r0→Q r0.toList h'):Tx.dG ρ w0.toList h Q:=by
  unfold Tx.dG
  try simp only [dy]
  replace I:=uZ I
  replace I:=mkN (D:=Ek.D) (X:=(bigA (A))) I
  replace I:=mkC (mkV (D:=Ek.D) (.vec .u32 4) w0 (lumpV .u32 4 w0.toList) rfl (fun _ _=>rfl) I)
  replace I:=Inv.eH I
  replace I:=I.aX
  replace I:=I.aX
  replace I:=I.aP
  refine ⟨bigA (A),(w0,()),none,(fun y z o=>Q' y.1),I,H,fun y z o HQ vs h' I=> ?_⟩
  obtain ⟨r0,⟨⟩⟩:=y
  replace I:=I.aP
  obtain ⟨FA,FB,e0,J⟩:=dsE I
  clear I; subst e0; have I:=J; clear J
  obtain ⟨BN,e0,⟨_,_,BO⟩,J⟩:=unP I
  clear I; subst e0; have I:=J; clear J
  obtain rfl:BN=lumpV .u32 4 r0.toList:=BO
  obtain ⟨e0,J⟩:=dsN I
  clear I; subst e0; have I:=J; clear J
  replace I:=I.aP
  replace I:=I.bN
  replace I:=I.aX
  replace I:=I.bN
  replace I:=Inv.bigU (F:=[]) I
  exact ⟨_,rfl,k _ _ I HQ⟩
namespace bz
structure W where
  BS:Addr
def w0:W:=⟨⟨0,0,none⟩⟩
abbrev RT:=Hp→Prop
def kt (ρ:Ids) (j0:Addr) (A:List At) (Q':QT) (Q:RT):Prop:=
  ∀ (VE:Vector Int 16) (h':Hp),Inv h' (blk j0 (ρ.T 24) [.vec .u32 16 VE]::A)→Q' VE→Q h'
def I1 (ρ:Ids) (j0:Addr) (c:V) (w:W) (A:List At) (h:Hp):Prop:=
  Inv h (blk j0 (ρ.T 24) [.vec .u32 16 c.v4]::blk w.BS (ρ.T 25) [.vec .u32 4 c.q9]::A)
def I2 (ρ:Ids) (j0:Addr) (c:V) (w:W) (A:List At) (h:Hp):Prop:=
  Inv h (blk j0 (ρ.T 24) [.vec .u32 16 c.v4]::A)
def I3 (ρ:Ids) (j0:Addr) (c:V) (w:W) (A:List At) (h:Hp):Prop:=
  Inv h (blk j0 (ρ.T 24) [.vec .u32 16 c.v4]::blk w.BS (ρ.T 25) [.vec .u32 4 c.q9]::A)
variable {j0:Addr} {c:V} {w:W} {Q':QT} {Q:RT}
theorem BT (I:I1 ρ j0 c w A h) (H:K1 Q' c) (k:kt ρ j0 A Q' Q):Tx.iD ρ Q c.a0 c.b1 c.c2 c.d3 j0 w.BS h:=by
  unfold I1 at I
  unfold Tx.iD
  unfold K1 at H
  refine jm I.aX (j:=0) (off:=0) rfl (eE H) fun am1 oe ahF ahG VF H=> ?_
  obtain ⟨ahH,H⟩:=H
  refine eR VF ?_
  refine jm I.aX (j:=0) (off:=0) rfl (eE H) fun am2 wm VG VH VI H=> ?_
  obtain ⟨VJ,H⟩:=H
  refine eR VI ?_
  refine jm I.aX (j:=0) (off:=0) rfl (eE H) fun am3 uB Nj Nk VK H=> ?_
  obtain ⟨Nl,H⟩:=H
  refine eR VK ?_
  refine jm I.aX (j:=0) (off:=0) rfl (eE H) fun am4 zy Iy Iz VM H=> ?_
  obtain ⟨IA,H⟩:=H
  refine eR VM ?_
  refine jm I (j:=0) (off:=0) rfl (eE H) fun am5 xQ VN VO ahI H=> ?_
  obtain ⟨ahJ,H⟩:=H
  refine rQ (I) (j:=0) (off:=0) rfl VN VO fun h I=> ?_
  refine ⟨(jq I.aX (j:=0) (off:=0) rfl Iy Iz IA), ?_⟩
  refine ⟨(jq I.aX (j:=0) (off:=0) rfl Nj Nk Nl), ?_⟩
  refine ⟨(jq I.aX (j:=0) (off:=0) rfl VG VH VJ), ?_⟩
  refine jm I (j:=0) (off:=0) rfl (eE H) fun am6 Py VP VQ ahK H=> ?_
  obtain ⟨ahL,H⟩:=H
  refine rQ (I) (j:=0) (off:=0) rfl VP VQ fun h I=> ?_
  refine ⟨(jq I.aX (j:=0) (off:=0) rfl Iy Iz IA), ?_⟩
  refine ⟨(jq I.aX (j:=0) (off:=0) rfl Nj Nk Nl), ?_⟩
  refine jm I (j:=0) (off:=0) rfl (eE H) fun am7 adF VS VT ahM H=> ?_
  obtain ⟨ahN,H⟩:=H
  refine rQ (I) (j:=0) (off:=0) rfl VS VT fun h I=> ?_
  refine ⟨(jq I.aX (j:=0) (off:=0) rfl Iy Iz IA), ?_⟩
  refine jm I (j:=0) (off:=0) rfl (eE H) fun am8 BA VU VV ahO H=> ?_
  obtain ⟨ahP,H⟩:=H
  refine rQ (I) (j:=0) (off:=0) rfl VU VV fun h I=> ?_
  replace I:=I.aX.bN
  exact k ((((c.v4.setIfInBounds (Int.toNat c.a0) oe).setIfInBounds (Int.toNat c.b1) wm).setIfInBounds (Int.toNat c.c2) uB).setIfInBounds (Int.toNat c.d3) zy) _ I H
theorem Iu (I:I3 ρ j0 c w A h) (H:K3 Q' c) (k:kt ρ j0 A Q' Q):Tx.iE ρ Q c.a0 c.b1 c.c2 c.d3 j0 w.BS c.v23.toList h:=by
  unfold I3 at I
  unfold Tx.iE
  unfold K3 at H
  try simp only [dy]
  refine lR I.aX 0 1 0 [.vec .u32 4 c.v23] rfl rfl rfl (by first | exact gq rfl | exact dD (by simp [segs,Seg.cells,allOne,dZ,dn,Value.oneCell'])) fun h (I:Inv h (blk w.BS (ρ.T 25) [.vec .u32 4 c.v23]::_))=> ?_
  replace I:=I.aX
  exact BT (c:= {c with q9:=c.v23}) (w:=w) I H k
theorem LW (I:I2 ρ j0 c w A h) (H:K2 Q' c) (k:kt ρ j0 A Q' Q):Tx.j3 ρ Q c.a0 c.b1 c.c2 c.d3 j0 c.v23.toList h:=by
  unfold I2 at I
  unfold Tx.j3
  unfold K2 at H
  try simp only [dy]
  refine jy [.vec .u32 4 (Vector.replicate 4 (0:Int))] rfl I fun aeF h I=> ?_
  replace I:=I.aX
  try simp only [dy]
  exact Iu (c:= {c with q9:=(Vector.replicate 4 (0:Int))}) (w:= {w with BS:=aeF}) I H k
end bz
theorem mY {a0:Int} {b1:Int} {c2:Int} {d3:Int} {v4:Vector Int 16} {j0:Addr} {Q':bz.QT} {Q:bz.RT} (I:Inv h (blk j0 (ρ.T 24) [.vec .u32 16 v4]::A)) (H:bz a0 b1 c2 d3 v4 Q')
    (k:bz.kt ρ j0 A Q' Q):Tx.bz ρ a0 b1 c2 d3 j0 h Q:=by
  unfold Tx.bz
  unfold bz at H
  refine jm I (j:=0) (off:=0) rfl (eE H) fun q_2 yI aeG aeH aeI H=> ?_
  obtain ⟨aeJ,H⟩:=H
  refine eR aeI ?_
  refine jm I (j:=0) (off:=0) rfl (eE H) fun q_8 wg VW VX VY H=> ?_
  obtain ⟨VZ,H⟩:=H
  refine eR VY ?_
  refine jm I (j:=0) (off:=0) rfl (eE H) fun am9 qF V0 V1 V2 H=> ?_
  obtain ⟨V3,H⟩:=H
  refine eR V2 ?_
  refine jm I (j:=0) (off:=0) rfl (eE H) fun ana jx V4 V5 V6 H=> ?_
  obtain ⟨V7,H⟩:=H
  refine eR V6 ?_
  refine BU H (fun H=> ?_) (fun H=> ?_)
  · try simp only [dy]
    refine mX (w0:= #v[yI,wg,qF,jx]) I H fun Pz h I H=> ?_
    try simp only [dy]
    exact bz.LW (c:= {bz.v0 with v4:=v4,a0:=a0,b1:=b1,c2:=c2,d3:=d3,v23:=Pz}) (w:=bz.w0) I H k
  · refine jy [.vec .u32 4 (Vector.replicate 4 (0 : Int))] rfl I fun Qc h I => ?_
    refine ⟨(jq I.aX (j:=0) (off:=0) rfl V4 V5 V7), ?_⟩
    refine ⟨(jq I.aX (j:=0) (off:=0) rfl V0 V1 V3), ?_⟩
    refine ⟨(jq I.aX (j:=0) (off:=0) rfl VW VX VZ), ?_⟩
    refine ⟨(jq I.aX (j:=0) (off:=0) rfl aeG aeH aeJ), ?_⟩
    try simp only [dy]
    refine mX (w0:= #v[yI,wg,qF,jx]) I H fun qD h I H=> ?_
    replace I:=I.aX
    try simp only [dy]
    exact bz.Iu (c:= {bz.v0 with v4:=v4,a0:=a0,b1:=b1,c2:=c2,d3:=d3,q9:=(Vector.replicate 4 (0:Int)),v23:=qD}) (w:= {bz.w0 with BS:=Qc}) I H k
namespace ay
structure W where
  wu:Addr
  j4:Addr
  ta:Addr
  IB:Addr
def w0:W:=⟨⟨0,0,none⟩,⟨0,0,none⟩,⟨0,0,none⟩,⟨0,0,none⟩⟩
abbrev RT:=List Int→Hp→Prop
def kt (ρ:Ids) (A:List At) (Q':QT) (Q:RT):Prop:=
  ∀ (r0:Vector Int 64) (h':Hp),Inv h' (A)→Q' r0→Q r0.toList h'
def I1 (ρ:Ids) (c:V) (w:W) (A:List At) (h:Hp):Prop:=
  Inv h (blk w.wu (ρ.T 23) [.vec .u8 64 c.v6]::blk w.j4 (ρ.T 24) [.vec .u32 16 c.bw]::blk w.ta (ρ.T 24) [.vec .u32 16 c.w8]::A)
abbrev Y1:=Addr→Addr→Addr→Addr→Int→Hp→Prop
abbrev T1 (S:Y1) (c:V) (w:W) (h:Hp):Prop:=S w.wu w.j4 w.ta w.ta c.v20 h
def Kj (ρ:Ids) (A:List At) (S':V→Prop) (S:Y1):Prop:= ∀ (c:V) (w:W) (h:Hp),I1 ρ c w A h→S' c→T1 S c w h
def I2 (ρ:Ids) (c:V) (w:W) (A:List At) (h:Hp):Prop:=
  Inv h (blk w.wu (ρ.T 23) [.vec .u8 64 c.v6]::blk w.j4 (ρ.T 24) [.vec .u32 16 c.bw]::blk w.ta (ρ.T 24) [.vec .u32 16 c.w8]::A)
abbrev Y2:=Addr→Addr→Addr→Addr→Int→Int→Hp→Prop
abbrev T2 (S:Y2) (c:V) (w:W) (h:Hp):Prop:=S w.wu w.j4 w.ta w.ta c.v20 c.l9 h
def Rq (ρ:Ids) (A:List At) (S':V→Prop) (S:Y2):Prop:= ∀ (c:V) (w:W) (h:Hp),I2 ρ c w A h→S' c→T2 S c w h
def I3 (ρ:Ids) (c:V) (w:W) (A:List At) (h:Hp):Prop:=
  Inv h (blk w.wu (ρ.T 23) [.vec .u8 64 c.v6]::blk w.j4 (ρ.T 24) [.vec .u32 16 c.bw]::blk w.ta (ρ.T 24) [.vec .u32 16 c.w8]::A)
abbrev Y3:=Addr→Addr→Addr→Addr→Int→Int→Hp→Prop
abbrev T3 (S:Y3) (c:V) (w:W) (h:Hp):Prop:=S w.wu w.j4 w.ta w.ta c.v20 c.jB h
def k3t (ρ:Ids) (A:List At) (S':V→Prop) (S:Y3):Prop:= ∀ (c:V) (w:W) (h:Hp),I3 ρ c w A h→S' c→T3 S c w h
def I4 (ρ:Ids) (c:V) (w:W) (A:List At) (h:Hp):Prop:=
  Inv h (blk w.wu (ρ.T 23) [.vec .u8 64 c.v6]::blk w.j4 (ρ.T 24) [.vec .u32 16 c.bw]::blk w.ta (ρ.T 24) [.vec .u32 16 c.w8]::blk w.IB (ρ.T 23) [.vec .u8 64 c.pJ]::A)
abbrev Y4:=Addr→Addr→Addr→Addr→Int→Hp→Prop
abbrev T4 (S:Y4) (c:V) (w:W) (h:Hp):Prop:=S w.wu w.j4 w.ta w.IB c.l6 h
def k4t (ρ:Ids) (A:List At) (S':V→Prop) (S:Y4):Prop:= ∀ (c:V) (w:W) (h:Hp),I4 ρ c w A h→S' c→T4 S c w h
variable {c:V} {w:W} {Q':QT} {Q:RT} {S1' S2' S3' S4':V→Prop} {S1:Y1} {S2:Y2} {S3:Y3} {S4:Y4}
theorem Qd (I:I3 ρ c w A h) (H:B3 S1' S3' Q' c) (yJ:Kj ρ A S1' S1) (kS3:k3t ρ A S3' S3) (k:kt ρ A Q' Q):T3 (Tx.hU ρ S1 S3 Q) c w h:=by
  unfold I3 at I
  unfold T3 Tx.hU
  unfold B3 at H
  refine pR H (fun hb H=> ?_) (fun hb H=> ?_)
  · refine ⟨by decide, ?_⟩
    refine ⟨by decide, ?_⟩
    refine ⟨by decide, ?_⟩
    replace I:=I.aP
    refine mY (a0:=c.jB) (b1:=(IntKind.wrap .i64 ((4:Int)+(Int.tmod (IntKind.wrap .i64 (c.jB+(1:Int))) (4:Int))))) (c2:=(IntKind.wrap .i64 ((8:Int)+(Int.tmod (IntKind.wrap .i64 (c.jB+(2:Int))) (4:Int))))) (d3:=(IntKind.wrap .i64 ((12:Int)+(Int.tmod (IntKind.wrap .i64 (c.jB+(3:Int))) (4:Int))))) (v4:=c.w8) I H fun BB h I H=> ?_
    refine ⟨_,rfl, ?_⟩
    replace I:=I.aP.aP
    exact kS3 {c with w8:=BB,jB:=(IntKind.wrap .i64 (c.jB+(1:Int)))} w _ I H
  · replace I := I.aP.aP.aP
    exact yJ {c with v20:=(IntKind.wrap .i64 (c.v20+(1:Int)))} w _ I H
theorem Qe (I:I3 ρ c w A h) (H:L3 S1' Q' c) (yJ:Kj ρ A S1' S1) (k:kt ρ A Q' Q):T3 (Tx.ic ρ S1 Q) c w h:=by
  refine Lf.ind H (fun v=> ∀ (w:W) (h:Hp),I3 ρ v w A h→T3 (Tx.ic ρ S1 Q) v w h) ?_ w h I
  rintro c S hS HB w h I
  refine Tx.pS _ _ _ _ _ _ _ _ _ _ ?_
  try simp only [dy]
  exact Qd (c:=c) (w:=w) I HB yJ (fun c w h I H=>hS _ H w h I) k
theorem Iv (I:I2 ρ c w A h) (H:B2 S1' S2' Q' c) (yJ:Kj ρ A S1' S1) (Ni:Rq ρ A S2' S2) (k:kt ρ A Q' Q):T2 (Tx.hM ρ S1 S2 Q) c w h:=by
  unfold I2 at I
  unfold T2 Tx.hM
  unfold B2 at H
  refine pR H (fun hb H=> ?_) (fun hb H=> ?_)
  · replace I := I.aP
    refine mY (a0:=c.l9) (b1:=(IntKind.wrap .i64 ((4:Int)+c.l9))) (c2:=(IntKind.wrap .i64 ((8:Int)+c.l9))) (d3:=(IntKind.wrap .i64 ((12:Int)+c.l9))) (v4:=c.w8) I H fun mO h I H=> ?_
    refine ⟨_,rfl, ?_⟩
    replace I:=I.aP.aP
    exact Ni {c with w8:=mO,l9:=(IntKind.wrap .i64 (c.l9+(1:Int)))} w _ I H
  · replace I := I.aP.aP.aP
    exact Qe (c:= {c with jB:=(0:Int)}) (w:=w) I H yJ k
theorem Iw (I:I2 ρ c w A h) (H:L2 S1' Q' c) (yJ:Kj ρ A S1' S1) (k:kt ρ A Q' Q):T2 (Tx.ie ρ S1 Q) c w h:=by
  refine Lf.ind H (fun v=> ∀ (w:W) (h:Hp),I2 ρ v w A h→T2 (Tx.ie ρ S1 Q) v w h) ?_ w h I
  rintro c S hS HB w h I
  refine Tx.pT _ _ _ _ _ _ _ _ _ _ ?_
  try simp only [dy]
  exact Iv (c:=c) (w:=w) I HB yJ (fun c w h I H=>hS _ H w h I) k
theorem Qf (I:I4 ρ c w A h) (H:B4 S4' Q' c) (kS4:k4t ρ A S4' S4) (k:kt ρ A Q' Q):T4 (Tx.ia ρ S4 Q) c w h:=by
  unfold I4 at I
  unfold T4 Tx.ia
  unfold B4 at H
  refine pR H (fun hb H=> ?_) (fun hb H=> ?_)
  · refine ⟨by decide, ?_⟩
    refine jm I.aP (j:=0) (off:=0) rfl (eE H) fun anb sY ahQ z8 IC H=> ?_
    obtain ⟨ahR,H⟩:=H
    refine eR IC ?_
    refine ⟨by decide, ?_⟩
    refine jm I.aX (j:=0) (off:=0) rfl (eE H) fun anc sW ahS ahT V8 H=> ?_
    obtain ⟨ahU,H⟩:=H
    refine eR V8 ?_
    refine ⟨by decide, ?_⟩
    refine V9 H fun H=> ?_
    refine jm I.cI (j:=0) (off:=0) rfl (eE H) fun ane TZ Wa Wb ahV H=> ?_
    obtain ⟨ahW,H⟩:=H
    refine rQ (I.cI) (j:=0) (off:=0) rfl Wa Wb fun h I=> ?_
    replace I:=I.cI.cI.cI
    exact kS4 {c with pJ:=(c.pJ.setIfInBounds (Int.toNat c.l6) (IntKind.wrap .u8 (Int.fdiv (IntKind.wrap .u32 (sY+sW)) (2 ^ (min (Int.toNat (IntKind.wrap .i64 ((8:Int)*(Int.tmod c.l6 (4:Int))))) (IntKind.bits .u32)))))),l6:=(IntKind.wrap .i64 (c.l6+(1:Int)))} w _ I H
  · refine ko (I.cI.lump 0 0 rfl) ?_
    try simp only [dy]
    refine lR I 0 1 0 [.vec .u8 64 c.pJ] rfl rfl rfl (by first | exact gq rfl | exact dD (by simp [segs,Seg.cells,allOne,dZ,dn,Value.oneCell'])) fun h (I:Inv h (blk w.wu (ρ.T 23) [.vec .u8 64 c.pJ]::_))=> ?_
    refine ko (I.lump 0 0 rfl) ?_
    try simp only [dy]
    replace I:=I.bN
    replace I:=I.bN
    replace I:=I.bN
    replace I:=I.bN
    exact k c.pJ _ I H
theorem Qg (I:I4 ρ c w A h) (H:L4 Q' c) (k:kt ρ A Q' Q):T4 (Tx.ig ρ Q) c w h:=by
  refine Lf.ind H (fun v=> ∀ (w:W) (h:Hp),I4 ρ v w A h→T4 (Tx.ig ρ Q) v w h) ?_ w h I
  rintro c S hS HB w h I
  refine Tx.pU _ _ _ _ _ _ _ _ ?_
  try simp only [dy]
  exact Qf (c:=c) (w:=w) I HB (fun c w h I H=>hS _ H w h I) k
theorem Qa (I:I1 ρ c w A h) (H:B1 S1' Q' c) (yJ:Kj ρ A S1' S1) (k:kt ρ A Q' Q):T1 (Tx.gZ ρ S1 Q) c w h:=by
  unfold I1 at I
  unfold T1 Tx.gZ
  unfold B1 at H
  refine pR H (fun hb H=> ?_) (fun hb H=> ?_)
  · replace I := I.aP.aP.aP
    exact Iw (c:= {c with l9:=(0:Int)}) (w:=w) I H yJ k
  · refine jy [.vec .u8 64 (Vector.replicate 64 (0 : Int))] rfl I fun yb h I => ?_
    replace I:=I.cI.cI.cI
    exact Qg (c:= {c with pJ:=(Vector.replicate 64 (0:Int)),l6:=(0:Int)}) (w:= {w with IB:=yb}) I H k
theorem Qb (I:I1 ρ c w A h) (H:L1 Q' c) (k:kt ρ A Q' Q):T1 (Tx.ij ρ Q) c w h:=by
  refine Lf.ind H (fun v=> ∀ (w:W) (h:Hp),I1 ρ v w A h→T1 (Tx.ij ρ Q) v w h) ?_ w h I
  rintro c S hS HB w h I
  refine Tx.pV _ _ _ _ _ _ _ _ ?_
  try simp only [dy]
  exact Qa (c:=c) (w:=w) I HB (fun c w h I H=>hS _ H w h I) k
end ay
theorem uc {iK:Vector Int 32} {fS:Vector Int 12} {bM:Int} {Q':ay.QT} {Q:ay.RT} (I:Inv h (A)) (H:ay iK fS bM Q')
    (k:ay.kt ρ A Q' Q):Tx.ay ρ iK.toList fS.toList bM h Q:=by
  unfold Tx.ay
  unfold ay at H
  try simp only [dy]
  refine jy [.vec .u8 32 iK] rfl I fun wv h I=> ?_
  refine jy [.vec .u8 12 fS] rfl I fun mS h I=> ?_
  refine jy [.vec .u8 64 (Vector.replicate 64 (0:Int))] rfl I fun tE h I=> ?_
  refine ko (I.aP.lump 0 0 rfl) ?_
  try simp only [dy]
  refine ko (I.aX.lump 0 0 rfl) ?_
  try simp only [dy]
  try simp only [dy]
  refine u7 (iK:=iK) (fS:=fS) (bM:=bM) I H fun qi h I H=> ?_
  refine jy [.vec .u32 16 (Vector.replicate 16 (0:Int))] rfl I fun XF h I=> ?_
  refine lR I 0 1 0 [.vec .u32 16 qi] rfl rfl rfl (by first | exact gq rfl | exact dD (by simp [segs,Seg.cells,allOne,dZ,dn,Value.oneCell'])) fun h (I:Inv h (blk XF (ρ.T 24) [.vec .u32 16 qi]::_))=> ?_
  refine ko (I.lump 0 0 rfl) ?_
  try simp only [dy]
  refine jy [.vec .u32 16 (Vector.replicate 16 (0:Int))] rfl I fun Wd h I=> ?_
  refine lR I 0 1 0 [.vec .u32 16 qi] rfl rfl rfl (by first | exact gq rfl | exact dD (by simp [segs,Seg.cells,allOne,dZ,dn,Value.oneCell'])) fun h (I:Inv h (blk Wd (ρ.T 24) [.vec .u32 16 qi]::_))=> ?_
  replace I:=I.cI.bN
  replace I:=I.cI.bN
  replace I:=I.aX.aP
  exact ay.Qb (c:= {ay.v0 with v6:=(Vector.replicate 64 (0:Int)),bw:=qi,w8:=qi,v20:=(0:Int)}) (w:= {ay.w0 with wu:=tE,j4:=XF,ta:=Wd}) I H k
theorem pE {ρ:Ids} {h:Hp} {A:List At} {s0:List Int} {a:Option Addr} {nl c:Nat} {X:At} {Q':List Int→Prop} {Q:Sl→Hp→Prop} (hX:Rd (rI .u8) X a nl c s0) (I:Inv h (X::A)) (H:fA s0 Q')
    (k: ∀ (r:List Int) (ra:Option Addr) (rc:Nat) (h':Hp),Inv h' (ownS (rI .u8) ra r.length rc r::X::A)→Q' r→Q ⟨ra,r.length,rc⟩ h'):Tx.fA ρ ⟨a,nl,c⟩ h Q:=by
  unfold Tx.fA
  exact Di hX I (by decide) rfl (by decide) (by decide) H k
namespace cZ
abbrev RT:=List Int→Hp→Prop
def kt (ρ:Ids) (lS:At) (A:List At) (Q':QT) (Q:RT):Prop:=
  ∀ (r0:Vector Int 32) (h':Hp),Inv h' (lS::A)→Q' r0→Q r0.toList h'
end cZ
theorem ER {jN:List (List Int)} {Aa:Option Addr} {Ab:Nat} {Ac:Nat} {lS:At} {Q':cZ.QT} {Q:cZ.RT} (wW:Rd (rS (rI .u8)) lS Aa Ac Ab jN) (I:Inv h (lS::A)) (H:cZ jN Q')
    (k:cZ.kt ρ lS A Q' Q):Tx.cZ ρ ⟨Aa,Ac,Ab⟩ h Q:=by
  obtain rfl:=fD wW I
  unfold Tx.cZ
  try simp only [dy]
  replace I:=uZ I
  replace I:=mkN (D:=Ek.D) (X:=(bigA (lS::A))) I
  replace I:=mkC (mkR (D:=Ek.D) (.list (.int .u8)) wW (by simp) I)
  replace I:=Inv.eH I
  replace I:=I.aX
  replace I:=I.aX
  replace I:=I.aP
  refine ⟨bigA (lS::A),(jN,()),none,(fun y z o=>Q' y.1),I,H,fun y z o HQ vs h' I=> ?_⟩
  obtain ⟨r0,⟨⟩⟩:=y
  replace I:=I.aP
  obtain ⟨FA,FB,e0,J⟩:=dsE I
  clear I; subst e0; have I:=J; clear J
  obtain ⟨BN,e0,⟨_,_,BO⟩,J⟩:=unP I
  clear I; subst e0; have I:=J; clear J
  obtain rfl:BN=lumpV .u8 32 r0.toList:=BO
  obtain ⟨e0,J⟩:=dsN I
  clear I; subst e0; have I:=J; clear J
  replace I:=I.aP
  replace I:=I.bN
  replace I:=I.aX
  replace I:=I.bN
  replace I:=Inv.bigU (F:=[]) I
  exact ⟨_,rfl,k _ _ I HQ⟩
namespace bB
structure W where
  js:Option Addr
  jt:Nat
  j0:Addr
def w0:W:=⟨none,0,⟨0,0,none⟩⟩
abbrev RT:=List Int→Hp→Prop
def kt (ρ:Ids) (A:List At) (Q':QT) (Q:RT):Prop:=
  ∀ (r0:Vector Int 32) (h':Hp) (σ':St Obj),Inv h' (hpA (obA ρ) σ'::A)→Q' r0 σ'→Q r0.toList h'
def I1 (ρ:Ids) (c:V) (w:W) (σ:St Obj) (A:List At) (h:Hp):Prop:=
  Inv h (roS (rI .u8) w.js c.eG.length w.jt c.eG::blk w.j0 (ρ.T 19) [.vec .u8 32 c.v4]::hpA (obA ρ) σ::A)
def I2 (ρ:Ids) (c:V) (w:W) (σ:St Obj) (A:List At) (h:Hp):Prop:=
  Inv h (roS (rI .u8) w.js c.eG.length w.jt c.eG::blk w.j0 (ρ.T 19) [.vec .u8 32 c.v4]::hpA (obA ρ) σ::A)
variable {c:V} {w:W} {σ:St Obj} {Q':QT} {Q:RT}
theorem LW (I:I2 ρ c w σ A h) (H:K2 Q' c σ) (k:kt ρ A Q' Q):Tx.fQ ρ Q ⟨w.js,c.eG.length,w.jt⟩ w.j0 h:=by
  unfold I2 at I
  unfold Tx.fQ
  unfold K2 at H
  refine jy [.one (.slice w.js c.eG.length w.jt)] rfl I fun anf h I=> ?_
  replace I:=I.litN (rS (rI .u8))
  replace I:=I.aP.dupR
  replace I:=I.repSl
  replace I:=I.aP.aX
  replace I:=I.litC
  replace I:=I.aP.aX
  replace I:=Inv.litL (l:=[c.eG]) I rfl rfl
  refine ER (jN:=[c.eG]) iT I H fun xR h I H=> ?_
  refine lR I.aP 0 1 0 [.vec .u8 32 xR] rfl rfl rfl (by first | exact gq rfl | exact dD (by simp [segs,Seg.cells,allOne,dZ,dn,Value.oneCell'])) fun h (I:Inv h (blk w.j0 (ρ.T 19) [.vec .u8 32 xR]::_))=> ?_
  refine ko (I.lump 0 0 rfl) ?_
  try simp only [dy]
  replace I:=I.bN
  replace I:=I.bN
  replace I:=I.bN
  exact k xR _ σ I H
theorem BT (I:I1 ρ c w σ A h) (H:K1 Q' c σ) (k:kt ρ A Q' Q):Tx.fP ρ Q c.b0 ⟨w.js,c.eG.length,w.jt⟩ w.j0 c.kO h:=by
  unfold I1 at I
  unfold Tx.fP
  unfold K1 at H
  refine pR H (fun hb H=> ?_) (fun hb H=> ?_)
  · refine ID H fun BC We H => ?_
    obtain ⟨oZ,Wf,H⟩:=H
    obtain ⟨ahX,ahY,I⟩:=qA (I.aP.take Wf)
    refine kX (I.cell 0 0 rfl) ?_
    replace I:=I.cI
    refine pE (s0:=c.eG) nN I H fun BD aeO aeP h I H=> ?_
    refine ⟨I.aP.cell 0 0 rfl, ?_⟩
    refine jy [.one (.slice aeO BD.length aeP)] rfl I fun IE h I=> ?_
    replace I:=I.litN (rS (rI .u8))
    replace I:=I.aP.freeze
    replace I:=I.dupR
    replace I:=I.repSl
    replace I:=I.aP.aX
    replace I:=I.litC
    replace I:=I.aP.aX
    replace I:=Inv.litL (l:=[BD]) I rfl rfl
    refine ⟨I.cI.cell 0 0 rfl, ?_⟩
    refine Ad iT I.dR rfl (by decide) (by decide) H.1 fun Wg Wh h I=> ?_
    replace H:=H.2
    replace I:=I.aX.bN
    refine j5 We ?_
    refine IF I.cI 0 0 rfl fun h (I:Inv h (blk BC (ρ.T 39) [.one (.slice Wg (oZ.texts++[BD]).length Wh)]::_))=> ?_
    replace I:=I.dR.aP.aP
    replace I:=(qC (⟨(oZ.texts++[BD])⟩:eM) I).putB
    replace I:=I.aP.dupR
    replace I:=I.aX.bN
    replace I:=I.aP.bN
    replace I:=I.aX.aP.aP
    exact LW (c:=c) (w:=w) I H k
  · replace I := I.dupR
    replace I:=I.aX.bN
    replace I:=I.aP.aP.aP
    exact LW (c:=c) (w:=w) I H k
end bB
theorem pI {b0:Option Addr} {eG:List Int} {js:Option Addr} {jt:Nat} {Dj:Nat} {σ:St Obj} {Q':bB.QT} {Q:bB.RT} (I:Inv h (roS (rI .u8) js Dj jt eG::hpA (obA ρ) σ::A)) (H:bB b0 eG σ Q')
    (k:bB.kt ρ A Q' Q):Tx.bB ρ b0 ⟨js,Dj,jt⟩ h Q:=by
  obtain rfl:=kQ I
  unfold Tx.bB
  unfold bB at H
  refine jy [.vec .u8 32 (Vector.replicate 32 (0:Int))] rfl I fun mS h I=> ?_
  refine pR H (fun hb H=> ?_) (fun hb H=> ?_)
  · refine ID H fun tE ang H => ?_
    obtain ⟨Eo,Wi,H⟩:=H
    obtain ⟨anh,ahZ,I⟩:=qA (I.aP.take Wi)
    refine kX (I.cell 0 0 rfl) ?_
    apply withB (decide ((Eo.texts.length:Int)<(100000:Int)))
    intro G5 Nn
    try dsimp only
    rw [← Nn]
    replace H:=H G5 Nn
    replace I:=I.aP.aP.aP
    replace I:=(qC Eo I).putS Wi
    replace I:=I.aP.dupR
    replace I:=I.aX.bN
    replace I:=I.aX.aP.aP
    exact bB.BT (c:= {bB.v0 with b0:=b0,eG:=eG,v4:=(Vector.replicate 32 (0:Int)),kO:=G5}) (w:= {bB.w0 with js:=js,jt:=jt,j0:=mS}) I H k
  · replace I := I.aX.dupR
    replace I:=I.aX.bN
    replace I:=I.aP.aP.aP
    exact bB.BT (c:= {bB.v0 with b0:=b0,eG:=eG,v4:=(Vector.replicate 32 (0:Int)),kO:=false}) (w:= {bB.w0 with js:=js,jt:=jt,j0:=mS}) I H k
namespace cw
abbrev RT:=Sl→Int→Int→List Int→Int→Hp→Prop
def kt (ρ:Ids) (nD:At) (A:List At) (Q':QT) (Q:RT):Prop:=
  ∀ (r0:List Int) (tg:Option Addr) (th:Nat) (r1:aF) (r2:Int) (h':Hp) (σ':St Obj),Inv h' (roS (rI .u8) tg r0.length th r0::nD::hpA (obA ρ) σ'::A)→Q' r0 r1 r2 σ'→Q ⟨tg,r0.length,th⟩ r1.Place r1.bO r1.bD.toList r2 h'
end cw
theorem mq {b0:Option Addr} {mR:Vector Int 32} {cU:Int} {eY:Int} {jk:Int} {kR:List Int} {Dk:Option Addr} {Dl:Nat} {Dm:Nat} {nD:At} {σ:St Obj} {Q':cw.QT} {Q:cw.RT} (Ae:Rd (rI .u8) nD Dk Dm Dl kR) (I:Inv h (nD::hpA (obA ρ) σ::A)) (H:cw b0 mR cU eY jk kR σ Q')
    (k:cw.kt ρ nD A Q' Q):Tx.cw ρ b0 mR.toList cU eY jk ⟨Dk,Dm,Dl⟩ h Q:=by
  obtain rfl:=fD Ae I
  unfold Tx.cw
  try simp only [dy]
  replace I:=I.aX
  replace I:=zQ I
  replace I:=mkN (D:=Ek.D) (X:=(bigA (nD::A))) I
  replace I:=mkC (mkR (D:=Ek.D) (.int .u8) Ae (by simp) I)
  replace I:=mkC (mkV (D:=Ek.D) (.int .i64) jk ([.int .i64 jk]) rfl (fun _ _=>rfl) I)
  replace I:=mkC (mkV (D:=Ek.D) (.int .i64) eY ([.int .i64 eY]) rfl (fun _ _=>rfl) I)
  replace I:=mkC (mkV (D:=Ek.D) (.int .u32) cU ([.int .u32 cU]) rfl (fun _ _=>rfl) I)
  replace I:=mkC (mkV (D:=Ek.D) (.vec .u8 32) mR (lumpV .u8 32 mR.toList) rfl (fun _ _=>rfl) I)
  replace I:=mkC (mkV (D:=Ek.D) .ptr b0 ([.pointer b0]) rfl (fun _ _=>rfl) I)
  replace I:=I.aX
  replace I:=I.aP
  refine ⟨bigA (nD::A),(b0,mR,cU,eY,jk,kR,()),(some σ),(fun y z o=>match o with | some σ'=>Q' y.1 y.2.1 y.2.2.1 σ' | none=>False),I,H,fun y z o HQ vs h' I=> ?_⟩
  obtain ⟨r0,r1,r2,⟨⟩⟩:=y
  obtain _ | σ':=o
  · exact HQ.elim
  replace I:=I.aP
  obtain ⟨FA,FB,e0,J⟩:=dsE I
  clear I; subst e0; have I:=J; clear J
  obtain ⟨XD,XE,e0,J⟩:=KI I
  clear I; subst e0; have I:=J; clear J
  replace I:=I.aX
  obtain ⟨uv1,uw1,e0,J⟩:=dsE I
  clear I; subst e0; have I:=J; clear J
  obtain ⟨P8,e0,⟨_,_,P9⟩,J⟩:=unP I
  clear I; subst e0; have I:=J; clear J
  obtain rfl:P8=([.int .i64 r1.Place, .int .u32 r1.bO]:List Value)++(lumpV .u8 32 r1.bD.toList:List Value):=P9
  obtain ⟨uv2,uw2,e0,J⟩:=dsE I
  clear I; subst e0; have I:=J; clear J
  obtain ⟨u2u,e0,⟨_,_,u2e⟩,J⟩:=unP I
  clear I; subst e0; have I:=J; clear J
  obtain rfl:u2u=[.int .i64 r2]:=u2e
  obtain ⟨e0,J⟩:=dsN I
  clear I; subst e0; have I:=J; clear J
  replace I:=I.cI
  replace I:=I.bN
  replace I:=I.aX
  replace I:=I.aP
  replace I:=I.aP
  replace I:=Inv.bigU (F:=[_,_]) I
  replace I:=I.aX
  replace I:=I.aP
  replace I:=I.aP
  exact ⟨_,_,_,_,_,rfl,k _ _ _ _ _ _ _ I HQ⟩
theorem kq {p0:Option Addr} {bA:Int} {gY:List Int} {Dn:Option Addr} {Dp:Nat} {Dq:Nat} {yc:At} {σ:St Obj} {Q':St Obj→Prop} {Q:Hp→Prop} (oA:Rd (rI .u8) yc Dn Dq Dp gY) (I:Inv h (yc::hpA (obA ρ) σ::A)) (H:cB p0 bA gY σ Q')
    (k: ∀ (h':Hp) (σ':St Obj),Inv h' (yc::hpA (obA ρ) σ'::A)→Q' σ'→Q h'):Tx.cB ρ p0 bA ⟨Dn,Dq,Dp⟩ h Q:=by
  obtain rfl:=fD oA I
  unfold Tx.cB
  unfold cB at H
  refine ID H fun mS nQ H=> ?_
  refine j5 nQ ?_
  obtain ⟨eN,Qh,H⟩:=H
  obtain ⟨Wj,Wk,Wl,ah0,ah1,ah2,I⟩:=fG (I.aX.take Qh)
  refine kX (I.cell 3 34 rfl) ?_
  replace I:=I.aX.dupR
  replace I:=I.dupR
  try simp only [dy]
  refine ou (s0:=eN.shape) (bA:=bA) I H fun uC mO Lr h I H=> ?_
  refine pR H (fun hb H=> ?_) (fun hb H=> ?_)
  · refine j5 nQ ?_
    refine Dr (I.aP.cell 7 69 rfl) ?_
    refine Is (Kx:=(kI .i64)) (key:=uC) I.cI H fun ani anj ank zA ah3 I H=> ?_
    refine uz iT I (eE H) fun Wm wo Dt z8 IC ah4 ah5 I H=> ?_
    obtain ⟨No,H⟩:=H
    unfold Tx.eV
    refine j5 nQ ?_
    refine kX (I.dR.cell 3 34 rfl) ?_
    replace I:=I.cI.dupR
    refine eR IC ?_
    replace I:=I.dupR
    try simp only [dy]
    refine kY (s0:=eN.shape) (bA:=bA) (dg:=(IntKind.wrap .i64 ((1:Int) - wo.Place))) I H fun ke h I H=> ?_
    refine j5 nQ ?_
    refine Np (I.fy.cell 0 0 rfl) ?_
    refine j5 nQ ?_
    refine ko (I.fy.lump 1 1 rfl) ?_
    try simp only [dy]
    refine j5 nQ ?_
    refine eR (I.fy.cell 2 33 rfl) ?_
    refine eR (uA iT I.aP Dt z8 No).1 ?_
    refine BU H (fun H=> ?_) (fun H=> ?_)
    · replace I := I.kZ.kH
      try simp only [dy]
      refine mq (b0:=eN.book) (mR:=eN.key) (cU:=eN.fu) (eY:=(IntKind.wrap .i64 ((1:Int) - wo.Place))) (jk:=ke) (kR:=gY) (σ:=(sdel σ mS)) oA I H fun rG aeQ aeR pn adH h σ_46 I H=> ?_
      refine jy [.one (.int .i64 (0:Int)), .one (.int .u32 (0:Int)), .vec .u8 32 (Vector.replicate 32 (0:Int))] rfl I fun aeS h I=> ?_
      unfold Tx.gS
      refine lR I 0 3 0 [.one (.int .i64 pn.Place), .one (.int .u32 pn.bO), .vec .u8 32 pn.bD] rfl rfl rfl (by first | exact gq rfl | exact dD (by simp [segs,Seg.cells,allOne,dZ,dn,Value.oneCell'])) fun h (I:Inv h (blk aeS (ρ.T 16) [.one (.int .i64 pn.Place), .one (.int .u32 pn.bO), .vec .u8 32 pn.bD]::_))=> ?_
      unfold Tx.eC
      unfold Tx.eB
      refine j5 nQ ?_
      refine kX (I.sJ.cell 8 70 rfl) ?_
      refine jy [.one (.int .i64 ke), .one (.slice aeQ rG.length aeR)] rfl I fun anl h I=> ?_
      replace I:=I.litN eU
      replace I:=I.cI.dupR
      replace I:=oP (⟨ke,rG⟩:cv) I
      replace I:=I.aP.aX
      replace I:=I.litC
      replace I:=I.aP.aX
      replace I:=Inv.litL (l:=[(⟨ke,rG⟩:cv)]) I rfl rfl
      refine Ad iT I.BV rfl (by decide) (by decide) H.1 fun aeT aeU h I=> ?_
      replace H:=H.2
      replace I:=I.aX.bN
      refine j5 nQ ?_
      refine IF I.u9 8 70 rfl fun h (I:Inv h (blk mS (ρ.T 20) [.one (.pointer eN.book), .vec .u8 32 eN.key, .one (.int .u32 eN.fu), .one (.slice Wj eN.shape.cE.length Wk), .one (.int .i64 eN.root.Place), .one (.int .u32 eN.root.bO), .vec .u8 32 eN.root.bD, .one (.map Wl), .one (.slice aeT (eN.dL++[(⟨ke,rG⟩:cv)]).length aeU)]::_))=> ?_
      refine eR (I.cI.cell 0 0 rfl) ?_
      refine eR (I.cI.cell 1 1 rfl) ?_
      refine ko (I.cI.lump 2 2 rfl) ?_
      try simp only [dy]
      replace I:=wK pn I
      replace I:=I.sJ.aX
      refine IG (x:=pn) I Dt z8 fun h I=> ?_
      replace I:=I.kH.dupR
      replace I:=I.u9.cI
      replace I:=I.fillH
      replace I:=I.kH.fy.aP.cI.fy
      obtain ⟨aeV,I⟩:=(ei (⟨eN.book,eN.key,eN.fu,eN.shape,eN.root,(eN.nodes.map (Pu.upd · uC (zA.set (Int.toNat mO) pn))),(eN.dL++[(⟨ke,rG⟩:cv)])⟩:aD) I).new
      replace H:=H aeV
      replace I:=I.aX.bN
      replace I:=I.aX.bN
      replace I:=I.aX.bN
      replace I:=I.aP.bN
      replace I:=I.aP.bN
      replace I:=I.aX
      exact k _ (sset σ_46 mS (.aD (⟨eN.book,eN.key,eN.fu,eN.shape,eN.root,(eN.nodes.map (Pu.upd · uC (zA.set (Int.toNat mO) pn))),(eN.dL++[(⟨ke,rG⟩:cv)])⟩:aD))) I H
    · refine jy [.one (.int .i64 (0 : Int)), .one (.int .u32 (0 : Int)), .vec .u8 32 (Vector.replicate 32 (0 : Int))] rfl I fun aeW h I => ?_
      refine ⟨(uA iT I.cI Dt z8 No).1, ?_⟩
      refine ⟨I.gy.cell 2 33 rfl, ?_⟩
      refine ⟨⟨I.gy.lump 1 1 rfl,trivial⟩, ?_⟩
      refine ⟨I.gy.cell 0 0 rfl, ?_⟩
      replace I:=I.kH.sJ
      try simp only [dy]
      refine mq (b0:=eN.book) (mR:=eN.key) (cU:=eN.fu) (eY:=(IntKind.wrap .i64 ((1:Int) - wo.Place))) (jk:=ke) (kR:=gY) (σ:=(sdel σ mS)) oA I H fun og aeX aeY s6 adI h σ_69 I H=> ?_
      refine lR I.cI 0 3 0 [.one (.int .i64 s6.Place), .one (.int .u32 s6.bO), .vec .u8 32 s6.bD] rfl rfl rfl (by first | exact gq rfl | exact dD (by simp [segs,Seg.cells,allOne,dZ,dn,Value.oneCell'])) fun h (I:Inv h (blk aeW (ρ.T 16) [.one (.int .i64 s6.Place), .one (.int .u32 s6.bO), .vec .u8 32 s6.bD]::_))=> ?_
      unfold Tx.eC
      unfold Tx.eB
      refine j5 nQ ?_
      refine kX (I.sJ.cell 8 70 rfl) ?_
      refine jy [.one (.int .i64 ke), .one (.slice aeX og.length aeY)] rfl I fun anm h I=> ?_
      replace I:=I.litN eU
      replace I:=I.cI.dupR
      replace I:=oP (⟨ke,og⟩:cv) I
      replace I:=I.aP.aX
      replace I:=I.litC
      replace I:=I.aP.aX
      replace I:=Inv.litL (l:=[(⟨ke,og⟩:cv)]) I rfl rfl
      refine Ad iT I.BV rfl (by decide) (by decide) H.1 fun aeZ ae0 h I=> ?_
      replace H:=H.2
      replace I:=I.aX.bN
      refine j5 nQ ?_
      refine IF I.u9 8 70 rfl fun h (I:Inv h (blk mS (ρ.T 20) [.one (.pointer eN.book), .vec .u8 32 eN.key, .one (.int .u32 eN.fu), .one (.slice Wj eN.shape.cE.length Wk), .one (.int .i64 eN.root.Place), .one (.int .u32 eN.root.bO), .vec .u8 32 eN.root.bD, .one (.map Wl), .one (.slice aeZ (eN.dL++[(⟨ke,og⟩:cv)]).length ae0)]::_))=> ?_
      refine eR (I.cI.cell 0 0 rfl) ?_
      refine eR (I.cI.cell 1 1 rfl) ?_
      refine ko (I.cI.lump 2 2 rfl) ?_
      try simp only [dy]
      replace I:=wK s6 I
      replace I:=I.sJ.aX
      refine IG (x:=s6) I Dt z8 fun h I=> ?_
      replace I:=I.kH.dupR
      replace I:=I.u9.cI
      replace I:=I.fillH
      replace I:=I.kH.fy.aP.cI.fy
      obtain ⟨ae1,I⟩:=(ei (⟨eN.book,eN.key,eN.fu,eN.shape,eN.root,(eN.nodes.map (Pu.upd · uC (zA.set (Int.toNat mO) s6))),(eN.dL++[(⟨ke,og⟩:cv)])⟩:aD) I).new
      replace H:=H ae1
      replace I:=I.aX.bN
      replace I:=I.aX.bN
      replace I:=I.aX.bN
      replace I:=I.aP.bN
      replace I:=I.aP.bN
      replace I:=I.aX
      exact k _ (sset σ_69 mS (.aD (⟨eN.book,eN.key,eN.fu,eN.shape,eN.root,(eN.nodes.map (Pu.upd · uC (zA.set (Int.toNat mO) s6))),(eN.dL++[(⟨ke,og⟩:cv)])⟩:aD))) I H
  · unfold Tx.eV
    refine j5 nQ ?_
    refine kX (I.aP.cell 3 34 rfl) ?_
    replace I:=I.aX.dupR
    refine eR (I.cI.cell 4 35 rfl) ?_
    replace I:=I.dupR
    try simp only [dy]
    refine kY (s0:=eN.shape) (bA:=bA) (dg:=(IntKind.wrap .i64 ((1:Int) - eN.root.Place))) I H fun kf h I H=> ?_
    refine j5 nQ ?_
    refine Np (I.cI.cell 0 0 rfl) ?_
    refine j5 nQ ?_
    refine ko (I.cI.lump 1 1 rfl) ?_
    try simp only [dy]
    refine j5 nQ ?_
    refine eR (I.cI.cell 2 33 rfl) ?_
    refine eR (I.cI.cell 4 35 rfl) ?_
    refine BU H (fun H=> ?_) (fun H=> ?_)
    · replace I := I.aX.dupR
      replace I:=I.kZ.kZ.kZ.cI.kZ
      replace I:=(ei eN I).putS Qh
      replace I:=I.dR
      try simp only [dy]
      refine mq (b0:=eN.book) (mR:=eN.key) (cU:=eN.fu) (eY:=(IntKind.wrap .i64 ((1:Int) - eN.root.Place))) (jk:=kf) (kR:=gY) (σ:=σ) oA I H fun s7 ae2 ae3 lX G4 h σ_92 I H=> ?_
      refine jy [.one (.int .i64 (0:Int)), .one (.int .u32 (0:Int)), .vec .u8 32 (Vector.replicate 32 (0:Int))] rfl I fun ae4 h I=> ?_
      unfold Tx.gS
      refine lR I 0 3 0 [.one (.int .i64 lX.Place), .one (.int .u32 lX.bO), .vec .u8 32 lX.bD] rfl rfl rfl (by first | exact gq rfl | exact dD (by simp [segs,Seg.cells,allOne,dZ,dn,Value.oneCell'])) fun h (I:Inv h (blk ae4 (ρ.T 16) [.one (.int .i64 lX.Place), .one (.int .u32 lX.bO), .vec .u8 32 lX.bD]::_))=> ?_
      unfold Tx.eC
      unfold Tx.eB
      refine j5 nQ ?_
      obtain ⟨gw,Wn,H⟩:=H
      obtain ⟨Nq,Nr,Ns,ae5,ae6,ae7,I⟩:=fG (I.cI.take Wn)
      refine kX (I.cell 8 70 rfl) ?_
      refine jy [.one (.int .i64 kf), .one (.slice ae2 s7.length ae3)] rfl I fun ah6 h I=> ?_
      replace I:=I.litN eU
      replace I:=I.kH.dupR
      replace I:=oP (⟨kf,s7⟩:cv) I
      replace I:=I.aP.aX
      replace I:=I.litC
      replace I:=I.aP.aX
      replace I:=Inv.litL (l:=[(⟨kf,s7⟩:cv)]) I rfl rfl
      refine Ad iT I.fy rfl (by decide) (by decide) H.1 fun Nt Nv h I=> ?_
      replace H:=H.2
      replace I:=I.aX.bN
      refine j5 nQ ?_
      refine IF I.aP 8 70 rfl fun h (I:Inv h (blk mS (ρ.T 20) [.one (.pointer gw.book), .vec .u8 32 gw.key, .one (.int .u32 gw.fu), .one (.slice Nq gw.shape.cE.length Nr), .one (.int .i64 gw.root.Place), .one (.int .u32 gw.root.bO), .vec .u8 32 gw.root.bD, .one (.map Ns), .one (.slice Nt (gw.dL++[(⟨kf,s7⟩:cv)]).length Nv)]::_))=> ?_
      refine eR (I.gy.cell 0 0 rfl) ?_
      refine eR (I.gy.cell 1 1 rfl) ?_
      refine ko (I.gy.lump 2 2 rfl) ?_
      try simp only [dy]
      refine lR I 4 3 35 [.one (.int .i64 lX.Place), .one (.int .u32 lX.bO), .vec .u8 32 lX.bD] rfl rfl rfl (by first | exact gq rfl | exact dD (by simp [segs,Seg.cells,allOne,dZ,dn,Value.oneCell'])) fun h (I:Inv h (blk mS (ρ.T 20) [.one (.pointer gw.book), .vec .u8 32 gw.key, .one (.int .u32 gw.fu), .one (.slice Nq gw.shape.cE.length Nr), .one (.int .i64 lX.Place), .one (.int .u32 lX.bO), .vec .u8 32 lX.bD, .one (.map Ns), .one (.slice Nt (gw.dL++[(⟨kf,s7⟩:cv)]).length Nv)]::_))=> ?_
      replace I:=I.cI.dupR
      replace I:=I.gy.dR.gy.cI.fy
      replace I:=(ei (⟨gw.book,gw.key,gw.fu,gw.shape,lX,gw.nodes,(gw.dL++[(⟨kf,s7⟩:cv)])⟩:aD) I).putB
      replace I:=I.aX.bN
      replace I:=I.aX.bN
      replace I:=I.aX.bN
      replace I:=I.aP.bN
      replace I:=I.aP.bN
      replace I:=I.aP.bN
      replace I:=I.aX
      exact k _ (sset σ_92 mS (.aD (⟨gw.book,gw.key,gw.fu,gw.shape,lX,gw.nodes,(gw.dL++[(⟨kf,s7⟩:cv)])⟩:aD))) I H
    · refine jy [.one (.int .i64 (0 : Int)), .one (.int .u32 (0 : Int)), .vec .u8 32 (Vector.replicate 32 (0 : Int))] rfl I fun Wo h I => ?_
      refine ⟨I.dR.cell 4 35 rfl, ?_⟩
      refine ⟨I.dR.cell 2 33 rfl, ?_⟩
      refine ⟨⟨I.dR.lump 1 1 rfl,trivial⟩, ?_⟩
      refine ⟨I.dR.cell 0 0 rfl, ?_⟩
      replace I:=I.aP.dupR
      replace I:=I.kH.kH.kH.cI.kH
      replace I:=(ei eN I).putS Qh
      replace I:=I.fy
      try simp only [dy]
      refine mq (b0:=eN.book) (mR:=eN.key) (cU:=eN.fu) (eY:=(IntKind.wrap .i64 ((1:Int) - eN.root.Place))) (jk:=kf) (kR:=gY) (σ:=σ) oA I H fun pH Wp Wq kW T8 h σ_126 I H=> ?_
      refine lR I.dR 0 3 0 [.one (.int .i64 kW.Place), .one (.int .u32 kW.bO), .vec .u8 32 kW.bD] rfl rfl rfl (by first | exact gq rfl | exact dD (by simp [segs,Seg.cells,allOne,dZ,dn,Value.oneCell'])) fun h (I:Inv h (blk Wo (ρ.T 16) [.one (.int .i64 kW.Place), .one (.int .u32 kW.bO), .vec .u8 32 kW.bD]::_))=> ?_
      unfold Tx.eC
      unfold Tx.eB
      refine j5 nQ ?_
      obtain ⟨fN,Qi,H⟩:=H
      obtain ⟨II,IJ,IK,ae8,ae9,afa,I⟩:=fG (I.cI.take Qi)
      refine kX (I.cell 8 70 rfl) ?_
      refine jy [.one (.int .i64 kf), .one (.slice Wp pH.length Wq)] rfl I fun ah7 h I=> ?_
      replace I:=I.litN eU
      replace I:=I.kH.dupR
      replace I:=oP (⟨kf,pH⟩:cv) I
      replace I:=I.aP.aX
      replace I:=I.litC
      replace I:=I.aP.aX
      replace I:=Inv.litL (l:=[(⟨kf,pH⟩:cv)]) I rfl rfl
      refine Ad iT I.fy rfl (by decide) (by decide) H.1 fun Nw Nx h I=> ?_
      replace H:=H.2
      replace I:=I.aX.bN
      refine j5 nQ ?_
      refine IF I.aP 8 70 rfl fun h (I:Inv h (blk mS (ρ.T 20) [.one (.pointer fN.book), .vec .u8 32 fN.key, .one (.int .u32 fN.fu), .one (.slice II fN.shape.cE.length IJ), .one (.int .i64 fN.root.Place), .one (.int .u32 fN.root.bO), .vec .u8 32 fN.root.bD, .one (.map IK), .one (.slice Nw (fN.dL++[(⟨kf,pH⟩:cv)]).length Nx)]::_))=> ?_
      refine eR (I.gy.cell 0 0 rfl) ?_
      refine eR (I.gy.cell 1 1 rfl) ?_
      refine ko (I.gy.lump 2 2 rfl) ?_
      try simp only [dy]
      refine lR I 4 3 35 [.one (.int .i64 kW.Place), .one (.int .u32 kW.bO), .vec .u8 32 kW.bD] rfl rfl rfl (by first | exact gq rfl | exact dD (by simp [segs,Seg.cells,allOne,dZ,dn,Value.oneCell'])) fun h (I:Inv h (blk mS (ρ.T 20) [.one (.pointer fN.book), .vec .u8 32 fN.key, .one (.int .u32 fN.fu), .one (.slice II fN.shape.cE.length IJ), .one (.int .i64 kW.Place), .one (.int .u32 kW.bO), .vec .u8 32 kW.bD, .one (.map IK), .one (.slice Nw (fN.dL++[(⟨kf,pH⟩:cv)]).length Nx)]::_))=> ?_
      replace I:=I.cI.dupR
      replace I:=I.gy.dR.gy.cI.fy
      replace I:=(ei (⟨fN.book,fN.key,fN.fu,fN.shape,kW,fN.nodes,(fN.dL++[(⟨kf,pH⟩:cv)])⟩:aD) I).putB
      replace I:=I.aX.bN
      replace I:=I.aX.bN
      replace I:=I.aX.bN
      replace I:=I.aP.bN
      replace I:=I.aP.bN
      replace I:=I.aP.bN
      replace I:=I.aX
      exact k _ (sset σ_126 mS (.aD (⟨fN.book,fN.key,fN.fu,fN.shape,kW,fN.nodes,(fN.dL++[(⟨kf,pH⟩:cv)])⟩:aD))) I H
namespace cn
abbrev RT:=Sl→Int→Hp→Prop
def kt (ρ:Ids) (nE:At) (A:List At) (Q':QT) (Q:RT):Prop:=
  ∀ (r0:List Int) (tg:Option Addr) (th:Nat) (r1:Int) (h':Hp),Inv h' (ownS (rI .u8) tg r0.length th r0::nE::A)→Q' r0 r1→Q ⟨tg,r0.length,th⟩ r1 h'
end cn
theorem BW {gV:List aF} {Du:Option Addr} {Dv:Nat} {Dw:Nat} {nE:At} {Q':cn.QT} {Q:cn.RT} (Af:Rd er nE Du Dw Dv gV) (I:Inv h (nE::A)) (H:cn gV Q')
    (k:cn.kt ρ nE A Q' Q):Tx.cn ρ ⟨Du,Dw,Dv⟩ h Q:=by
  obtain rfl:=fD Af I
  unfold Tx.cn
  try simp only [dy]
  replace I:=uZ I
  replace I:=mkN (D:=Ek.D) (X:=(bigA (nE::A))) I
  replace I:=mkC (mkR (D:=Ek.D) (.st 6) Af (by simp) I)
  replace I:=Inv.eH I
  replace I:=I.aX
  replace I:=I.aX
  replace I:=I.aP
  refine ⟨bigA (nE::A),(gV,()),none,(fun y z o=>Q' y.1 y.2.1),I,H,fun y z o HQ vs h' I=> ?_⟩
  obtain ⟨r0,r1,⟨⟩⟩:=y
  replace I:=I.aP
  obtain ⟨FA,FB,e0,J⟩:=dsE I
  clear I; subst e0; have I:=J; clear J
  obtain ⟨XD,XE,e0,J⟩:=unO I
  clear I; subst e0; have I:=J; clear J
  replace I:=I.aX
  obtain ⟨uv1,uw1,e0,J⟩:=dsE I
  clear I; subst e0; have I:=J; clear J
  obtain ⟨P8,e0,⟨_,_,P9⟩,J⟩:=unP I
  clear I; subst e0; have I:=J; clear J
  obtain rfl:P8=[.int .i64 r1]:=P9
  obtain ⟨e0,J⟩:=dsN I
  clear I; subst e0; have I:=J; clear J
  replace I:=I.cI
  replace I:=I.bN
  replace I:=I.aP
  replace I:=I.bN
  replace I:=Inv.bigU (F:=[_]) I
  exact ⟨_,_,rfl,k _ _ _ _ _ I HQ⟩
namespace aE
structure W where
  iX:Option Addr
  iY:Nat
  fJ:Option Addr
  fK:Nat
  yd:Addr
  Dx:Addr
  Ag:Option Addr
  Ah:Nat
  qK:Addr
  nO:Addr
  mZ:Option Addr
  m4:Nat
  IL:Option Addr
  IM:Nat
  IN:Option Addr
  IP:Nat
  m5:Option Addr
  m6:Nat
  IQ:Option Addr
  IS:Nat
def w0:W:=⟨none,0,none,0,⟨0,0,none⟩,⟨0,0,none⟩,none,0,⟨0,0,none⟩,⟨0,0,none⟩,none,0,none,0,none,0,none,0,none,0⟩
abbrev RT:=Sl→Sl→Int→Int→List Int→Int→Hp→Prop
def kt (ρ:Ids) (A:List At) (Q':QT) (Q:RT):Prop:=
  ∀ (r0:List cv) (tg:Option Addr) (th:Nat) (r1:List aO) (Ya:Option Addr) (Yb:Nat) (r2:aF) (r3:Int) (h':Hp) (σ':St Obj),Inv h' (ownS eU tg r0.length th r0::ownS dY Ya r1.length Yb r1::hpA (obA ρ) σ'::A)→Q' r0 r1 r2 r3 σ'→Q ⟨tg,r0.length,th⟩ ⟨Ya,r1.length,Yb⟩ r2.Place r2.bO r2.bD.toList r3 h'
def I1 (ρ:Ids) (c:V) (w:W) (σ:St Obj) (A:List At) (h:Hp):Prop:=
  Inv h (roS dY w.iX c.cP.length w.iY c.cP::roS eA w.fJ c.bT.length w.fK c.bT::blk w.yd (ρ.T 19) [.vec .u8 32 c.rK]::blk w.Dx (ρ.T 11) [.one (.slice w.Ag c.xS.cE.length w.Ah)]::roS (rI .i64) w.Ag c.xS.cE.length w.Ah c.xS.cE::blk w.qK (ρ.T 16) [.one (.int .i64 c.gQ.Place), .one (.int .u32 c.gQ.bO), .vec .u8 32 c.gQ.bD]::blk w.nO (ρ.T 16) [.one (.int .i64 c.ej.Place), .one (.int .u32 c.ej.bO), .vec .u8 32 c.ej.bD]::hpA (obA ρ) σ::A)
def I2 (ρ:Ids) (c:V) (w:W) (σ:St Obj) (A:List At) (h:Hp):Prop:=
  Inv h (roS dY w.iX c.cP.length w.iY c.cP::roS eA w.fJ c.bT.length w.fK c.bT::blk w.nO (ρ.T 16) [.one (.int .i64 c.ej.Place), .one (.int .u32 c.ej.bO), .vec .u8 32 c.ej.bD]::roS (rI .i64) w.mZ c.cL.length w.m4 c.cL::roS (rI .i64) w.IL c.pL.length w.IM c.pL::hpA (obA ρ) σ::A)
abbrev Y2:=Sl→Sl→Addr→Addr→Sl→Sl→Int→Int→Hp→Prop
abbrev T2 (S:Y2) (c:V) (w:W) (h:Hp):Prop:=S ⟨w.iX,c.cP.length,w.iY⟩ ⟨w.fJ,c.bT.length,w.fK⟩ w.nO c.mD ⟨w.mZ,c.cL.length,w.m4⟩ ⟨w.IL,c.pL.length,w.IM⟩ c.v53 c.rC h
def Rq (ρ:Ids) (A:List At) (S':V→St Obj→Prop) (S:Y2):Prop:= ∀ (c:V) (w:W) (h:Hp) (σ:St Obj),I2 ρ c w σ A h→S' c σ→T2 S c w h
def I3 (ρ:Ids) (c:V) (w:W) (σ:St Obj) (A:List At) (h:Hp):Prop:=
  Inv h (blk w.nO (ρ.T 16) [.one (.int .i64 c.ej.Place), .one (.int .u32 c.ej.bO), .vec .u8 32 c.ej.bD]::roS (rI .i64) w.mZ c.cL.length w.m4 c.cL::roS eA w.IN c.v70.length w.IP c.v70::hpA (obA ρ) σ::A)
abbrev Y3:=Addr→Addr→Sl→Sl→Int→Int→Hp→Prop
abbrev T3 (S:Y3) (c:V) (w:W) (h:Hp):Prop:=S w.nO c.mD ⟨w.mZ,c.cL.length,w.m4⟩ ⟨w.IN,c.v70.length,w.IP⟩ c.nA c.v72 h
def k3t (ρ:Ids) (A:List At) (S':V→St Obj→Prop) (S:Y3):Prop:= ∀ (c:V) (w:W) (h:Hp) (σ:St Obj),I3 ρ c w σ A h→S' c σ→T3 S c w h
def I4 (ρ:Ids) (c:V) (w:W) (σ:St Obj) (A:List At) (h:Hp):Prop:=
  Inv h (blk w.nO (ρ.T 16) [.one (.int .i64 c.ej.Place), .one (.int .u32 c.ej.bO), .vec .u8 32 c.ej.bD]::ownS dY w.m5 c.dz.length w.m6 c.dz::roS (rI .i64) w.IQ c.pM.length w.IS c.pM::hpA (obA ρ) σ::A)
abbrev Y4:=Addr→Addr→Sl→Sl→Int→Int→Hp→Prop
abbrev T4 (S:Y4) (c:V) (w:W) (h:Hp):Prop:=S w.nO c.mD ⟨w.m5,c.dz.length,w.m6⟩ ⟨w.IQ,c.pM.length,w.IS⟩ c.vY c.v85 h
def k4t (ρ:Ids) (A:List At) (S':V→St Obj→Prop) (S:Y4):Prop:= ∀ (c:V) (w:W) (h:Hp) (σ:St Obj),I4 ρ c w σ A h→S' c σ→T4 S c w h
variable {c:V} {w:W} {σ:St Obj} {Q':QT} {Q:RT} {S2' S3' S4':V→St Obj→Prop} {S2:Y2} {S3:Y3} {S4:Y4}
theorem Qf (I:I4 ρ c w σ A h) (H:B4 S4' Q' c σ) (kS4:k4t ρ A S4' S4) (k:kt ρ A Q' Q):T4 (Tx.iR ρ S4 Q) c w h:=by
  unfold I4 at I
  unfold T4 Tx.iR
  unfold B4 at H
  refine pR H (fun hb H=> ?_) (fun hb H=> ?_)
  · refine Dh nN I.aP (eE H) fun ah8 jC afb afc Qj H => ?_
    obtain ⟨afd,H⟩:=H
    refine eR Qj ?_
    obtain ⟨iC,Qk,H⟩:=H
    obtain ⟨afe,aff,afg,afh,afi,afj,I⟩:=fG (I.cI.take Qk)
    refine Dr (I.cell 7 69 rfl) ?_
    refine Is (Kx:=(kI .i64)) (key:=jC) I.aP H fun ah9 aia aib uD afk I H=> ?_
    refine gi (s0:=uD) iT I H fun uE Wr Ws h I H=> ?_
    refine jy [.one (.int .i64 jC), .one (.slice Wr uE.length Ws)] rfl I fun aic h I=> ?_
    replace I:=I.litN dY
    replace I:=I.aP.freeze
    replace I:=I.dupR
    replace I:=xO (⟨jC,uE⟩:aO) I
    replace I:=I.aP.aX
    replace I:=I.litC
    replace I:=I.aP.aX
    replace I:=Inv.litL (l:=[(⟨jC,uE⟩:aO)]) I rfl rfl
    refine Ad iT I.sJ rfl (by decide) (by decide) H.1 fun Wt Wu h I=> ?_
    replace H:=H.2
    replace I:=I.aX.bN
    refine Dr (I.dR.cell 7 69 rfl) ?_
    replace I:=I.cI.cI
    replace I:=I.fillH
    refine Is (Kx:=(kI .i64)) (key:=jC) I H fun aid aie aif wM afl I H=> ?_
    refine BW (gV:=wM) iT I H fun uF aih aii G8 h I H=> ?_
    replace I:=I.gy.dupR
    replace I:=I.dR.dR
    replace I:=I.fillH
    replace I:=I.kH.kH.aP.cI.kH
    replace I:=(ei (⟨iC.book,iC.key,iC.fu,iC.shape,iC.root,((iC.nodes.map (Pu.upd · jC uD)).map (Pu.upd · jC wM)),iC.dL⟩:aD) I).putB
    replace I:=I.aP
    refine kq (p0:=(some c.mD)) (bA:=jC) (gY:=uF) (σ:=(sset σ c.mD (.aD (⟨iC.book,iC.key,iC.fu,iC.shape,iC.root,((iC.nodes.map (Pu.upd · jC uD)).map (Pu.upd · jC wM)),iC.dL⟩:aD)))) iT I H fun h σ_166 I H=> ?_
    replace I:=I.gy.dupR
    replace I:=I.aX.bN
    replace I:=I.aX.bN
    replace I:=I.aP.bN
    replace I:=I.cI.bN
    replace I:=I.aX.aX.aP.cI
    exact kS4 {c with dz:=(c.dz++[(⟨jC,uE⟩:aO)]),v85:=(IntKind.wrap .i64 (c.v85+(1:Int)))} {w with m5:=Wt,m6:=Wu} _ σ_166 I H
  · obtain ⟨mT, Ql, H⟩ := H
    obtain ⟨afm,afn,afo,afp,Qm,Qn,I⟩:=fG (I.cI.take Ql)
    refine kX (I.cell 8 70 rfl) ?_
    refine eR (I.cell 4 35 rfl) ?_
    refine eR (I.cell 5 36 rfl) ?_
    refine ko (I.lump 6 37 rfl) ?_
    try simp only [dy]
    refine lR I.fy 0 3 0 [.one (.int .i64 mT.root.Place), .one (.int .u32 mT.root.bO), .vec .u8 32 mT.root.bD] rfl rfl rfl (by first | exact gq rfl | exact dD (by simp [segs,Seg.cells,allOne,dZ,dn,Value.oneCell'])) fun h (I:Inv h (blk w.nO (ρ.T 16) [.one (.int .i64 mT.root.Place), .one (.int .u32 mT.root.bO), .vec .u8 32 mT.root.bD]::_))=> ?_
    refine eR (I.cell 0 0 rfl) ?_
    refine eR (I.cell 1 1 rfl) ?_
    refine ko (I.lump 2 2 rfl) ?_
    try simp only [dy]
    replace I:=I.bN
    replace I:=I.bN
    replace I:=I.bN
    replace I:=I.bN
    replace I:=I.cI.bN
    replace I:=I.aX.aP.aP
    exact k mT.dL Qm Qn c.dz w.m5 w.m6 mT.root (0:Int) _ (sdel σ c.mD) I H
theorem Qg (I:I4 ρ c w σ A h) (H:L4 Q' c σ) (k:kt ρ A Q' Q):T4 (Tx.iZ ρ Q) c w h:=by
  refine Lf.ind H (fun v=> ∀ (w:W) (h:Hp),I4 ρ v.1 w v.2 A h→T4 (Tx.iZ ρ Q) v.1 w h) ?_ w h I
  rintro ⟨c,σ⟩ S hS HB w h I
  refine Tx.qL _ _ _ _ _ _ _ _ _ ?_
  try simp only [dy]
  exact Qf (c:=c) (w:=w) I HB (fun c w h σ I H=>hS _ H w h I) k
theorem Qd (I:I3 ρ c w σ A h) (H:B3 S3' Q' c σ) (kS3:k3t ρ A S3' S3) (k:kt ρ A Q' Q):T3 (Tx.iQ ρ S3 Q) c w h:=by
  unfold I3 at I
  unfold T3 Tx.iQ
  unfold B3 at H
  refine pR H (fun hb H=> ?_) (fun hb H=> ?_)
  · refine sV nN I.aP H fun ann gw Ny Nz aij aik Wv Qo I H => ?_
    refine eR Wv ?_
    refine kX Qo ?_
    refine jy [.one (.int .i64 (0:Int)), .one (.slice none 0 0)] rfl I fun Ww h I=> ?_
    refine lR I 0 2 0 [.one (.int .i64 gw.dx), .one (.slice Ny gw.Bytes.length Nz)] rfl rfl rfl (by first | exact gq rfl | exact dD (by simp [segs,Seg.cells,allOne,dZ,dn,Value.oneCell'])) fun h (I:Inv h (blk Ww (ρ.T 17) [.one (.int .i64 gw.dx), .one (.slice Ny gw.Bytes.length Nz)]::_))=> ?_
    refine eR (I.cell 0 0 rfl) ?_
    refine kX (I.cell 1 1 rfl) ?_
    replace I:=I.fy.aP
    refine kq (p0:=(some c.mD)) (bA:=gw.dx) (gY:=gw.Bytes) (σ:=σ) nN I H fun h σ_106 I H=> ?_
    replace I:=I.fy.dupR
    replace I:=I.fy.dupR
    replace I:=I.aX.bN
    replace I:=I.aP.bN
    replace I:=I.aP.bN
    replace I:=I.cI.bN
    replace I:=I.aP.aX.aP.cI
    exact kS3 {c with v72:=(IntKind.wrap .i64 (c.v72+(1:Int)))} w _ σ_106 I H
  · replace I := I.nilO dY
    replace I:=I.aP.dupR
    replace I:=I.aX.bN
    replace I:=I.cI.bN
    replace I:=I.cI.aX.aP.cI
    exact Qg (c:= {c with dz:=([]:List aO),pM:=c.cL,vY:=(c.cL.length:Int),v85:=(0:Int)}) (w:= {w with m5:=none,m6:=0,IQ:=w.mZ,IS:=w.m4}) I H k
theorem Qe (I:I3 ρ c w σ A h) (H:L3 Q' c σ) (k:kt ρ A Q' Q):T3 (Tx.ja ρ Q) c w h:=by
  refine Lf.ind H (fun v=> ∀ (w:W) (h:Hp),I3 ρ v.1 w v.2 A h→T3 (Tx.ja ρ Q) v.1 w h) ?_ w h I
  rintro ⟨c,σ⟩ S hS HB w h I
  refine Tx.qM _ _ _ _ _ _ _ _ _ ?_
  try simp only [dy]
  exact Qd (c:=c) (w:=w) I HB (fun c w h σ I H=>hS _ H w h I) k
theorem Iv (I:I2 ρ c w σ A h) (H:B2 S2' Q' c σ) (Ni:Rq ρ A S2' S2) (k:kt ρ A Q' Q):T2 (Tx.iP ρ S2 Q) c w h:=by
  unfold I2 at I
  unfold T2 Tx.iP
  unfold B2 at H
  refine pR H (fun hb H=> ?_) (fun hb H=> ?_)
  · refine Dh nN I.dR (eE H) fun Wx G9 ail aim Wy H => ?_
    obtain ⟨ain,H⟩:=H
    refine eR Wy ?_
    obtain ⟨mU,Wz,H⟩:=H
    obtain ⟨aio,aip,aiq,air,ais,ait,I⟩:=fG (I.fy.take Wz)
    refine Dr (I.cell 7 69 rfl) ?_
    replace I:=I.fy
    refine wq (jJ:=c.cP) (bA:=G9) nN I H fun Ua ano anp adJ h I H=> ?_
    refine ⟨I.aP.cell 7 69 rfl, ?_⟩
    replace I:=I.dR.aX
    refine Vy (Kx:=(kI .i64)) (key:=G9) I H fun h anq Ls I H=> ?_
    replace I:=I.cI.dupR
    replace I:=I.gy.gy.dR.cI.gy
    replace I:=(ei (⟨mU.book,mU.key,mU.fu,mU.shape,mU.root,Ls,mU.dL⟩:aD) I).putB
    replace I:=I.aP.dupR
    replace I:=I.dR.dupR
    replace I:=I.kZ.dupR
    replace I:=I.sJ.dupR
    replace I:=I.aX.bN
    replace I:=I.aP.bN
    replace I:=I.cI.bN
    replace I:=I.dR.bN
    replace I:=I.fy.bN
    replace I:=I.dR.aX.aP.fy.dR.fy
    exact Ni {c with rC:=(IntKind.wrap .i64 (c.rC+(1:Int)))} w _ (sset σ c.mD (.aD (⟨mU.book,mU.key,mU.fu,mU.shape,mU.root,Ls,mU.dL⟩:aD))) I H
  · replace I := I.cI.dupR
    replace I:=I.cI.dupR
    replace I:=I.aX.bN
    replace I:=I.aP.bN
    replace I:=I.aP.bN
    replace I:=I.cI.bN
    replace I:=I.cI.aX.aP.cI
    exact Qe (c:= {c with v70:=c.bT,nA:=(c.bT.length:Int),v72:=(0:Int)}) (w:= {w with IN:=w.fJ,IP:=w.fK}) I H k
theorem Iw (I:I2 ρ c w σ A h) (H:L2 Q' c σ) (k:kt ρ A Q' Q):T2 (Tx.jb ρ Q) c w h:=by
  refine Lf.ind H (fun v=> ∀ (w:W) (h:Hp),I2 ρ v.1 w v.2 A h→T2 (Tx.jb ρ Q) v.1 w h) ?_ w h I
  rintro ⟨c,σ⟩ S hS HB w h I
  refine Tx.qN _ _ _ _ _ _ _ _ _ _ _ ?_
  try simp only [dy]
  exact Iv (c:=c) (w:=w) I HB (fun c w h σ I H=>hS _ H w h I) k
theorem BT (I:I1 ρ c w σ A h) (H:K1 Q' c σ) (k:kt ρ A Q' Q):Tx.iO ρ Q c.b0 c.cU ⟨w.iX,c.cP.length,w.iY⟩ ⟨w.fJ,c.bT.length,w.fK⟩ w.yd w.Dx w.qK w.nO c.G7 h:=by
  unfold I1 at I
  unfold Tx.iO
  unfold K1 at H
  refine pR H (fun hb H=> ?_) (fun hb H=> ?_)
  · refine lR I.gy 0 3 0 [.one (.int .i64 (0 : Int)), .one (.int .u32 (0 : Int)), .vec .u8 32 (Vector.replicate 32 (0 : Int))] rfl rfl rfl (by first | exact gq rfl | exact dD (by simp [segs, Seg.cells, allOne, dZ, dn, Value.oneCell'])) fun h (I : Inv h (blk w.nO (ρ.T 16) [.one (.int .i64 (0 : Int)), .one (.int .u32 (0 : Int)), .vec .u8 32 (Vector.replicate 32 (0 : Int))] :: _)) => ?_
    refine eR (I.cell 0 0 rfl) ?_
    refine eR (I.cell 1 1 rfl) ?_
    refine ko (I.lump 2 2 rfl) ?_
    try simp only [dy]
    replace I:=I.nilO eU
    replace I:=I.nilO dY
    replace I:=I.aP.bN
    replace I:=I.aP.bN
    replace I:=I.aP.bN
    replace I:=I.aP.bN
    replace I:=I.aP.bN
    replace I:=I.aP.bN
    replace I:=I.aP.bN
    replace I:=I.aP.aX.aP
    exact k ([]:List cv) none 0 ([]:List aO) none 0 (⟨(0:Int),(0:Int),(Vector.replicate 32 (0:Int))⟩:aF) (1:Int) _ σ I H
  · refine ko (I.aP.lump 0 0 rfl) ?_
    try simp only [dy]
    refine kX (I.cI.cell 0 0 rfl) ?_
    refine eR (I.fy.cell 0 0 rfl) ?_
    refine eR (I.fy.cell 1 1 rfl) ?_
    refine ko (I.fy.lump 2 2 rfl) ?_
    try simp only [dy]
    refine Ix (kI .i64) (rS er) false I fun afq h anr I=> ?_
    refine jy [.one (.pointer c.b0), .vec .u8 32 c.rK, .one (.int .u32 c.cU), .one (.slice w.Ag c.xS.cE.length w.Ah), .one (.int .i64 c.gQ.Place), .one (.int .u32 c.gQ.bO), .vec .u8 32 c.gQ.bD, .one (.map (some afq)), .one (.slice none 0 0)] rfl I fun zC h I=> ?_
    replace H:=H zC
    refine kX (I.fy.cell 0 0 rfl) ?_
    replace I:=I.cI
    refine uV (gh:=c.bT) nN I H fun PF Wg Wh h I H=> ?_
    refine ⟨⟨I.gy.cell 0 0 rfl,trivial⟩, ?_⟩
    replace I:=I.kZ.dupR
    replace I:=I.aP.aX
    try simp only [dy]
    refine pz (s0:=c.xS) (eo:=PF) iT I H fun xT WA WB h I H=> ?_
    replace I:=I.aP.dupR
    replace I:=I.gy.toO
    replace I:=I.nilO eU
    replace I:=I.Qp.aX.aP.cI.kH
    obtain ⟨afr,I⟩:=(ei (⟨c.b0,c.rK,c.cU,c.xS,c.gQ,(some []:Option (List (Int × List aF))),([]:List cv)⟩:aD) I).new
    replace H:=H afr
    replace I:=I.fy.dupR
    replace I:=I.gy.dupR
    replace I:=I.gy.freeze
    replace I:=I.dupR
    replace I:=I.aX.dupR
    replace I:=I.aX.bN
    replace I:=I.cI.bN
    replace I:=I.dR.bN
    replace I:=I.fy.bN
    replace I:=I.fy.bN
    replace I:=I.fy.bN
    replace I:=I.fy.bN
    replace I:=I.fy.bN
    replace I:=I.dR.aX.aP.fy.dR.fy
    exact Iw (c:= {c with mD:=zC,cL:=xT,pL:=xT,v53:=(xT.length:Int),rC:=(0:Int)}) (w:= {w with mZ:=WA,m4:=WB,IL:=WA,IM:=WB}) I H k
end aE
theorem vZ {b0:Option Addr} {mR:Vector Int 32} {cU:Int} {s3:bE} {mh:aF} {cP:List aO} {bT:List bf} {va:Option Addr} {vc:Nat} {IT:Nat} {iX:Option Addr} {iY:Nat} {Ai:Nat} {fJ:Option Addr} {fK:Nat} {vf:Nat} {σ:St Obj} {Q':aE.QT} {Q:aE.RT} (I:Inv h (roS (rI .i64) va IT vc s3.cE::roS dY iX Ai iY cP::roS eA fJ vf fK bT::hpA (obA ρ) σ::A)) (H:aE b0 mR cU s3 mh cP bT σ Q')
    (k:aE.kt ρ A Q' Q):Tx.aE ρ b0 mR.toList cU ⟨va,IT,vc⟩ mh.Place mh.bO mh.bD.toList ⟨iX,Ai,iY⟩ ⟨fJ,vf,fK⟩ h Q:=by
  obtain rfl:=kQ I
  obtain rfl:=kQ I.aX
  obtain rfl:=kQ I.aP
  unfold Tx.aE
  unfold aE at H
  try simp only [dy]
  refine jy [.vec .u8 32 mR] rfl I fun tE h I=> ?_
  refine jy [.one (.slice va s3.cE.length vc)] rfl I fun NA h I=> ?_
  refine jy [.one (.int .i64 mh.Place), .one (.int .u32 mh.bO), .vec .u8 32 mh.bD] rfl I fun XG h I=> ?_
  refine jy [.one (.int .i64 (0:Int)), .one (.int .u32 (0:Int)), .vec .u8 32 (Vector.replicate 32 (0:Int))] rfl I fun Aj h I=> ?_
  refine kX (I.aP.cell 0 0 rfl) ?_
  replace I:=I.dR.dupR
  replace I:=I.kZ.kZ.aP
  try simp only [dy]
  refine ya (s0:=s3) (eO:=cP) (dN:=bT) nN nN I H fun GZ h I H=> ?_
  refine pR H (fun hb H=> ?_) (fun hb H=> ?_)
  · replace I := I.dupR
    replace I:=I.aP.dupR
    replace I:=I.dR.dupR
    replace I:=I.aX.bN
    replace I:=I.aP.bN
    replace I:=I.cI.bN
    replace I:=I.kZ.dR.fy.cI.gy.kZ.gy.kZ
    exact aE.BT (c:= {aE.v0 with b0:=b0,cU:=cU,cP:=cP,bT:=bT,rK:=mR,xS:=s3,gQ:=mh,ej:=(⟨(0:Int),(0:Int),(Vector.replicate 32 (0:Int))⟩:aF),G7:=true}) (w:= {aE.w0 with iX:=iX,iY:=iY,fJ:=fJ,fK:=fK,yd:=tE,Dx:=NA,Ag:=va,Ah:=vc,qK:=XG,nO:=Aj}) I H k
  · refine eR (I.dR.cell 0 0 rfl) ?_
    refine eR (I.dR.cell 1 1 rfl) ?_
    refine ko (I.dR.lump 2 2 rfl) ?_
    try simp only [dy]
    try simp only [dy]
    refine rO (r0:=mh) I H fun Er h I H=> ?_
    replace I:=I.dupR
    replace I:=I.aP.dupR
    replace I:=I.dR.dupR
    replace I:=I.aX.bN
    replace I:=I.aP.bN
    replace I:=I.cI.bN
    replace I:=I.kZ.dR.fy.cI.gy.kZ.gy.kZ
    exact aE.BT (c:= {aE.v0 with b0:=b0,cU:=cU,cP:=cP,bT:=bT,rK:=mR,xS:=s3,gQ:=mh,ej:=(⟨(0:Int),(0:Int),(Vector.replicate 32 (0:Int))⟩:aF),G7:=(!Er)}) (w:= {aE.w0 with iX:=iX,iY:=iY,fJ:=fJ,fK:=fK,yd:=tE,Dx:=NA,Ag:=va,Ah:=vc,qK:=XG,nO:=Aj}) I H k
namespace aj
abbrev RT:=Bool→Hp→Prop
def kt (ρ:Ids) (BX:At) (A:List At) (Q':QT) (Q:RT):Prop:=
  ∀ (r0:Bool) (h':Hp) (σ':St Obj),Inv h' (BX::hpA (obA ρ) σ'::A)→Q' r0 σ'→Q r0 h'
end aj
theorem lQ {a0:dr} {l1:List aq} {c2:List an} {WC:Option Addr} {WD:Nat} {WE:Nat} {BX:At} {WG:Option Addr} {WH:Nat} {WI:Nat} {σ:St Obj} {Q':aj.QT} {Q:aj.RT} (NB:Rd ee BX WC WE WD l1) (I:Inv h (BX::roS ef WG WI WH c2::hpA (obA ρ) σ::A)) (H:aj a0 l1 c2 σ Q')
    (k:aj.kt ρ BX A Q' Q):Tx.aj ρ a0.me a0.Key.toList a0.bO a0.cH.Place a0.cH.bO a0.cH.bD.toList ⟨WC,WE,WD⟩ ⟨WG,WI,WH⟩ h Q:=by
  obtain rfl:=fD NB I
  obtain rfl:=kQ I.aX
  unfold Tx.aj
  try simp only [dy]
  replace I:=I.aP
  replace I:=I.aP
  replace I:=WJ I
  replace I:=mkN (D:=Ek.D) (X:=(bigA (BX::A))) I
  replace I:=I.aX
  replace I:=mkC (mkL (D:=Ek.D) (.st 4) I)
  replace I:=mkC (mkR (D:=Ek.D) (.st 3) NB (by simp) I)
  replace I:=mkC (mkV (D:=Ek.D) (.st 12) a0 (([.int .u8 a0.me]:List Value)++(lumpV .u8 32 a0.Key.toList:List Value)++([.int .u32 a0.bO, .int .i64 a0.cH.Place, .int .u32 a0.cH.bO]:List Value)++(lumpV .u8 32 a0.cH.bD.toList:List Value)) rfl (fun _ _=>rfl) I)
  replace I:=I.aX
  replace I:=I.aP
  refine ⟨bigA (BX::A),(a0,l1,c2,()),(some σ),(fun y z o=>match o with | some σ'=>Q' y.1 σ' | none=>False),I,H,fun y z o HQ vs h' I=> ?_⟩
  obtain ⟨r0,⟨⟩⟩:=y
  obtain _ | σ':=o
  · exact HQ.elim
  replace I:=I.aP
  obtain ⟨FA,FB,e0,J⟩:=dsE I
  clear I; subst e0; have I:=J; clear J
  obtain ⟨BN,e0,⟨_,_,BO⟩,J⟩:=unP I
  clear I; subst e0; have I:=J; clear J
  obtain rfl:BN=[.bool r0]:=BO
  obtain ⟨e0,J⟩:=dsN I
  clear I; subst e0; have I:=J; clear J
  replace I:=I.aP
  replace I:=I.bN
  replace I:=I.aX
  replace I:=Inv.bigU (F:=[_]) I
  replace I:=I.aX
  exact ⟨_,rfl,k _ _ _ I HQ⟩
end Go.Pt
namespace Go.Pt
open Go Go.Wc Go.Pu Go.Laws
open Go.Proofs.YtpjehkdneiclnaaGreat.Ek (ρ)
def fY (x:ax):Prop:=(fun n:Int=>(Lit.int .i64 n).wf=true) x.Place∧(fun n:Int=>(Lit.int .u32 n).wf=true) x.bO∧(fun v:Vector Int 32=> ∀ x ∈ v.toList,(Lit.int .u8 x).wf=true) x.bD
theorem jT {P:Program} {t t0 t1 t2:TypeId} (hf:fieldsOf P t=[(t0,0),(t1,1),(t2,2)]) (hc:P.cellsOf t=34) (o0:Opens P t0 (rI .i64) (fun n:Int=>(Lit.int .i64 n).wf=true)) (o1:Opens P t1 (rI .u32) (fun n:Int=>(Lit.int .u32 n).wf=true)) (o2:Opens P t2 (rV .u8 32) (fun v:Vector Int 32=> ∀ x ∈ v.toList,(Lit.int .u8 x).wf=true)):Opens P t fq fY:=by
  refine ⟨hc,fun {_ _ w _ _ _} hd=> ?_⟩
  obtain ⟨hl,hfs⟩:=mj hf (by simp) hd
  rw [hc] at hl
  obtain ⟨v0,r0,rfl,Ba⟩:=iS hl
  obtain ⟨v1,r1,rfl,Nc⟩:=iS Ba
  obtain ⟨u2,w2,rfl,hu2,XC⟩:=om (n:=32) (m:=0) Nc
  obtain rfl:=List.length_eq_zero_iff.1 XC
  obtain ⟨_,_,d0⟩:=hfs (t0,0) (by simp)
  obtain ⟨x0,p0,q0⟩:=o0.2 d0
  dsimp only at p0
  rw [o0.1] at p0
  have e0:=p0
  have e0:[v0]=[.int .i64 x0]:=e0
  simp only [List.cons.injEq,and_true] at e0
  subst e0
  obtain ⟨_,_,d1⟩:=hfs (t1,1) (by simp)
  obtain ⟨x1,p1,q1⟩:=o1.2 d1
  dsimp only at p1
  rw [o1.1] at p1
  have e1:=p1
  have e1:[v1]=[.int .u32 x1]:=e1
  simp only [List.cons.injEq,and_true] at e1
  subst e1
  obtain ⟨_,_,d2⟩:=hfs (t2,2) (by simp)
  obtain ⟨x2,p2,q2⟩:=o2.2 d2
  dsimp only at p2
  rw [o2.1] at p2
  have e2:u2=lumpV .u8 32 x2.toList:=by have q:List.take 32 _=_:=p2; simpa [hu2,List.take_of_length_le (Nat.le_of_eq hu2)] using q
  subst e2
  exact ⟨⟨x0,x1,x2⟩,(by show _=_; simp),q0,q1,q2⟩
def lN (x:dr):Prop:=(fun n:Int=>(Lit.int .u8 n).wf=true) x.me∧(fun v:Vector Int 32=> ∀ x ∈ v.toList,(Lit.int .u8 x).wf=true) x.Key∧(fun n:Int=>(Lit.int .u32 n).wf=true) x.bO∧fY x.cH
theorem nv {P:Program} {t t0 t1 t2 t3:TypeId} (hf:fieldsOf P t=[(t0,0),(t1,1),(t2,33),(t3,34)]) (hc:P.cellsOf t=68) (o0:Opens P t0 (rI .u8) (fun n:Int=>(Lit.int .u8 n).wf=true)) (o1:Opens P t1 (rV .u8 32) (fun v:Vector Int 32=> ∀ x ∈ v.toList,(Lit.int .u8 x).wf=true)) (o2:Opens P t2 (rI .u32) (fun n:Int=>(Lit.int .u32 n).wf=true)) (o3:Opens P t3 fq fY):Opens P t gP lN:=by
  refine ⟨hc,fun {_ _ w _ _ _} hd=> ?_⟩
  obtain ⟨hl,hfs⟩:=mj hf (by simp) hd
  rw [hc] at hl
  obtain ⟨v0,r0,rfl,Ba⟩:=iS hl
  obtain ⟨u1,w1,rfl,hu1,hw1⟩:=om (n:=32) (m:=35) Ba
  obtain ⟨v33,r33,rfl,aev⟩:=iS hw1
  obtain ⟨u3,w3,rfl,hu3,hw3⟩:=om (n:=34) (m:=0) aev
  obtain rfl:=List.length_eq_zero_iff.1 hw3
  obtain ⟨_,_,d0⟩:=hfs (t0,0) (by simp)
  obtain ⟨x0,p0,q0⟩:=o0.2 d0
  dsimp only at p0
  rw [o0.1] at p0
  have e0:=p0
  have e0:[v0]=[.int .u8 x0]:=e0
  simp only [List.cons.injEq,and_true] at e0
  subst e0
  obtain ⟨_,_,d1⟩:=hfs (t1,1) (by simp)
  obtain ⟨x1,p1,q1⟩:=o1.2 d1
  dsimp only at p1
  rw [o1.1] at p1
  have e1:u1=lumpV .u8 32 x1.toList:=by have q:List.take 32 _=_:=p1; simpa [hu1,List.take_of_length_le (Nat.le_of_eq hu1)] using q
  subst e1
  obtain ⟨_,_,d2⟩:=hfs (t2,33) (by simp)
  obtain ⟨x2,p2,q2⟩:=o2.2 d2
  dsimp only at p2
  rw [o2.1] at p2
  have e2:=p2
  have e2:[v33]=[.int .u32 x2]:=e2
  simp only [List.cons.injEq,and_true] at e2
  subst e2
  obtain ⟨_,_,d3⟩:=hfs (t3,34) (by simp)
  obtain ⟨x3,p3,q3⟩:=o3.2 d3
  dsimp only at p3
  rw [o3.1] at p3
  have e3:u3=([.int .i64 x3.Place, .int .u32 x3.bO]:List Value)++lumpV .u8 32 x3.bD.toList:=by have q:List.take 34 _=_:=p3; simpa [hu3,cJ,List.drop_append,List.drop_eq_nil_of_le,List.take_of_length_le (Nat.le_of_eq hu3)] using q
  subst e3
  exact ⟨⟨x0,x1,x2,x3⟩,(by show _=_; simp),q0,q1,q2,q3⟩
def kS (x:aq):Prop:=(fun n:Int=>(Lit.int .i64 n).wf=true) x.Item∧(fun l:List ax=>l.length≤maxLen∧ ∀ x ∈ l,fY x) x.Refs
theorem mM {P:Program} {t t0 t1:TypeId} (hf:fieldsOf P t=[(t0,0),(t1,1)]) (hc:P.cellsOf t=2) (o0:Opens P t0 (rI .i64) (fun n:Int=>(Lit.int .i64 n).wf=true)) (o1:Opens P t1 (rS fq) (fun l:List ax=>l.length≤maxLen∧ ∀ x ∈ l,fY x)):Opens P t ee kS:=by
  refine ⟨hc,fun {_ _ w _ _ _} hd=> ?_⟩
  obtain ⟨hl,hfs⟩:=mj hf (by simp) hd
  rw [hc] at hl
  obtain ⟨v0,r0,rfl,Ba⟩:=iS hl
  obtain ⟨v1,r1,rfl,Nc⟩:=iS Ba
  obtain rfl:=List.length_eq_zero_iff.1 Nc
  obtain ⟨_,_,d0⟩:=hfs (t0,0) (by simp)
  obtain ⟨x0,p0,q0⟩:=o0.2 d0
  dsimp only at p0
  rw [o0.1] at p0
  have e0:=p0
  have e0:[v0]=[.int .i64 x0]:=e0
  simp only [List.cons.injEq,and_true] at e0
  subst e0
  obtain ⟨_,_,d1⟩:=hfs (t1,1) (by simp)
  obtain ⟨x1,p1,q1⟩:=o1.2 d1
  dsimp only at p1
  rw [o1.1] at p1
  obtain ⟨a1,c1,e1,s1⟩:=p1
  change [v1]=_ at e1
  simp only [List.cons.injEq,and_true] at e1
  subst e1
  exact ⟨⟨x0,x1⟩,⟨a1,c1,rfl,s1⟩,q0,q1⟩
def kj (x:an):Prop:=(fun n:Int=>(Lit.int .i64 n).wf=true) x.dx∧(fun l:List Int=>l.length≤maxLen∧ ∀ x ∈ l,(fun n:Int=>(Lit.int .u8 n).wf=true) x) x.Bytes
theorem lW {P:Program} {t t0 t1:TypeId} (hf:fieldsOf P t=[(t0,0),(t1,1)]) (hc:P.cellsOf t=2) (o0:Opens P t0 (rI .i64) (fun n:Int=>(Lit.int .i64 n).wf=true)) (o1:Opens P t1 (rS (rI .u8)) (fun l:List Int=>l.length≤maxLen∧ ∀ x ∈ l,(fun n:Int=>(Lit.int .u8 n).wf=true) x)):Opens P t ef kj:=by
  refine ⟨hc,fun {_ _ w _ _ _} hd=> ?_⟩
  obtain ⟨hl,hfs⟩:=mj hf (by simp) hd
  rw [hc] at hl
  obtain ⟨v0,r0,rfl,Ba⟩:=iS hl
  obtain ⟨v1,r1,rfl,Nc⟩:=iS Ba
  obtain rfl:=List.length_eq_zero_iff.1 Nc
  obtain ⟨_,_,d0⟩:=hfs (t0,0) (by simp)
  obtain ⟨x0,p0,q0⟩:=o0.2 d0
  dsimp only at p0
  rw [o0.1] at p0
  have e0:=p0
  have e0:[v0]=[.int .i64 x0]:=e0
  simp only [List.cons.injEq,and_true] at e0
  subst e0
  obtain ⟨_,_,d1⟩:=hfs (t1,1) (by simp)
  obtain ⟨x1,p1,q1⟩:=o1.2 d1
  dsimp only at p1
  rw [o1.1] at p1
  obtain ⟨a1,c1,e1,s1⟩:=p1
  change [v1]=_ at e1
  simp only [List.cons.injEq,and_true] at e1
  subst e1
  exact ⟨⟨x0,x1⟩,⟨a1,c1,rfl,s1⟩,q0,q1⟩
theorem kP {h:Hp} {x0:dr} {NS:Array Value} {x1:List aq} {a1:Option Addr} {c1:Nat} {x2:List an} {a2:Option Addr} {c2:Nat} (h0:gP.P h [] NS.toList x0) (h1:SlE ee h [] a1 c1 x1) (h2:SlE ef h [] a2 c2 x2) (HP:aj x0 x1 x2 RY (fun b _=>b=true)):
    Tx.dO ρ [.agg NS, .slice a1 x1.length c1, .slice a2 x2.length c2] h (fun v h'=>v= .bool true∧Keep [] h h'):=by
  have e0:=h0
  obtain rfl:NS=(([.int .u8 x0.me]:List Value)++lumpV .u8 32 x0.Key.toList++([.int .u32 x0.bO, .int .i64 x0.cH.Place, .int .u32 x0.cH.bO]:List Value)++lumpV .u8 32 x0.cH.bD.toList).toArray:=by rw [← e0]
  unfold Tx.dO
  dsimp only [List.cons_append,List.nil_append,List.toList_toArray,tI,tA,tN,tS,tB,tT,tP,tM,tV,tG,cnd,sameKind]
  try simp only [List.append_assoc,List.cons_append,List.nil_append]
  refine Nb ?_
  try dsimp only [List.cons_append,List.nil_append,tI,tA,tN,tS,tB,tT,tP,tM,tV,tG,cnd,sameKind]
  try simp only [List.append_assoc,List.cons_append,List.nil_append]
  refine ua ?_
  try dsimp only [List.cons_append,List.nil_append,tI,tA,tN,tS,tB,tT,tP,tM,tV,tG,cnd,sameKind]
  have I:Inv h (roS ee a1 x1.length c1 x1::roS ef a2 x2.length c2 x2::hpA (obA ρ) RY::[leA h []]):=LH (A:=[roS ee a1 x1.length c1 x1,roS ef a2 x2.length c2 x2,hpA (obA ρ) RY]) (by
    intro a ha
    simp only [List.mem_cons,List.not_mem_nil,or_false] at ha
    rcases ha with rfl | rfl | rfl
    · exact ro0 h1
    · exact ro0 h2
    · exact hp0)
  refine lQ nN I HP fun r h' σ I H=> ?_
  exact ⟨by rw [show r=true from H],LU (I.bN.bN)⟩
end Go.Pt
namespace Go.Proofs.YtpjehkdneiclnaaGreat.Ek
open Go Go.Wc Go.Pu Go.Ex Go.Laws Go.Proofs.YtpjehkdneiclnaaGreat Go.Pt
theorem XK (H:SpecOk Tryz.prog 44 (specOf Bb)):SpecOk Tryz.prog 44 (Tx.gf ρ):=by
  refine ⟨H.1,fun args K w H0=> ?_⟩
  unfold Tx.gf at H0
  obtain ⟨Km,Kn,rfl,H1⟩:=gz H0
  obtain ⟨jc,qq,rfl,H2⟩:=cY H1
  obtain ⟨rfl,H3⟩:=cA H2
  obtain ⟨bA,rr,rfl,H4⟩:=cG H3
  obtain ⟨rfl,H5⟩:=cA H4
  unfold Tx.aR at H5
  try simp only [fU,List.append_nil] at H5 ⊢
  refine (H.2 _ _ w H5).mono ?_
  rintro e w' ⟨v,rfl,hs,r0,r1,r2,rfl,hk⟩
  exact ⟨_,rfl,hs,hk⟩
theorem XL (H:SpecOk Tryz.prog 35 (specOf yL)):SpecOk Tryz.prog 35 (Tx.gK ρ):=by
  refine ⟨H.1,fun args K w H0=> ?_⟩
  unfold Tx.gK at H0
  obtain ⟨Km,Kn,rfl,H1⟩:=gz H0
  obtain ⟨jc,qq,rfl,H2⟩:=cY H1
  obtain ⟨rfl,H3⟩:=cA H2
  obtain ⟨gI,rr,rfl,H4⟩:=cG H3
  obtain ⟨rfl,H5⟩:=cA H4
  unfold Tx.aY at H5
  try simp only [fU,List.append_nil] at H5 ⊢
  refine (H.2 _ _ w H5).mono ?_
  rintro e w' ⟨v,rfl,hs,r0,rfl,hk⟩
  exact ⟨_,rfl,hs,hk⟩
theorem XM (H:SpecOk Tryz.prog 18 (specOf yM)):SpecOk Tryz.prog 18 (Tx.jI ρ):=by
  refine ⟨H.1,fun args K w H0=> ?_⟩
  unfold Tx.jI at H0
  obtain ⟨gh,rr,rfl,H1⟩:=cY H0
  obtain ⟨rfl,H2⟩:=cA H1
  unfold Tx.bW at H2
  try simp only [fU,List.append_nil] at H2 ⊢
  refine (H.2 _ _ w H2).mono ?_
  rintro e w' ⟨v,rfl,hs,r0,rfl,hk⟩
  exact ⟨_,rfl,hs,hk⟩
theorem XN (H:SpecOk Tryz.prog 19 (specOf Bc)):SpecOk Tryz.prog 19 (Tx.kA ρ):=by
  refine ⟨H.1,fun args K w H0=> ?_⟩
  unfold Tx.kA at H0
  obtain ⟨jJ,rr,rfl,H1⟩:=cY H0
  obtain ⟨bA,rr,rfl,H2⟩:=cG H1
  obtain ⟨rfl,H3⟩:=cA H2
  unfold Tx.eX at H3
  try simp only [fU,List.append_nil] at H3 ⊢
  refine (H.2 _ _ w H3).mono ?_
  rintro e w' ⟨v,rfl,hs,r0,r1,rfl,hk⟩
  exact ⟨_,rfl,hs,hk⟩
theorem XO (H:SpecOk Tryz.prog 17 (specOf Bd)):SpecOk Tryz.prog 17 (Tx.jd ρ):=by
  refine ⟨H.1,fun args K w H0=> ?_⟩
  unfold Tx.jd at H0
  obtain ⟨Km,Kn,rfl,H1⟩:=gz H0
  obtain ⟨Ko,qq,rfl,H2⟩:=cG H1
  obtain ⟨Kp,qq,rfl,H3⟩:=cG H2
  obtain ⟨Kq,qq,rfl,H4⟩:=jK H3
  obtain ⟨rfl,H5⟩:=cA H4
  obtain ⟨rfl,H6⟩:=cA H5
  unfold Tx.dV at H6
  try simp only [fU,List.append_nil] at H6 ⊢
  refine (H.2 _ _ w H6).mono ?_
  rintro e w' ⟨v,rfl,hs,r0,rfl,hk⟩
  exact ⟨_,rfl,hs,hk⟩
theorem XP (H:SpecOk Tryz.prog 16 (specOf Be)):SpecOk Tryz.prog 16 (Tx.k7 ρ):=by
  refine ⟨H.1,fun args K w H0=> ?_⟩
  unfold Tx.k7 at H0
  obtain ⟨Km,Kn,rfl,H1⟩:=gz H0
  obtain ⟨jc,qq,rfl,H2⟩:=cY H1
  obtain ⟨rfl,H3⟩:=cA H2
  obtain ⟨eO,rr,rfl,H4⟩:=cY H3
  obtain ⟨dN,rr,rfl,H5⟩:=cY H4
  obtain ⟨rfl,H6⟩:=cA H5
  unfold Tx.bJ at H6
  try simp only [fU,List.append_nil] at H6 ⊢
  refine (H.2 _ _ w H6).mono ?_
  rintro e w' ⟨v,rfl,hs,r0,rfl,hk⟩
  exact ⟨_,rfl,hs,hk⟩
theorem XQ (H:SpecOk Tryz.prog 45 (specOf Bf)):SpecOk Tryz.prog 45 (Tx.gA ρ):=by
  refine ⟨H.1,fun args K w H0=> ?_⟩
  unfold Tx.gA at H0
  obtain ⟨Km,Kn,rfl,H1⟩:=gz H0
  obtain ⟨jc,qq,rfl,H2⟩:=cY H1
  obtain ⟨rfl,H3⟩:=cA H2
  obtain ⟨bA,rr,rfl,H4⟩:=cG H3
  obtain ⟨dg,rr,rfl,H5⟩:=cG H4
  obtain ⟨rfl,H6⟩:=cA H5
  unfold Tx.aS at H6
  try simp only [fU,List.append_nil] at H6 ⊢
  refine (H.2 _ _ w H6).mono ?_
  rintro e w' ⟨v,rfl,hs,r0,rfl,hk⟩
  exact ⟨_,rfl,hs,hk⟩
theorem Ry (H:SpecOk Tryz.prog 107 (specOf tZ)):SpecOk Tryz.prog 107 (Tx.jL ρ):=by
  refine ⟨H.1,fun args K w H0=> ?_⟩
  unfold Tx.jL at H0
  obtain ⟨Km,Kn,rfl,H1⟩:=gz H0
  obtain ⟨nk,qq,rfl,H2⟩:=jK H1
  obtain ⟨rfl,H3⟩:=cA H2
  obtain ⟨XR,XS,rfl,H4⟩:=gz H3
  obtain ⟨jM,qq,rfl,H5⟩:=jK H4
  obtain ⟨rfl,H6⟩:=cA H5
  obtain ⟨bM,rr,rfl,H7⟩:=cG H6
  obtain ⟨rfl,H8⟩:=cA H7
  unfold Tx.aT at H8
  try simp only [fU,List.append_nil] at H8 ⊢
  refine (H.2 _ _ w H8).mono ?_
  rintro e w' ⟨v,rfl,hs,r0,rfl,hk⟩
  exact ⟨_,rfl,hs,hk⟩
theorem Rz (H:SpecOk Tryz.prog 109 (specOf sB)):SpecOk Tryz.prog 109 (Tx.je ρ):=by
  refine ⟨H.1,fun args K w H0=> ?_⟩
  unfold Tx.je at H0
  obtain ⟨Km,Kn,rfl,H1⟩:=gz H0
  obtain ⟨Kt,qq,rfl,H2⟩:=jK H1
  obtain ⟨rfl,H3⟩:=cA H2
  obtain ⟨rfl,H4⟩:=cA H3
  unfold Tx.dG at H4
  try simp only [fU,List.append_nil] at H4 ⊢
  refine (H.2 _ _ w H4).mono ?_
  rintro e w' ⟨v,rfl,hs,r0,rfl,hk⟩
  exact ⟨_,rfl,hs,hk⟩
theorem XT (H:SpecOk Tryz.prog 77 (specOf yN)):SpecOk Tryz.prog 77 (Tx.oM ρ):=by
  refine ⟨H.1,fun args K w H0=> ?_⟩
  unfold Tx.oM at H0
  obtain ⟨jN,rr,rfl,H1⟩:=cY H0
  obtain ⟨rfl,H2⟩:=cA H1
  unfold Tx.cZ at H2
  try simp only [fU,List.append_nil] at H2 ⊢
  refine (H.2 _ _ w H2).mono ?_
  rintro e w' ⟨v,rfl,hs,r0,rfl,hk⟩
  exact ⟨_,rfl,hs,hk⟩
theorem XU (H:SpecOk Tryz.prog 46 (specOf Bg)):SpecOk Tryz.prog 46 (Tx.lY ρ):=by
  refine ⟨H.1,fun args K w H0=> ?_⟩
  unfold Tx.lY at H0
  obtain ⟨b0,rr,rfl,H1⟩:=lZ H0
  obtain ⟨XR,XS,rfl,H2⟩:=gz H1
  obtain ⟨nq,qq,rfl,H3⟩:=jK H2
  obtain ⟨rfl,H4⟩:=cA H3
  obtain ⟨cU,rr,rfl,H5⟩:=cG H4
  obtain ⟨eY,rr,rfl,H6⟩:=cG H5
  obtain ⟨jk,rr,rfl,H7⟩:=cG H6
  obtain ⟨kR,rr,rfl,H8⟩:=cY H7
  obtain ⟨rfl,H9⟩:=cA H8
  unfold Tx.cw at H9
  try simp only [fU,List.append_nil] at H9 ⊢
  refine (H.2 _ _ w H9).mono ?_
  rintro e w' ⟨v,rfl,hs,r0,r1,r2,r3,r4,rfl,hk⟩
  exact ⟨_,rfl,hs,hk⟩
theorem XV (H:SpecOk Tryz.prog 22 (specOf yO)):SpecOk Tryz.prog 22 (Tx.nr ρ):=by
  refine ⟨H.1,fun args K w H0=> ?_⟩
  unfold Tx.nr at H0
  obtain ⟨gV,rr,rfl,H1⟩:=cY H0
  obtain ⟨rfl,H2⟩:=cA H1
  unfold Tx.cn at H2
  try simp only [fU,List.append_nil] at H2 ⊢
  refine (H.2 _ _ w H2).mono ?_
  rintro e w' ⟨v,rfl,hs,r0,r1,rfl,hk⟩
  exact ⟨_,rfl,hs,hk⟩
theorem tx3 (H:SpecOk Tryz.prog 3 (specOf RA)):SpecOk Tryz.prog 3 (Tx.dO ρ):=by
  refine ⟨H.1,fun args K w H0=> ?_⟩
  unfold Tx.dO at H0
  obtain ⟨Km,Kn,rfl,H1⟩:=gz H0
  obtain ⟨Ku,qq,rfl,H2⟩:=cG H1
  obtain ⟨Kv,qq,rfl,H3⟩:=jK H2
  obtain ⟨Kw,qq,rfl,H4⟩:=cG H3
  obtain ⟨Kz,qq,rfl,H5⟩:=cG H4
  obtain ⟨KA,qq,rfl,H6⟩:=cG H5
  obtain ⟨KB,qq,rfl,H7⟩:=jK H6
  obtain ⟨rfl,H8⟩:=cA H7
  obtain ⟨l1,rr,rfl,H9⟩:=cY H8
  obtain ⟨c2,rr,rfl,RB⟩:=cY H9
  obtain ⟨rfl,RC⟩:=cA RB
  unfold Tx.aj at RC
  try simp only [fU,List.append_nil] at RC ⊢
  refine (H.2 _ _ w RC).mono ?_
  rintro e w' ⟨v,rfl,hs,r0,rfl,hk⟩
  exact ⟨_,rfl,hs,hk⟩
theorem XW:SpecOk Tryz.prog 15 (Tx.iq ρ)→SpecOk Tryz.prog 15 (specOf KD):=by
  refine fun H=>lG H fun args h K ⟨XX,x,o,Q,I,HP,hQ⟩=> ?_
  obtain ⟨x0,x1,⟨⟩⟩:=x
  replace I:=I.aP
  obtain ⟨RD,RE,e0,J⟩:=dsE I
  clear I; subst e0; have I:=J; clear J
  obtain ⟨Rj,e0,J⟩:=unV I
  clear I; subst e0; have I:=J; clear J
  refine qj I fun aiN aiO e0 J=> ?_
  clear I; subst e0; have I:=J; clear J
  replace I:=I.aX
  obtain ⟨XY,XZ,e0,J⟩:=dsE I
  clear I; subst e0; have I:=J; clear J
  obtain ⟨w1a,w1c,e0,w1h,J⟩:=unR I
  clear I; subst e0; have I:=J; clear J
  obtain ⟨e0,J⟩:=dsN I
  clear I; subst e0; have I:=J; clear J
  unfold Tx.iq
  try dsimp only [List.cons_append,List.nil_append,List.toList_toArray,vOf,aggT,List.headD_cons,tI,tA,tN,tS,tB,tT,tP,tM,tV,tG,cnd,sameKind]
  replace HP:bU x0 x1 (fun r0=>Q (r0,()) () o):=HP
  refine pz w1h I HP fun r0 tg th h' I HQ=> ?_
  replace I:=mkN (D:=Ek.D) (X:=XX) I
  replace I:=I.aX
  replace I:=mkC (mkO (D:=Ek.D) (.int .i64) I)
  replace I:=I.aP
  replace I:=I.aP
  replace I:=Inv.addE I
  exact hQ (r0,()) () _ HQ [_] h' I
theorem X0:SpecOk Tryz.prog 21 (Tx.dc ρ)→SpecOk Tryz.prog 21 (specOf KE):=by
  refine fun H=>lG H fun args h K ⟨XX,x,o,Q,I,HP,hQ⟩=> ?_
  obtain ⟨x0,⟨⟩⟩:=x
  replace I:=I.aP
  obtain ⟨RD,RE,e0,J⟩:=dsE I
  clear I; subst e0; have I:=J; clear J
  obtain ⟨w0a,w0c,e0,X1,J⟩:=unR I
  clear I; subst e0; have I:=J; clear J
  obtain ⟨e0,J⟩:=dsN I
  clear I; subst e0; have I:=J; clear J
  unfold Tx.dc
  try dsimp only [List.cons_append,List.nil_append,List.toList_toArray,vOf,aggT,List.headD_cons,tI,tA,tN,tS,tB,tT,tP,tM,tV,tG,cnd,sameKind]
  replace HP:cz x0 (fun r0=>Q (r0,()) () o):=HP
  refine gi X1 I HP fun r0 tg th h' I HQ=> ?_
  replace I:=mkN (D:=Ek.D) (X:=XX) I
  replace I:=I.aX
  replace I:=mkC (mkO (D:=Ek.D) (.st 6) I)
  replace I:=I.aP
  replace I:=I.aP
  replace I:=Inv.addE I
  exact hQ (r0,()) () _ HQ [_] h' I
theorem X2:SpecOk Tryz.prog 95 (Tx.iG ρ)→SpecOk Tryz.prog 95 (specOf KF):=by
  refine fun H=>lG H fun args h K ⟨XX,x,o,Q,I,HP,hQ⟩=> ?_
  obtain ⟨x0,x1,x2,⟨⟩⟩:=x
  replace I:=I.aP
  obtain ⟨RD,RE,e0,J⟩:=dsE I
  clear I; subst e0; have I:=J; clear J
  obtain ⟨Rj,e0,⟨_,_,RF⟩,J⟩:=unP I
  clear I; subst e0; have I:=J; clear J
  obtain rfl:Rj=lumpV .u8 32 x0.toList:=RF
  obtain ⟨XY,XZ,e0,J⟩:=dsE I
  clear I; subst e0; have I:=J; clear J
  obtain ⟨X3,e0,⟨_,_,X4⟩,J⟩:=unP I
  clear I; subst e0; have I:=J; clear J
  obtain rfl:X3=lumpV .u8 12 x1.toList:=X4
  obtain ⟨wv2,ww2,e0,J⟩:=dsE I
  clear I; subst e0; have I:=J; clear J
  obtain ⟨X5,e0,⟨_,_,X6⟩,J⟩:=unP I
  clear I; subst e0; have I:=J; clear J
  obtain rfl:X5=[.int .u32 x2]:=X6
  obtain ⟨e0,J⟩:=dsN I
  clear I; subst e0; have I:=J; clear J
  unfold Tx.iG
  try dsimp only [List.cons_append,List.nil_append,List.toList_toArray,vOf,aggT,List.headD_cons,tI,tA,tN,tS,tB,tT,tP,tM,tV,tG,cnd,sameKind]
  try simp only [List.append_assoc,List.cons_append,List.nil_append]
  refine ua ?_
  try dsimp only [List.cons_append,List.nil_append,tI,tA,tN,tS,tB,tT,tP,tM,tV,tG,cnd,sameKind]
  try simp only [List.append_assoc,List.cons_append,List.nil_append]
  refine ua ?_
  try dsimp only [List.cons_append,List.nil_append,tI,tA,tN,tS,tB,tT,tP,tM,tV,tG,cnd,sameKind]
  replace HP:ay x0 x1 x2 (fun r0=>Q (r0,()) () o):=HP
  refine uc I HP fun r0 h' I HQ=> ?_
  replace I:=mkN (D:=Ek.D) (X:=XX) I
  replace I:=mkC (mkV (D:=Ek.D) (.vec .u8 64) r0 (lumpV .u8 64 r0.toList) rfl (fun _ _=>rfl) I)
  replace I:=I.aP
  replace I:=I.aP
  replace I:=Inv.addE I
  exact hQ (r0,()) () _ HQ [_] h' I
theorem X7:SpecOk Tryz.prog 64 (Tx.ir ρ)→SpecOk Tryz.prog 64 (specOf KG):=by
  refine fun H=>lG H fun args h K ⟨XX,x,o,Q,I,HP,hQ⟩=> ?_
  obtain ⟨x0,⟨⟩⟩:=x
  replace I:=I.aP
  obtain ⟨RD,RE,e0,J⟩:=dsE I
  clear I; subst e0; have I:=J; clear J
  obtain ⟨w0a,w0c,e0,X1,J⟩:=unR I
  clear I; subst e0; have I:=J; clear J
  obtain ⟨e0,J⟩:=dsN I
  clear I; subst e0; have I:=J; clear J
  unfold Tx.ir
  try dsimp only [List.cons_append,List.nil_append,List.toList_toArray,vOf,aggT,List.headD_cons,tI,tA,tN,tS,tB,tT,tP,tM,tV,tG,cnd,sameKind]
  replace HP:fA x0 (fun r0=>Q (r0,()) () o):=HP
  refine pE X1 I HP fun r0 tg th h' I HQ=> ?_
  replace I:=mkN (D:=Ek.D) (X:=XX) I
  replace I:=I.aX
  replace I:=mkC (mkO (D:=Ek.D) (.int .u8) I)
  replace I:=I.aP
  replace I:=I.aP
  replace I:=Inv.addE I
  exact hQ (r0,()) () _ HQ [_] h' I
theorem X9:SpecOk Tryz.prog 62 (Tx.fV ρ)→SpecOk Tryz.prog 62 (specOf KH):=by
  refine fun H=>lG H fun args h K ⟨XX,x,o,Q,I,HP,hQ⟩=> ?_
  obtain ⟨x0,x1,⟨⟩⟩:=x
  obtain _ | σ:=o
  · exact HP.elim
  replace I:=I.aP
  obtain ⟨RD,RE,e0,J⟩:=dsE I
  clear I; subst e0; have I:=J; clear J
  obtain ⟨Rj,e0,⟨_,_,RF⟩,J⟩:=unP I
  clear I; subst e0; have I:=J; clear J
  obtain rfl:Rj=[.pointer x0]:=RF
  obtain ⟨XY,XZ,e0,J⟩:=dsE I
  clear I; subst e0; have I:=J; clear J
  obtain ⟨w1a,w1c,e0,J⟩:=KI I
  clear I; subst e0; have I:=J; clear J
  replace I:=I.aX
  obtain ⟨e0,J⟩:=dsN I
  clear I; subst e0; have I:=J; clear J
  replace I:=I.aX
  replace I:=I.aP
  replace I:=I.aP
  unfold Tx.fV
  try dsimp only [List.cons_append,List.nil_append,List.toList_toArray,vOf,aggT,List.headD_cons,tI,tA,tN,tS,tB,tT,tP,tM,tV,tG,cnd,sameKind]
  replace HP:bB x0 x1 σ (fun r0 σ1=>Q (r0,()) () (some σ1)):=HP
  refine pI I HP fun r0 h' σ' I HQ=> ?_
  replace I:=mkN (D:=Ek.D) (X:=XX) I
  replace I:=mkC (mkV (D:=Ek.D) (.vec .u8 32) r0 (lumpV .u8 32 r0.toList) rfl (fun _ _=>rfl) I)
  replace I:=I.aX
  replace I:=I.aP
  replace I:=Inv.addE I
  exact hQ (r0,()) () (some σ') HQ [_] h' I
theorem ad9:SpecOk Tryz.prog 9 (Tx.jo ρ)→SpecOk Tryz.prog 9 (specOf Xn):=by
  refine fun H=>lG H fun args h K ⟨XX,x,o,Q,I,HP,hQ⟩=> ?_
  obtain ⟨x0,x1,x2,x3,x4,x5,x6,⟨⟩⟩:=x
  obtain _ | σ:=o
  · exact HP.elim
  replace I:=I.aP
  obtain ⟨RD,RE,e0,J⟩:=dsE I
  clear I; subst e0; have I:=J; clear J
  obtain ⟨Rj,e0,⟨_,_,RF⟩,J⟩:=unP I
  clear I; subst e0; have I:=J; clear J
  obtain rfl:Rj=[.pointer x0]:=RF
  obtain ⟨XY,XZ,e0,J⟩:=dsE I
  clear I; subst e0; have I:=J; clear J
  obtain ⟨X3,e0,⟨_,_,X4⟩,J⟩:=unP I
  clear I; subst e0; have I:=J; clear J
  obtain rfl:X3=lumpV .u8 32 x1.toList:=X4
  obtain ⟨wv2,ww2,e0,J⟩:=dsE I
  clear I; subst e0; have I:=J; clear J
  obtain ⟨X5,e0,⟨_,_,X6⟩,J⟩:=unP I
  clear I; subst e0; have I:=J; clear J
  obtain rfl:X5=[.int .u32 x2]:=X6
  obtain ⟨wv3,ww3,e0,J⟩:=dsE I
  clear I; subst e0; have I:=J; clear J
  obtain ⟨w3u,e0,J⟩:=unV I
  clear I; subst e0; have I:=J; clear J
  refine qj I fun aiX aiY e0 J=> ?_
  clear I; subst e0; have I:=J; clear J
  replace I:=I.aX
  obtain ⟨wv4,ww4,e0,J⟩:=dsE I
  clear I; subst e0; have I:=J; clear J
  obtain ⟨w4u,e0,⟨_,_,w4e⟩,J⟩:=unP I
  clear I; subst e0; have I:=J; clear J
  obtain rfl:w4u=([.int .i64 x4.Place, .int .u32 x4.bO]:List Value)++(lumpV .u8 32 x4.bD.toList:List Value):=w4e
  obtain ⟨wv5,ww5,e0,J⟩:=dsE I
  clear I; subst e0; have I:=J; clear J
  obtain ⟨w5a,w5c,e0,J⟩:=KI I
  clear I; subst e0; have I:=J; clear J
  replace I:=I.aX
  obtain ⟨wv6,ww6,e0,J⟩:=dsE I
  clear I; subst e0; have I:=J; clear J
  obtain ⟨w6a,w6c,e0,J⟩:=KI I
  clear I; subst e0; have I:=J; clear J
  replace I:=I.aX
  obtain ⟨e0,J⟩:=dsN I
  clear I; subst e0; have I:=J; clear J
  replace I:=I.cI
  replace I:=I.dR
  replace I:=I.aP
  replace I:=I.cI
  replace I:=I.dR
  unfold Tx.jo
  try dsimp only [List.cons_append,List.nil_append,List.toList_toArray,vOf,aggT,List.headD_cons,tI,tA,tN,tS,tB,tT,tP,tM,tV,tG,cnd,sameKind]
  try simp only [List.append_assoc,List.cons_append,List.nil_append]
  refine ua ?_
  try dsimp only [List.cons_append,List.nil_append,tI,tA,tN,tS,tB,tT,tP,tM,tV,tG,cnd,sameKind]
  try simp only [List.append_assoc,List.cons_append,List.nil_append]
  refine ua ?_
  try dsimp only [List.cons_append,List.nil_append,tI,tA,tN,tS,tB,tT,tP,tM,tV,tG,cnd,sameKind]
  replace HP:aE x0 x1 x2 x3 x4 x5 x6 σ (fun r0 r1 r2 r3 σ1=>Q (r0,r1,r2,r3,()) () (some σ1)):=HP
  refine vZ I HP fun r0 tg th r1 Ya Yb r2 r3 h' σ' I HQ=> ?_
  replace I:=mkN (D:=Ek.D) (X:=XX) I
  replace I:=mkC (mkV (D:=Ek.D) (.int .i64) r3 ([.int .i64 r3]) rfl (fun _ _=>rfl) I)
  replace I:=mkC (mkV (D:=Ek.D) (.st 6) r2 (([.int .i64 r2.Place, .int .u32 r2.bO]:List Value)++(lumpV .u8 32 r2.bD.toList:List Value)) rfl (fun _ _=>rfl) I)
  replace I:=I.aP
  replace I:=mkC (mkO (D:=Ek.D) (.st 7) I)
  replace I:=I.aX
  replace I:=mkC (mkO (D:=Ek.D) (.st 9) I)
  replace I:=I.aX
  replace I:=I.aP
  replace I:=Inv.addE I
  exact hQ (r0,r1,r2,r3,()) () (some σ') HQ [_,_,_,_] h' I
end Go.Proofs.YtpjehkdneiclnaaGreat.Ek
