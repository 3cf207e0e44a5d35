import Derived.Test.YtkgbogibfogjgaaGreatDoorTiB
import Derived.Test.YtkgbogibfogjgaaGreatDoorTiE
import Derived.Test.YtkgbogibfogjgaaGreatDoorProg
set_option linter.unusedVariables false
set_option linter.unusedSimpArgs false
set_option maxHeartbeats 4000000
set_option maxRecDepth 100000
namespace Go.Pt
open Go Go.Wc Go.Pu
variable {ρ:Ids} {h:Hp} {A:List At}
structure bp where
 eL:List Int
 deriving DecidableEq
structure bZ where
 h:Vector Int 8
 rest:List Int
 n:Int
 deriving DecidableEq
structure cU where
 texts:List (List Int)
 deriving DecidableEq
structure aF where
 Place:Int
 cu:Int
 bY:Vector Int 32
 deriving DecidableEq
def qQ:Rp aF where
 n:=34
 P:=fun h M vs x=>vs=([.int .i64 x.Place, .int .u32 x.cu]:List Value)++lumpV .u8 32 x.bY.toList
 len:=by rintro _ _ _ x rfl;simp [cm]
 one:=by
  rintro _ _ _ x rfl
  repeat (first | exact dz rfl | exact dz (dN _ _ _) | refine Bx ?_ ?_)
 mono:=by rintro _ _ _ _ _ x hL rfl;exact rfl
structure cO where
 Block:Int
 Bytes:List Int
 deriving DecidableEq
def qR:Rp cO where
 n:=2
 P:=fun h M vs x=> ∃ (a0:Option Addr) (c0:Nat),vs=[.int .i64 x.Block, .slice a0 x.Bytes.length c0]/\SlE (rI .u8) h M a0 c0 x.Bytes
 len:=by rintro _ _ _ x ⟨a0,c0,rfl,h0⟩;rfl
 one:=by rintro _ _ _ x ⟨a0,c0,rfl,h0⟩;exact dz rfl
 mono:=by rintro _ _ _ _ _ x hL ⟨a0,c0,rfl,h0⟩;exact ⟨a0,c0,rfl,h0.mono hL⟩
structure b9 where
 n:Int
 b:List Int
 deriving DecidableEq
def kP:Rp b9 where
 n:=2
 P:=fun h M vs x=> ∃ (a0:Option Addr) (c0:Nat),vs=[.int .i64 x.n, .slice a0 x.b.length c0]/\SlE (rI .u8) h M a0 c0 x.b
 len:=by rintro _ _ _ x ⟨a0,c0,rfl,h0⟩;rfl
 one:=by rintro _ _ _ x ⟨a0,c0,rfl,h0⟩;exact dz rfl
 mono:=by rintro _ _ _ _ _ x hL ⟨a0,c0,rfl,h0⟩;exact ⟨a0,c0,rfl,h0.mono hL⟩
structure aH where
 blocks:List Int
 waits:List b9
 cN:List (List Int)
 trace:List Int
 deriving DecidableEq
structure aW where
 P:Int
 Level:List Int
 dO:List Int
 deriving DecidableEq
structure bP where
 b:List Int
 e:Int
 deriving DecidableEq
structure af where
 Place:Int
 cu:Int
 bY:Vector Int 32
 deriving DecidableEq
def eM:Rp af where
 n:=34
 P:=fun h M vs x=>vs=([.int .i64 x.Place, .int .u32 x.cu]:List Value)++lumpV .u8 32 x.bY.toList
 len:=by rintro _ _ _ x rfl;simp [cm]
 one:=by
  rintro _ _ _ x rfl
  repeat (first | exact dz rfl | exact dz (dN _ _ _) | refine Bx ?_ ?_)
 mono:=by rintro _ _ _ _ _ x hL rfl;exact rfl
def me:Rp bp where
 n:=1
 P:=fun h M vs x=> ∃ (a0:Option Addr) (c0:Nat),vs=[.slice a0 x.eL.length c0]/\SlE (rI .i64) h M a0 c0 x.eL
 len:=by rintro _ _ _ x ⟨a0,c0,rfl,h0⟩;rfl
 one:=by rintro _ _ _ x ⟨a0,c0,rfl,h0⟩;exact dz rfl
 mono:=by rintro _ _ _ _ _ x hL ⟨a0,c0,rfl,h0⟩;exact ⟨a0,c0,rfl,h0.mono hL⟩
def pE:Rp bZ where
 n:=10
 P:=fun h M vs x=> ∃ (a0:Option Addr) (c0:Nat),vs=lumpV .u32 8 x.h.toList++([.slice a0 x.rest.length c0, .int .u64 x.n]:List Value)/\SlE (rI .u8) h M a0 c0 x.rest
 len:=by rintro _ _ _ x ⟨a0,c0,rfl,h0⟩;simp [cm]
 one:=by
  rintro _ _ _ x ⟨a0,c0,rfl,h0⟩
  repeat (first | exact dz rfl | exact dz (dN _ _ _) | refine Bx ?_ ?_)
 mono:=by rintro _ _ _ _ _ x hL ⟨a0,c0,rfl,h0⟩;exact ⟨a0,c0,rfl,h0.mono hL⟩
def iD:Rp aW where
 n:=3
 P:=fun h M vs x=> ∃ (a0:Option Addr) (c0:Nat),∃ (a1:Option Addr) (c1:Nat),vs=[.int .i64 x.P, .slice a0 x.Level.length c0, .slice a1 x.dO.length c1]/\SlE (rI .i64) h M a0 c0 x.Level/\SlE (rI .i64) h M a1 c1 x.dO
 len:=by rintro _ _ _ x ⟨a0,c0,a1,c1,rfl,h0,h1⟩;rfl
 one:=by rintro _ _ _ x ⟨a0,c0,a1,c1,rfl,h0,h1⟩;exact dz rfl
 mono:=by rintro _ _ _ _ _ x hL ⟨a0,c0,a1,c1,rfl,h0,h1⟩;exact ⟨a0,c0,a1,c1,rfl,h0.mono hL,h1.mono hL⟩
def mg:Rp bP where
 n:=2
 P:=fun h M vs x=> ∃ (a0:Option Addr) (c0:Nat),vs=[.slice a0 x.b.length c0, .int .i64 x.e]/\SlE (rI .u8) h M a0 c0 x.b
 len:=by rintro _ _ _ x ⟨a0,c0,rfl,h0⟩;rfl
 one:=by rintro _ _ _ x ⟨a0,c0,rfl,h0⟩;exact dz rfl
 mono:=by rintro _ _ _ _ _ x hL ⟨a0,c0,rfl,h0⟩;exact ⟨a0,c0,rfl,h0.mono hL⟩
def pF:Rp aH where
 n:=4
 P:=fun h M vs x=> ∃ (a0:Option Addr) (c0:Nat),∃ (a1:Option Addr) (c1:Nat),∃ (a2:Option Addr) (c2:Nat),∃ (a3:Option Addr) (c3:Nat),vs=[.slice a0 x.blocks.length c0, .slice a1 x.waits.length c1, .slice a2 x.cN.length c2, .slice a3 x.trace.length c3]/\SlE (rI .u8) h M a0 c0 x.blocks/\SlE kP h M a1 c1 x.waits/\SlE (rS (rI .u8)) h M a2 c2 x.cN/\SlE (rI .i64) h M a3 c3 x.trace
 len:=by rintro _ _ _ x ⟨a0,c0,a1,c1,a2,c2,a3,c3,rfl,h0,h1,h2,h3⟩;rfl
 one:=by rintro _ _ _ x ⟨a0,c0,a1,c1,a2,c2,a3,c3,rfl,h0,h1,h2,h3⟩;exact dz rfl
 mono:=by rintro _ _ _ _ _ x hL ⟨a0,c0,a1,c1,a2,c2,a3,c3,rfl,h0,h1,h2,h3⟩;exact ⟨a0,c0,a1,c1,a2,c2,a3,c3,rfl,h0.mono hL,h1.mono hL,h2.mono hL,h3.mono hL⟩
def pG:Rp cU where
 n:=1
 P:=fun h M vs x=> ∃ (a0:Option Addr) (c0:Nat),vs=[.slice a0 x.texts.length c0]/\SlE (rS (rI .u8)) h M a0 c0 x.texts
 len:=by rintro _ _ _ x ⟨a0,c0,rfl,h0⟩;rfl
 one:=by rintro _ _ _ x ⟨a0,c0,rfl,h0⟩;exact dz rfl
 mono:=by rintro _ _ _ _ _ x hL ⟨a0,c0,rfl,h0⟩;exact ⟨a0,c0,rfl,h0.mono hL⟩
inductive Obj where
 | cU (x:Pt.cU)
def j0 (ρ:Ids) (x:cU) (p:Addr):At:=exA fun a1:Option Addr=>exA fun c1:Nat=>bigA [blk p (ρ.T 44) [.one (.slice a1 x.texts.length c1)],ownS (rS (rI .u8)) a1 x.texts.length c1 x.texts]
theorem nk {ρ:Ids} {x:cU} {p:Addr} {h:Hp} {A:List At} (I:Inv h (j0 ρ x p::A)): ∃ a1:Option Addr,∃ c1:Nat,Inv h (blk p (ρ.T 44) [.one (.slice a1 x.texts.length c1)]::ownS (rS (rI .u8)) a1 x.texts.length c1 x.texts::A):=by unfold j0 at I;obtain ⟨a1,I⟩:=I.exE;obtain ⟨c1,I⟩:=I.exE;exact ⟨a1,c1,I.bigE⟩
abbrev nq (σ:St Obj) (p:Addr) (K:cU->Prop):Prop:= ∃ x,σ p=some (.cU x)/\K x
def obA (ρ:Ids):Obj->Addr->At
 | .cU x,p=>j0 ρ x p
theorem nr {ρ:Ids} (x:cU) {p:Addr} {h:Hp} {A:List At} {a1:Option Addr} {c1:Nat} {n1:Nat} (I:Inv h (blk p (ρ.T 44) [.one (.slice a1 n1 c1)]::ownS (rS (rI .u8)) a1 n1 c1 x.texts::A)):Inv h (obA ρ (.cU x) p::A):=by
 obtain rfl:=fF I.cz
 exact (Inv.bigI (As:=[blk p (ρ.T 44) [.one (.slice a1 x.texts.length c1)],ownS (rS (rI .u8)) a1 x.texts.length c1 x.texts]) I).conv fun F M H=>⟨a1,c1,H⟩
namespace aO
structure V where
 l0:List (List Int)
 mI:Bool
 iE:List (List Int)
 pH:Int
 v20:Int
def v0:V:=⟨[],false,[],0,0⟩
abbrev QT:=Bool->Prop
def B2 (S2:V->Prop) (Q:QT) (c:V):Prop:=
 br (decide (c.v20<c.pH))
 (ixP c.iE c.v20 fun uc=>
 br (decide ((uc.length:Int)>(600:Int)))
 (Q true)
 (S2 {c with v20:=(IntKind.wrap .i64 (c.v20+(1:Int)))}))
 (Q false)
def L2 (Q:QT) (c:V):Prop:=Lf (fun S=>B2 S Q) c
theorem cw {Q:QT} {c:V} (H:B2 (L2 Q) Q c):L2 Q c:=Lf.fold H
def K1 (Q:QT) (c:V):Prop:=
 br c.mI
 (Q true)
 (L2 Q {c with iE:=c.l0,pH:=(c.l0.length:Int),v20:=(0:Int)})
end aO
def aO (l0:List (List Int)) (Q:aO.QT):Prop:=
 br (decide ((l0.length:Int)>(14:Int)))
 (br (decide ((l0.length:Int)<=(216:Int)))
 (aO.K1 Q {aO.v0 with l0:=l0,mI:=true})
 (aO.K1 Q {aO.v0 with l0:=l0,mI:=(decide ((l0.length:Int)>(300:Int)))}))
 (aO.K1 Q {aO.v0 with l0:=l0,mI:=(decide ((l0.length:Int)>(300:Int)))})
namespace bu
structure V where
 cP:List (List Int)
 v7:List (List Int)
 v8:Int
 v9:Int
def v0:V:=⟨[],[],0,0⟩
abbrev QT:=(List (List Int))->Prop
def B1 (S1:V->Prop) (Q:QT) (c:V):Prop:=
 br (decide (c.v9<c.v8))
 (ixP c.v7 c.v9 fun Il=>
 (Bnd (c.cP.length+([(cpL (List.replicate (Int.toNat (256:Int)) (0:Int)) Il)]).length))/\
 S1 {c with cP:=(c.cP++[(cpL (List.replicate (Int.toNat (256:Int)) (0:Int)) Il)]),v9:=(IntKind.wrap .i64 (c.v9+(1:Int)))})
 (Q c.cP)
def L1 (Q:QT) (c:V):Prop:=Lf (fun S=>B1 S Q) c
theorem bG {Q:QT} {c:V} (H:B1 (L1 Q) Q c):L1 Q c:=Lf.fold H
end bu
def bu (l0:List (List Int)) (Q:bu.QT):Prop:=
 bu.L1 Q {bu.v0 with cP:=([]:List (List Int)),v7:=l0,v8:=(l0.length:Int),v9:=(0:Int)}
namespace bq
structure V where
 a0:List Int
 b1:List Int
 i5:Int
def v0:V:=⟨[],[],0⟩
abbrev QT:=Bool->Prop
def B1 (S1:V->Prop) (Q:QT) (c:V):Prop:=
 br (decide (c.i5<(c.a0.length:Int)))
 (ixP c.a0 c.i5 fun Il=>
 ixP c.b1 c.i5 fun s6=>
 br (Il !=s6)
 (Q false)
 (S1 {c with i5:=(IntKind.wrap .i64 (c.i5+(1:Int)))}))
 (Q true)
def L1 (Q:QT) (c:V):Prop:=Lf (fun S=>B1 S Q) c
theorem bG {Q:QT} {c:V} (H:B1 (L1 Q) Q c):L1 Q c:=Lf.fold H
end bq
def bq (a0:List Int) (b1:List Int) (Q:bq.QT):Prop:=
 br ((a0.length:Int) !=(b1.length:Int))
 (Q false)
 (bq.L1 Q {bq.v0 with a0:=a0,b1:=b1,i5:=(0:Int)})
def cC (s0:bp) (Q:Int->Prop):Prop:=
 br ((s0.eL.length:Int)==(0:Int))
 (Q (0:Int))
 (ixP s0.eL (IntKind.wrap .i64 ((s0.eL.length:Int) - (1:Int))) fun uc=>
 Q uc)
namespace bM
structure V where
 dh:Int
 v2:bp
 Ee:Bool
 l4:List Int
 eE:Int
 vo:Bool
def v0:V:=⟨0,(⟨[]⟩:bp),false,[],0,false⟩
abbrev QT:=bp->Int->Prop
def K3 (S2:V->Prop) (Q:QT) (c:V):Prop:=
 br c.vo
 ((SlOk c.l4 (0:Int) (c.l4.length:Int))/\
 ((c.l4.length:Int)=(c.l4.length:Int))/\
 ixP c.l4 (IntKind.wrap .i64 ((c.l4.length:Int) - (1:Int))) fun s7=>
 (Bnd ((sub c.l4 (0:Int) (c.l4.length:Int)).length+([(IntKind.wrap .i64 (s7+(IntKind.wrap .i64 (Int.tdiv (IntKind.wrap .i64 ((IntKind.wrap .i64 (c.eE+(6:Int))) - (1:Int))) (6:Int)))))]).length))/\
 S2 {c with l4:=((sub c.l4 (0:Int) (c.l4.length:Int))++[(IntKind.wrap .i64 (s7+(IntKind.wrap .i64 (Int.tdiv (IntKind.wrap .i64 ((IntKind.wrap .i64 (c.eE+(6:Int))) - (1:Int))) (6:Int)))))]),eE:=(IntKind.wrap .i64 (Int.tdiv (IntKind.wrap .i64 ((IntKind.wrap .i64 (c.eE+(6:Int))) - (1:Int))) (6:Int)))})
 (Q (⟨c.l4⟩:bp) (0:Int))
def B2 (S2:V->Prop) (Q:QT) (c:V):Prop:=
 br (decide (c.eE>(1:Int)))
 (K3 S2 Q {c with vo:=true})
 (K3 S2 Q {c with vo:=((c.l4.length:Int)==(2:Int))})
def L2 (Q:QT) (c:V):Prop:=Lf (fun S=>B2 S Q) c
theorem cw {Q:QT} {c:V} (H:B2 (L2 Q) Q c):L2 Q c:=Lf.fold H
def K1 (Q:QT) (c:V):Prop:=
 br c.Ee
 (Q (⟨([]:List Int)⟩:bp) (1:Int))
 (L2 Q {c with l4:=[(0:Int),c.dh],eE:=c.dh})
end bM
def bM (dh:Int) (Q:bM.QT):Prop:=
 br (decide (dh<(1:Int)))
 (bM.K1 Q {bM.v0 with dh:=dh,v2:=(⟨([]:List Int)⟩:bp),Ee:=true})
 (bM.K1 Q {bM.v0 with dh:=dh,v2:=(⟨([]:List Int)⟩:bp),Ee:=(decide (dh>(216:Int)))})
def gz (p0:List Int) (Q:Bool->Prop):Prop:=
 Q ((p0.length:Int) !=(256:Int))
namespace aC
structure V where
 s0:List (List Int)
 v7:Int
 v8:Int
def v0:V:=⟨[],0,0⟩
abbrev QT (Z:Type):=Int->Z->Prop
def B1 {Z:Type} (φ:(List Int)->Z->(Bool->Z->Prop)->Prop) (S1:V->Z->Prop) (Q:QT Z) (c:V) (z:Z):Prop:=
 br (decide (c.v8<c.v7))
 (ixP c.s0 c.v8 fun Il=>
 φ Il z fun Wi P8=>
 br Wi
 (Q c.v8 P8)
 (S1 {c with v8:=(IntKind.wrap .i64 (c.v8+(1:Int)))} P8))
 (Q (-1:Int) z)
def L1 {Z:Type} (φ:(List Int)->Z->(Bool->Z->Prop)->Prop) (Q:QT Z) (c:V) (z:Z):Prop:=
 Lf (fun S (v:V × Z)=>B1 φ (fun c z=>S (c,z)) Q v.1 v.2) (c,z)
theorem bG {Z:Type} (φ:(List Int)->Z->(Bool->Z->Prop)->Prop) {Q:QT Z} {c:V} {z:Z} (H:B1 φ (L1 φ Q) Q c z):L1 φ Q c z:=Lf.fold H
end aC
def aC {Z:Type} (φ:(List Int)->Z->(Bool->Z->Prop)->Prop) (s0:List (List Int)) (z:Z) (Q:aC.QT Z):Prop:=
 aC.L1 φ Q {aC.v0 with s0:=s0,v7:=(s0.length:Int),v8:=(0:Int)} z
def cR {Z:Type} (φ:(List Int)->Z->(Bool->Z->Prop)->Prop) (s0:List (List Int)) (z:Z) (Q:Bool->Z->Prop):Prop:=
 aC φ s0 z fun CL z_4=>
 Q (decide (CL>=(0:Int))) z_4
def eN (s0:bp) (Q:Int->Prop):Prop:=
 Q (if (0:Int)>(IntKind.wrap .i64 ((s0.eL.length:Int) - (1:Int))) then (0:Int) else (IntKind.wrap .i64 ((s0.eL.length:Int) - (1:Int))))
namespace bC
structure V where
 bI:Int
 s2:bp
 v9:Int
 v10:Int
def v0:V:=⟨0,(⟨[]⟩:bp),0,0⟩
abbrev QT:=Int->Prop
def B1 (S1:V->Prop) (Q:QT) (c:V):Prop:=
 br (decide (c.v10<c.v9))
 (ixP c.s2.eL (IntKind.wrap .i64 (c.v10+(1:Int))) fun zQ=>
 br (decide (c.bI<zQ))
 (Q c.v10)
 (S1 {c with v10:=(IntKind.wrap .i64 (c.v10+(1:Int)))}))
 (Q (-1:Int))
def L1 (Q:QT) (c:V):Prop:=Lf (fun S=>B1 S Q) c
end bC
def bC (s0:bp) (bI:Int) (Q:bC.QT):Prop:=
 br (decide (bI<(0:Int)))
 (Q (-1:Int))
 (eN s0 fun j3=>
 bC.L1 Q {bC.v0 with bI:=bI,s2:=s0,v9:=j3,v10:=(0:Int)})
namespace bn
structure V where
 bI:Int
 dB:Int
 iE:Bool
def v0:V:=⟨0,0,false⟩
abbrev QT:=Int->Prop
def K1 (Q:QT) (c:V):Prop:=
 br c.iE
 (Q (-1:Int))
 (Q (IntKind.wrap .i64 ((IntKind.wrap .i64 ((2:Int)+(IntKind.wrap .i64 ((2:Int)*c.bI))))+c.dB)))
end bn
def bn (s0:bp) (bI:Int) (dB:Int) (Q:bn.QT):Prop:=
 bC s0 bI fun j3=>
 br (decide (j3<(0:Int)))
 (bn.K1 Q {bn.v0 with bI:=bI,dB:=dB,iE:=true})
 (br (decide (dB<(0:Int)))
 (bn.K1 Q {bn.v0 with bI:=bI,dB:=dB,iE:=true})
 (bn.K1 Q {bn.v0 with bI:=bI,dB:=dB,iE:=(decide (dB>(1:Int)))}))
def iF (b0:List Int) (Q:Int->Prop):Prop:=
 ixP b0 (0:Int) fun Mo=>
 ixP b0 (1:Int) fun Ef=>
 ixP b0 (2:Int) fun CM=>
 ixP b0 (3:Int) fun Eg=>
 Q (IntKind.wrap .u32 (((BitVec.ofInt (IntKind.bits .u32) (IntKind.wrap .u32 (((BitVec.ofInt (IntKind.bits .u32) (IntKind.wrap .u32 (((BitVec.ofInt (IntKind.bits .u32) (IntKind.wrap .u32 Mo) ||| (BitVec.ofInt (IntKind.bits .u32) (IntKind.wrap .u32 ((IntKind.wrap .u32 Ef)*2 ^ (min (Int.toNat (8:Int)) (IntKind.bits .u32)))))).toNat:Int))) ||| (BitVec.ofInt (IntKind.bits .u32) (IntKind.wrap .u32 ((IntKind.wrap .u32 CM)*2 ^ (min (Int.toNat (16:Int)) (IntKind.bits .u32)))))).toNat:Int))) ||| (BitVec.ofInt (IntKind.bits .u32) (IntKind.wrap .u32 ((IntKind.wrap .u32 Eg)*2 ^ (min (Int.toNat (24:Int)) (IntKind.bits .u32)))))).toNat:Int)))
namespace aV
structure V where
 bg:Int
 ow:Vector Int 32
 eO:Vector Int 12
 v6:Vector Int 16
 w7:Vector Int 16
 v11:Int
 Eh:Int
def v0:V:=⟨0,Vector.replicate 32 0,Vector.replicate 12 0,Vector.replicate 16 0,Vector.replicate 16 0,0,0⟩
abbrev QT:=(Vector Int 16)->Prop
def B2 (S2:V->Prop) (Q:QT) (c:V):Prop:=
 br (decide (c.Eh<(3:Int)))
 ((SlOk c.eO.toList (IntKind.wrap .i64 ((4:Int)*c.Eh)) ((12:Nat):Int))/\
 iF (subA 12 c.eO.toList (IntKind.wrap .i64 ((4:Int)*c.Eh)) ((12:Nat):Int)) fun Wj=>
 ixP c.w7.toList (IntKind.wrap .i64 ((13:Int)+c.Eh)) fun Ei=>
 S2 {c with w7:=(c.w7.setIfInBounds (Int.toNat (IntKind.wrap .i64 ((13:Int)+c.Eh))) Wj),Eh:=(IntKind.wrap .i64 (c.Eh+(1:Int)))})
 (Q c.w7)
def L2 (Q:QT) (c:V):Prop:=Lf (fun S=>B2 S Q) c
theorem cw {Q:QT} {c:V} (H:B2 (L2 Q) Q c):L2 Q c:=Lf.fold H
def B1 (S1:V->Prop) (Q:QT) (c:V):Prop:=
 br (decide (c.v11<(8:Int)))
 ((SlOk c.ow.toList (IntKind.wrap .i64 ((4:Int)*c.v11)) ((32:Nat):Int))/\
 iF (subA 32 c.ow.toList (IntKind.wrap .i64 ((4:Int)*c.v11)) ((32:Nat):Int)) fun nt=>
 ixP c.w7.toList (IntKind.wrap .i64 ((4:Int)+c.v11)) fun IY=>
 S1 {c with w7:=(c.w7.setIfInBounds (Int.toNat (IntKind.wrap .i64 ((4:Int)+c.v11))) nt),v11:=(IntKind.wrap .i64 (c.v11+(1:Int)))})
 (ixP c.w7.toList (12:Int) fun P9=>
 L2 Q {c with w7:=(c.w7.setIfInBounds (Int.toNat (12:Int)) c.bg),Eh:=(0:Int)})
def L1 (Q:QT) (c:V):Prop:=Lf (fun S=>B1 S Q) c
theorem bG {Q:QT} {c:V} (H:B1 (L1 Q) Q c):L1 Q c:=Lf.fold H
end aV
def aV (gD:Vector Int 32) (dK:Vector Int 12) (bg:Int) (Q:aV.QT):Prop:=
 aV.L1 Q {aV.v0 with bg:=bg,ow:=gD,eO:=dK,v6:=(Vector.replicate 16 (0:Int)),w7:= #v[(1634760805:Int),(857760878:Int),(2036477234:Int),(1797285236:Int),(0:Int),(0:Int),(0:Int),(0:Int),(0:Int),(0:Int),(0:Int),(0:Int),(0:Int),(0:Int),(0:Int),(0:Int)],v11:=(0:Int)}
def cX (x0:Int) (k1:Int) (Q:Int->Prop):Prop:=
 jn (IntKind.wrap .u64 (((BitVec.ofInt (IntKind.bits .u64) (IntKind.wrap .u64 k1) &&& (BitVec.ofInt (IntKind.bits .u64) (31:Int))).toNat:Int))) fun _=>
 jn (IntKind.wrap .u64 ((32:Int) - (IntKind.wrap .u64 (((BitVec.ofInt (IntKind.bits .u64) (IntKind.wrap .u64 k1) &&& (BitVec.ofInt (IntKind.bits .u64) (31:Int))).toNat:Int))))) fun _=>
 Q (IntKind.wrap .u32 (((BitVec.ofInt (IntKind.bits .u32) (IntKind.wrap .u32 (x0*2 ^ (min (Int.toNat (IntKind.wrap .u64 (((BitVec.ofInt (IntKind.bits .u64) (IntKind.wrap .u64 k1) &&& (BitVec.ofInt (IntKind.bits .u64) (31:Int))).toNat:Int)))) (IntKind.bits .u32)))) ||| (BitVec.ofInt (IntKind.bits .u32) (Int.fdiv x0 (2 ^ (min (Int.toNat (IntKind.wrap .u64 ((32:Int) - (IntKind.wrap .u64 (((BitVec.ofInt (IntKind.bits .u64) (IntKind.wrap .u64 k1) &&& (BitVec.ofInt (IntKind.bits .u64) (31:Int))).toNat:Int)))))) (IntKind.bits .u32)))))).toNat:Int)))
def cQ (x0:Int) (y1:Int) (z2:Int) (by3:Int) (v4:Vector Int 4) (Q:(Vector Int 4)->Prop):Prop:=
 ixP v4.toList x0 fun DI=>
 ixP v4.toList y1 fun zQ=>
 ixP v4.toList x0 fun pY=>
 ixP (v4.setIfInBounds (Int.toNat x0) (IntKind.wrap .u32 (DI+zQ))).toList z2 fun s7=>
 ixP (v4.setIfInBounds (Int.toNat x0) (IntKind.wrap .u32 (DI+zQ))).toList x0 fun Ej=>
 cX (IntKind.wrap .u32 (((BitVec.ofInt (IntKind.bits .u32) s7 ^^^ (BitVec.ofInt (IntKind.bits .u32) Ej)).toNat:Int))) by3 fun zT=>
 ixP (v4.setIfInBounds (Int.toNat x0) (IntKind.wrap .u32 (DI+zQ))).toList z2 fun Qa=>
 Q ((v4.setIfInBounds (Int.toNat x0) (IntKind.wrap .u32 (DI+zQ))).setIfInBounds (Int.toNat z2) zT)
def cA (w0:Vector Int 4) (Q:(Vector Int 4)->Prop):Prop:=
 cQ (0:Int) (1:Int) (3:Int) (16:Int) w0 fun j3=>
 cQ (2:Int) (3:Int) (1:Int) (12:Int) j3 fun pI=>
 cQ (0:Int) (1:Int) (3:Int) (8:Int) pI fun gW=>
 cQ (2:Int) (3:Int) (1:Int) (7:Int) gW fun ta=>
 Q ta
namespace aX
structure V where
 v4:Vector Int 16
 a0:Int
 b1:Int
 c2:Int
 d3:Int
 q9:Vector Int 4
 vo:Vector Int 4
def v0:V:=⟨Vector.replicate 16 0,0,0,0,0,Vector.replicate 4 0,Vector.replicate 4 0⟩
abbrev QT:=(Vector Int 16)->Prop
def K1 (Q:QT) (c:V):Prop:=
 ixP c.q9.toList (0:Int) fun oy=>
 ixP c.q9.toList (1:Int) fun qT=>
 ixP c.q9.toList (2:Int) fun vp=>
 ixP c.q9.toList (3:Int) fun wY=>
 ixP c.v4.toList c.a0 fun vq=>
 ixP (c.v4.setIfInBounds (Int.toNat c.a0) oy).toList c.b1 fun Wk=>
 ixP ((c.v4.setIfInBounds (Int.toNat c.a0) oy).setIfInBounds (Int.toNat c.b1) qT).toList c.c2 fun Wl=>
 ixP (((c.v4.setIfInBounds (Int.toNat c.a0) oy).setIfInBounds (Int.toNat c.b1) qT).setIfInBounds (Int.toNat c.c2) vp).toList c.d3 fun El=>
 Q ((((c.v4.setIfInBounds (Int.toNat c.a0) oy).setIfInBounds (Int.toNat c.b1) qT).setIfInBounds (Int.toNat c.c2) vp).setIfInBounds (Int.toNat c.d3) wY)
def K3 (Q:QT) (c:V):Prop:=
 K1 Q {c with q9:=c.vo}
def K2 (Q:QT) (c:V):Prop:=
 K3 Q {c with q9:=(Vector.replicate 4 (0:Int))}
end aX
def aX (a0:Int) (b1:Int) (c2:Int) (d3:Int) (v4:Vector Int 16) (Q:aX.QT):Prop:=
 ixP v4.toList a0 fun DI=>
 ixP v4.toList b1 fun zQ=>
 ixP v4.toList c2 fun pY=>
 ixP v4.toList d3 fun iL=>
 (cA (#v[DI,zQ,pY,iL]) fun tc=>
 aX.K2 Q {aX.v0 with v4:=v4,a0:=a0,b1:=b1,c2:=c2,d3:=d3,vo:=tc})/\
 (cA (#v[DI,zQ,pY,iL]) fun mJ=>
 aX.K3 Q {aX.v0 with v4:=v4,a0:=a0,b1:=b1,c2:=c2,d3:=d3,q9:=(Vector.replicate 4 (0:Int)),vo:=mJ})
namespace aG
structure V where
 v6:Vector Int 64
 aM:Vector Int 16
 w8:Vector Int 16
 v20:Int
 gX:Int
 fM:Int
 mK:Vector Int 64
 jo:Int
def v0:V:=⟨Vector.replicate 64 0,Vector.replicate 16 0,Vector.replicate 16 0,0,0,0,Vector.replicate 64 0,0⟩
abbrev QT:=(Vector Int 64)->Prop
def B3 (S1:V->Prop) (S3:V->Prop) (Q:QT) (c:V):Prop:=
 br (decide (c.fM<(4:Int)))
 (aX c.fM (IntKind.wrap .i64 ((4:Int)+(Int.tmod (IntKind.wrap .i64 (c.fM+(1:Int))) (4:Int)))) (IntKind.wrap .i64 ((8:Int)+(Int.tmod (IntKind.wrap .i64 (c.fM+(2:Int))) (4:Int)))) (IntKind.wrap .i64 ((12:Int)+(Int.tmod (IntKind.wrap .i64 (c.fM+(3:Int))) (4:Int)))) c.w8 fun kQ=>
 S3 {c with w8:=kQ,fM:=(IntKind.wrap .i64 (c.fM+(1:Int)))})
 (S1 {c with v20:=(IntKind.wrap .i64 (c.v20+(1:Int)))})
def L3 (S1:V->Prop) (Q:QT) (c:V):Prop:=Lf (fun S=>B3 S1 S Q) c
theorem gH (S1:V->Prop) {Q:QT} {c:V} (H:B3 S1 (L3 S1 Q) Q c):L3 S1 Q c:=Lf.fold H
def B2 (S1:V->Prop) (S2:V->Prop) (Q:QT) (c:V):Prop:=
 br (decide (c.gX<(4:Int)))
 (aX c.gX (IntKind.wrap .i64 ((4:Int)+c.gX)) (IntKind.wrap .i64 ((8:Int)+c.gX)) (IntKind.wrap .i64 ((12:Int)+c.gX)) c.w8 fun tg=>
 S2 {c with w8:=tg,gX:=(IntKind.wrap .i64 (c.gX+(1:Int)))})
 (L3 S1 Q {c with fM:=(0:Int)})
def L2 (S1:V->Prop) (Q:QT) (c:V):Prop:=Lf (fun S=>B2 S1 S Q) c
theorem cw (S1:V->Prop) {Q:QT} {c:V} (H:B2 S1 (L2 S1 Q) Q c):L2 S1 Q c:=Lf.fold H
def B4 (S4:V->Prop) (Q:QT) (c:V):Prop:=
 br (decide (c.jo<(64:Int)))
 (ixP c.w8.toList (IntKind.wrap .i64 (Int.tdiv c.jo (4:Int))) fun wZ=>
 ixP c.aM.toList (IntKind.wrap .i64 (Int.tdiv c.jo (4:Int))) fun Mp=>
 (0<=(IntKind.wrap .i64 ((8:Int)*(Int.tmod c.jo (4:Int)))))/\
 ixP c.mK.toList c.jo fun Qb=>
 S4 {c with mK:=(c.mK.setIfInBounds (Int.toNat c.jo) (IntKind.wrap .u8 (Int.fdiv (IntKind.wrap .u32 (wZ+Mp)) (2 ^ (min (Int.toNat (IntKind.wrap .i64 ((8:Int)*(Int.tmod c.jo (4:Int))))) (IntKind.bits .u32)))))),jo:=(IntKind.wrap .i64 (c.jo+(1:Int)))})
 (Q c.mK)
def L4 (Q:QT) (c:V):Prop:=Lf (fun S=>B4 S Q) c
theorem ju {Q:QT} {c:V} (H:B4 (L4 Q) Q c):L4 Q c:=Lf.fold H
def B1 (S1:V->Prop) (Q:QT) (c:V):Prop:=
 br (decide (c.v20<(10:Int)))
 (L2 S1 Q {c with gX:=(0:Int)})
 (L4 Q {c with mK:=(Vector.replicate 64 (0:Int)),jo:=(0:Int)})
def L1 (Q:QT) (c:V):Prop:=Lf (fun S=>B1 S Q) c
theorem bG {Q:QT} {c:V} (H:B1 (L1 Q) Q c):L1 Q c:=Lf.fold H
end aG
def aG (gD:Vector Int 32) (dK:Vector Int 12) (bg:Int) (Q:aG.QT):Prop:=
 aV gD dK bg fun gW=>
 aG.L1 Q {aG.v0 with v6:=(Vector.replicate 64 (0:Int)),aM:=gW,w8:=gW,v20:=(0:Int)}
namespace bK
structure V where
 bg:Int
 gI:Vector Int 32
 fJ:Vector Int 12
 eW:List Int
 j4:Int
 qg:Vector Int 64
 Qc:Int
 fM:Int
def v0:V:=⟨0,Vector.replicate 32 0,Vector.replicate 12 0,[],0,Vector.replicate 64 0,0,0⟩
abbrev QT:=(List Int)->Prop
def B2 (S1:V->Prop) (S2:V->Prop) (Q:QT) (c:V):Prop:=
 br (decide (c.fM<c.Qc))
 (ixP c.eW (IntKind.wrap .i64 (c.j4+c.fM)) fun P9=>
 ixP c.qg.toList c.fM fun oy=>
 ixP c.eW (IntKind.wrap .i64 (c.j4+c.fM)) fun agj=>
 S2 {c with eW:=(c.eW.set (Int.toNat (IntKind.wrap .i64 (c.j4+c.fM))) (IntKind.wrap .u8 (((BitVec.ofInt (IntKind.bits .u8) P9 ^^^ (BitVec.ofInt (IntKind.bits .u8) oy)).toNat:Int)))),fM:=(IntKind.wrap .i64 (c.fM+(1:Int)))})
 (S1 {c with bg:=(IntKind.wrap .u32 (c.bg+(1:Int))),j4:=(IntKind.wrap .i64 (c.j4+(64:Int)))})
def L2 (S1:V->Prop) (Q:QT) (c:V):Prop:=Lf (fun S=>B2 S1 S Q) c
theorem cw (S1:V->Prop) {Q:QT} {c:V} (H:B2 S1 (L2 S1 Q) Q c):L2 S1 Q c:=Lf.fold H
def B1 (S1:V->Prop) (Q:QT) (c:V):Prop:=
 br (decide (c.j4<(if (1048576:Int)<(c.eW.length:Int) then (1048576:Int) else (c.eW.length:Int))))
 (aG c.gI c.fJ c.bg fun w4=>
 (SlOk c.eW c.j4 (if (c.eW.length:Int)<(IntKind.wrap .i64 (c.j4+(64:Int))) then (c.eW.length:Int) else (IntKind.wrap .i64 (c.j4+(64:Int)))))/\
 L2 S1 Q {c with qg:=w4,Qc:=((sub c.eW c.j4 (if (c.eW.length:Int)<(IntKind.wrap .i64 (c.j4+(64:Int))) then (c.eW.length:Int) else (IntKind.wrap .i64 (c.j4+(64:Int))))).length:Int),fM:=(0:Int)})
 (Q c.eW)
def L1 (Q:QT) (c:V):Prop:=Lf (fun S=>B1 S Q) c
theorem bG {Q:QT} {c:V} (H:B1 (L1 Q) Q c):L1 Q c:=Lf.fold H
end bK
def bK (gD:Vector Int 32) (dK:Vector Int 12) (bg:Int) (b3:List Int) (Q:bK.QT):Prop:=
 (Bnd (([]:List Int).length+b3.length))/\
 bK.L1 Q {bK.v0 with bg:=bg,gI:=gD,fJ:=dK,eW:=(([]:List Int)++b3),j4:=(0:Int)}
namespace bL
structure V where
 fD:Int
 eB:Int
 v4:Vector Int 12
 n5:Vector Int 12
 v7:Int
def v0:V:=⟨0,0,Vector.replicate 12 0,Vector.replicate 12 0,0⟩
abbrev QT:=(Vector Int 12)->Prop
def K2 (S1:V->Prop) (Q:QT) (c:V):Prop:=
 S1 {c with v7:=(IntKind.wrap .i64 (c.v7+(1:Int)))}
def B1 (S1:V->Prop) (Q:QT) (c:V):Prop:=
 br (decide (c.v7<(12:Int)))
 (br (decide (c.v7<(4:Int)))
 (jn (IntKind.wrap .i64 ((8:Int)*c.v7)) fun _=>
 ixP c.n5.toList c.v7 fun Ef=>
 K2 S1 Q {c with n5:=(c.n5.setIfInBounds (Int.toNat c.v7) (IntKind.wrap .u8 (Int.fdiv c.fD (2 ^ (min (Int.toNat (IntKind.wrap .i64 ((8:Int)*c.v7))) (IntKind.bits .u32))))))})
 (jn (IntKind.wrap .i64 ((8:Int)*(IntKind.wrap .i64 (c.v7 - (4:Int))))) fun _=>
 ixP c.n5.toList c.v7 fun pY=>
 K2 S1 Q {c with n5:=(c.n5.setIfInBounds (Int.toNat c.v7) (IntKind.wrap .u8 (Int.fdiv c.eB (2 ^ (min (Int.toNat (IntKind.wrap .i64 ((8:Int)*(IntKind.wrap .i64 (c.v7 - (4:Int)))))) (IntKind.bits .u64))))))}))
 (Q c.n5)
def L1 (Q:QT) (c:V):Prop:=Lf (fun S=>B1 S Q) c
theorem bG {Q:QT} {c:V} (H:B1 (L1 Q) Q c):L1 Q c:=Lf.fold H
end bL
def bL (fD:Int) (eB:Int) (Q:bL.QT):Prop:=
 bL.L1 Q {bL.v0 with fD:=fD,eB:=eB,v4:=(Vector.replicate 12 (0:Int)),n5:=(Vector.replicate 12 (0:Int)),v7:=(0:Int)}
namespace cE
structure V where
 kR:Int
 eP:Int
 nu:List Int
 gI:Vector Int 32
 qh:Bool
def v0:V:=⟨0,0,[],Vector.replicate 32 0,false⟩
abbrev QT:=(List Int)->Int->Prop
def K1 (Q:QT) (c:V):Prop:=
 br c.qh
 (Q ([]:List Int) (1:Int))
 (bL c.kR (IntKind.wrap .u64 c.eP) fun gW=>
 bK c.gI gW (0:Int) c.nu fun ta=>
 Q ta (0:Int))
end cE
def cE (gD:Vector Int 32) (kR:Int) (eP:Int) (nu:List Int) (Q:cE.QT):Prop:=
 br ((nu.length:Int) !=(256:Int))
 (cE.K1 Q {cE.v0 with kR:=kR,eP:=eP,nu:=nu,gI:=gD,qh:=true})
 (cE.K1 Q {cE.v0 with kR:=kR,eP:=eP,nu:=nu,gI:=gD,qh:=(decide (eP<(0:Int)))})
def j5 (n0:Int) (Q:Bool->Prop):Prop:=
 br (n0==(0:Int))
 (Q true)
 (Q (n0==(1:Int)))
def cL (s0:List Int) (Q:List Int->Prop):Prop:=cloneP s0 Q
def vr (Q:bZ->Prop):Prop:=
 Q (⟨(Vector.replicate 8 (0:Int)),([]:List Int),(0:Int)⟩:bZ)
def ud (Q:(Vector Int 8)->Prop):Prop:=
 Q (#v[(1779033703:Int),(3144134277:Int),(1013904242:Int),(2773480762:Int),(1359893119:Int),(2600822924:Int),(528734635:Int),(1541459225:Int)])
def eH (x0:Int) (n1:Int) (Q:Int->Prop):Prop:=
 cX x0 (IntKind.wrap .i64 (0 - (Int.tmod n1 (32:Int)))) fun KY=>
 Q KY
namespace cy
structure V where
 w3:Int
 v6:List Int
 v7:Int
 v8:Int
def v0:V:=⟨0,[],0,0⟩
abbrev QT:=Int->Prop
def B1 (S1:V->Prop) (Q:QT) (c:V):Prop:=
 br (decide (c.v8<c.v7))
 (ixP c.v6 c.v8 fun DI=>
 S1 {c with w3:=(IntKind.wrap .u32 (((BitVec.ofInt (IntKind.bits .u32) (IntKind.wrap .u32 (c.w3*2 ^ (min (Int.toNat (8:Int)) (IntKind.bits .u32)))) ||| (BitVec.ofInt (IntKind.bits .u32) (IntKind.wrap .u32 DI))).toNat:Int))),v8:=(IntKind.wrap .i64 (c.v8+(1:Int)))})
 (Q c.w3)
def L1 (Q:QT) (c:V):Prop:=Lf (fun S=>B1 S Q) c
theorem bG {Q:QT} {c:V} (H:B1 (L1 Q) Q c):L1 Q c:=Lf.fold H
end cy
def cy (b0:List Int) (Q:cy.QT):Prop:=
 cy.L1 Q {cy.v0 with w3:=(0:Int),v6:=b0,v7:=(b0.length:Int),v8:=(0:Int)}
namespace bT
structure V where
 b0:List Int
 v2:Vector Int 64
 w3:Vector Int 64
 v9:Int
def v0:V:=⟨[],Vector.replicate 64 0,Vector.replicate 64 0,0⟩
abbrev QT:=(Vector Int 64)->Prop
def K2 (S1:V->Prop) (Q:QT) (c:V):Prop:=
 S1 {c with v9:=(IntKind.wrap .i64 (c.v9+(1:Int)))}
def B1 (S1:V->Prop) (Q:QT) (c:V):Prop:=
 br (decide (c.v9<(64:Int)))
 (br (decide (c.v9<(16:Int)))
 ((SlOk c.b0 (IntKind.wrap .i64 ((4:Int)*c.v9)) (IntKind.wrap .i64 ((IntKind.wrap .i64 ((4:Int)*c.v9))+(4:Int))))/\
 cy (sub c.b0 (IntKind.wrap .i64 ((4:Int)*c.v9)) (IntKind.wrap .i64 ((IntKind.wrap .i64 ((4:Int)*c.v9))+(4:Int)))) fun gJ=>
 ixP c.w3.toList c.v9 fun CM=>
 K2 S1 Q {c with w3:=(c.w3.setIfInBounds (Int.toNat c.v9) gJ)})
 (ixP c.w3.toList (IntKind.wrap .i64 (c.v9 - (15:Int))) fun iL=>
 ixP c.w3.toList (IntKind.wrap .i64 (c.v9 - (2:Int))) fun jG=>
 eH iL (7:Int) fun Mq=>
 eH iL (18:Int) fun zT=>
 eH jG (17:Int) fun oz=>
 eH jG (19:Int) fun zU=>
 ixP c.w3.toList (IntKind.wrap .i64 (c.v9 - (7:Int))) fun Mr=>
 ixP c.w3.toList (IntKind.wrap .i64 (c.v9 - (16:Int))) fun Ms=>
 ixP c.w3.toList c.v9 fun agk=>
 K2 S1 Q {c with w3:=(c.w3.setIfInBounds (Int.toNat c.v9) (IntKind.wrap .u32 ((IntKind.wrap .u32 ((IntKind.wrap .u32 ((IntKind.wrap .u32 (((BitVec.ofInt (IntKind.bits .u32) (IntKind.wrap .u32 (((BitVec.ofInt (IntKind.bits .u32) oz ^^^ (BitVec.ofInt (IntKind.bits .u32) zU)).toNat:Int))) ^^^ (BitVec.ofInt (IntKind.bits .u32) (Int.fdiv jG (2 ^ (min (Int.toNat (10:Int)) (IntKind.bits .u32)))))).toNat:Int)))+Mr))+(IntKind.wrap .u32 (((BitVec.ofInt (IntKind.bits .u32) (IntKind.wrap .u32 (((BitVec.ofInt (IntKind.bits .u32) Mq ^^^ (BitVec.ofInt (IntKind.bits .u32) zT)).toNat:Int))) ^^^ (BitVec.ofInt (IntKind.bits .u32) (Int.fdiv iL (2 ^ (min (Int.toNat (3:Int)) (IntKind.bits .u32)))))).toNat:Int)))))+Ms)))}))
 (Q c.w3)
def L1 (Q:QT) (c:V):Prop:=Lf (fun S=>B1 S Q) c
theorem bG {Q:QT} {c:V} (H:B1 (L1 Q) Q c):L1 Q c:=Lf.fold H
end bT
def bT (b0:List Int) (Q:bT.QT):Prop:=
 bT.L1 Q {bT.v0 with b0:=b0,v2:=(Vector.replicate 64 (0:Int)),w3:=(Vector.replicate 64 (0:Int)),v9:=(0:Int)}
def mh (Q:(Vector Int 64)->Prop):Prop:=
 Q (#v[(1116352408:Int),(1899447441:Int),(3049323471:Int),(3921009573:Int),(961987163:Int),(1508970993:Int),(2453635748:Int),(2870763221:Int),(3624381080:Int),(310598401:Int),(607225278:Int),(1426881987:Int),(1925078388:Int),(2162078206:Int),(2614888103:Int),(3248222580:Int),(3835390401:Int),(4022224774:Int),(264347078:Int),(604807628:Int),(770255983:Int),(1249150122:Int),(1555081692:Int),(1996064986:Int),(2554220882:Int),(2821834349:Int),(2952996808:Int),(3210313671:Int),(3336571891:Int),(3584528711:Int),(113926993:Int),(338241895:Int),(666307205:Int),(773529912:Int),(1294757372:Int),(1396182291:Int),(1695183700:Int),(1986661051:Int),(2177026350:Int),(2456956037:Int),(2730485921:Int),(2820302411:Int),(3259730800:Int),(3345764771:Int),(3516065817:Int),(3600352804:Int),(4094571909:Int),(275423344:Int),(430227734:Int),(506948616:Int),(659060556:Int),(883997877:Int),(958139571:Int),(1322822218:Int),(1537002063:Int),(1747873779:Int),(1955562222:Int),(2024104815:Int),(2227730452:Int),(2361852424:Int),(2428436474:Int),(2756734187:Int),(3204031479:Int),(3329325298:Int)])
namespace bU
structure V where
 h2:Vector Int 8
 v4:Vector Int 8
 w5:Vector Int 64
 k6:Vector Int 64
 x7:Vector Int 8
 iE:Int
 zV:Int
def v0:V:=⟨Vector.replicate 8 0,Vector.replicate 8 0,Vector.replicate 64 0,Vector.replicate 64 0,Vector.replicate 8 0,0,0⟩
abbrev QT:=(Vector Int 8)->Prop
def B2 (S2:V->Prop) (Q:QT) (c:V):Prop:=
 br (decide (c.zV<(8:Int)))
 (ixP c.h2.toList c.zV fun Qd=>
 ixP c.x7.toList c.zV fun Qe=>
 ixP c.h2.toList c.zV fun aen=>
 S2 {c with h2:=(c.h2.setIfInBounds (Int.toNat c.zV) (IntKind.wrap .u32 (Qd+Qe))),zV:=(IntKind.wrap .i64 (c.zV+(1:Int)))})
 (Q c.h2)
def L2 (Q:QT) (c:V):Prop:=Lf (fun S=>B2 S Q) c
theorem cw {Q:QT} {c:V} (H:B2 (L2 Q) Q c):L2 Q c:=Lf.fold H
def B1 (S1:V->Prop) (Q:QT) (c:V):Prop:=
 br (decide (c.iE<(64:Int)))
 (ixP c.x7.toList (0:Int) fun iL=>
 ixP c.x7.toList (4:Int) fun jG=>
 ixP c.x7.toList (7:Int) fun oy=>
 ixP c.x7.toList (5:Int) fun qT=>
 ixP c.x7.toList (6:Int) fun vp=>
 ixP c.k6.toList c.iE fun wY=>
 ixP c.w5.toList c.iE fun vq=>
 eH jG (6:Int) fun zW=>
 eH jG (11:Int) fun zX=>
 eH jG (25:Int) fun IZ=>
 ixP c.x7.toList (1:Int) fun Mt=>
 ixP c.x7.toList (2:Int) fun Mu=>
 ixP c.x7.toList (1:Int) fun El=>
 ixP c.x7.toList (2:Int) fun Mv=>
 eH iL (2:Int) fun Mw=>
 eH iL (13:Int) fun Mx=>
 eH iL (22:Int) fun My=>
 (SlOk c.x7.toList (1:Int) ((8:Nat):Int))/\
 (SlOk c.x7.toList (0:Int) (7:Int))/\
 ixP (cpV c.x7 (Int.toNat (1:Int)) (sub c.x7.toList (0:Int) (7:Int))).toList (0:Int) fun Qf=>
 ixP ((cpV c.x7 (Int.toNat (1:Int)) (sub c.x7.toList (0:Int) (7:Int))).setIfInBounds (Int.toNat (0:Int)) (IntKind.wrap .u32 ((IntKind.wrap .u32 ((IntKind.wrap .u32 ((IntKind.wrap .u32 ((IntKind.wrap .u32 (oy+(IntKind.wrap .u32 (((BitVec.ofInt (IntKind.bits .u32) (IntKind.wrap .u32 (((BitVec.ofInt (IntKind.bits .u32) zW ^^^ (BitVec.ofInt (IntKind.bits .u32) zX)).toNat:Int))) ^^^ (BitVec.ofInt (IntKind.bits .u32) IZ)).toNat:Int)))))+(IntKind.wrap .u32 (((BitVec.ofInt (IntKind.bits .u32) (IntKind.wrap .u32 (((BitVec.ofInt (IntKind.bits .u32) jG &&& (BitVec.ofInt (IntKind.bits .u32) qT)).toNat:Int))) ^^^ (BitVec.ofInt (IntKind.bits .u32) (IntKind.wrap .u32 (((BitVec.ofInt (IntKind.bits .u32) (IntKind.wrap .u32 ((BitVec.ofInt (IntKind.bits .u32) (if IntKind.signed .u32 then -1 else IntKind.max .u32) ^^^ BitVec.ofInt (IntKind.bits .u32) jG).toNat:Int)) &&& (BitVec.ofInt (IntKind.bits .u32) vp)).toNat:Int))))).toNat:Int)))))+wY))+vq))+(IntKind.wrap .u32 ((IntKind.wrap .u32 (((BitVec.ofInt (IntKind.bits .u32) (IntKind.wrap .u32 (((BitVec.ofInt (IntKind.bits .u32) Mw ^^^ (BitVec.ofInt (IntKind.bits .u32) Mx)).toNat:Int))) ^^^ (BitVec.ofInt (IntKind.bits .u32) My)).toNat:Int)))+(IntKind.wrap .u32 (((BitVec.ofInt (IntKind.bits .u32) (IntKind.wrap .u32 (((BitVec.ofInt (IntKind.bits .u32) (IntKind.wrap .u32 (((BitVec.ofInt (IntKind.bits .u32) iL &&& (BitVec.ofInt (IntKind.bits .u32) Mt)).toNat:Int))) ^^^ (BitVec.ofInt (IntKind.bits .u32) (IntKind.wrap .u32 (((BitVec.ofInt (IntKind.bits .u32) iL &&& (BitVec.ofInt (IntKind.bits .u32) Mu)).toNat:Int))))).toNat:Int))) ^^^ (BitVec.ofInt (IntKind.bits .u32) (IntKind.wrap .u32 (((BitVec.ofInt (IntKind.bits .u32) El &&& (BitVec.ofInt (IntKind.bits .u32) Mv)).toNat:Int))))).toNat:Int)))))))).toList (4:Int) fun ue=>
 ixP ((cpV c.x7 (Int.toNat (1:Int)) (sub c.x7.toList (0:Int) (7:Int))).setIfInBounds (Int.toNat (0:Int)) (IntKind.wrap .u32 ((IntKind.wrap .u32 ((IntKind.wrap .u32 ((IntKind.wrap .u32 ((IntKind.wrap .u32 (oy+(IntKind.wrap .u32 (((BitVec.ofInt (IntKind.bits .u32) (IntKind.wrap .u32 (((BitVec.ofInt (IntKind.bits .u32) zW ^^^ (BitVec.ofInt (IntKind.bits .u32) zX)).toNat:Int))) ^^^ (BitVec.ofInt (IntKind.bits .u32) IZ)).toNat:Int)))))+(IntKind.wrap .u32 (((BitVec.ofInt (IntKind.bits .u32) (IntKind.wrap .u32 (((BitVec.ofInt (IntKind.bits .u32) jG &&& (BitVec.ofInt (IntKind.bits .u32) qT)).toNat:Int))) ^^^ (BitVec.ofInt (IntKind.bits .u32) (IntKind.wrap .u32 (((BitVec.ofInt (IntKind.bits .u32) (IntKind.wrap .u32 ((BitVec.ofInt (IntKind.bits .u32) (if IntKind.signed .u32 then -1 else IntKind.max .u32) ^^^ BitVec.ofInt (IntKind.bits .u32) jG).toNat:Int)) &&& (BitVec.ofInt (IntKind.bits .u32) vp)).toNat:Int))))).toNat:Int)))))+wY))+vq))+(IntKind.wrap .u32 ((IntKind.wrap .u32 (((BitVec.ofInt (IntKind.bits .u32) (IntKind.wrap .u32 (((BitVec.ofInt (IntKind.bits .u32) Mw ^^^ (BitVec.ofInt (IntKind.bits .u32) Mx)).toNat:Int))) ^^^ (BitVec.ofInt (IntKind.bits .u32) My)).toNat:Int)))+(IntKind.wrap .u32 (((BitVec.ofInt (IntKind.bits .u32) (IntKind.wrap .u32 (((BitVec.ofInt (IntKind.bits .u32) (IntKind.wrap .u32 (((BitVec.ofInt (IntKind.bits .u32) iL &&& (BitVec.ofInt (IntKind.bits .u32) Mt)).toNat:Int))) ^^^ (BitVec.ofInt (IntKind.bits .u32) (IntKind.wrap .u32 (((BitVec.ofInt (IntKind.bits .u32) iL &&& (BitVec.ofInt (IntKind.bits .u32) Mu)).toNat:Int))))).toNat:Int))) ^^^ (BitVec.ofInt (IntKind.bits .u32) (IntKind.wrap .u32 (((BitVec.ofInt (IntKind.bits .u32) El &&& (BitVec.ofInt (IntKind.bits .u32) Mv)).toNat:Int))))).toNat:Int)))))))).toList (4:Int) fun By=>
 S1 {c with x7:=(((cpV c.x7 (Int.toNat (1:Int)) (sub c.x7.toList (0:Int) (7:Int))).setIfInBounds (Int.toNat (0:Int)) (IntKind.wrap .u32 ((IntKind.wrap .u32 ((IntKind.wrap .u32 ((IntKind.wrap .u32 ((IntKind.wrap .u32 (oy+(IntKind.wrap .u32 (((BitVec.ofInt (IntKind.bits .u32) (IntKind.wrap .u32 (((BitVec.ofInt (IntKind.bits .u32) zW ^^^ (BitVec.ofInt (IntKind.bits .u32) zX)).toNat:Int))) ^^^ (BitVec.ofInt (IntKind.bits .u32) IZ)).toNat:Int)))))+(IntKind.wrap .u32 (((BitVec.ofInt (IntKind.bits .u32) (IntKind.wrap .u32 (((BitVec.ofInt (IntKind.bits .u32) jG &&& (BitVec.ofInt (IntKind.bits .u32) qT)).toNat:Int))) ^^^ (BitVec.ofInt (IntKind.bits .u32) (IntKind.wrap .u32 (((BitVec.ofInt (IntKind.bits .u32) (IntKind.wrap .u32 ((BitVec.ofInt (IntKind.bits .u32) (if IntKind.signed .u32 then -1 else IntKind.max .u32) ^^^ BitVec.ofInt (IntKind.bits .u32) jG).toNat:Int)) &&& (BitVec.ofInt (IntKind.bits .u32) vp)).toNat:Int))))).toNat:Int)))))+wY))+vq))+(IntKind.wrap .u32 ((IntKind.wrap .u32 (((BitVec.ofInt (IntKind.bits .u32) (IntKind.wrap .u32 (((BitVec.ofInt (IntKind.bits .u32) Mw ^^^ (BitVec.ofInt (IntKind.bits .u32) Mx)).toNat:Int))) ^^^ (BitVec.ofInt (IntKind.bits .u32) My)).toNat:Int)))+(IntKind.wrap .u32 (((BitVec.ofInt (IntKind.bits .u32) (IntKind.wrap .u32 (((BitVec.ofInt (IntKind.bits .u32) (IntKind.wrap .u32 (((BitVec.ofInt (IntKind.bits .u32) iL &&& (BitVec.ofInt (IntKind.bits .u32) Mt)).toNat:Int))) ^^^ (BitVec.ofInt (IntKind.bits .u32) (IntKind.wrap .u32 (((BitVec.ofInt (IntKind.bits .u32) iL &&& (BitVec.ofInt (IntKind.bits .u32) Mu)).toNat:Int))))).toNat:Int))) ^^^ (BitVec.ofInt (IntKind.bits .u32) (IntKind.wrap .u32 (((BitVec.ofInt (IntKind.bits .u32) El &&& (BitVec.ofInt (IntKind.bits .u32) Mv)).toNat:Int))))).toNat:Int)))))))).setIfInBounds (Int.toNat (4:Int)) (IntKind.wrap .u32 (ue+(IntKind.wrap .u32 ((IntKind.wrap .u32 ((IntKind.wrap .u32 ((IntKind.wrap .u32 (oy+(IntKind.wrap .u32 (((BitVec.ofInt (IntKind.bits .u32) (IntKind.wrap .u32 (((BitVec.ofInt (IntKind.bits .u32) zW ^^^ (BitVec.ofInt (IntKind.bits .u32) zX)).toNat:Int))) ^^^ (BitVec.ofInt (IntKind.bits .u32) IZ)).toNat:Int)))))+(IntKind.wrap .u32 (((BitVec.ofInt (IntKind.bits .u32) (IntKind.wrap .u32 (((BitVec.ofInt (IntKind.bits .u32) jG &&& (BitVec.ofInt (IntKind.bits .u32) qT)).toNat:Int))) ^^^ (BitVec.ofInt (IntKind.bits .u32) (IntKind.wrap .u32 (((BitVec.ofInt (IntKind.bits .u32) (IntKind.wrap .u32 ((BitVec.ofInt (IntKind.bits .u32) (if IntKind.signed .u32 then -1 else IntKind.max .u32) ^^^ BitVec.ofInt (IntKind.bits .u32) jG).toNat:Int)) &&& (BitVec.ofInt (IntKind.bits .u32) vp)).toNat:Int))))).toNat:Int)))))+wY))+vq))))),iE:=(IntKind.wrap .i64 (c.iE+(1:Int)))})
 (L2 Q {c with zV:=(0:Int)})
def L1 (Q:QT) (c:V):Prop:=Lf (fun S=>B1 S Q) c
theorem bG {Q:QT} {c:V} (H:B1 (L1 Q) Q c):L1 Q c:=Lf.fold H
end bU
def bU (h0:Vector Int 8) (b1:List Int) (Q:bU.QT):Prop:=
 bT b1 fun pI=>
 mh fun gW=>
 bU.L1 Q {bU.v0 with h2:=h0,v4:=(Vector.replicate 8 (0:Int)),w5:=pI,k6:=gW,x7:=h0,iE:=(0:Int)}
namespace aQ
structure V where
 b1:List Int
 s2:bZ
 v4:bZ
 mI:Bool
 jq:List Int
def v0:V:=⟨[],(⟨(Vector.replicate 8 (0:Int)),[],(0:Int)⟩:bZ),(⟨(Vector.replicate 8 (0:Int)),[],(0:Int)⟩:bZ),false,[]⟩
abbrev QT:=bZ->Prop
def B2 (S2:V->Prop) (Q:QT) (c:V):Prop:=
 br (decide ((c.jq.length:Int)>=(64:Int)))
 ((SlOk c.jq (0:Int) (64:Int))/\
 bU c.s2.h (sub c.jq (0:Int) (64:Int)) fun mJ=>
 (SlOk c.jq (64:Int) (c.jq.length:Int))/\
 S2 {c with s2:=(⟨mJ,c.s2.rest,c.s2.n⟩:bZ),jq:=(sub c.jq (64:Int) (c.jq.length:Int))})
 (Q (⟨c.s2.h,c.jq,c.s2.n⟩:bZ))
def L2 (Q:QT) (c:V):Prop:=Lf (fun S=>B2 S Q) c
theorem cw {Q:QT} {c:V} (H:B2 (L2 Q) Q c):L2 Q c:=Lf.fold H
def K3 (Q:QT) (c:V):Prop:=
 (Bnd (([]:List Int).length+c.s2.rest.length))/\
 (Bnd ((([]:List Int)++c.s2.rest).length+c.b1.length))/\
 L2 Q {c with s2:=(⟨c.s2.h,c.s2.rest,(IntKind.wrap .u64 (c.s2.n+(IntKind.wrap .u64 (c.b1.length:Int))))⟩:bZ),jq:=((([]:List Int)++c.s2.rest)++c.b1)}
def K1 (Q:QT) (c:V):Prop:=
 br c.mI
 (ud fun th=>
 K3 Q {c with s2:=(⟨th,c.s2.rest,c.s2.n⟩:bZ)})
 (K3 Q c)
end aQ
def aQ (s0:bZ) (b1:List Int) (Q:aQ.QT):Prop:=
 br (decide (s0.n<(64:Int)))
 (aQ.K1 Q {aQ.v0 with b1:=b1,s2:=s0,v4:=(⟨(Vector.replicate 8 (0:Int)),([]:List Int),(0:Int)⟩:bZ),mI:=((s0.rest.length:Int)==(IntKind.wrap .i64 s0.n))})
 (aQ.K1 Q {aQ.v0 with b1:=b1,s2:=s0,v4:=(⟨(Vector.replicate 8 (0:Int)),([]:List Int),(0:Int)⟩:bZ),mI:=false})
namespace aY
structure V where
 s1:bZ
 v2:Vector Int 32
 mL:List Int
 oc:Int
 pJ:bZ
 d6:Vector Int 32
 mZ:Int
def v0:V:=⟨(⟨(Vector.replicate 8 (0:Int)),[],(0:Int)⟩:bZ),Vector.replicate 32 0,[],0,(⟨(Vector.replicate 8 (0:Int)),[],(0:Int)⟩:bZ),Vector.replicate 32 0,0⟩
abbrev QT:=(Vector Int 32)->Prop
def B3 (S3:V->Prop) (Q:QT) (c:V):Prop:=
 br (decide (c.mZ<(32:Int)))
 (ixP c.pJ.h.toList (IntKind.wrap .i64 (Int.tdiv c.mZ (4:Int))) fun Wm=>
 jn (IntKind.wrap .i64 ((24:Int) - (IntKind.wrap .i64 ((8:Int)*(Int.tmod c.mZ (4:Int)))))) fun _=>
 ixP c.d6.toList c.mZ fun agl=>
 S3 {c with d6:=(c.d6.setIfInBounds (Int.toNat c.mZ) (IntKind.wrap .u8 (Int.fdiv Wm (2 ^ (min (Int.toNat (IntKind.wrap .i64 ((24:Int) - (IntKind.wrap .i64 ((8:Int)*(Int.tmod c.mZ (4:Int))))))) (IntKind.bits .u32)))))),mZ:=(IntKind.wrap .i64 (c.mZ+(1:Int)))})
 (Q c.d6)
def L3 (Q:QT) (c:V):Prop:=Lf (fun S=>B3 S Q) c
theorem gH {Q:QT} {c:V} (H:B3 (L3 Q) Q c):L3 Q c:=Lf.fold H
def B2 (S2:V->Prop) (Q:QT) (c:V):Prop:=
 br (decide (c.oc<(8:Int)))
 (jn (IntKind.wrap .i64 ((8:Int)*(IntKind.wrap .i64 ((7:Int) - c.oc)))) fun _=>
 (Bnd (c.mL.length+([(IntKind.wrap .u8 (Int.fdiv (IntKind.wrap .u64 ((8:Int)*c.s1.n)) (2 ^ (min (Int.toNat (IntKind.wrap .i64 ((8:Int)*(IntKind.wrap .i64 ((7:Int) - c.oc))))) (IntKind.bits .u64)))))]).length))/\
 S2 {c with mL:=(c.mL++[(IntKind.wrap .u8 (Int.fdiv (IntKind.wrap .u64 ((8:Int)*c.s1.n)) (2 ^ (min (Int.toNat (IntKind.wrap .i64 ((8:Int)*(IntKind.wrap .i64 ((7:Int) - c.oc))))) (IntKind.bits .u64)))))]),oc:=(IntKind.wrap .i64 (c.oc+(1:Int)))})
 (aQ c.s1 c.mL fun w6=>
 L3 Q {c with pJ:=w6,d6:=(Vector.replicate 32 (0:Int)),mZ:=(0:Int)})
def L2 (Q:QT) (c:V):Prop:=Lf (fun S=>B2 S Q) c
theorem cw {Q:QT} {c:V} (H:B2 (L2 Q) Q c):L2 Q c:=Lf.fold H
def B1 (S1:V->Prop) (Q:QT) (c:V):Prop:=
 br ((Int.tmod (IntKind.wrap .i64 ((IntKind.wrap .i64 ((c.s1.rest.length:Int)+(c.mL.length:Int)))+(8:Int))) (64:Int)) !=(0:Int))
 ((Bnd (c.mL.length+([(0:Int)]).length))/\
 S1 {c with mL:=(c.mL++[(0:Int)])})
 (L2 Q {c with oc:=(0:Int)})
def L1 (Q:QT) (c:V):Prop:=Lf (fun S=>B1 S Q) c
theorem bG {Q:QT} {c:V} (H:B1 (L1 Q) Q c):L1 Q c:=Lf.fold H
end aY
def aY (s0:bZ) (Q:aY.QT):Prop:=
 aY.L1 Q {aY.v0 with s1:=s0,v2:=(Vector.replicate 32 (0:Int)),mL:=[(128:Int)]}
namespace cx
structure V where
 v2:Vector Int 32
 s3:bZ
 v7:List (List Int)
 v8:Int
 v9:Int
def v0:V:=⟨Vector.replicate 32 0,(⟨(Vector.replicate 8 (0:Int)),[],(0:Int)⟩:bZ),[],0,0⟩
abbrev QT:=(Vector Int 32)->Prop
def B1 (S1:V->Prop) (Q:QT) (c:V):Prop:=
 br (decide (c.v9<c.v8))
 (ixP c.v7 c.v9 fun pY=>
 aQ c.s3 pY fun kQ=>
 S1 {c with s3:=kQ,v9:=(IntKind.wrap .i64 (c.v9+(1:Int)))})
 (aY c.s3 fun tn=>
 Q tn)
def L1 (Q:QT) (c:V):Prop:=Lf (fun S=>B1 S Q) c
theorem bG {Q:QT} {c:V} (H:B1 (L1 Q) Q c):L1 Q c:=Lf.fold H
end cx
def cx (gq:List (List Int)) (Q:cx.QT):Prop:=
 vr fun sY=>
 cx.L1 Q {cx.v0 with v2:=(Vector.replicate 32 (0:Int)),s3:=sY,v7:=gq,v8:=(gq.length:Int),v9:=(0:Int)}
namespace aP
structure V where
 b0:Option Addr
 cS:List Int
 v4:Vector Int 32
 l9:Bool
def v0:V:=⟨none,[],Vector.replicate 32 0,false⟩
abbrev QT:=(Vector Int 32)->St Obj->Prop
def K2 (Q:QT) (c:V) (σ:St Obj):Prop:=
 cx ([c.cS]) fun Em=>
 Q Em σ
def K1 (Q:QT) (c:V) (σ:St Obj):Prop:=
 br c.l9
 (nilW c.b0 fun zY=>
 nq σ zY fun s7=>
 cL c.cS fun zZ=>
 (Bnd (s7.texts.length+([zZ]).length))/\
 K2 Q c (sset σ zY (.cU (⟨(s7.texts++[zZ])⟩:cU))))
 (K2 Q c σ)
end aP
def aP (b0:Option Addr) (cS:List Int) (σ:St Obj) (Q:aP.QT):Prop:=
 br (!(Option.isNone b0))
 (nilW b0 fun CN=>
 nq σ CN fun I5=>
 ∀ En:Bool,En=(decide ((I5.texts.length:Int)<(100000:Int)))->
 aP.K1 Q {aP.v0 with b0:=b0,cS:=cS,v4:=(Vector.replicate 32 (0:Int)),l9:=En} σ)
 (aP.K1 Q {aP.v0 with b0:=b0,cS:=cS,v4:=(Vector.replicate 32 (0:Int)),l9:=false} σ)
namespace cB
structure V where
 b0:Option Addr
 fW:Int
 jd:Int
 iP:aF
 KZ:List Int
 Mz:Bool
def v0:V:=⟨none,0,0,(⟨(0:Int),(0:Int),(Vector.replicate 32 (0:Int))⟩:aF),[],false⟩
abbrev QT:=(List Int)->aF->Int->St Obj->Prop
def K1 (Q:QT) (c:V) (σ:St Obj):Prop:=
 br c.Mz
 (Q ([]:List Int) (⟨(0:Int),(0:Int),(Vector.replicate 32 (0:Int))⟩:aF) (1:Int) σ)
 (aP c.b0 c.KZ σ fun qU σ_20=>
 Q c.KZ (⟨c.jd,c.fW,qU⟩:aF) (0:Int) σ_20)
end cB
def cB (b0:Option Addr) (pZ:Vector Int 32) (fW:Int) (jd:Int) (MA:Int) (Qg:List Int) (σ:St Obj) (Q:cB.QT):Prop:=
 cE pZ fW MA Qg fun gW oA=>
 br (oA !=(0:Int))
 (cB.K1 Q {cB.v0 with b0:=b0,fW:=fW,jd:=jd,iP:=(⟨(0:Int),(0:Int),(Vector.replicate 32 (0:Int))⟩:aF),KZ:=gW,Mz:=true} σ)
 (j5 jd fun gJ=>
 cB.K1 Q {cB.v0 with b0:=b0,fW:=fW,jd:=jd,iP:=(⟨(0:Int),(0:Int),(Vector.replicate 32 (0:Int))⟩:aF),KZ:=gW,Mz:=(!gJ)} σ)
def iG (c5:List Int) (v1:bp) (v2:List aF) (v3:Option Addr) (v4:Vector Int 32) (v5:Int) (v6:List cO) (σ:St Obj) (Q:(List aF)->(List cO)->St Obj->Prop):Prop:=
 bn v1 (v2.length:Int) (0:Int) fun qV=>
 cB v3 v4 v5 (0:Int) qV c5 σ fun w4 nt mM σ_20=>
 (Bnd (v6.length+([(⟨qV,w4⟩:cO)]).length))/\
 (Bnd (v2.length+([nt]).length))/\
 Q (v2++[nt]) (v6++[(⟨qV,w4⟩:cO)]) σ_20
namespace bA
structure V where
 s2:bp
 qW:Int
 eX:Int
 l7:List Int
 k8:Int
def v0:V:=⟨(⟨[]⟩:bp),0,0,[],0⟩
abbrev QT:=(List Int)->Prop
def B1 (S1:V->Prop) (Q:QT) (c:V):Prop:=
 ixP c.s2.eL c.qW fun I6=>
 br (decide (c.k8<(if I6<(IntKind.wrap .i64 (c.eX+(6:Int))) then I6 else (IntKind.wrap .i64 (c.eX+(6:Int))))))
 ((Bnd (c.l7.length+([c.k8]).length))/\
 S1 {c with l7:=(c.l7++[c.k8]),k8:=(IntKind.wrap .i64 (c.k8+(1:Int)))})
 (Q c.l7)
def L1 (Q:QT) (c:V):Prop:=Lf (fun S=>B1 S Q) c
end bA
def bA (s0:bp) (bI:Int) (Q:bA.QT):Prop:=
 bC s0 bI fun j3=>
 br (decide (j3<(1:Int)))
 (Q ([]:List Int))
 (ixP s0.eL (IntKind.wrap .i64 (j3 - (1:Int))) fun I5=>
 ixP s0.eL j3 fun vt=>
 bA.L1 Q {bA.v0 with s2:=s0,qW:=j3,eX:=(IntKind.wrap .i64 (I5+(IntKind.wrap .i64 ((6:Int)*(IntKind.wrap .i64 (bI - vt)))))),l7:=([]:List Int),k8:=(IntKind.wrap .i64 (I5+(IntKind.wrap .i64 ((6:Int)*(IntKind.wrap .i64 (bI - vt))))))})
def gu (Bz:Int) (Q:Int->Prop):Prop:=
 Q (if (8:Int)<(if (1:Int)>Bz then (1:Int) else Bz) then (8:Int) else (if (1:Int)>Bz then (1:Int) else Bz))
namespace bJ
structure V where
 n1:Int
 dx:List Int
def v0:V:=⟨0,[]⟩
abbrev QT:=(List Int)->Prop
def K7 (Q:QT) (c:V):Prop:=
 (Bnd (c.dx.length+([(IntKind.wrap .u8 c.n1)]).length))/\
 Q (c.dx++[(IntKind.wrap .u8 c.n1)])
def K6 (Q:QT) (c:V):Prop:=
 (Bnd (c.dx.length+([(IntKind.wrap .u8 c.n1)]).length))/\
 K7 Q {c with n1:=(Int.fdiv c.n1 (2 ^ (min (Int.toNat (8:Int)) (IntKind.bits .u64)))),dx:=(c.dx++[(IntKind.wrap .u8 c.n1)])}
def K5 (Q:QT) (c:V):Prop:=
 (Bnd (c.dx.length+([(IntKind.wrap .u8 c.n1)]).length))/\
 K6 Q {c with n1:=(Int.fdiv c.n1 (2 ^ (min (Int.toNat (8:Int)) (IntKind.bits .u64)))),dx:=(c.dx++[(IntKind.wrap .u8 c.n1)])}
def K4 (Q:QT) (c:V):Prop:=
 (Bnd (c.dx.length+([(IntKind.wrap .u8 c.n1)]).length))/\
 K5 Q {c with n1:=(Int.fdiv c.n1 (2 ^ (min (Int.toNat (8:Int)) (IntKind.bits .u64)))),dx:=(c.dx++[(IntKind.wrap .u8 c.n1)])}
def K3 (Q:QT) (c:V):Prop:=
 (Bnd (c.dx.length+([(IntKind.wrap .u8 c.n1)]).length))/\
 K4 Q {c with n1:=(Int.fdiv c.n1 (2 ^ (min (Int.toNat (8:Int)) (IntKind.bits .u64)))),dx:=(c.dx++[(IntKind.wrap .u8 c.n1)])}
def K2 (Q:QT) (c:V):Prop:=
 (Bnd (c.dx.length+([(IntKind.wrap .u8 c.n1)]).length))/\
 K3 Q {c with n1:=(Int.fdiv c.n1 (2 ^ (min (Int.toNat (8:Int)) (IntKind.bits .u64)))),dx:=(c.dx++[(IntKind.wrap .u8 c.n1)])}
def K1 (Q:QT) (c:V):Prop:=
 (Bnd (c.dx.length+([(IntKind.wrap .u8 c.n1)]).length))/\
 K2 Q {c with n1:=(Int.fdiv c.n1 (2 ^ (min (Int.toNat (8:Int)) (IntKind.bits .u64)))),dx:=(c.dx++[(IntKind.wrap .u8 c.n1)])}
end bJ
def bJ (b0:List Int) (n1:Int) (Qh:Int) (Q:bJ.QT):Prop:=
 cL b0 fun CP=>
 gu Qh fun pI=>
 br (pI==(8:Int))
 ((Bnd (CP.length+([(IntKind.wrap .u8 n1)]).length))/\
 bJ.K1 Q {bJ.v0 with n1:=(Int.fdiv n1 (2 ^ (min (Int.toNat (8:Int)) (IntKind.bits .u64)))),dx:=(CP++[(IntKind.wrap .u8 n1)])})
 (br (pI==(7:Int))
 (bJ.K1 Q {bJ.v0 with n1:=n1,dx:=CP})
 (br (pI==(6:Int))
 (bJ.K2 Q {bJ.v0 with n1:=n1,dx:=CP})
 (br (pI==(5:Int))
 (bJ.K3 Q {bJ.v0 with n1:=n1,dx:=CP})
 (br (pI==(4:Int))
 (bJ.K4 Q {bJ.v0 with n1:=n1,dx:=CP})
 (br (pI==(3:Int))
 (bJ.K5 Q {bJ.v0 with n1:=n1,dx:=CP})
 (br (pI==(2:Int))
 (bJ.K6 Q {bJ.v0 with n1:=n1,dx:=CP})
 (bJ.K7 Q {bJ.v0 with n1:=n1,dx:=CP})))))))
def nw (r0:aF) (Q:(List Int)->Prop):Prop:=
 bJ ([]:List Int) (IntKind.wrap .u64 r0.Place) (1:Int) fun sY=>
 bJ sY (IntKind.wrap .u64 r0.cu) (4:Int) fun ta=>
 (Bnd (ta.length+r0.bY.toList.length))/\
 Q (ta++r0.bY.toList)
def oB (b0:List Int) (uf:Int) (Q:(List Int)->Int->Prop):Prop:=
 br (decide ((b0.length:Int)>uf))
 (Q ([]:List Int) (1:Int))
 (cL b0 fun CL=>
 (0<=(IntKind.wrap .i64 (uf - (b0.length:Int))))/\(Bnd (CL.length+Int.toNat (IntKind.wrap .i64 (uf - (b0.length:Int)))))/\
 Q (CL++List.replicate (Int.toNat (IntKind.wrap .i64 (uf - (b0.length:Int)))) (0:Int)) (0:Int))
namespace cq
structure V where
 kD:List aF
 l9:Bool
 b4:List Int
 pH:List aF
 v20:Int
 oc:Int
 r6:aF
 DJ:Bool
def v0:V:=⟨[],false,[],[],0,0,(⟨(0:Int),(0:Int),(Vector.replicate 32 (0:Int))⟩:aF),false⟩
abbrev QT:=(List Int)->Int->Prop
def K3 (S2:V->Prop) (Q:QT) (c:V):Prop:=
 br c.DJ
 (Q ([]:List Int) (1:Int))
 (nw c.r6 fun tn=>
 (Bnd (c.b4.length+tn.length))/\
 S2 {c with b4:=(c.b4++tn),oc:=(IntKind.wrap .i64 (c.oc+(1:Int)))})
def B2 (S2:V->Prop) (Q:QT) (c:V):Prop:=
 br (decide (c.oc<c.v20))
 (ixP c.pH c.oc fun s6=>
 br (s6.Place !=(0:Int))
 (K3 S2 Q {c with r6:=s6,DJ:=(s6.Place !=(1:Int))})
 (K3 S2 Q {c with r6:=s6,DJ:=false}))
 (oB c.b4 (256:Int) fun oC kQ=>
 Q oC kQ)
def L2 (Q:QT) (c:V):Prop:=Lf (fun S=>B2 S Q) c
theorem cw {Q:QT} {c:V} (H:B2 (L2 Q) Q c):L2 Q c:=Lf.fold H
def K1 (Q:QT) (c:V):Prop:=
 br c.l9
 (Q ([]:List Int) (1:Int))
 (L2 Q {c with b4:=[(IntKind.wrap .u8 (c.kD.length:Int))],pH:=c.kD,v20:=(c.kD.length:Int),oc:=(0:Int)})
end cq
def cq (kD:List aF) (Q:cq.QT):Prop:=
 br (decide ((kD.length:Int)<(1:Int)))
 (cq.K1 Q {cq.v0 with kD:=kD,l9:=true})
 (cq.K1 Q {cq.v0 with kD:=kD,l9:=(decide ((kD.length:Int)>(6:Int)))})
namespace bR
structure V where
 eR:List (List Int)
 b4:Option Addr
 vv:Vector Int 32
 j6:Int
 v9:aF
 qg:bp
 fM:Bool
 fX:List cO
 eS:List aF
 iT:Option Addr
 iU:Vector Int 32
 iV:Int
 w9:List (List Int)
 mZ:Int
 DK:Int
 iM:Int
def v0:V:=⟨[],none,Vector.replicate 32 0,0,(⟨(0:Int),(0:Int),(Vector.replicate 32 (0:Int))⟩:aF),(⟨[]⟩:bp),false,[],[],none,Vector.replicate 32 0,0,[],0,0,0⟩
abbrev QT:=(List cO)->aF->Int->St Obj->Prop
def B3 (S3:V->St Obj->Prop) (Q:QT) (c:V) (σ:St Obj):Prop:=
 cC c.qg fun Wn=>
 br (decide (c.iM<Wn))
 (bA c.qg c.iM fun I7=>
 ixP I7 (0:Int) fun Qi=>
 ixP I7 (0:Int) fun Qj=>
 (SlOk c.eS Qi (IntKind.wrap .i64 (Qj+(I7.length:Int))))/\
 cq (sub c.eS Qi (IntKind.wrap .i64 (Qj+(I7.length:Int)))) fun Qk aeo=>
 iG Qk c.qg c.eS c.iT c.iU c.iV c.fX σ fun Ql Qm σ_121=>
 S3 {c with fX:=Qm,eS:=Ql,iM:=(IntKind.wrap .i64 (c.iM+(1:Int)))} σ_121)
 (ixP c.eS (IntKind.wrap .i64 ((c.eS.length:Int) - (1:Int))) fun BA=>
 Q c.fX BA (0:Int) σ)
def L3 (Q:QT) (c:V) (σ:St Obj):Prop:=
 Lf (fun S (v:V × St Obj)=>B3 (fun c σ=>S (c,σ)) Q v.1 v.2) (c,σ)
theorem gH {Q:QT} {c:V} {σ:St Obj} (H:B3 (L3 Q) Q c σ):L3 Q c σ:=Lf.fold H
def B2 (S2:V->St Obj->Prop) (Q:QT) (c:V) (σ:St Obj):Prop:=
 br (decide (c.DK<c.mZ))
 (ixP c.w9 c.DK fun Wo=>
 iG Wo c.qg c.eS c.iT c.iU c.iV c.fX σ fun Wp I8 σ_69=>
 S2 {c with fX:=I8,eS:=Wp,DK:=(IntKind.wrap .i64 (c.DK+(1:Int)))} σ_69)
 (L3 Q {c with iM:=(c.eR.length:Int)} σ)
def L2 (Q:QT) (c:V) (σ:St Obj):Prop:=
 Lf (fun S (v:V × St Obj)=>B2 (fun c σ=>S (c,σ)) Q v.1 v.2) (c,σ)
theorem cw {Q:QT} {c:V} {σ:St Obj} (H:B2 (L2 Q) Q c σ):L2 Q c σ:=Lf.fold H
def K1 (Q:QT) (c:V) (σ:St Obj):Prop:=
 br c.fM
 (Q ([]:List cO) (⟨(0:Int),(0:Int),(Vector.replicate 32 (0:Int))⟩:aF) (1:Int) σ)
 (L2 Q {c with fX:=([]:List cO),eS:=([]:List aF),iT:=c.b4,iU:=c.vv,iV:=c.j6,w9:=c.eR,mZ:=(c.eR.length:Int),DK:=(0:Int)} σ)
end bR
def bR (b0:Option Addr) (pZ:Vector Int 32) (fW:Int) (eR:List (List Int)) (σ:St Obj) (Q:bR.QT):Prop:=
 bM (eR.length:Int) fun z4 w4=>
 br (w4 !=(0:Int))
 (bR.K1 Q {bR.v0 with eR:=eR,b4:=b0,vv:=pZ,j6:=fW,v9:=(⟨(0:Int),(0:Int),(Vector.replicate 32 (0:Int))⟩:aF),qg:=z4,fM:=true} σ)
 (cR (fun x0 _ K=>gz x0 (fun r=>K r ())) eR () fun oC agm=>
 bR.K1 Q {bR.v0 with eR:=eR,b4:=b0,vv:=pZ,j6:=fW,v9:=(⟨(0:Int),(0:Int),(Vector.replicate 32 (0:Int))⟩:aF),qg:=z4,fM:=oC} σ)
def dR (s0:bp) (Q:Int->Prop):Prop:=
 cC s0 fun j3=>
 br (j3==(0:Int))
 (Q (0:Int))
 (cC s0 fun gW=>
 Q (IntKind.wrap .i64 ((2:Int)+(IntKind.wrap .i64 ((2:Int)*gW)))))
namespace dm
structure V where
 c7:Int
 v9:Bool
def v0:V:=⟨0,false⟩
abbrev QT:=aH->Int->Prop
def K1 (Q:QT) (c:V):Prop:=
 br c.v9
 (False)
 (mkW (IntKind.wrap .i64 (c.c7*(256:Int))) fun _=>
 Q (⟨(List.replicate (Int.toNat (IntKind.wrap .i64 (c.c7*(256:Int)))) (0:Int)),([]:List b9),([]:List (List Int)),([]:List Int)⟩:aH) (0:Int))
end dm
def dm (c7:Int) (Q:dm.QT):Prop:=
 br (decide (c7<(1:Int)))
 (dm.K1 Q {dm.v0 with c7:=c7,v9:=true})
 (dm.K1 Q {dm.v0 with c7:=c7,v9:=(decide (c7>(1024:Int)))})
def fu (s0:aH) (Q:Int->aH->Prop):Prop:=
 Q (IntKind.wrap .i64 (Int.tdiv (s0.blocks.length:Int) (256:Int))) s0
namespace bQ
structure V where
 s0:aH
 v9:Bool
def v0:V:=⟨(⟨[],[],[],[]⟩:aH),false⟩
abbrev QT:=Int->aH->Prop
def K1 (Q:QT) (c:V):Prop:=
 br c.v9
 (Q (1:Int) c.s0)
 (Q (0:Int) c.s0)
end bQ
def bQ (n1:Int) (s0:aH) (Q:bQ.QT):Prop:=
 fu s0 fun pI gW=>
 br (pI==(0:Int))
 (Q (2:Int) gW)
 (br (decide (n1<(0:Int)))
 (bQ.K1 Q {bQ.v0 with s0:=gW,v9:=true})
 (fu gW fun tg oC=>
 bQ.K1 Q {bQ.v0 with s0:=oC,v9:=(decide (n1>=tg))}))
def fK (n1:Int) (s0:aH) (Q:aH->Prop):Prop:=
 (Bnd (s0.trace.length+([n1]).length))/\
 br (decide (((s0.trace++[n1]).length:Int)>(100000:Int)))
 ((SlOk (s0.trace++[n1]) (1:Int) ((s0.trace++[n1]).length:Int))/\
 Q (⟨s0.blocks,s0.waits,s0.cN,(sub (s0.trace++[n1]) (1:Int) ((s0.trace++[n1]).length:Int))⟩:aH))
 (Q (⟨s0.blocks,s0.waits,s0.cN,(s0.trace++[n1])⟩:aH))
def gi (n1:Int) (b2:List Int) (s0:aH) (Q:Int->aH->Prop):Prop:=
 bQ n1 s0 fun gW ta=>
 br (gW !=(0:Int))
 (Q gW ta)
 (br ((b2.length:Int) !=(256:Int))
 (Q (1:Int) ta)
 (cL b2 fun oC=>
 (Bnd (ta.waits.length+([(⟨n1,oC⟩:b9)]).length))/\
 fK n1 (⟨ta.blocks,(ta.waits++[(⟨n1,oC⟩:b9)]),ta.cN,ta.trace⟩:aH) fun oz=>
 Q (0:Int) oz))
namespace cM
structure V where
 ug:aH
 v8:List cO
 v9:Int
 v10:Int
def v0:V:=⟨(⟨[],[],[],[]⟩:aH),[],0,0⟩
abbrev QT:=Int->aH->Prop
def B1 (S1:V->Prop) (Q:QT) (c:V):Prop:=
 br (decide (c.v10<c.v9))
 (ixP c.v8 c.v10 fun vt=>
 gi vt.Block vt.Bytes c.ug fun kQ xb=>
 br (kQ !=(0:Int))
 (Q kQ xb)
 (S1 {c with ug:=xb,v10:=(IntKind.wrap .i64 (c.v10+(1:Int)))}))
 (Q (0:Int) c.ug)
def L1 (Q:QT) (c:V):Prop:=Lf (fun S=>B1 S Q) c
theorem bG {Q:QT} {c:V} (H:B1 (L1 Q) Q c):L1 Q c:=Lf.fold H
end cM
def cM (K0:List cO) (ug:aH) (Q:cM.QT):Prop:=
 cM.L1 Q {cM.v0 with ug:=ug,v8:=K0,v9:=(K0.length:Int),v10:=(0:Int)}
def gK (w1:b9) (K8:Int) (s0:aH) (Q:aH->Prop):Prop:=
 (SlOk s0.blocks (IntKind.wrap .i64 (w1.n*(256:Int))) (s0.blocks.length:Int))/\
 (SlOk w1.b (0:Int) K8)/\
 Q (⟨(cpP s0.blocks (Int.toNat (IntKind.wrap .i64 (w1.n*(256:Int)))) ((sub s0.blocks (IntKind.wrap .i64 (w1.n*(256:Int))) (s0.blocks.length:Int)).length) (sub w1.b (0:Int) K8)),s0.waits,s0.cN,s0.trace⟩:aH)
namespace bE
structure V where
 s0:aH
 n3:Int
 mI:List b9
 iE:Int
 pH:Int
def v0:V:=⟨(⟨[],[],[],[]⟩:aH),0,[],0,0⟩
abbrev QT:=Int->aH->Prop
def B1 (S1:V->Prop) (Q:QT) (c:V):Prop:=
 br (decide (c.pH<c.iE))
 (ixP c.mI c.pH fun Ej=>
 gK Ej (256:Int) c.s0 fun Wq=>
 S1 {c with s0:=Wq,pH:=(IntKind.wrap .i64 (c.pH+(1:Int)))})
 (fK (-1:Int) (⟨c.s0.blocks,([]:List b9),c.s0.cN,c.s0.trace⟩:aH) fun Wr=>
 Q c.n3 Wr)
def L1 (Q:QT) (c:V):Prop:=Lf (fun S=>B1 S Q) c
theorem bG {Q:QT} {c:V} (H:B1 (L1 Q) Q c):L1 Q c:=Lf.fold H
end bE
def bE (s0:aH) (Q:bE.QT):Prop:=
 fu s0 fun pI gW=>
 br (pI==(0:Int))
 (Q (0:Int) gW)
 (bE.L1 Q {bE.v0 with s0:=gW,n3:=(gW.waits.length:Int),mI:=gW.waits,iE:=(gW.waits.length:Int),pH:=(0:Int)})
namespace bt
structure V where
 v9:bp
 v10:aF
 La:bp
 tq:aH
 kS:List cO
 kT:aF
 uh:Bool
def v0:V:=⟨(⟨[]⟩:bp),(⟨(0:Int),(0:Int),(Vector.replicate 32 (0:Int))⟩:aF),(⟨[]⟩:bp),(⟨[],[],[],[]⟩:aH),[],(⟨(0:Int),(0:Int),(Vector.replicate 32 (0:Int))⟩:aF),false⟩
abbrev QT:=aH->bp->aF->Bool->St Obj->Prop
def K1 (Q:QT) (c:V) (σ:St Obj):Prop:=
 br c.uh
 (False)
 (cM c.kS c.tq fun Ws CQ=>
 br (Ws==(0:Int))
 (bE CQ fun Wt Wu=>
 Q Wu c.La c.kT (Wt==(c.kS.length:Int)) σ)
 (Q CQ c.La c.kT false σ))
end bt
def bt (b0:Option Addr) (pZ:Vector Int 32) (fW:Int) (l3:List (List Int)) (σ:St Obj) (Q:bt.QT):Prop:=
 bM (l3.length:Int) fun DL gJ=>
 dR DL fun nt=>
 dm (if (1:Int)>nt then (1:Int) else nt) fun mM qU=>
 bR b0 pZ fW l3 σ fun oz CS I9 σ_40=>
 br (gJ !=(0:Int))
 (bt.K1 Q {bt.v0 with v9:=(⟨([]:List Int)⟩:bp),v10:=(⟨(0:Int),(0:Int),(Vector.replicate 32 (0:Int))⟩:aF),La:=DL,tq:=mM,kS:=oz,kT:=CS,uh:=true} σ_40)
 (br (qU !=(0:Int))
 (bt.K1 Q {bt.v0 with v9:=(⟨([]:List Int)⟩:bp),v10:=(⟨(0:Int),(0:Int),(Vector.replicate 32 (0:Int))⟩:aF),La:=DL,tq:=mM,kS:=oz,kT:=CS,uh:=true} σ_40)
 (br (I9 !=(0:Int))
 (bt.K1 Q {bt.v0 with v9:=(⟨([]:List Int)⟩:bp),v10:=(⟨(0:Int),(0:Int),(Vector.replicate 32 (0:Int))⟩:aF),La:=DL,tq:=mM,kS:=oz,kT:=CS,uh:=true} σ_40)
 (dR DL fun Eo=>
 bt.K1 Q {bt.v0 with v9:=(⟨([]:List Int)⟩:bp),v10:=(⟨(0:Int),(0:Int),(Vector.replicate 32 (0:Int))⟩:aF),La:=DL,tq:=mM,kS:=oz,kT:=CS,uh:=(Eo==(0:Int))} σ_40)))
namespace av
structure V where
 dh:Int
 v2:aW
 qh:Bool
 s4:aW
 i5:Int
 eX:Int
 eK:Int
 dD:Int
 MB:Bool
 n9:Int
 DM:Int
def v0:V:=⟨0,(⟨(0:Int),[],[]⟩:aW),false,(⟨(0:Int),[],[]⟩:aW),0,0,0,0,false,0,0⟩
abbrev QT:=aW->Int->Prop
def B5 (S3:V->Prop) (S5:V->Prop) (Q:QT) (c:V):Prop:=
 br (decide (c.DM<c.eK))
 ((Bnd (c.s4.Level.length+([c.dD]).length))/\
 (Bnd (c.s4.dO.length+([(IntKind.wrap .i64 (c.eX+c.DM))]).length))/\
 S5 {c with s4:=(⟨c.s4.P,(c.s4.Level++[c.dD]),(c.s4.dO++[(IntKind.wrap .i64 (c.eX+c.DM))])⟩:aW),n9:=(IntKind.wrap .i64 (c.n9+(1:Int))),DM:=(IntKind.wrap .i64 (c.DM+(6:Int)))})
 (S3 {c with eX:=(IntKind.wrap .i64 (c.eX+c.eK)),eK:=c.n9,dD:=(IntKind.wrap .i64 (c.dD+(1:Int)))})
def L5 (S3:V->Prop) (Q:QT) (c:V):Prop:=Lf (fun S=>B5 S3 S Q) c
def K4 (S3:V->Prop) (Q:QT) (c:V):Prop:=
 br c.MB
 (L5 S3 Q {c with n9:=(0:Int),DM:=(0:Int)})
 (Q c.s4 (0:Int))
def B3 (S3:V->Prop) (Q:QT) (c:V):Prop:=
 br (c.dD==(1:Int))
 (K4 S3 Q {c with MB:=true})
 (K4 S3 Q {c with MB:=(decide (c.eK>(1:Int)))})
def L3 (Q:QT) (c:V):Prop:=Lf (fun S=>B3 S Q) c
theorem gH {Q:QT} {c:V} (H:B3 (L3 Q) Q c):L3 Q c:=Lf.fold H
def B2 (S2:V->Prop) (Q:QT) (c:V):Prop:=
 br (decide (c.i5<c.dh))
 ((Bnd (c.s4.Level.length+([(0:Int)]).length))/\
 (Bnd (c.s4.dO.length+([(-1:Int)]).length))/\
 S2 {c with s4:=(⟨c.s4.P,(c.s4.Level++[(0:Int)]),(c.s4.dO++[(-1:Int)])⟩:aW),i5:=(IntKind.wrap .i64 (c.i5+(1:Int)))})
 (L3 Q {c with eX:=(0:Int),eK:=c.dh,dD:=(1:Int)})
def L2 (Q:QT) (c:V):Prop:=Lf (fun S=>B2 S Q) c
def K1 (Q:QT) (c:V):Prop:=
 br c.qh
 (Q (⟨(0:Int),([]:List Int),([]:List Int)⟩:aW) (1:Int))
 (L2 Q {c with s4:=(⟨c.dh,([]:List Int),([]:List Int)⟩:aW),i5:=(0:Int)})
end av
def av (dh:Int) (Q:av.QT):Prop:=
 br (decide (dh<(1:Int)))
 (av.K1 Q {av.v0 with dh:=dh,v2:=(⟨(0:Int),([]:List Int),([]:List Int)⟩:aW),qh:=true})
 (av.K1 Q {av.v0 with dh:=dh,v2:=(⟨(0:Int),([]:List Int),([]:List Int)⟩:aW),qh:=(decide (dh>(216:Int)))})
def iN (s0:aH) (Q:(List Int)->aH->Prop):Prop:=
 cL s0.blocks fun pI=>
 Q pI s0
namespace cI
structure V where
 b0:Option Addr
 j7:Int
 iq:List Int
 qX:Vector Int 32
 r7:aF
 iE:Bool
def v0:V:=⟨none,0,[],Vector.replicate 32 0,(⟨(0:Int),(0:Int),(Vector.replicate 32 (0:Int))⟩:aF),false⟩
abbrev QT:=(List Int)->Int->St Obj->Prop
def K1 (Q:QT) (c:V) (σ:St Obj):Prop:=
 br c.iE
 (Q ([]:List Int) (1:Int) σ)
 (aP c.b0 c.iq σ fun kF σ_16=>
 br (!(kF.toList==c.r7.bY.toList))
 (Q ([]:List Int) (9:Int) σ_16)
 (cE c.qX c.r7.cu c.j7 c.iq fun mM oC=>
 Q mM oC σ_16))
end cI
def cI (b0:Option Addr) (pZ:Vector Int 32) (r2:aF) (j7:Int) (iq:List Int) (σ:St Obj) (Q:cI.QT):Prop:=
 br ((iq.length:Int) !=(256:Int))
 (cI.K1 Q {cI.v0 with b0:=b0,j7:=j7,iq:=iq,qX:=pZ,r7:=r2,iE:=true} σ)
 (cI.K1 Q {cI.v0 with b0:=b0,j7:=j7,iq:=iq,qX:=pZ,r7:=r2,iE:=(decide (j7<(0:Int)))} σ)
def gL (n1:Int) (s0:aH) (Q:List Int->Int->aH->Prop):Prop:=
 bQ n1 s0 fun e s1=>
 br (e !=(0:Int)) (Q [] e s1)
 (s1.waits=[]/\([]:List b9)=[]/\(SlOk s1.blocks (IntKind.wrap .i64 (n1*256)) (IntKind.wrap .i64 (IntKind.wrap .i64 (n1+1)*256)))/\
 cL (sub s1.blocks (IntKind.wrap .i64 (n1*256)) (IntKind.wrap .i64 (IntKind.wrap .i64 (n1+1)*256))) fun r=>Q r 0 s1)
def je (b0:Option Addr) (MD:Vector Int 32) (s3:bp) (Qn:Int) (r5:aF) (sZ:aH) (σ:St Obj) (Q:(List Int)->Int->aH->St Obj->Prop):Prop:=
 bn s3 Qn r5.Place fun kF=>
 br (decide (kF<(0:Int)))
 (Q ([]:List Int) (1:Int) sZ σ)
 (gL kF sZ fun nt tg oC=>
 br (tg !=(0:Int))
 (Q ([]:List Int) tg oC σ)
 (cI b0 MD r5 kF nt σ fun CS w6 σ_42=>
 Q CS w6 oC σ_42))
def jH (b0:List Int) (Q:bP->Prop):Prop:=
 Q (⟨b0,(0:Int)⟩:bP)
def ct (r0:bP) (Q:Int->bP->Prop):Prop:=
 Q r0.e r0
def dP (e1:Int) (r0:bP) (Q:bP->Prop):Prop:=
 br (r0.e==(0:Int))
 (Q (⟨r0.b,e1⟩:bP))
 (Q r0)
def cT (n1:Int) (r0:bP) (Q:(List Int)->bP->Prop):Prop:=
 ct r0 fun sY j3=>
 br (sY !=(0:Int))
 (Q ([]:List Int) j3)
 (br (decide ((j3.b.length:Int)<(if (0:Int)>n1 then (0:Int) else n1)))
 (dP (4:Int) j3 fun gJ=>
 Q ([]:List Int) gJ)
 ((SlOk j3.b (0:Int) (if (0:Int)>n1 then (0:Int) else n1))/\
 (SlOk j3.b (if (0:Int)>n1 then (0:Int) else n1) (j3.b.length:Int))/\
 cL (sub j3.b (0:Int) (if (0:Int)>n1 then (0:Int) else n1)) fun kQ=>
 Q kQ (⟨(sub j3.b (if (0:Int)>n1 then (0:Int) else n1) (j3.b.length:Int)),j3.e⟩:bP)))
namespace aK
structure V where
 r0:bP
 ny:Int
 n7:Int
 iP:List Int
 l9:Int
 wE:Int
 fM:Bool
def v0:V:=⟨(⟨[],(0:Int)⟩:bP),0,0,[],0,0,false⟩
abbrev QT:=Int->bP->Prop
def K2 (Q:QT) (c:V):Prop:=
 br c.fM
 (dP (3:Int) c.r0 fun zU=>
 Q (0:Int) zU)
 (Q c.n7 c.r0)
def B1 (S1:V->Prop) (Q:QT) (c:V):Prop:=
 br (decide (c.wE<c.l9))
 (ixP c.iP c.wE fun Ja=>
 jn (IntKind.wrap .i64 ((8:Int)*c.wE)) fun _=>
 S1 {c with n7:=(IntKind.wrap .u64 (((BitVec.ofInt (IntKind.bits .u64) c.n7 ||| (BitVec.ofInt (IntKind.bits .u64) (IntKind.wrap .u64 ((IntKind.wrap .u64 Ja)*2 ^ (min (Int.toNat (IntKind.wrap .i64 ((8:Int)*c.wE))) (IntKind.bits .u64)))))).toNat:Int))),wE:=(IntKind.wrap .i64 (c.wE+(1:Int)))})
 (ct c.r0 fun xb tc=>
 br (xb==(0:Int))
 (K2 Q {c with r0:=tc,fM:=(decide (c.n7>c.ny))})
 (K2 Q {c with r0:=tc,fM:=false}))
def L1 (Q:QT) (c:V):Prop:=Lf (fun S=>B1 S Q) c
theorem bG {Q:QT} {c:V} (H:B1 (L1 Q) Q c):L1 Q c:=Lf.fold H
end aK
def aK (uf:Int) (ny:Int) (r0:bP) (Q:aK.QT):Prop:=
 gu uf fun CL=>
 cT CL r0 fun j3 ta=>
 aK.L1 Q {aK.v0 with r0:=ta,ny:=ny,n7:=(0:Int),iP:=j3,l9:=(j3.length:Int),wE:=(0:Int)}
def jf (b0:List Int) (Q:aF->Int->Prop):Prop:=
 br ((b0.length:Int) !=(37:Int))
 (Q (⟨(0:Int),(0:Int),(Vector.replicate 32 (0:Int))⟩:aF) (1:Int))
 (jH b0 fun j3=>
 aK (1:Int) (1:Int) j3 fun gJ qV=>
 aK (4:Int) (4294967295:Int) qV fun mM qU=>
 cT (32:Int) qU fun tc mJ=>
 ct mJ fun zU agn=>
 br (zU !=(0:Int))
 (Q (⟨(0:Int),(0:Int),(Vector.replicate 32 (0:Int))⟩:aF) (1:Int))
 (Q (⟨(IntKind.wrap .i64 gJ),(IntKind.wrap .u32 mM),(cpV (Vector.replicate 32 (0:Int)) (Int.toNat (0:Int)) tc)⟩:aF) (0:Int)))
namespace bf
structure V where
 s0:List Int
 c1:Int
 l9:Bool
def v0:V:=⟨[],0,false⟩
abbrev QT:=(List Int)->Prop
def K2 (S1:V->Prop) (Q:QT) (c:V):Prop:=
 br c.l9
 ((SlOk c.s0 (1:Int) (c.s0.length:Int))/\
 S1 {c with s0:=(sub c.s0 (1:Int) (c.s0.length:Int))})
 (br ((c.s0.length:Int)==(0:Int))
 (Q ([]:List Int))
 (Q c.s0))
def B1 (S1:V->Prop) (Q:QT) (c:V):Prop:=
 br (decide ((c.s0.length:Int)>(0:Int)))
 (ixP c.s0 (0:Int) fun uc=>
 K2 S1 Q {c with l9:=(uc==c.c1)})
 (K2 S1 Q {c with l9:=false})
def L1 (Q:QT) (c:V):Prop:=Lf (fun S=>B1 S Q) c
theorem bG {Q:QT} {c:V} (H:B1 (L1 Q) Q c):L1 Q c:=Lf.fold H
end bf
def bf (s0:List Int) (c1:Int) (Q:bf.QT):Prop:=
 bf.L1 Q {bf.v0 with s0:=s0,c1:=c1}
namespace aU
structure V where
 s0:List Int
 c1:Int
 mI:Bool
def v0:V:=⟨[],0,false⟩
abbrev QT:=(List Int)->Prop
def K2 (S1:V->Prop) (Q:QT) (c:V):Prop:=
 br c.mI
 ((SlOk c.s0 (0:Int) (IntKind.wrap .i64 ((c.s0.length:Int) - (1:Int))))/\
 S1 {c with s0:=(sub c.s0 (0:Int) (IntKind.wrap .i64 ((c.s0.length:Int) - (1:Int))))})
 (Q c.s0)
def B1 (S1:V->Prop) (Q:QT) (c:V):Prop:=
 br (decide ((c.s0.length:Int)>(0:Int)))
 (ixP c.s0 (IntKind.wrap .i64 ((c.s0.length:Int) - (1:Int))) fun uc=>
 K2 S1 Q {c with mI:=(uc==c.c1)})
 (K2 S1 Q {c with mI:=false})
def L1 (Q:QT) (c:V):Prop:=Lf (fun S=>B1 S Q) c
theorem bG {Q:QT} {c:V} (H:B1 (L1 Q) Q c):L1 Q c:=Lf.fold H
end aU
def aU (s0:List Int) (c1:Int) (Q:aU.QT):Prop:=
 aU.L1 Q {aU.v0 with s0:=s0,c1:=c1}
namespace cF
structure V where
 s0:List Int
 eT:ByteArray
 v20:Bool
def v0:V:=⟨[],⟨#[]⟩,false⟩
abbrev QT:=(List Int)->Prop
def K1 (Q:QT) (c:V):Prop:=
 br c.v20
 ((0<=(0:Int)/\(0:Int)<(c.eT.size:Int))/\
 (0<=(0:Int)/\(0:Int)<(c.eT.size:Int))/\
 aU c.s0 ((c.eT.data.toList.getD (Int.toNat (0:Int)) 0).toNat:Int) fun ta=>
 bf ta ((c.eT.data.toList.getD (Int.toNat (0:Int)) 0).toNat:Int) fun qV=>
 Q qV)
 (False
 )
end cF
def cF (s0:List Int) (eT:ByteArray) (Q:cF.QT):Prop:=
 br ((s0.length:Int)==(0:Int))
 (Q ([]:List Int))
 (br (eT.toList==(⟨#[]⟩:ByteArray).toList)
 (Q s0)
 (br ((eT.size:Int)==(1:Int))
 ((0<=(0:Int)/\(0:Int)<(eT.size:Int))/\
 cF.K1 Q {cF.v0 with s0:=s0,eT:=eT,v20:=(decide (((eT.data.toList.getD (Int.toNat (0:Int)) 0).toNat:Int)<(128:Int)))})
 (cF.K1 Q {cF.v0 with s0:=s0,eT:=eT,v20:=false})))
def lQ (b0:List Int) (Q:Bool->Prop):Prop:=
 cF b0 (⟨#[0]⟩:ByteArray) fun CL=>
 Q ((CL.length:Int)==(0:Int))
namespace bB
structure V where
 r0:bP
 iP:Bool
def v0:V:=⟨(⟨[],(0:Int)⟩:bP),false⟩
abbrev QT:=Int->bP->Prop
def K2 (Q:QT) (c:V):Prop:=
 ct c.r0 fun xb tc=>
 Q xb tc
def K1 (Q:QT) (c:V):Prop:=
 br c.iP
 (dP (3:Int) c.r0 fun th=>
 K2 Q {c with r0:=th})
 (K2 Q c)
end bB
def bB (r0:bP) (Q:bB.QT):Prop:=
 ct r0 fun sY j3=>
 br (sY==(0:Int))
 (lQ j3.b fun oA=>
 bB.K1 Q {bB.v0 with r0:=j3,iP:=(!oA)})
 (bB.K1 Q {bB.v0 with r0:=j3,iP:=false})
namespace cr
structure V where
 r4:bP
 eE:Int
 l6:List aF
 oc:Int
 gX:Int
 Qo:Bool
def v0:V:=⟨(⟨[],(0:Int)⟩:bP),0,[],0,0,false⟩
abbrev QT:=(List aF)->Int->Prop
def K2 (Q:QT) (c:V):Prop:=
 br c.Qo
 (Q ([]:List aF) (9:Int))
 (Q c.l6 (0:Int))
def B1 (S1:V->Prop) (Q:QT) (c:V):Prop:=
 br (decide (c.gX<c.oc))
 (cT (37:Int) c.r4 fun kQ Wv=>
 jf kQ fun zT oz=>
 br (oz !=(0:Int))
 (Q ([]:List aF) (9:Int))
 ((SlOk c.l6 c.gX (c.l6.length:Int))/\
 S1 {c with r4:=Wv,l6:=(cpP c.l6 (Int.toNat c.gX) ((sub c.l6 c.gX (c.l6.length:Int)).length) ([zT])),gX:=(IntKind.wrap .i64 (c.gX+(1:Int)))}))
 (br (c.eE==(0:Int))
 (K2 Q {c with Qo:=true})
 (bB c.r4 fun Ww Eo=>
 K2 Q {c with Qo:=(Ww !=(0:Int))}))
def L1 (Q:QT) (c:V):Prop:=Lf (fun S=>B1 S Q) c
theorem bG {Q:QT} {c:V} (H:B1 (L1 Q) Q c):L1 Q c:=Lf.fold H
end cr
def cr (c5:List Int) (Q:cr.QT):Prop:=
 br ((c5.length:Int) !=(256:Int))
 (Q ([]:List aF) (1:Int))
 (jH c5 fun sY=>
 aK (1:Int) (6:Int) sY fun z4 gJ=>
 mkW (IntKind.wrap .i64 z4) fun _=>
 cr.L1 Q {cr.v0 with r4:=gJ,eE:=(IntKind.wrap .i64 z4),l6:=(List.replicate (Int.toNat (IntKind.wrap .i64 z4)) (⟨(0:Int),(0:Int),(Vector.replicate 32 (0:Int))⟩:aF)),oc:=((List.replicate (Int.toNat (IntKind.wrap .i64 z4)) (⟨(0:Int),(0:Int),(Vector.replicate 32 (0:Int))⟩:aF)).length:Int),gX:=(0:Int)})
namespace cj
structure V where
 c5:List Int
 many1:Int
 iP:Bool
def v0:V:=⟨[],0,false⟩
abbrev QT:=(List aF)->Int->Prop
def K1 (Q:QT) (c:V):Prop:=
 br c.iP
 (Q ([]:List aF) (1:Int))
 (cr c.c5 fun gW oA=>
 br (oA !=(0:Int))
 (Q ([]:List aF) oA)
 (br ((gW.length:Int) !=c.many1)
 (Q ([]:List aF) (9:Int))
 (Q gW (0:Int))))
end cj
def cj (c5:List Int) (many1:Int) (Q:cj.QT):Prop:=
 br (decide (many1<(1:Int)))
 (cj.K1 Q {cj.v0 with c5:=c5,many1:=many1,iP:=true})
 (cj.K1 Q {cj.v0 with c5:=c5,many1:=many1,iP:=(decide (many1>(6:Int)))})
def iZ (s0:bp) (bI:Int) (Ep:List Int) (Q:(List aF)->Int->Prop):Prop:=
 bA s0 bI fun pI=>
 br ((pI.length:Int)==(0:Int))
 (Q ([]:List aF) (1:Int))
 (cj Ep (pI.length:Int) fun gJ kF=>
 Q gJ kF)
def ef (s0:bp) (Q:Int->Prop):Prop:=
 br ((s0.eL.length:Int)==(0:Int))
 (Q (0:Int))
 (ixP s0.eL (1:Int) fun uc=>
 Q uc)
def eI (s0:bp) (Q:Int->Prop):Prop:=
 cC s0 fun j3=>
 Q (IntKind.wrap .i64 (j3+(-1:Int)))
namespace bW
structure V where
 sZ:aH
 b0:Option Addr
 z6:Vector Int 32
 s8:bp
 gM:List aF
 iu:List (List Int)
 fY:Int
def v0:V:=⟨(⟨[],[],[],[]⟩:aH),none,Vector.replicate 32 0,(⟨[]⟩:bp),[],[],0⟩
abbrev QT:=(List aF)->(List (List Int))->Int->aH->St Obj->Prop
def K2 (S1:V->St Obj->Prop) (Q:QT) (c:V) (σ:St Obj):Prop:=
 S1 {c with fY:=(IntKind.wrap .i64 (c.fY - (1:Int)))} σ
def B1 (S1:V->St Obj->Prop) (Q:QT) (c:V) (σ:St Obj):Prop:=
 br (decide (c.fY>=(0:Int)))
 (ixP c.gM c.fY fun Wx=>
 je c.b0 c.z6 c.s8 c.fY Wx c.sZ σ fun zW I8 Jb σ_80=>
 br (I8 !=(0:Int))
 (Q ([]:List aF) ([]:List (List Int)) I8 Jb σ_80)
 (ef c.s8 fun Wy=>
 br (decide (c.fY<Wy))
 (ixP c.iu c.fY fun ago=>
 K2 S1 Q {c with sZ:=Jb,iu:=(c.iu.set (Int.toNat c.fY) zW)} σ_80)
 (iZ c.s8 c.fY zW fun Wz Lb=>
 br (Lb !=(0:Int))
 (Q ([]:List aF) ([]:List (List Int)) Lb Jb σ_80)
 (bA c.s8 c.fY fun Qp=>
 ixP Qp (0:Int) fun Er=>
 (SlOk c.gM Er (c.gM.length:Int))/\
 K2 S1 Q {c with sZ:=Jb,gM:=(cpP c.gM (Int.toNat Er) ((sub c.gM Er (c.gM.length:Int)).length) Wz)} σ_80))))
 (Q c.gM c.iu (0:Int) c.sZ σ)
def L1 (Q:QT) (c:V) (σ:St Obj):Prop:=
 Lf (fun S (v:V × St Obj)=>B1 (fun c σ=>S (c,σ)) Q v.1 v.2) (c,σ)
theorem bG {Q:QT} {c:V} {σ:St Obj} (H:B1 (L1 Q) Q c σ):L1 Q c σ:=Lf.fold H
end bW
def bW (b0:Option Addr) (MD:Vector Int 32) (s3:bp) (Qq:aF) (sZ:aH) (σ:St Obj) (Q:bW.QT):Prop:=
 cC s3 fun kF=>
 br (kF==(0:Int))
 (Q ([]:List aF) ([]:List (List Int)) (1:Int) sZ σ)
 (cC s3 fun qU=>
 mkW qU fun _=>
 ef s3 fun kQ=>
 mkW kQ fun _=>
 eI s3 fun mJ=>
 ixP (List.replicate (Int.toNat qU) (⟨(0:Int),(0:Int),(Vector.replicate 32 (0:Int))⟩:aF)) mJ fun wZ=>
 eI s3 fun w6=>
 bW.L1 Q {bW.v0 with sZ:=sZ,b0:=b0,z6:=MD,s8:=s3,gM:=((List.replicate (Int.toNat qU) (⟨(0:Int),(0:Int),(Vector.replicate 32 (0:Int))⟩:aF)).set (Int.toNat mJ) Qq),iu:=(List.replicate (Int.toNat kQ) []),fY:=w6} σ)
def cY (s0:aW) (bI:Int) (Q:Bool->Prop):Prop:=
 br (decide (bI>=(0:Int)))
 (Q (decide (bI<(s0.Level.length:Int))))
 (Q false)
namespace ax
structure V where
 bI:Int
 dB:Int
 iE:Bool
def v0:V:=⟨0,0,false⟩
abbrev QT:=Int->Prop
def K1 (Q:QT) (c:V):Prop:=
 br c.iE
 (Q (-1:Int))
 (Q (IntKind.wrap .i64 ((IntKind.wrap .i64 ((2:Int)+(IntKind.wrap .i64 ((2:Int)*c.bI))))+c.dB)))
end ax
def ax (s0:aW) (bI:Int) (dB:Int) (Q:ax.QT):Prop:=
 cY s0 bI fun gW=>
 br (!gW)
 (ax.K1 Q {ax.v0 with bI:=bI,dB:=dB,iE:=true})
 (br (decide (dB<(0:Int)))
 (ax.K1 Q {ax.v0 with bI:=bI,dB:=dB,iE:=true})
 (ax.K1 Q {ax.v0 with bI:=bI,dB:=dB,iE:=(decide (dB>(1:Int)))}))
namespace an
structure V where
 n0:Int
 cP:List Int
 p4:Int
 Im:Bool
 i6:Int
def v0:V:=⟨0,[],0,false,0⟩
abbrev QT:=(List Int)->Prop
def K3 (S1:V->Prop) (S2:V->Prop) (Q:QT) (c:V):Prop:=
 S2 {c with i6:=(IntKind.wrap .i64 (c.i6+(1:Int)))}
def K4 (S1:V->Prop) (Q:QT) (c:V):Prop:=
 S1 {c with p4:=(IntKind.wrap .u64 (c.p4+(1:Int)))}
def B2 (S1:V->Prop) (S2:V->Prop) (Q:QT) (c:V):Prop:=
 br (decide (c.i6<(c.cP.length:Int)))
 (br c.Im
 (ixP c.cP c.i6 fun uc=>
 nzW uc fun _=>
 K3 S1 S2 Q {c with Im:=((Int.tmod c.p4 uc) !=(0:Int))})
 (K3 S1 S2 Q {c with Im:=false}))
 (br c.Im
 ((Bnd (c.cP.length+([c.p4]).length))/\
 K4 S1 Q {c with cP:=(c.cP++[c.p4])})
 (K4 S1 Q c))
def L2 (S1:V->Prop) (Q:QT) (c:V):Prop:=Lf (fun S=>B2 S1 S Q) c
theorem cw (S1:V->Prop) {Q:QT} {c:V} (H:B2 S1 (L2 S1 Q) Q c):L2 S1 Q c:=Lf.fold H
def B1 (S1:V->Prop) (Q:QT) (c:V):Prop:=
 br (decide ((c.cP.length:Int)<c.n0))
 (L2 S1 Q {c with Im:=true,i6:=(0:Int)})
 (Q c.cP)
def L1 (Q:QT) (c:V):Prop:=Lf (fun S=>B1 S Q) c
theorem bG {Q:QT} {c:V} (H:B1 (L1 Q) Q c):L1 Q c:=Lf.fold H
end an
def an (n0:Int) (Q:an.QT):Prop:=
 an.L1 Q {an.v0 with n0:=n0,cP:=([]:List Int),p4:=(2:Int)}
def di (a0:Int) (b1:Int) (Q:Int->Int->Prop):Prop:=
 Q (IntKind.wrap .u64 ((IntKind.wrap .u64 ((IntKind.wrap .u64 ((IntKind.wrap .u64 (Int.tdiv a0 (4294967296:Int)))*(IntKind.wrap .u64 (Int.tdiv b1 (4294967296:Int)))))+(IntKind.wrap .u64 (Int.tdiv (IntKind.wrap .u64 ((IntKind.wrap .u64 ((IntKind.wrap .u64 (Int.tdiv a0 (4294967296:Int)))*(Int.tmod b1 (4294967296:Int))))+(IntKind.wrap .u64 (Int.tdiv (IntKind.wrap .u64 ((Int.tmod a0 (4294967296:Int))*(Int.tmod b1 (4294967296:Int)))) (4294967296:Int))))) (4294967296:Int)))))+(IntKind.wrap .u64 (Int.tdiv (IntKind.wrap .u64 ((IntKind.wrap .u64 ((Int.tmod a0 (4294967296:Int))*(IntKind.wrap .u64 (Int.tdiv b1 (4294967296:Int)))))+(Int.tmod (IntKind.wrap .u64 ((IntKind.wrap .u64 ((IntKind.wrap .u64 (Int.tdiv a0 (4294967296:Int)))*(Int.tmod b1 (4294967296:Int))))+(IntKind.wrap .u64 (Int.tdiv (IntKind.wrap .u64 ((Int.tmod a0 (4294967296:Int))*(Int.tmod b1 (4294967296:Int)))) (4294967296:Int))))) (4294967296:Int)))) (4294967296:Int))))) (IntKind.wrap .u64 ((IntKind.wrap .u64 ((IntKind.wrap .u64 ((IntKind.wrap .u64 ((Int.tmod a0 (4294967296:Int))*(IntKind.wrap .u64 (Int.tdiv b1 (4294967296:Int)))))+(Int.tmod (IntKind.wrap .u64 ((IntKind.wrap .u64 ((IntKind.wrap .u64 (Int.tdiv a0 (4294967296:Int)))*(Int.tmod b1 (4294967296:Int))))+(IntKind.wrap .u64 (Int.tdiv (IntKind.wrap .u64 ((Int.tmod a0 (4294967296:Int))*(Int.tmod b1 (4294967296:Int)))) (4294967296:Int))))) (4294967296:Int))))*(4294967296:Int)))+(Int.tmod (IntKind.wrap .u64 ((Int.tmod a0 (4294967296:Int))*(Int.tmod b1 (4294967296:Int)))) (4294967296:Int))))
namespace aE
structure V where
 p0:Int
 r3:Int
 k4:Int
 x5:Int
 Lc:Bool
 Py:Int
 qY:Int
 uj:Int
def v0:V:=⟨0,0,0,0,false,0,0,0⟩
abbrev QT:=Int->Prop
def K4 (S1:V->Prop) (Q:QT) (c:V):Prop:=
 S1 {c with k4:=(IntKind.wrap .i64 (c.k4 - (1:Int)))}
def K2 (S1:V->Prop) (Q:QT) (c:V):Prop:=
 br c.Lc
 (K4 S1 Q {c with r3:=c.x5})
 (K4 S1 Q c)
def K3 (S1:V->Prop) (Q:QT) (c:V):Prop:=
 br (c.uj==(0:Int))
 (br (decide (c.qY<(IntKind.wrap .u64 (c.p0*(4294967296:Int)))))
 (K2 S1 Q {c with Lc:=true})
 (br (c.qY==(IntKind.wrap .u64 (c.p0*(4294967296:Int))))
 (K2 S1 Q {c with Lc:=(c.Py==(0:Int))})
 (K2 S1 Q {c with Lc:=false})))
 (K2 S1 Q {c with Lc:=false})
def B1 (S1:V->Prop) (Q:QT) (c:V):Prop:=
 br (decide (c.k4>=(0:Int)))
 (jn c.k4 fun _=>
 di (IntKind.wrap .u64 (c.r3+(IntKind.wrap .u64 ((1:Int)*2 ^ (min (Int.toNat c.k4) (IntKind.bits .u64)))))) (IntKind.wrap .u64 (c.r3+(IntKind.wrap .u64 ((1:Int)*2 ^ (min (Int.toNat c.k4) (IntKind.bits .u64)))))) fun KY CP=>
 di CP (IntKind.wrap .u64 (c.r3+(IntKind.wrap .u64 ((1:Int)*2 ^ (min (Int.toNat c.k4) (IntKind.bits .u64)))))) fun CL sY=>
 di KY (IntKind.wrap .u64 (c.r3+(IntKind.wrap .u64 ((1:Int)*2 ^ (min (Int.toNat c.k4) (IntKind.bits .u64)))))) fun j3 pI=>
 br (decide ((IntKind.wrap .u64 (CL+pI))<CL))
 (K3 S1 Q {c with x5:=(IntKind.wrap .u64 (c.r3+(IntKind.wrap .u64 ((1:Int)*2 ^ (min (Int.toNat c.k4) (IntKind.bits .u64)))))),Py:=sY,qY:=(IntKind.wrap .u64 (CL+pI)),uj:=(IntKind.wrap .u64 (j3+(1:Int)))})
 (K3 S1 Q {c with x5:=(IntKind.wrap .u64 (c.r3+(IntKind.wrap .u64 ((1:Int)*2 ^ (min (Int.toNat c.k4) (IntKind.bits .u64)))))),Py:=sY,qY:=(IntKind.wrap .u64 (CL+pI)),uj:=j3}))
 (Q (IntKind.wrap .u32 (Int.tmod c.r3 (4294967296:Int))))
def L1 (Q:QT) (c:V):Prop:=Lf (fun S=>B1 S Q) c
theorem bG {Q:QT} {c:V} (H:B1 (L1 Q) Q c):L1 Q c:=Lf.fold H
end aE
def aE (p0:Int) (Q:aE.QT):Prop:=
 aE.L1 Q {aE.v0 with p0:=p0,r3:=(0:Int),k4:=(34:Int)}
namespace aA
structure V where
 p0:Int
 r3:Int
 k4:Int
 x5:Int
 Pz:Bool
def v0:V:=⟨0,0,0,0,false⟩
abbrev QT:=Int->Prop
def K3 (S1:V->Prop) (Q:QT) (c:V):Prop:=
 S1 {c with k4:=(IntKind.wrap .i64 (c.k4 - (1:Int)))}
def K2 (S1:V->Prop) (Q:QT) (c:V):Prop:=
 br c.Pz
 (K3 S1 Q {c with r3:=c.x5})
 (K3 S1 Q c)
def B1 (S1:V->Prop) (Q:QT) (c:V):Prop:=
 br (decide (c.k4>=(0:Int)))
 (jn c.k4 fun _=>
 di (IntKind.wrap .u64 (c.r3+(IntKind.wrap .u64 ((1:Int)*2 ^ (min (Int.toNat c.k4) (IntKind.bits .u64)))))) (IntKind.wrap .u64 (c.r3+(IntKind.wrap .u64 ((1:Int)*2 ^ (min (Int.toNat c.k4) (IntKind.bits .u64)))))) fun KY CP=>
 br (decide (KY<c.p0))
 (K2 S1 Q {c with x5:=(IntKind.wrap .u64 (c.r3+(IntKind.wrap .u64 ((1:Int)*2 ^ (min (Int.toNat c.k4) (IntKind.bits .u64)))))),Pz:=true})
 (br (KY==c.p0)
 (K2 S1 Q {c with x5:=(IntKind.wrap .u64 (c.r3+(IntKind.wrap .u64 ((1:Int)*2 ^ (min (Int.toNat c.k4) (IntKind.bits .u64)))))),Pz:=(CP==(0:Int))})
 (K2 S1 Q {c with x5:=(IntKind.wrap .u64 (c.r3+(IntKind.wrap .u64 ((1:Int)*2 ^ (min (Int.toNat c.k4) (IntKind.bits .u64)))))),Pz:=false})))
 (Q (IntKind.wrap .u32 (Int.tmod c.r3 (4294967296:Int))))
def L1 (Q:QT) (c:V):Prop:=Lf (fun S=>B1 S Q) c
theorem bG {Q:QT} {c:V} (H:B1 (L1 Q) Q c):L1 Q c:=Lf.fold H
end aA
def aA (p0:Int) (Q:aA.QT):Prop:=
 aA.L1 Q {aA.v0 with p0:=p0,r3:=(0:Int),k4:=(35:Int)}
namespace aR
structure V where
 l2:List Int
 k3:List Int
 jg:List Int
 t5:Int
 t6:Int
def v0:V:=⟨[],[],[],0,0⟩
abbrev QT:=(List Int)->(List Int)->Prop
def B2 (S2:V->Prop) (Q:QT) (c:V):Prop:=
 br (decide (c.t6<(8:Int)))
 (ixP c.l2 c.t6 fun Ej=>
 aA Ej fun oz=>
 (Bnd (c.jg.length+([oz]).length))/\
 S2 {c with jg:=(c.jg++[oz]),t6:=(IntKind.wrap .i64 (c.t6+(1:Int)))})
 (Q c.k3 c.jg)
def L2 (Q:QT) (c:V):Prop:=Lf (fun S=>B2 S Q) c
theorem cw {Q:QT} {c:V} (H:B2 (L2 Q) Q c):L2 Q c:=Lf.fold H
def B1 (S1:V->Prop) (Q:QT) (c:V):Prop:=
 br (decide (c.t5<(64:Int)))
 (ixP c.l2 c.t5 fun WA=>
 aE WA fun th=>
 (Bnd (c.k3.length+([th]).length))/\
 S1 {c with k3:=(c.k3++[th]),t5:=(IntKind.wrap .i64 (c.t5+(1:Int)))})
 (L2 Q {c with t6:=(0:Int)})
def L1 (Q:QT) (c:V):Prop:=Lf (fun S=>B1 S Q) c
theorem bG {Q:QT} {c:V} (H:B1 (L1 Q) Q c):L1 Q c:=Lf.fold H
end aR
def aR (Q:aR.QT):Prop:=
 an (64:Int) fun KY=>
 aR.L1 Q {aR.v0 with l2:=KY,k3:=([]:List Int),jg:=([]:List Int),t5:=(0:Int)}
namespace aS
structure V where
 b0:List Int
 cP:List Int
 n4:Int
 i5:Int
def v0:V:=⟨[],[],0,0⟩
abbrev QT:=(List Int)->Prop
def B2 (S2:V->Prop) (Q:QT) (c:V):Prop:=
 br (decide (c.i5>=(0:Int)))
 (jn c.i5 fun _=>
 (Bnd (c.cP.length+([(IntKind.wrap .u8 (Int.fdiv c.n4 (2 ^ (min (Int.toNat c.i5) (IntKind.bits .u64)))))]).length))/\
 S2 {c with cP:=(c.cP++[(IntKind.wrap .u8 (Int.fdiv c.n4 (2 ^ (min (Int.toNat c.i5) (IntKind.bits .u64)))))]),i5:=(IntKind.wrap .i64 (c.i5 - (8:Int)))})
 (Q c.cP)
def L2 (Q:QT) (c:V):Prop:=Lf (fun S=>B2 S Q) c
theorem cw {Q:QT} {c:V} (H:B2 (L2 Q) Q c):L2 Q c:=Lf.fold H
def B1 (S1:V->Prop) (Q:QT) (c:V):Prop:=
 br ((Int.tmod (c.cP.length:Int) (64:Int)) !=(56:Int))
 ((Bnd (c.cP.length+([(0:Int)]).length))/\
 S1 {c with cP:=(c.cP++[(0:Int)])})
 (L2 Q {c with n4:=(IntKind.wrap .u64 ((IntKind.wrap .u64 (c.b0.length:Int))*(8:Int))),i5:=(56:Int)})
def L1 (Q:QT) (c:V):Prop:=Lf (fun S=>B1 S Q) c
theorem bG {Q:QT} {c:V} (H:B1 (L1 Q) Q c):L1 Q c:=Lf.fold H
end aS
def aS (b0:List Int) (Q:aS.QT):Prop:=
 (Bnd (([]:List Int).length+b0.length))/\
 (Bnd ((([]:List Int)++b0).length+([(128:Int)]).length))/\
 aS.L1 Q {aS.v0 with b0:=b0,cP:=((([]:List Int)++b0)++[(128:Int)])}
namespace aI
structure V where
 x0:Int
 n1:Int
 i5:Int
def v0:V:=⟨0,0,0⟩
abbrev QT:=Int->Prop
def B1 (S1:V->Prop) (Q:QT) (c:V):Prop:=
 br (decide (c.i5<c.n1))
 (S1 {c with x0:=(IntKind.wrap .u32 ((IntKind.wrap .u32 (Int.tdiv c.x0 (2:Int)))+(IntKind.wrap .u32 ((Int.tmod c.x0 (2:Int))*(2147483648:Int))))),i5:=(IntKind.wrap .i64 (c.i5+(1:Int)))})
 (Q c.x0)
def L1 (Q:QT) (c:V):Prop:=Lf (fun S=>B1 S Q) c
theorem bG {Q:QT} {c:V} (H:B1 (L1 Q) Q c):L1 Q c:=Lf.fold H
end aI
def aI (x0:Int) (n1:Int) (Q:aI.QT):Prop:=
 aI.L1 Q {aI.v0 with x0:=x0,n1:=(Int.tmod (IntKind.wrap .i64 ((Int.tmod n1 (32:Int))+(32:Int))) (32:Int)),i5:=(0:Int)}
namespace aq
structure V where
 k0:List Int
 s1:List Int
 b2:List Int
 w7:List Int
 t8:Int
 pK:List Int
 t14:Int
 nA:List Int
 i20:Int
def v0:V:=⟨[],[],[],[],0,[],0,[],0⟩
abbrev QT:=(List Int)->Prop
def K2 (S1:V->Prop) (Q:QT) (c:V):Prop:=
 S1 {c with t8:=(IntKind.wrap .i64 (c.t8+(1:Int)))}
def B4 (S4:V->Prop) (Q:QT) (c:V):Prop:=
 br (decide (c.i20<(8:Int)))
 (ixP c.pK c.i20 fun Ld=>
 ixP c.s1 c.i20 fun Lg=>
 (Bnd (c.nA.length+([(IntKind.wrap .u32 (Ld+Lg))]).length))/\
 S4 {c with nA:=(c.nA++[(IntKind.wrap .u32 (Ld+Lg))]),i20:=(IntKind.wrap .i64 (c.i20+(1:Int)))})
 (Q c.nA)
def L4 (Q:QT) (c:V):Prop:=Lf (fun S=>B4 S Q) c
theorem ju {Q:QT} {c:V} (H:B4 (L4 Q) Q c):L4 Q c:=Lf.fold H
def B3 (S3:V->Prop) (Q:QT) (c:V):Prop:=
 br (decide (c.t14<(64:Int)))
 (ixP c.pK (0:Int) fun Es=>
 ixP c.pK (4:Int) fun z7=>
 ixP c.pK (7:Int) fun Lh=>
 ixP c.pK (5:Int) fun ue=>
 ixP c.pK (6:Int) fun By=>
 ixP c.k0 c.t14 fun Li=>
 ixP c.w7 c.t14 fun Lj=>
 aI z7 (6:Int) fun Ll=>
 aI z7 (11:Int) fun BB=>
 aI z7 (25:Int) fun Lm=>
 ixP c.pK (1:Int) fun Qr=>
 ixP c.pK (2:Int) fun BC=>
 ixP c.pK (1:Int) fun Qs=>
 ixP c.pK (2:Int) fun Ln=>
 aI Es (2:Int) fun Qt=>
 aI Es (13:Int) fun Qu=>
 aI Es (22:Int) fun Qv=>
 ixP c.pK (0:Int) fun Qw=>
 ixP c.pK (1:Int) fun Qx=>
 ixP c.pK (2:Int) fun Qy=>
 ixP c.pK (3:Int) fun Qz=>
 ixP c.pK (4:Int) fun QA=>
 ixP c.pK (5:Int) fun QB=>
 ixP c.pK (6:Int) fun QC=>
 S3 {c with pK:=[(IntKind.wrap .u32 ((IntKind.wrap .u32 ((IntKind.wrap .u32 ((IntKind.wrap .u32 ((IntKind.wrap .u32 (Lh+(IntKind.wrap .u32 (((BitVec.ofInt (IntKind.bits .u32) (IntKind.wrap .u32 (((BitVec.ofInt (IntKind.bits .u32) Ll ^^^ (BitVec.ofInt (IntKind.bits .u32) BB)).toNat:Int))) ^^^ (BitVec.ofInt (IntKind.bits .u32) Lm)).toNat:Int)))))+(IntKind.wrap .u32 (((BitVec.ofInt (IntKind.bits .u32) (IntKind.wrap .u32 (((BitVec.ofInt (IntKind.bits .u32) z7 &&& (BitVec.ofInt (IntKind.bits .u32) ue)).toNat:Int))) ^^^ (BitVec.ofInt (IntKind.bits .u32) (IntKind.wrap .u32 (((BitVec.ofInt (IntKind.bits .u32) (IntKind.wrap .u32 ((4294967295:Int) - z7)) &&& (BitVec.ofInt (IntKind.bits .u32) By)).toNat:Int))))).toNat:Int)))))+Li))+Lj))+(IntKind.wrap .u32 ((IntKind.wrap .u32 (((BitVec.ofInt (IntKind.bits .u32) (IntKind.wrap .u32 (((BitVec.ofInt (IntKind.bits .u32) Qt ^^^ (BitVec.ofInt (IntKind.bits .u32) Qu)).toNat:Int))) ^^^ (BitVec.ofInt (IntKind.bits .u32) Qv)).toNat:Int)))+(IntKind.wrap .u32 (((BitVec.ofInt (IntKind.bits .u32) (IntKind.wrap .u32 (((BitVec.ofInt (IntKind.bits .u32) (IntKind.wrap .u32 (((BitVec.ofInt (IntKind.bits .u32) Es &&& (BitVec.ofInt (IntKind.bits .u32) Qr)).toNat:Int))) ^^^ (BitVec.ofInt (IntKind.bits .u32) (IntKind.wrap .u32 (((BitVec.ofInt (IntKind.bits .u32) Es &&& (BitVec.ofInt (IntKind.bits .u32) BC)).toNat:Int))))).toNat:Int))) ^^^ (BitVec.ofInt (IntKind.bits .u32) (IntKind.wrap .u32 (((BitVec.ofInt (IntKind.bits .u32) Qs &&& (BitVec.ofInt (IntKind.bits .u32) Ln)).toNat:Int))))).toNat:Int))))))),Qw,Qx,Qy,(IntKind.wrap .u32 (Qz+(IntKind.wrap .u32 ((IntKind.wrap .u32 ((IntKind.wrap .u32 ((IntKind.wrap .u32 (Lh+(IntKind.wrap .u32 (((BitVec.ofInt (IntKind.bits .u32) (IntKind.wrap .u32 (((BitVec.ofInt (IntKind.bits .u32) Ll ^^^ (BitVec.ofInt (IntKind.bits .u32) BB)).toNat:Int))) ^^^ (BitVec.ofInt (IntKind.bits .u32) Lm)).toNat:Int)))))+(IntKind.wrap .u32 (((BitVec.ofInt (IntKind.bits .u32) (IntKind.wrap .u32 (((BitVec.ofInt (IntKind.bits .u32) z7 &&& (BitVec.ofInt (IntKind.bits .u32) ue)).toNat:Int))) ^^^ (BitVec.ofInt (IntKind.bits .u32) (IntKind.wrap .u32 (((BitVec.ofInt (IntKind.bits .u32) (IntKind.wrap .u32 ((4294967295:Int) - z7)) &&& (BitVec.ofInt (IntKind.bits .u32) By)).toNat:Int))))).toNat:Int)))))+Li))+Lj)))),QA,QB,QC],t14:=(IntKind.wrap .i64 (c.t14+(1:Int)))})
 (L4 Q {c with nA:=([]:List Int),i20:=(0:Int)})
def L3 (Q:QT) (c:V):Prop:=Lf (fun S=>B3 S Q) c
theorem gH {Q:QT} {c:V} (H:B3 (L3 Q) Q c):L3 Q c:=Lf.fold H
def B1 (S1:V->Prop) (Q:QT) (c:V):Prop:=
 br (decide (c.t8<(64:Int)))
 (br (decide (c.t8<(16:Int)))
 (ixP c.b2 (IntKind.wrap .i64 ((4:Int)*c.t8)) fun zQ=>
 ixP c.b2 (IntKind.wrap .i64 ((IntKind.wrap .i64 ((4:Int)*c.t8))+(1:Int))) fun pY=>
 ixP c.b2 (IntKind.wrap .i64 ((IntKind.wrap .i64 ((4:Int)*c.t8))+(2:Int))) fun iL=>
 ixP c.b2 (IntKind.wrap .i64 ((IntKind.wrap .i64 ((4:Int)*c.t8))+(3:Int))) fun jG=>
 (Bnd (c.w7.length+([(IntKind.wrap .u32 ((IntKind.wrap .u32 ((IntKind.wrap .u32 ((IntKind.wrap .u32 ((IntKind.wrap .u32 zQ)*(16777216:Int)))+(IntKind.wrap .u32 ((IntKind.wrap .u32 pY)*(65536:Int)))))+(IntKind.wrap .u32 ((IntKind.wrap .u32 iL)*(256:Int)))))+(IntKind.wrap .u32 jG)))]).length))/\
 K2 S1 Q {c with w7:=(c.w7++[(IntKind.wrap .u32 ((IntKind.wrap .u32 ((IntKind.wrap .u32 ((IntKind.wrap .u32 ((IntKind.wrap .u32 zQ)*(16777216:Int)))+(IntKind.wrap .u32 ((IntKind.wrap .u32 pY)*(65536:Int)))))+(IntKind.wrap .u32 ((IntKind.wrap .u32 iL)*(256:Int)))))+(IntKind.wrap .u32 jG)))])})
 (ixP c.w7 (IntKind.wrap .i64 (c.t8 - (15:Int))) fun Ei=>
 ixP c.w7 (IntKind.wrap .i64 (c.t8 - (2:Int))) fun Jc=>
 aI Ei (7:Int) fun Jd=>
 aI Ei (18:Int) fun QD=>
 aI Jc (17:Int) fun QE=>
 aI Jc (19:Int) fun QF=>
 ixP c.w7 (IntKind.wrap .i64 (c.t8 - (7:Int))) fun vq=>
 ixP c.w7 (IntKind.wrap .i64 (c.t8 - (16:Int))) fun QG=>
 (Bnd (c.w7.length+([(IntKind.wrap .u32 ((IntKind.wrap .u32 ((IntKind.wrap .u32 ((IntKind.wrap .u32 (((BitVec.ofInt (IntKind.bits .u32) (IntKind.wrap .u32 (((BitVec.ofInt (IntKind.bits .u32) QE ^^^ (BitVec.ofInt (IntKind.bits .u32) QF)).toNat:Int))) ^^^ (BitVec.ofInt (IntKind.bits .u32) (IntKind.wrap .u32 (Int.tdiv Jc (1024:Int))))).toNat:Int)))+vq))+(IntKind.wrap .u32 (((BitVec.ofInt (IntKind.bits .u32) (IntKind.wrap .u32 (((BitVec.ofInt (IntKind.bits .u32) Jd ^^^ (BitVec.ofInt (IntKind.bits .u32) QD)).toNat:Int))) ^^^ (BitVec.ofInt (IntKind.bits .u32) (IntKind.wrap .u32 (Int.tdiv Ei (8:Int))))).toNat:Int)))))+QG))]).length))/\
 K2 S1 Q {c with w7:=(c.w7++[(IntKind.wrap .u32 ((IntKind.wrap .u32 ((IntKind.wrap .u32 ((IntKind.wrap .u32 (((BitVec.ofInt (IntKind.bits .u32) (IntKind.wrap .u32 (((BitVec.ofInt (IntKind.bits .u32) QE ^^^ (BitVec.ofInt (IntKind.bits .u32) QF)).toNat:Int))) ^^^ (BitVec.ofInt (IntKind.bits .u32) (IntKind.wrap .u32 (Int.tdiv Jc (1024:Int))))).toNat:Int)))+vq))+(IntKind.wrap .u32 (((BitVec.ofInt (IntKind.bits .u32) (IntKind.wrap .u32 (((BitVec.ofInt (IntKind.bits .u32) Jd ^^^ (BitVec.ofInt (IntKind.bits .u32) QD)).toNat:Int))) ^^^ (BitVec.ofInt (IntKind.bits .u32) (IntKind.wrap .u32 (Int.tdiv Ei (8:Int))))).toNat:Int)))))+QG))])}))
 ((Bnd (([]:List Int).length+c.s1.length))/\
 L3 Q {c with pK:=(([]:List Int)++c.s1),t14:=(0:Int)})
def L1 (Q:QT) (c:V):Prop:=Lf (fun S=>B1 S Q) c
theorem bG {Q:QT} {c:V} (H:B1 (L1 Q) Q c):L1 Q c:=Lf.fold H
end aq
def aq (k0:List Int) (s1:List Int) (b2:List Int) (Q:aq.QT):Prop:=
 aq.L1 Q {aq.v0 with k0:=k0,s1:=s1,b2:=b2,w7:=([]:List Int),t8:=(0:Int)}
namespace aT
structure V where
 v2:Vector Int 32
 k3:List Int
 s4:List Int
 p5:List Int
 i6:Int
 dx:Vector Int 32
 i8:Int
def v0:V:=⟨Vector.replicate 32 0,[],[],[],0,Vector.replicate 32 0,0⟩
abbrev QT:=(Vector Int 32)->Prop
def B2 (S2:V->Prop) (Q:QT) (c:V):Prop:=
 br (decide (c.i8<(32:Int)))
 (ixP c.s4 (IntKind.wrap .i64 (Int.tdiv c.i8 (4:Int))) fun Qa=>
 jn (IntKind.wrap .i64 ((24:Int) - (IntKind.wrap .i64 ((8:Int)*(Int.tmod c.i8 (4:Int)))))) fun _=>
 ixP c.dx.toList c.i8 fun Qb=>
 S2 {c with dx:=(c.dx.setIfInBounds (Int.toNat c.i8) (IntKind.wrap .u8 (Int.fdiv Qa (2 ^ (min (Int.toNat (IntKind.wrap .i64 ((24:Int) - (IntKind.wrap .i64 ((8:Int)*(Int.tmod c.i8 (4:Int))))))) (IntKind.bits .u32)))))),i8:=(IntKind.wrap .i64 (c.i8+(1:Int)))})
 (Q c.dx)
def L2 (Q:QT) (c:V):Prop:=Lf (fun S=>B2 S Q) c
theorem cw {Q:QT} {c:V} (H:B2 (L2 Q) Q c):L2 Q c:=Lf.fold H
def B1 (S1:V->Prop) (Q:QT) (c:V):Prop:=
 br (decide (c.i6<(c.p5.length:Int)))
 ((SlOk c.p5 c.i6 (IntKind.wrap .i64 (c.i6+(64:Int))))/\
 aq c.k3 c.s4 (sub c.p5 c.i6 (IntKind.wrap .i64 (c.i6+(64:Int)))) fun xb=>
 S1 {c with s4:=xb,i6:=(IntKind.wrap .i64 (c.i6+(64:Int)))})
 (L2 Q {c with dx:=(Vector.replicate 32 (0:Int)),i8:=(0:Int)})
def L1 (Q:QT) (c:V):Prop:=Lf (fun S=>B1 S Q) c
theorem bG {Q:QT} {c:V} (H:B1 (L1 Q) Q c):L1 Q c:=Lf.fold H
end aT
def aT (b0:List Int) (Q:aT.QT):Prop:=
 aR fun sY gW=>
 aS b0 fun gJ=>
 aT.L1 Q {aT.v0 with v2:=(Vector.replicate 32 (0:Int)),k3:=sY,s4:=gW,p5:=gJ,i6:=(0:Int)}
def ej (b0:List Int) (Q:Int->Prop):Prop:=
 ixP b0 (0:Int) fun Mo=>
 ixP b0 (1:Int) fun Ef=>
 ixP b0 (2:Int) fun CM=>
 ixP b0 (3:Int) fun Eg=>
 Q (IntKind.wrap .u32 ((IntKind.wrap .u32 ((IntKind.wrap .u32 ((IntKind.wrap .u32 Mo)+(IntKind.wrap .u32 ((256:Int)*(IntKind.wrap .u32 Ef)))))+(IntKind.wrap .u32 ((65536:Int)*(IntKind.wrap .u32 CM)))))+(IntKind.wrap .u32 ((16777216:Int)*(IntKind.wrap .u32 Eg)))))
def iQ (Q:(List (List Int))->Prop):Prop:=
 Q ([[(0:Int),(4:Int),(8:Int),(12:Int)],[(1:Int),(5:Int),(9:Int),(13:Int)],[(2:Int),(6:Int),(10:Int),(14:Int)],[(3:Int),(7:Int),(11:Int),(15:Int)],[(0:Int),(5:Int),(10:Int),(15:Int)],[(1:Int),(6:Int),(11:Int),(12:Int)],[(2:Int),(7:Int),(8:Int),(13:Int)],[(3:Int),(4:Int),(9:Int),(14:Int)]])
namespace aZ
structure V where
 x0:Int
 n1:Int
 i5:Int
def v0:V:=⟨0,0,0⟩
abbrev QT:=Int->Prop
def B1 (S1:V->Prop) (Q:QT) (c:V):Prop:=
 br (decide (c.i5<c.n1))
 (S1 {c with x0:=(IntKind.wrap .u32 ((IntKind.wrap .u32 (c.x0*(2:Int)))+(IntKind.wrap .u32 (Int.tdiv c.x0 (2147483648:Int))))),i5:=(IntKind.wrap .i64 (c.i5+(1:Int)))})
 (Q c.x0)
def L1 (Q:QT) (c:V):Prop:=Lf (fun S=>B1 S Q) c
theorem bG {Q:QT} {c:V} (H:B1 (L1 Q) Q c):L1 Q c:=Lf.fold H
end aZ
def aZ (x0:Int) (n1:Int) (Q:aZ.QT):Prop:=
 aZ.L1 Q {aZ.v0 with x0:=x0,n1:=n1,i5:=(0:Int)}
def dy (w0:Vector Int 4) (Q:(Vector Int 4)->Prop):Prop:=
 ixP w0.toList (0:Int) fun xe=>
 ixP w0.toList (1:Int) fun CT=>
 ixP w0.toList (2:Int) fun ME=>
 ixP w0.toList (3:Int) fun I6=>
 aZ (IntKind.wrap .u32 (((BitVec.ofInt (IntKind.bits .u32) I6 ^^^ (BitVec.ofInt (IntKind.bits .u32) (IntKind.wrap .u32 (xe+CT)))).toNat:Int))) (16:Int) fun mJ=>
 aZ (IntKind.wrap .u32 (((BitVec.ofInt (IntKind.bits .u32) CT ^^^ (BitVec.ofInt (IntKind.bits .u32) (IntKind.wrap .u32 (ME+mJ)))).toNat:Int))) (12:Int) fun tn=>
 aZ (IntKind.wrap .u32 (((BitVec.ofInt (IntKind.bits .u32) mJ ^^^ (BitVec.ofInt (IntKind.bits .u32) (IntKind.wrap .u32 ((IntKind.wrap .u32 (xe+CT))+tn)))).toNat:Int))) (8:Int) fun MF=>
 aZ (IntKind.wrap .u32 (((BitVec.ofInt (IntKind.bits .u32) tn ^^^ (BitVec.ofInt (IntKind.bits .u32) (IntKind.wrap .u32 ((IntKind.wrap .u32 (ME+mJ))+MF)))).toNat:Int))) (7:Int) fun Mq=>
 Q (#v[(IntKind.wrap .u32 ((IntKind.wrap .u32 (xe+CT))+tn)),Mq,(IntKind.wrap .u32 ((IntKind.wrap .u32 (ME+mJ))+MF)),MF])
namespace ai
structure V where
 bg:Int
 ow:Vector Int 32
 eO:Vector Int 12
 v6:Vector Int 64
 aM:List Int
 i8:Int
 i9:Int
 od:List Int
 eo:Int
 uh:List (List Int)
 DN:Int
 z8:Int
 Io:List Int
 Lo:Vector Int 4
 Lq:Int
 kU:Vector Int 64
 i17:Int
 QH:Int
 Et:Int
 VN:Vector Int 4
def v0:V:=⟨0,Vector.replicate 32 0,Vector.replicate 12 0,Vector.replicate 64 0,[],0,0,[],0,[],0,0,[],Vector.replicate 4 0,0,Vector.replicate 64 0,0,0,0,Vector.replicate 4 0⟩
abbrev QT:=(Vector Int 64)->Prop
def B5 (S3:V->Prop) (S4:V->Prop) (S5:V->Prop) (Q:QT) (c:V):Prop:=
 br (decide (c.Lq<(4:Int)))
 (ixP c.Io c.Lq fun BC=>
 ixP c.Lo.toList c.Lq fun QI=>
 ixP c.od BC fun Ln=>
 S5 {c with od:=(c.od.set (Int.toNat BC) QI),Lq:=(IntKind.wrap .i64 (c.Lq+(1:Int)))})
 (S4 {c with z8:=(IntKind.wrap .i64 (c.z8+(1:Int)))})
def L5 (S3:V->Prop) (S4:V->Prop) (Q:QT) (c:V):Prop:=Lf (fun S=>B5 S3 S4 S Q) c
theorem xg (S3:V->Prop) (S4:V->Prop) {Q:QT} {c:V} (H:B5 S3 S4 (L5 S3 S4 Q) Q c):L5 S3 S4 Q c:=Lf.fold H
def K6 (S3:V->Prop) (S4:V->Prop) (Q:QT) (c:V):Prop:=
 L5 S3 S4 Q {c with Lq:=(0:Int)}
def VO (S3:V->Prop) (S4:V->Prop) (Q:QT) (b c:V):Prop:=
 K6 S3 S4 Q {b with v6:=c.v6,aM:=c.aM,od:=c.od,eo:=c.eo,Io:=c.Io,Lo:=c.VN,uh:=c.uh,DN:=c.DN,z8:=c.z8}
def K9 (S3:V->Prop) (S4:V->Prop) (Q:QT) (b c:V):Prop:=
 VO S3 S4 Q b {c with Lo:=(Vector.replicate 4 (0:Int))}
def B4 (S3:V->Prop) (S4:V->Prop) (Q:QT) (c:V):Prop:=
 br (decide (c.z8<c.DN))
 (ixP c.uh c.z8 fun CU=>
 ixP CU (0:Int) fun WC=>
 ixP c.od WC fun QJ=>
 ixP CU (1:Int) fun WD=>
 ixP c.od WD fun QK=>
 ixP CU (2:Int) fun QL=>
 ixP c.od QL fun Lr=>
 ixP CU (3:Int) fun QM=>
 ixP c.od QM fun BA=>
 (dy (#v[QJ,QK,Lr,BA]) fun QN=>
 K9 S3 S4 Q c {c with Io:=CU,VN:=QN})/\
 (dy (#v[QJ,QK,Lr,BA]) fun BB=>
 VO S3 S4 Q c {c with Io:=CU,Lo:=(Vector.replicate 4 (0:Int)),VN:=BB}))
 (S3 {c with eo:=(IntKind.wrap .i64 (c.eo+(1:Int)))})
def L4 (S3:V->Prop) (Q:QT) (c:V):Prop:=Lf (fun S=>B4 S3 S Q) c
theorem ju (S3:V->Prop) {Q:QT} {c:V} (H:B4 S3 (L4 S3 Q) Q c):L4 S3 Q c:=Lf.fold H
def B8 (S7:V->Prop) (S8:V->Prop) (Q:QT) (c:V):Prop:=
 br (decide (c.Et<(4:Int)))
 (jn (IntKind.wrap .i64 ((8:Int)*c.Et)) fun _=>
 ixP c.kU.toList (IntKind.wrap .i64 ((IntKind.wrap .i64 ((4:Int)*c.i17))+c.Et)) fun aep=>
 S8 {c with kU:=(c.kU.setIfInBounds (Int.toNat (IntKind.wrap .i64 ((IntKind.wrap .i64 ((4:Int)*c.i17))+c.Et))) (IntKind.wrap .u8 (Int.fdiv c.QH (2 ^ (min (Int.toNat (IntKind.wrap .i64 ((8:Int)*c.Et))) (IntKind.bits .u32)))))),Et:=(IntKind.wrap .i64 (c.Et+(1:Int)))})
 (S7 {c with i17:=(IntKind.wrap .i64 (c.i17+(1:Int)))})
def L8 (S7:V->Prop) (Q:QT) (c:V):Prop:=Lf (fun S=>B8 S7 S Q) c
theorem Ls (S7:V->Prop) {Q:QT} {c:V} (H:B8 S7 (L8 S7 Q) Q c):L8 S7 Q c:=Lf.fold H
def B7 (S7:V->Prop) (Q:QT) (c:V):Prop:=
 br (decide (c.i17<(16:Int)))
 (ixP c.od c.i17 fun QO=>
 ixP c.aM c.i17 fun uk=>
 L8 S7 Q {c with QH:=(IntKind.wrap .u32 (QO+uk)),Et:=(0:Int)})
 (Q c.kU)
def L7 (Q:QT) (c:V):Prop:=Lf (fun S=>B7 S Q) c
theorem Lt {Q:QT} {c:V} (H:B7 (L7 Q) Q c):L7 Q c:=Lf.fold H
def B3 (S3:V->Prop) (Q:QT) (c:V):Prop:=
 br (decide (c.eo<(10:Int)))
 (iQ fun zX=>
 L4 S3 Q {c with uh:=zX,DN:=(zX.length:Int),z8:=(0:Int)})
 (L7 Q {c with kU:=(Vector.replicate 64 (0:Int)),i17:=(0:Int)})
def L3 (Q:QT) (c:V):Prop:=Lf (fun S=>B3 S Q) c
theorem gH {Q:QT} {c:V} (H:B3 (L3 Q) Q c):L3 Q c:=Lf.fold H
def B2 (S2:V->Prop) (Q:QT) (c:V):Prop:=
 br (decide (c.i9<(3:Int)))
 ((SlOk c.eO.toList (IntKind.wrap .i64 ((4:Int)*c.i9)) (IntKind.wrap .i64 ((IntKind.wrap .i64 ((4:Int)*c.i9))+(4:Int))))/\
 ej (subA 12 c.eO.toList (IntKind.wrap .i64 ((4:Int)*c.i9)) (IntKind.wrap .i64 ((IntKind.wrap .i64 ((4:Int)*c.i9))+(4:Int)))) fun QS=>
 (Bnd (c.aM.length+([QS]).length))/\
 S2 {c with aM:=(c.aM++[QS]),i9:=(IntKind.wrap .i64 (c.i9+(1:Int)))})
 ((Bnd (([]:List Int).length+c.aM.length))/\
 L3 Q {c with od:=(([]:List Int)++c.aM),eo:=(0:Int)})
def L2 (Q:QT) (c:V):Prop:=Lf (fun S=>B2 S Q) c
theorem cw {Q:QT} {c:V} (H:B2 (L2 Q) Q c):L2 Q c:=Lf.fold H
def B1 (S1:V->Prop) (Q:QT) (c:V):Prop:=
 br (decide (c.i8<(8:Int)))
 ((SlOk c.ow.toList (IntKind.wrap .i64 ((4:Int)*c.i8)) (IntKind.wrap .i64 ((IntKind.wrap .i64 ((4:Int)*c.i8))+(4:Int))))/\
 ej (subA 32 c.ow.toList (IntKind.wrap .i64 ((4:Int)*c.i8)) (IntKind.wrap .i64 ((IntKind.wrap .i64 ((4:Int)*c.i8))+(4:Int)))) fun Je=>
 (Bnd (c.aM.length+([Je]).length))/\
 S1 {c with aM:=(c.aM++[Je]),i8:=(IntKind.wrap .i64 (c.i8+(1:Int)))})
 ((Bnd (c.aM.length+([c.bg]).length))/\
 L2 Q {c with aM:=(c.aM++[c.bg]),i9:=(0:Int)})
def L1 (Q:QT) (c:V):Prop:=Lf (fun S=>B1 S Q) c
theorem bG {Q:QT} {c:V} (H:B1 (L1 Q) Q c):L1 Q c:=Lf.fold H
end ai
def ai (gD:Vector Int 32) (dK:Vector Int 12) (bg:Int) (Q:ai.QT):Prop:=
 ai.L1 Q {ai.v0 with bg:=bg,ow:=gD,eO:=dK,v6:=(Vector.replicate 64 (0:Int)),aM:=[(1634760805:Int),(857760878:Int),(2036477234:Int),(1797285236:Int)],i8:=(0:Int)}
namespace aJ
structure V where
 bg:Int
 gY:Int
 gI:Vector Int 32
 fJ:Vector Int 12
 qh:Bool
 eW:List Int
def v0:V:=⟨0,0,Vector.replicate 32 0,Vector.replicate 12 0,false,[]⟩
abbrev QT:=(List Int)->Prop
def B2 (S2:V->Prop) (Q:QT) (c:V):Prop:=
 br (decide ((c.eW.length:Int)<c.gY))
 (ai c.gI c.fJ c.bg fun gJ=>
 (Bnd (c.eW.length+gJ.toList.length))/\
 S2 {c with bg:=(IntKind.wrap .u32 (c.bg+(1:Int))),eW:=(c.eW++gJ.toList)})
 ((SlOk c.eW (0:Int) c.gY)/\
 Q (sub c.eW (0:Int) c.gY))
def L2 (Q:QT) (c:V):Prop:=Lf (fun S=>B2 S Q) c
theorem cw {Q:QT} {c:V} (H:B2 (L2 Q) Q c):L2 Q c:=Lf.fold H
def K1 (Q:QT) (c:V):Prop:=
 br c.qh
 (Q ([]:List Int))
 (L2 Q {c with eW:=([]:List Int)})
end aJ
def aJ (gD:Vector Int 32) (dK:Vector Int 12) (bg:Int) (gY:Int) (Q:aJ.QT):Prop:=
 br (decide (gY<(0:Int)))
 (aJ.K1 Q {aJ.v0 with bg:=bg,gY:=gY,gI:=gD,fJ:=dK,qh:=true})
 (aJ.K1 Q {aJ.v0 with bg:=bg,gY:=gY,gI:=gD,fJ:=dK,qh:=(decide (gY>(1048576:Int)))})
namespace bw
structure V where
 b3:List Int
 s9:List Int
 nB:List Int
 i11:Int
def v0:V:=⟨[],[],[],0⟩
abbrev QT:=(List Int)->Prop
def B1 (S1:V->Prop) (Q:QT) (c:V):Prop:=
 br (decide (c.i11<(c.s9.length:Int)))
 (ixP c.b3 c.i11 fun Ja=>
 ixP c.s9 c.i11 fun z9=>
 ixP c.nB c.i11 fun agp=>
 S1 {c with nB:=(c.nB.set (Int.toNat c.i11) (IntKind.wrap .u8 (((BitVec.ofInt (IntKind.bits .u8) Ja ^^^ (BitVec.ofInt (IntKind.bits .u8) z9)).toNat:Int)))),i11:=(IntKind.wrap .i64 (c.i11+(1:Int)))})
 (Q c.nB)
def L1 (Q:QT) (c:V):Prop:=Lf (fun S=>B1 S Q) c
theorem bG {Q:QT} {c:V} (H:B1 (L1 Q) Q c):L1 Q c:=Lf.fold H
end bw
def bw (gD:Vector Int 32) (dK:Vector Int 12) (bg:Int) (b3:List Int) (Q:bw.QT):Prop:=
 aJ gD dK bg (if (1048576:Int)<(b3.length:Int) then (1048576:Int) else (b3.length:Int)) fun pI=>
 (Bnd (([]:List Int).length+b3.length))/\
 bw.L1 Q {bw.v0 with b3:=b3,s9:=pI,nB:=(([]:List Int)++b3),i11:=(0:Int)}
namespace aN
structure V where
 fD:Int
 eB:Int
 v4:Vector Int 12
 ga:Vector Int 12
 i6:Int
 i7:Int
def v0:V:=⟨0,0,Vector.replicate 12 0,Vector.replicate 12 0,0,0⟩
abbrev QT:=(Vector Int 12)->Prop
def B2 (S2:V->Prop) (Q:QT) (c:V):Prop:=
 br (decide (c.i7<(8:Int)))
 (jn (IntKind.wrap .i64 ((8:Int)*c.i7)) fun _=>
 ixP c.ga.toList (IntKind.wrap .i64 ((4:Int)+c.i7)) fun Ja=>
 S2 {c with ga:=(c.ga.setIfInBounds (Int.toNat (IntKind.wrap .i64 ((4:Int)+c.i7))) (IntKind.wrap .u8 (Int.fdiv c.eB (2 ^ (min (Int.toNat (IntKind.wrap .i64 ((8:Int)*c.i7))) (IntKind.bits .u64)))))),i7:=(IntKind.wrap .i64 (c.i7+(1:Int)))})
 (Q c.ga)
def L2 (Q:QT) (c:V):Prop:=Lf (fun S=>B2 S Q) c
theorem cw {Q:QT} {c:V} (H:B2 (L2 Q) Q c):L2 Q c:=Lf.fold H
def B1 (S1:V->Prop) (Q:QT) (c:V):Prop:=
 br (decide (c.i6<(4:Int)))
 (jn (IntKind.wrap .i64 ((8:Int)*c.i6)) fun _=>
 ixP c.ga.toList c.i6 fun Ef=>
 S1 {c with ga:=(c.ga.setIfInBounds (Int.toNat c.i6) (IntKind.wrap .u8 (Int.fdiv c.fD (2 ^ (min (Int.toNat (IntKind.wrap .i64 ((8:Int)*c.i6))) (IntKind.bits .u32)))))),i6:=(IntKind.wrap .i64 (c.i6+(1:Int)))})
 (L2 Q {c with i7:=(0:Int)})
def L1 (Q:QT) (c:V):Prop:=Lf (fun S=>B1 S Q) c
theorem bG {Q:QT} {c:V} (H:B1 (L1 Q) Q c):L1 Q c:=Lf.fold H
end aN
def aN (fD:Int) (eB:Int) (Q:aN.QT):Prop:=
 aN.L1 Q {aN.v0 with fD:=fD,eB:=eB,v4:=(Vector.replicate 12 (0:Int)),ga:=(Vector.replicate 12 (0:Int)),i6:=(0:Int)}
namespace bD
structure V where
 eP:Int
 iw:List Int
 gI:Vector Int 32
 r5:af
 qh:Bool
def v0:V:=⟨0,[],Vector.replicate 32 0,(⟨(0:Int),(0:Int),(Vector.replicate 32 (0:Int))⟩:af),false⟩
abbrev QT:=(List Int)->Int->Prop
def K1 (Q:QT) (c:V):Prop:=
 br c.qh
 (Q ([]:List Int) (1:Int))
 (aT c.iw fun oA=>
 br (!(oA.toList==c.r5.bY.toList))
 (Q ([]:List Int) (9:Int))
 (aN c.r5.cu (IntKind.wrap .u64 c.eP) fun gJ=>
 bw c.gI gJ (0:Int) c.iw fun qV=>
 Q qV (0:Int)))
end bD
def bD (gD:Vector Int 32) (r1:af) (eP:Int) (iw:List Int) (Q:bD.QT):Prop:=
 br ((iw.length:Int) !=(256:Int))
 (bD.K1 Q {bD.v0 with eP:=eP,iw:=iw,gI:=gD,r5:=r1,qh:=true})
 (bD.K1 Q {bD.v0 with eP:=eP,iw:=iw,gI:=gD,r5:=r1,qh:=(decide (eP<(0:Int)))})
namespace bz
structure V where
 c7:List Int
 qX:Vector Int 32
 r9:af
 Jf:Int
 QU:Bool
def v0:V:=⟨[],Vector.replicate 32 0,(⟨(0:Int),(0:Int),(Vector.replicate 32 (0:Int))⟩:af),0,false⟩
abbrev QT:=(List Int)->Int->Prop
def K1 (Q:QT) (c:V):Prop:=
 br c.QU
 (Q ([]:List Int) (1:Int))
 ((SlOk c.c7 (IntKind.wrap .i64 ((256:Int)*c.Jf)) (IntKind.wrap .i64 ((IntKind.wrap .i64 ((256:Int)*c.Jf))+(256:Int))))/\
 bD c.qX c.r9 c.Jf (sub c.c7 (IntKind.wrap .i64 ((256:Int)*c.Jf)) (IntKind.wrap .i64 ((IntKind.wrap .i64 ((256:Int)*c.Jf))+(256:Int)))) fun tg Je=>
 Q tg Je)
end bz
def bz (c7:List Int) (pZ:Vector Int 32) (s2:aW) (QV:Int) (r4:af) (Q:bz.QT):Prop:=
 ax s2 QV r4.Place fun gJ=>
 br (decide (gJ<(0:Int)))
 (bz.K1 Q {bz.v0 with c7:=c7,qX:=pZ,r9:=r4,Jf:=gJ,QU:=true})
 (bz.K1 Q {bz.v0 with c7:=c7,qX:=pZ,r9:=r4,Jf:=gJ,QU:=(decide ((IntKind.wrap .i64 ((IntKind.wrap .i64 ((256:Int)*gJ))+(256:Int)))>(c7.length:Int)))})
namespace au
structure V where
 bI:Int
 s2:aW
 ga:List Int
 iE:Bool
 k6:Int
 PA:Bool
def v0:V:=⟨0,(⟨(0:Int),[],[]⟩:aW),[],false,0,false⟩
abbrev QT:=(List Int)->Prop
def K3 (S2:V->Prop) (Q:QT) (c:V):Prop:=
 br c.PA
 ((Bnd (c.ga.length+([c.k6]).length))/\
 S2 {c with ga:=(c.ga++[c.k6]),k6:=(IntKind.wrap .i64 (c.k6+(1:Int)))})
 (Q c.ga)
def B2 (S2:V->Prop) (Q:QT) (c:V):Prop:=
 br (decide ((c.ga.length:Int)<(6:Int)))
 (br (decide (c.k6<c.bI))
 (ixP c.s2.Level c.k6 fun Mr=>
 ixP c.s2.Level c.bI fun Ms=>
 K3 S2 Q {c with PA:=(Mr==(IntKind.wrap .i64 (Ms - (1:Int))))})
 (K3 S2 Q {c with PA:=false}))
 (K3 S2 Q {c with PA:=false})
def L2 (Q:QT) (c:V):Prop:=Lf (fun S=>B2 S Q) c
theorem cw {Q:QT} {c:V} (H:B2 (L2 Q) Q c):L2 Q c:=Lf.fold H
def K1 (Q:QT) (c:V):Prop:=
 br c.iE
 (Q ([]:List Int))
 (ixP c.s2.dO c.bI fun xh=>
 L2 Q {c with k6:=xh})
end au
def au (s0:aW) (bI:Int) (Q:au.QT):Prop:=
 cY s0 bI fun gW=>
 br (!gW)
 (au.K1 Q {au.v0 with bI:=bI,s2:=s0,ga:=([]:List Int),iE:=true})
 (ixP s0.dO bI fun s6=>
 au.K1 Q {au.v0 with bI:=bI,s2:=s0,ga:=([]:List Int),iE:=(decide (s6<(0:Int)))})
namespace bF
structure V where
 r1:af
 cP:List Int
 i4:Int
def v0:V:=⟨(⟨(0:Int),(0:Int),(Vector.replicate 32 (0:Int))⟩:af),[],0⟩
abbrev QT:=(List Int)->Prop
def B1 (S1:V->Prop) (Q:QT) (c:V):Prop:=
 br (decide (c.i4<(4:Int)))
 (jn (IntKind.wrap .i64 ((8:Int)*c.i4)) fun _=>
 (Bnd (c.cP.length+([(IntKind.wrap .u8 (Int.fdiv c.r1.cu (2 ^ (min (Int.toNat (IntKind.wrap .i64 ((8:Int)*c.i4))) (IntKind.bits .u32)))))]).length))/\
 S1 {c with cP:=(c.cP++[(IntKind.wrap .u8 (Int.fdiv c.r1.cu (2 ^ (min (Int.toNat (IntKind.wrap .i64 ((8:Int)*c.i4))) (IntKind.bits .u32)))))]),i4:=(IntKind.wrap .i64 (c.i4+(1:Int)))})
 ((Bnd (c.cP.length+c.r1.bY.toList.length))/\
 Q (c.cP++c.r1.bY.toList))
def L1 (Q:QT) (c:V):Prop:=Lf (fun S=>B1 S Q) c
theorem bG {Q:QT} {c:V} (H:B1 (L1 Q) Q c):L1 Q c:=Lf.fold H
end bF
def bF (r0:af) (Q:bF.QT):Prop:=
 bF.L1 Q {bF.v0 with r1:=r0,cP:=[(IntKind.wrap .u8 r0.Place)],i4:=(0:Int)}
namespace aB
structure V where
 l0:List af
 iP:Bool
 fN:List Int
 i5:Int
 QW:Bool
def v0:V:=⟨[],false,[],0,false⟩
abbrev QT:=(List Int)->Int->Prop
def K3 (S2:V->Prop) (Q:QT) (c:V):Prop:=
 br c.QW
 (Q ([]:List Int) (1:Int))
 (ixP c.l0 c.i5 fun wZ=>
 bF wZ fun I9=>
 (Bnd (c.fN.length+I9.length))/\
 S2 {c with fN:=(c.fN++I9),i5:=(IntKind.wrap .i64 (c.i5+(1:Int)))})
def B4 (S4:V->Prop) (Q:QT) (c:V):Prop:=
 br (decide ((c.fN.length:Int)<(256:Int)))
 ((Bnd (c.fN.length+([(0:Int)]).length))/\
 S4 {c with fN:=(c.fN++[(0:Int)])})
 (Q c.fN (0:Int))
def L4 (Q:QT) (c:V):Prop:=Lf (fun S=>B4 S Q) c
theorem ju {Q:QT} {c:V} (H:B4 (L4 Q) Q c):L4 Q c:=Lf.fold H
def B2 (S2:V->Prop) (Q:QT) (c:V):Prop:=
 br (decide (c.i5<(c.l0.length:Int)))
 (ixP c.l0 c.i5 fun s6=>
 br (decide (s6.Place<(0:Int)))
 (K3 S2 Q {c with QW:=true})
 (ixP c.l0 c.i5 fun IY=>
 K3 S2 Q {c with QW:=(decide (IY.Place>(1:Int)))}))
 (L4 Q c)
def L2 (Q:QT) (c:V):Prop:=Lf (fun S=>B2 S Q) c
theorem cw {Q:QT} {c:V} (H:B2 (L2 Q) Q c):L2 Q c:=Lf.fold H
def K1 (Q:QT) (c:V):Prop:=
 br c.iP
 (Q ([]:List Int) (1:Int))
 (L2 Q {c with fN:=[(IntKind.wrap .u8 (c.l0.length:Int))],i5:=(0:Int)})
end aB
def aB (l0:List af) (Q:aB.QT):Prop:=
 br (decide ((l0.length:Int)<(1:Int)))
 (aB.K1 Q {aB.v0 with l0:=l0,iP:=true})
 (aB.K1 Q {aB.v0 with l0:=l0,iP:=(decide ((l0.length:Int)>(6:Int)))})
namespace ay
structure V where
 b0:List Int
 v2:af
 wE:Bool
 r4:af
 i5:Int
 i6:Int
def v0:V:=⟨[],(⟨(0:Int),(0:Int),(Vector.replicate 32 (0:Int))⟩:af),false,(⟨(0:Int),(0:Int),(Vector.replicate 32 (0:Int))⟩:af),0,0⟩
abbrev QT:=af->Int->Prop
def B3 (S3:V->Prop) (Q:QT) (c:V):Prop:=
 br (decide (c.i6<(32:Int)))
 (ixP c.b0 (IntKind.wrap .i64 ((5:Int)+c.i6)) fun MH=>
 ixP c.r4.bY.toList c.i6 fun qT=>
 S3 {c with r4:=(⟨c.r4.Place,c.r4.cu,(c.r4.bY.setIfInBounds (Int.toNat c.i6) MH)⟩:af),i6:=(IntKind.wrap .i64 (c.i6+(1:Int)))})
 (Q c.r4 (0:Int))
def L3 (Q:QT) (c:V):Prop:=Lf (fun S=>B3 S Q) c
theorem gH {Q:QT} {c:V} (H:B3 (L3 Q) Q c):L3 Q c:=Lf.fold H
def B2 (S2:V->Prop) (Q:QT) (c:V):Prop:=
 br (decide (c.i5<(4:Int)))
 (ixP c.b0 (IntKind.wrap .i64 ((1:Int)+c.i5)) fun z9=>
 jn (IntKind.wrap .i64 ((8:Int)*c.i5)) fun _=>
 S2 {c with r4:=(⟨c.r4.Place,(IntKind.wrap .u32 (c.r4.cu+(IntKind.wrap .u32 ((IntKind.wrap .u32 z9)*2 ^ (min (Int.toNat (IntKind.wrap .i64 ((8:Int)*c.i5))) (IntKind.bits .u32)))))),c.r4.bY⟩:af),i5:=(IntKind.wrap .i64 (c.i5+(1:Int)))})
 (L3 Q {c with i6:=(0:Int)})
def L2 (Q:QT) (c:V):Prop:=Lf (fun S=>B2 S Q) c
theorem cw {Q:QT} {c:V} (H:B2 (L2 Q) Q c):L2 Q c:=Lf.fold H
def K1 (Q:QT) (c:V):Prop:=
 br c.wE
 (Q (⟨(0:Int),(0:Int),(Vector.replicate 32 (0:Int))⟩:af) (1:Int))
 (ixP c.b0 (0:Int) fun CT=>
 L2 Q {c with r4:=(⟨(IntKind.wrap .i64 CT),(0:Int),(Vector.replicate 32 (0:Int))⟩:af),i5:=(0:Int)})
end ay
def ay (b0:List Int) (Q:ay.QT):Prop:=
 br ((b0.length:Int) !=(37:Int))
 (ay.K1 Q {ay.v0 with b0:=b0,v2:=(⟨(0:Int),(0:Int),(Vector.replicate 32 (0:Int))⟩:af),wE:=true})
 (ixP b0 (0:Int) fun uc=>
 ay.K1 Q {ay.v0 with b0:=b0,v2:=(⟨(0:Int),(0:Int),(Vector.replicate 32 (0:Int))⟩:af),wE:=(decide (uc>(1:Int)))})
namespace aL
structure V where
 c5:List Int
 fN:List af
 i5:Int
 gX:Bool
 jo:Bool
def v0:V:=⟨[],[],0,false,false⟩
abbrev QT:=(List af)->Int->Prop
def K3 (Q:QT) (c:V):Prop:=
 br c.jo
 (Q ([]:List af) (9:Int))
 (Q c.fN (0:Int))
def K2 (S1:V->Prop) (Q:QT) (c:V):Prop:=
 br c.gX
 ((SlOk c.c5 (IntKind.wrap .i64 ((1:Int)+(IntKind.wrap .i64 ((37:Int)*c.i5)))) (IntKind.wrap .i64 ((38:Int)+(IntKind.wrap .i64 ((37:Int)*c.i5)))))/\
 ay (sub c.c5 (IntKind.wrap .i64 ((1:Int)+(IntKind.wrap .i64 ((37:Int)*c.i5)))) (IntKind.wrap .i64 ((38:Int)+(IntKind.wrap .i64 ((37:Int)*c.i5))))) fun nt mM=>
 br (mM !=(0:Int))
 (Q ([]:List af) (9:Int))
 ((Bnd (c.fN.length+([nt]).length))/\
 S1 {c with fN:=(c.fN++[nt]),i5:=(IntKind.wrap .i64 (c.i5+(1:Int)))}))
 (aB c.fN fun tn zT=>
 br (zT !=(0:Int))
 (K3 Q {c with jo:=true})
 (bq tn c.c5 fun zU=>
 K3 Q {c with jo:=(!zU)}))
def B1 (S1:V->Prop) (Q:QT) (c:V):Prop:=
 ixP c.c5 (0:Int) fun xe=>
 br (decide (c.i5<(IntKind.wrap .i64 xe)))
 (K2 S1 Q {c with gX:=(decide (c.i5<(6:Int)))})
 (K2 S1 Q {c with gX:=false})
def L1 (Q:QT) (c:V):Prop:=Lf (fun S=>B1 S Q) c
theorem bG {Q:QT} {c:V} (H:B1 (L1 Q) Q c):L1 Q c:=Lf.fold H
end aL
def aL (c5:List Int) (Q:aL.QT):Prop:=
 br ((c5.length:Int) !=(256:Int))
 (Q ([]:List af) (1:Int))
 (aL.L1 Q {aL.v0 with c5:=c5,fN:=([]:List af),i5:=(0:Int)})
namespace az
structure V where
 c5:List Int
 many1:Int
 iP:Bool
 l6:List af
 e7:Int
 MI:Bool
def v0:V:=⟨[],0,false,[],0,false⟩
abbrev QT:=(List af)->Int->Prop
def K2 (Q:QT) (c:V):Prop:=
 br c.MI
 (Q ([]:List af) (9:Int))
 (Q c.l6 c.e7)
def K1 (Q:QT) (c:V):Prop:=
 br c.iP
 (Q ([]:List af) (1:Int))
 (aL c.c5 fun sY gW=>
 br (gW==(0:Int))
 (K2 Q {c with l6:=sY,e7:=gW,MI:=((sY.length:Int) !=c.many1)})
 (K2 Q {c with l6:=sY,e7:=gW,MI:=false}))
end az
def az (c5:List Int) (many1:Int) (Q:az.QT):Prop:=
 br (decide (many1<(1:Int)))
 (az.K1 Q {az.v0 with c5:=c5,many1:=many1,iP:=true})
 (az.K1 Q {az.v0 with c5:=c5,many1:=many1,iP:=(decide (many1>(6:Int)))})
def eu (s0:aW) (bI:Int) (Ep:List Int) (Q:(List af)->Int->Prop):Prop:=
 au s0 bI fun ta=>
 br ((ta.length:Int)==(0:Int))
 (Q ([]:List af) (1:Int))
 (az Ep (ta.length:Int) fun qV th=>
 Q qV th)
namespace bx
structure V where
 a0:List aF
 b1:List af
 Ee:Int
 iP:Int
def v0:V:=⟨[],[],0,0⟩
abbrev QT:=Bool->Prop
def B1 (S1:V->Prop) (Q:QT) (c:V):Prop:=
 br (decide (c.iP<c.Ee))
 (ixP c.a0 c.iP fun Il=>
 ixP c.b1 c.iP fun vt=>
 br (!((Il.Place==vt.Place) && ((Il.cu==vt.cu) && ((Il.bY.toList==vt.bY.toList) && true))))
 (Q false)
 (S1 {c with iP:=(IntKind.wrap .i64 (c.iP+(1:Int)))}))
 (Q true)
def L1 (Q:QT) (c:V):Prop:=Lf (fun S=>B1 S Q) c
theorem bG {Q:QT} {c:V} (H:B1 (L1 Q) Q c):L1 Q c:=Lf.fold H
end bx
def bx (a0:List aF) (b1:List af) (Q:bx.QT):Prop:=
 br ((a0.length:Int) !=(b1.length:Int))
 (Q false)
 (bx.L1 Q {bx.v0 with a0:=a0,b1:=b1,Ee:=(a0.length:Int),iP:=(0:Int)})
def eU (Q:Bool->Prop):Prop:=Q true
namespace aj
structure V where
 l0:List (List Int)
 bI:Int
 r5:af
 mZ:Bool
 lR:aH
 s8:bp
 um:aF
 qf:aW
 dS:List Int
 kW:List aF
 QX:Bool
 kE:List aF
 QY:Bool
 MJ:List aF
 MK:Int
 Ip:Int
 Aa:Bool
def v0:V:=⟨[],0,(⟨(0:Int),(0:Int),(Vector.replicate 32 (0:Int))⟩:af),false,(⟨[],[],[],[]⟩:aH),(⟨[]⟩:bp),(⟨(0:Int),(0:Int),(Vector.replicate 32 (0:Int))⟩:aF),(⟨(0:Int),[],[]⟩:aW),[],[],false,[],false,[],0,0,false⟩
abbrev QT:=Bool->St Obj->Prop
def K5 (S4:V->St Obj->Prop) (Q:QT) (c:V) (σ:St Obj):Prop:=
 br c.Aa
 (Q false σ)
 (S4 {c with Ip:=(IntKind.wrap .i64 (c.Ip+(1:Int)))} σ)
def B4 (S4:V->St Obj->Prop) (Q:QT) (c:V) (σ:St Obj):Prop:=
 br (decide (c.Ip<c.MK))
 (ixP c.MJ c.Ip fun uk=>
 je none (Vector.replicate 32 (0:Int)) c.s8 c.bI uk c.lR σ fun Lu QZ BD σ_207=>
 bz c.dS (Vector.replicate 32 (0:Int)) c.qf c.bI (⟨uk.Place,uk.cu,uk.bY⟩:af) fun Lw Q0=>
 iZ c.s8 c.bI Lu fun Q1 Q2=>
 eu c.qf c.bI Lw fun Q3 Q4=>
 bq Lu Lw fun Q5=>
 br (!Q5)
 (K5 S4 Q {c with lR:=BD,Aa:=true} σ_207)
 (br (QZ !=Q0)
 (K5 S4 Q {c with lR:=BD,Aa:=true} σ_207)
 (bx Q1 Q3 fun Q6=>
 br (!Q6)
 (K5 S4 Q {c with lR:=BD,Aa:=true} σ_207)
 (K5 S4 Q {c with lR:=BD,Aa:=(Q2 !=Q4)} σ_207))))
 (eU fun Q7=>
 Q Q7 σ)
def L4 (Q:QT) (c:V) (σ:St Obj):Prop:=
 Lf (fun S (v:V × St Obj)=>B4 (fun c σ=>S (c,σ)) Q v.1 v.2) (c,σ)
theorem ju {Q:QT} {c:V} {σ:St Obj} (H:B4 (L4 Q) Q c σ):L4 Q c σ:=Lf.fold H
def K6 (Q:QT) (c:V) (σ:St Obj):Prop:=
 L4 Q {c with MJ:=c.kE,MK:=(c.kE.length:Int),Ip:=(0:Int)} σ
def K3 (Q:QT) (c:V) (σ:St Obj):Prop:=
 br c.QY
 (ixP c.kW c.bI fun Lx=>
 (Bnd (c.kE.length+([Lx]).length))/\
 K6 Q {c with kE:=(c.kE++[Lx])} σ)
 (K6 Q c σ)
def K2 (Q:QT) (c:V) (σ:St Obj):Prop:=
 br c.QX
 (Q false σ)
 (br (decide (c.bI>=(0:Int)))
 (K3 Q {c with kE:=[(⟨c.r5.Place,c.r5.cu,c.r5.bY⟩:aF),c.um],QY:=(decide (c.bI<(c.kW.length:Int)))} σ)
 (K3 Q {c with kE:=[(⟨c.r5.Place,c.r5.cu,c.r5.bY⟩:aF),c.um],QY:=false} σ))
def K1 (Q:QT) (c:V) (σ:St Obj):Prop:=
 br c.mZ
 (eU fun DL=>
 Q DL σ)
 (bu c.l0 fun oA=>
 bt none (Vector.replicate 32 (0:Int)) (4:Int) oA σ fun w4 kF mM qU σ_35=>
 br (!qU)
 (Q false σ_35)
 (av (c.l0.length:Int) fun w6 agq=>
 iN w4 fun Eo Jd=>
 bW none (Vector.replicate 32 (0:Int)) kF mM Jd σ_35 fun CQ agr WE Q8 σ_90=>
 br (WE !=(0:Int))
 (K2 Q {c with lR:=Q8,s8:=kF,um:=mM,qf:=w6,dS:=Eo,kW:=CQ,QX:=true} σ_90)
 (cC kF fun WG=>
 K2 Q {c with lR:=Q8,s8:=kF,um:=mM,qf:=w6,dS:=Eo,kW:=CQ,QX:=((CQ.length:Int) !=WG)} σ_90)))
end aj
def aj (l0:List (List Int)) (bI:Int) (r2:af) (σ:St Obj) (Q:aj.QT):Prop:=
 aO l0 fun j3=>
 br j3
 (aj.K1 Q {aj.v0 with l0:=l0,bI:=bI,r5:=r2,mZ:=true} σ)
 (br ((l0.length:Int)==(0:Int))
 (aj.K1 Q {aj.v0 with l0:=l0,bI:=bI,r5:=r2,mZ:=true} σ)
 (aj.K1 Q {aj.v0 with l0:=l0,bI:=bI,r5:=r2,mZ:=(decide ((l0.length:Int)>(216:Int)))} σ))
end Go.Pt
namespace Go.Proofs.YtkgbogibfogjgaaGreatDoor.Ek
open Go Go.Wc Go.Pu Go.Ex Go.Proofs.YtkgbogibfogjgaaGreatDoor Go.Pt
def τ:Tys:=[
(0,⟨.other,1,0,(.tuple [].toArray),[.any],true⟩),
(3,⟨.int .i64,1,8,(.int .i64 (0:Int)),[.int .i64],true⟩),
(4,⟨.bool,1,1,(.bool false),[.bool],true⟩),
(5,⟨.int .u8,1,1,(.int .u8 (0:Int)),[.int .u8],true⟩),
(9,⟨.str,1,16,(.string (⟨#[]⟩:ByteArray)),[.str],true⟩),
(22,⟨.arr 32 5,32,32,(.agg (lumpV .u8 32 (List.replicate 32 0)).toArray),[.lump .u8 32],true⟩),
(23,⟨.int .u32,1,4,(.int .u32 (0:Int)),[.int .u32],true⟩),
(24,⟨.slice 39,1,24,(.slice none 0 0),[.sl],true⟩),
(29,⟨.slice 41,1,24,(.slice none 0 0),[.sl],true⟩),
(31,⟨.struct [(3,0),(23,1),(22,2)],34,48,(.agg (([(.int .i64 (0:Int)),(.int .u32 (0:Int))]:List Value)++lumpV .u8 32 (List.replicate 32 0)).toArray),[.int .i64, .int .u32, .lump .u8 32],true⟩),
(32,⟨.int .i64,1,8,(.int .i64 (0:Int)),[.int .i64],true⟩),
(36,⟨.struct [(3,0),(23,1),(22,2)],34,48,(.agg (([(.int .i64 (0:Int)),(.int .u32 (0:Int))]:List Value)++lumpV .u8 32 (List.replicate 32 0)).toArray),[.int .i64, .int .u32, .lump .u8 32],true⟩),
(39,⟨.slice 5,1,24,(.slice none 0 0),[.sl],true⟩),
(41,⟨.struct [(3,0),(39,1)],2,32,(.agg [(.int .i64 (0:Int)),(.slice none 0 0)].toArray),[.int .i64, .sl],true⟩),
(45,⟨.ptr 106,1,8,(.pointer none),[.ptr],true⟩),
(46,⟨.slice 3,1,24,(.slice none 0 0),[.sl],true⟩),
(48,⟨.struct [(46,0)],1,24,(.agg [(.slice none 0 0)].toArray),[.sl],true⟩),
(52,⟨.struct [(3,0),(46,1),(46,2)],3,56,(.agg [(.int .i64 (0:Int)),(.slice none 0 0),(.slice none 0 0)].toArray),[.int .i64, .sl, .sl],true⟩),
(56,⟨.slice 31,1,24,(.slice none 0 0),[.sl],true⟩),
(66,⟨.slice 36,1,24,(.slice none 0 0),[.sl],true⟩),
(86,⟨.ptr 144,1,8,(.pointer none),[.ptr],true⟩),
(104,⟨.slice 116,1,24,(.slice none 0 0),[.sl],true⟩),
(106,⟨.struct [(39,0),(104,1),(24,2),(46,3)],4,96,(.agg [(.slice none 0 0),(.slice none 0 0),(.slice none 0 0),(.slice none 0 0)].toArray),[.sl, .sl, .sl, .sl],true⟩),
(116,⟨.struct [(3,0),(39,1)],2,32,(.agg [(.int .i64 (0:Int)),(.slice none 0 0)].toArray),[.int .i64, .sl],true⟩),
(136,⟨.arr 12 5,12,12,(.agg (lumpV .u8 12 (List.replicate 12 0)).toArray),[.lump .u8 12],true⟩),
(138,⟨.int .u64,1,8,(.int .u64 (0:Int)),[.int .u64],true⟩),
(144,⟨.struct [(24,0)],1,24,(.agg [(.slice none 0 0)].toArray),[.sl],true⟩),
(147,⟨.slice 23,1,24,(.slice none 0 0),[.sl],true⟩),
(152,⟨.ptr 175,1,8,(.pointer none),[.ptr],true⟩),
(161,⟨.arr 64 5,64,64,(.agg (lumpV .u8 64 (List.replicate 64 0)).toArray),[.lump .u8 64],true⟩),
(163,⟨.arr 8 23,8,32,(.agg (lumpV .u32 8 (List.replicate 8 0)).toArray),[.lump .u32 8],true⟩),
(165,⟨.struct [(163,0),(39,8),(138,9)],10,64,(.agg (lumpV .u32 8 (List.replicate 8 0)++([(.slice none 0 0),(.int .u64 (0:Int))]:List Value)).toArray),[.lump .u32 8, .sl, .int .u64],true⟩),
(169,⟨.int .u64,1,8,(.int .u64 (0:Int)),[.int .u64],true⟩),
(170,⟨.slice 138,1,24,(.slice none 0 0),[.sl],true⟩),
(175,⟨.struct [(39,0),(32,1)],2,32,(.agg [(.slice none 0 0),(.int .i64 (0:Int))].toArray),[.sl, .int .i64],true⟩),
(177,⟨.arr 16 23,16,64,(.agg (lumpV .u32 16 (List.replicate 16 0)).toArray),[.lump .u32 16],true⟩),
(179,⟨.arr 4 23,4,16,(.agg (lumpV .u32 4 (List.replicate 4 0)).toArray),[.lump .u32 4],true⟩),
(187,⟨.slice 46,1,24,(.slice none 0 0),[.sl],true⟩),
(190,⟨.arr 64 23,64,256,(.agg (lumpV .u32 64 (List.replicate 64 0)).toArray),[.lump .u32 64],true⟩)]
theorem agree:Agree Tryz.prog τ:=qy _ _ (by kernel_rfl) (by kernel_rfl)
theorem mixed:Tryz.prog.follows .mixedOrders=true:=by kernel_rfl
def ρ:Ids:=ids [(0,3),(1,5),(10,175),(11,48),(12,52),(16,31),(19,22),(21,41),(22,136),(23,161),(24,177),(25,179),(26,39),(27,165),(28,163),(29,190),(30,36),(34,4),(35,42),(36,23),(37,46),(38,138),(39,86),(40,29),(41,56),(42,106),(43,116),(44,144)] [(9,45),(16,59),(28,11),(42,90),(43,91),(44,93),(45,94),(47,100),(48,106),(49,107),(50,108),(51,118),(52,127),(53,126),(54,128),(67,85),(68,66),(74,30),(75,13),(80,16),(90,54),(94,61),(95,56),(96,81),(97,47),(102,37),(105,46),(107,36),(110,34),(111,35),(112,62),(113,63),(114,64),(115,83),(116,82),(117,96),(118,109),(119,110),(120,119),(121,111),(122,120),(123,121),(124,84),(125,97),(126,98),(127,99),(128,112),(129,113),(130,122),(131,123),(132,124),(133,133),(134,65),(135,57),(137,58),(138,38),(139,67),(144,39),(145,41),(146,40),(147,68),(148,69),(149,70),(150,76),(151,75),(152,89),(153,105),(154,115),(155,116),(156,117),(157,125),(158,86),(159,87),(160,88),(161,101),(162,102),(163,103),(164,114),(165,104),(166,6),(167,7),(168,8),(169,12),(170,14),(171,15),(172,17),(173,18),(174,19),(175,20),(176,21),(177,22),(178,42),(179,9),(180,43),(181,44),(182,31),(183,32),(184,33),(185,60),(186,71),(187,52),(188,74),(189,72),(190,73),(191,23),(192,48),(193,50),(194,77),(195,92),(196,49),(197,51),(198,78),(199,95)]
def X:Nat->Type
 | 0=>bp
 | 1=>bZ
 | 2=>aF
 | 3=>cO
 | 4=>b9
 | 5=>aW
 | 6=>bP
 | 7=>af
 | 8=>aH
 | 9=>cU
 | _=>Unit
def lv:Nat->List Ty
 | 0=>[(.list (.int .i64))]
 | 1=>[(.vec .u32 8),(.list (.int .u8)),(.int .u64)]
 | 2=>[(.int .i64),(.int .u32),(.vec .u8 32)]
 | 3=>[(.int .i64),(.list (.int .u8))]
 | 4=>[(.int .i64),(.list (.int .u8))]
 | 5=>[(.int .i64),(.list (.int .i64)),(.list (.int .i64))]
 | 6=>[(.list (.int .u8)),(.int .i64)]
 | 7=>[(.int .i64),(.int .u32),(.vec .u8 32)]
 | 8=>[(.list (.int .u8)),(.list (.st 4)),(.list (.list (.int .u8))),(.list (.int .i64))]
 | 9=>[(.list (.list (.int .u8)))]
 | _=>[]
def Rt: ∀ i,Rp (X i)
 | 0=>me
 | 1=>pE
 | 2=>qQ
 | 3=>qR
 | 4=>kP
 | 5=>iD
 | 6=>mg
 | 7=>eM
 | 8=>pF
 | 9=>pG
 | _+10=>rJ Unit
abbrev T0:Tab:=⟨X,Rt⟩
def gt: ∀ i,X i->Tup T0 (lv i)
 | 0=>fun (x:bp)=>(x.eL,())
 | 1=>fun (x:bZ)=>(x.h,x.rest,x.n,())
 | 2=>fun (x:aF)=>(x.Place,x.cu,x.bY,())
 | 3=>fun (x:cO)=>(x.Block,x.Bytes,())
 | 4=>fun (x:b9)=>(x.n,x.b,())
 | 5=>fun (x:aW)=>(x.P,x.Level,x.dO,())
 | 6=>fun (x:bP)=>(x.b,x.e,())
 | 7=>fun (x:af)=>(x.Place,x.cu,x.bY,())
 | 8=>fun (x:aH)=>(x.blocks,x.waits,x.cN,x.trace,())
 | 9=>fun (x:cU)=>(x.texts,())
 | _+10=>fun _=>()
def pu: ∀ i,Tup T0 (lv i)->X i
 | 0=>fun x=>(⟨x.1⟩:bp)
 | 1=>fun x=>(⟨x.1,x.2.1,x.2.2.1⟩:bZ)
 | 2=>fun x=>(⟨x.1,x.2.1,x.2.2.1⟩:aF)
 | 3=>fun x=>(⟨x.1,x.2.1⟩:cO)
 | 4=>fun x=>(⟨x.1,x.2.1⟩:b9)
 | 5=>fun x=>(⟨x.1,x.2.1,x.2.2.1⟩:aW)
 | 6=>fun x=>(⟨x.1,x.2.1⟩:bP)
 | 7=>fun x=>(⟨x.1,x.2.1,x.2.2.1⟩:af)
 | 8=>fun x=>(⟨x.1,x.2.1,x.2.2.1,x.2.2.2.1⟩:aH)
 | 9=>fun x=>(⟨x.1⟩:cU)
 | _+10=>fun _=>()
theorem W5: ∀ h M vs (x:bp),me.P h M vs x↔TupP T0 h M (lv 0) vs (gt 0 x):=by
 intro h M vs x; constructor
 ·rintro ⟨a0,c0,rfl,h0⟩
  exact ⟨([.slice a0 x.eL.length c0]:List Value),[],by simp,⟨a0,c0,rfl,h0⟩,rfl⟩
 ·rintro ⟨_,_,rfl,⟨a0,c0,rfl,h0⟩,rfl⟩
  exact ⟨a0,c0,(by simp [gt] <;> (repeat (first | rfl | refine ⟨rfl, ?_⟩))),h0⟩
theorem W6: ∀ h M vs (x:bZ),pE.P h M vs x↔TupP T0 h M (lv 1) vs (gt 1 x):=by
 intro h M vs x; constructor
 ·rintro ⟨a1,c1,rfl,h1⟩
  exact ⟨((lumpV .u32 8 x.h.toList):List Value),([.slice a1 x.rest.length c1]++([.int .u64 x.n]++[])),by simp,rfl,([.slice a1 x.rest.length c1]:List Value),([.int .u64 x.n]++[]),rfl,⟨a1,c1,rfl,h1⟩,([.int .u64 x.n]:List Value),[],rfl,rfl,rfl⟩
 ·rintro ⟨_,_,rfl,rfl,_,_,rfl,⟨a1,c1,rfl,h1⟩,_,_,rfl,rfl,rfl⟩
  exact ⟨a1,c1,(by simp [gt] <;> (repeat (first | rfl | refine ⟨rfl, ?_⟩))),h1⟩
theorem W7: ∀ h M vs (x:aF),qQ.P h M vs x↔TupP T0 h M (lv 2) vs (gt 2 x):=by
 intro h M vs x; constructor
 ·rintro rfl
  exact ⟨([.int .i64 x.Place]:List Value),([.int .u32 x.cu]++((lumpV .u8 32 x.bY.toList)++[])),by simp,rfl,([.int .u32 x.cu]:List Value),((lumpV .u8 32 x.bY.toList)++[]),rfl,rfl,((lumpV .u8 32 x.bY.toList):List Value),[],rfl,rfl,rfl⟩
 ·rintro ⟨_,_,rfl,rfl,_,_,rfl,rfl,_,_,rfl,rfl,rfl⟩
  exact (by show _=_; simp [gt])
theorem W8: ∀ h M vs (x:cO),qR.P h M vs x↔TupP T0 h M (lv 3) vs (gt 3 x):=by
 intro h M vs x; constructor
 ·rintro ⟨a1,c1,rfl,h1⟩
  exact ⟨([.int .i64 x.Block]:List Value),([.slice a1 x.Bytes.length c1]++[]),by simp,rfl,([.slice a1 x.Bytes.length c1]:List Value),[],rfl,⟨a1,c1,rfl,h1⟩,rfl⟩
 ·rintro ⟨_,_,rfl,rfl,_,_,rfl,⟨a1,c1,rfl,h1⟩,rfl⟩
  exact ⟨a1,c1,(by simp [gt] <;> (repeat (first | rfl | refine ⟨rfl, ?_⟩))),h1⟩
theorem W9: ∀ h M vs (x:b9),kP.P h M vs x↔TupP T0 h M (lv 4) vs (gt 4 x):=by
 intro h M vs x; constructor
 ·rintro ⟨a1,c1,rfl,h1⟩
  exact ⟨([.int .i64 x.n]:List Value),([.slice a1 x.b.length c1]++[]),by simp,rfl,([.slice a1 x.b.length c1]:List Value),[],rfl,⟨a1,c1,rfl,h1⟩,rfl⟩
 ·rintro ⟨_,_,rfl,rfl,_,_,rfl,⟨a1,c1,rfl,h1⟩,rfl⟩
  exact ⟨a1,c1,(by simp [gt] <;> (repeat (first | rfl | refine ⟨rfl, ?_⟩))),h1⟩
theorem Xa: ∀ h M vs (x:aW),iD.P h M vs x↔TupP T0 h M (lv 5) vs (gt 5 x):=by
 intro h M vs x; constructor
 ·rintro ⟨a1,c1,a2,c2,rfl,h1,h2⟩
  exact ⟨([.int .i64 x.P]:List Value),([.slice a1 x.Level.length c1]++([.slice a2 x.dO.length c2]++[])),by simp,rfl,([.slice a1 x.Level.length c1]:List Value),([.slice a2 x.dO.length c2]++[]),rfl,⟨a1,c1,rfl,h1⟩,([.slice a2 x.dO.length c2]:List Value),[],rfl,⟨a2,c2,rfl,h2⟩,rfl⟩
 ·rintro ⟨_,_,rfl,rfl,_,_,rfl,⟨a1,c1,rfl,h1⟩,_,_,rfl,⟨a2,c2,rfl,h2⟩,rfl⟩
  exact ⟨a1,c1,a2,c2,(by simp [gt] <;> (repeat (first | rfl | refine ⟨rfl, ?_⟩))),h1,h2⟩
theorem Xb: ∀ h M vs (x:bP),mg.P h M vs x↔TupP T0 h M (lv 6) vs (gt 6 x):=by
 intro h M vs x; constructor
 ·rintro ⟨a0,c0,rfl,h0⟩
  exact ⟨([.slice a0 x.b.length c0]:List Value),([.int .i64 x.e]++[]),by simp,⟨a0,c0,rfl,h0⟩,([.int .i64 x.e]:List Value),[],rfl,rfl,rfl⟩
 ·rintro ⟨_,_,rfl,⟨a0,c0,rfl,h0⟩,_,_,rfl,rfl,rfl⟩
  exact ⟨a0,c0,(by simp [gt] <;> (repeat (first | rfl | refine ⟨rfl, ?_⟩))),h0⟩
theorem Xc: ∀ h M vs (x:af),eM.P h M vs x↔TupP T0 h M (lv 7) vs (gt 7 x):=by
 intro h M vs x; constructor
 ·rintro rfl
  exact ⟨([.int .i64 x.Place]:List Value),([.int .u32 x.cu]++((lumpV .u8 32 x.bY.toList)++[])),by simp,rfl,([.int .u32 x.cu]:List Value),((lumpV .u8 32 x.bY.toList)++[]),rfl,rfl,((lumpV .u8 32 x.bY.toList):List Value),[],rfl,rfl,rfl⟩
 ·rintro ⟨_,_,rfl,rfl,_,_,rfl,rfl,_,_,rfl,rfl,rfl⟩
  exact (by show _=_; simp [gt])
theorem Xd: ∀ h M vs (x:aH),pF.P h M vs x↔TupP T0 h M (lv 8) vs (gt 8 x):=by
 intro h M vs x; constructor
 ·rintro ⟨a0,c0,a1,c1,a2,c2,a3,c3,rfl,h0,h1,h2,h3⟩
  exact ⟨([.slice a0 x.blocks.length c0]:List Value),([.slice a1 x.waits.length c1]++([.slice a2 x.cN.length c2]++([.slice a3 x.trace.length c3]++[]))),by simp,⟨a0,c0,rfl,h0⟩,([.slice a1 x.waits.length c1]:List Value),([.slice a2 x.cN.length c2]++([.slice a3 x.trace.length c3]++[])),rfl,⟨a1,c1,rfl,h1⟩,([.slice a2 x.cN.length c2]:List Value),([.slice a3 x.trace.length c3]++[]),rfl,⟨a2,c2,rfl,h2⟩,([.slice a3 x.trace.length c3]:List Value),[],rfl,⟨a3,c3,rfl,h3⟩,rfl⟩
 ·rintro ⟨_,_,rfl,⟨a0,c0,rfl,h0⟩,_,_,rfl,⟨a1,c1,rfl,h1⟩,_,_,rfl,⟨a2,c2,rfl,h2⟩,_,_,rfl,⟨a3,c3,rfl,h3⟩,rfl⟩
  exact ⟨a0,c0,a1,c1,a2,c2,a3,c3,(by simp [gt] <;> (repeat (first | rfl | refine ⟨rfl, ?_⟩))),h0,h1,h2,h3⟩
theorem Xe: ∀ h M vs (x:cU),pG.P h M vs x↔TupP T0 h M (lv 9) vs (gt 9 x):=by
 intro h M vs x; constructor
 ·rintro ⟨a0,c0,rfl,h0⟩
  exact ⟨([.slice a0 x.texts.length c0]:List Value),[],by simp,⟨a0,c0,rfl,h0⟩,rfl⟩
 ·rintro ⟨_,_,rfl,⟨a0,c0,rfl,h0⟩,rfl⟩
  exact ⟨a0,c0,(by simp [gt] <;> (repeat (first | rfl | refine ⟨rfl, ?_⟩))),h0⟩
def D:Tabs:=
 {X:=X,R:=Rt,leaves:=lv,flat:=(fun i=>match i with
 | 0=>rfl
 | 1=>rfl
 | 2=>rfl
 | 3=>rfl
 | 4=>rfl
 | 5=>rfl
 | 6=>rfl
 | 7=>rfl
 | 8=>rfl
 | 9=>rfl
 | _+10=>rfl),get:=gt,put:=pu,BT:=(by intro i; match i with
 | 0=>exact fun _=>rfl
 | 1=>exact fun _=>rfl
 | 2=>exact fun _=>rfl
 | 3=>exact fun _=>rfl
 | 4=>exact fun _=>rfl
 | 5=>exact fun _=>rfl
 | 6=>exact fun _=>rfl
 | 7=>exact fun _=>rfl
 | 8=>exact fun _=>rfl
 | 9=>exact fun _=>rfl
 | _+10=>exact fun _=>rfl),rep:=(by intro i; match i with
 | 0=>exact W5
 | 1=>exact W6
 | 2=>exact W7
 | 3=>exact W8
 | 4=>exact W9
 | 5=>exact Xa
 | 6=>exact Xb
 | 7=>exact Xc
 | 8=>exact Xd
 | 9=>exact Xe
 | _+10=>exact fun _ _ _ _=>Iff.rfl),O:=Pt.Obj,ob:=obA ρ}
def ty:Nat->Option Ty
 | 3=>some (.int .i64)
 | 4=>some .bool
 | 5=>some (.int .u8)
 | 9=>some .str
 | 22=>some (.vec .u8 32)
 | 23=>some (.int .u32)
 | 24=>some (.list (.list (.int .u8)))
 | 29=>some (.list (.st 3))
 | 31=>some (.st 2)
 | 32=>some (.int .i64)
 | 36=>some (.st 7)
 | 39=>some (.list (.int .u8))
 | 41=>some (.st 3)
 | 45=>some .ptr
 | 46=>some (.list (.int .i64))
 | 48=>some (.st 0)
 | 52=>some (.st 5)
 | 56=>some (.list (.st 2))
 | 66=>some (.list (.st 7))
 | 86=>some .ptr
 | 104=>some (.list (.st 4))
 | 106=>some (.st 8)
 | 116=>some (.st 4)
 | 136=>some (.vec .u8 12)
 | 138=>some (.int .u64)
 | 144=>some (.st 9)
 | 147=>some (.list (.int .u32))
 | 152=>some .ptr
 | 161=>some (.vec .u8 64)
 | 163=>some (.vec .u32 8)
 | 165=>some (.st 1)
 | 169=>some (.int .u64)
 | 170=>some (.list (.int .u64))
 | 175=>some (.st 6)
 | 177=>some (.vec .u32 16)
 | 179=>some (.vec .u32 4)
 | 187=>some (.list (.list (.int .i64)))
 | 190=>some (.vec .u32 64)
 | _=>none
abbrev CO (C:Ctrs D):=CtrsOk Tryz.prog C
abbrev SO (f:Nat) (c:Ctr D):=SpecOk Tryz.prog f (specOf c)
theorem fk {f:Nat} {fn:Func} {code:Code} {c:Ctr D} {C:Ctrs D} (hC:CO C) (hf:Tryz.prog.funcs[f]? =some fn) (hb:fn.body=some code) (hn:(fn.name== "runtime.NumGoroutine")=false) (A:Ann) (pt:QT c->Pts D) (v0: ∀ Q,TupD D c.ps->(pt Q).V)
  (ho:fnB c A fn.ntmps=true)
  (entry: ∀ x σ Q,c.P x σ Q->unLk c.ps x ⟨[],σ⟩ fun svs H=>WS (pt Q) (opsS τ ty C) (c.bk.map (·.1)) fn.ntmps (v0 Q x) code A [] (argS 0 svs) H (retS τ c fn.results Q))
  (obl: ∀ Q,allP (fun k=> ∀ inner,inner.length=depth k A->ObS τ ty C fn.ntmps code A fn.results pt Q k inner) (pts A)):SO f c:=
 Nk agree hC mixed hf hb hn A pt v0 ho entry obl
abbrev C6:Ctrs D:=[]
abbrev RE:Ctr D:= {ps:=[.rd (.list (.int .u8))],rs:=[vb],bk:=[],sg:=false,P:=fun x σ Q=>aO x.1 (fun r0=>Q (r0,()) (()) σ)}
noncomputable def c6:Code:=Tryz.f6.body.getD .skip
def A6:Ann:=(sl (.seq (.join 1 [0,17] lf (.cond s2 lf)) (.seq (sl (.block (.loop 2 [18,19,20] (sl (.seq (.cond lf lf) (.seq (.block (sl (sl (.cond s2 lf)))) lf)))))) s2)))
abbrev Xf:Nat->List Ds
 | 1=>[.rd (.list (.int .u8)),vb]
 | 2=>[.rd (.list (.int .u8)),vi,vi]
 | _=>[]
abbrev jB: ∀ k,aO.V->TupD D (Xf k)->aO.V
 | 1,c,t=> {c with l0:=t.1,mI:=t.2.1}
 | 2,c,t=> {c with iE:=t.1,pH:=t.2.1,v20:=t.2.2.1}
 | _,c,_=>c
abbrev ls6: ∀ k,aO.V->TupD D (Xf k)
 | 1,c=>(c.l0,c.mI,())
 | 2,c=>(c.iE,c.pH,c.v20,())
 | 0,c=>()
 | _+3,c=>()
abbrev Xg (Q:aO.QT):Nat->List (aO.V->Prop)->aO.V->Prop
 | 1,[],c=>aO.K1 Q c
 | 2,[S2],c=>aO.B2 S2 Q c
 | _,_,_=>False
abbrev pt6 (Q:QT RE):Pts D:=Pts.gZ Xf jB ls6 (by intro k b t; match k,t with | 0,t | 1,t | 2,t | _+3,t=>rfl) (fun σ=>Xg (fun r0=>Q (r0,()) (()) σ))
abbrev C8:Ctrs D:=((6,RE)::C6)
abbrev RF:Ctr D:= {ps:=[.rd (.list (.int .u8))],rs:=[.own (.list (.int .u8))],bk:=[],sg:=false,P:=fun x σ Q=>bu x.1 (fun r0=>Q (r0,()) (()) σ)}
noncomputable def c8:Code:=Tryz.f8.body.getD .skip
def A8:Ann:=(sl (sl (.seq (sl (.block (.loop 1 [3,7,8,9] (sl (.seq (.cond lf lf) (.seq (.block (sl (sl s2))) lf)))))) s2)))
abbrev Xh:Nat->List Ds
 | 1=>[.own (.list (.int .u8)), .rd (.list (.int .u8)),vi,vi]
 | _=>[]
abbrev up8: ∀ k,bu.V->TupD D (Xh k)->bu.V
 | 1,c,t=> {c with cP:=t.1,v7:=t.2.1,v8:=t.2.2.1,v9:=t.2.2.2.1}
 | _,c,_=>c
abbrev ls8: ∀ k,bu.V->TupD D (Xh k)
 | 1,c=>(c.cP,c.v7,c.v8,c.v9,())
 | 0,c=>()
 | _+2,c=>()
abbrev Xi (Q:bu.QT):Nat->List (bu.V->Prop)->bu.V->Prop
 | 1,[S1],c=>bu.B1 S1 Q c
 | _,_,_=>False
abbrev pt8 (Q:QT RF):Pts D:=Pts.gZ Xh up8 ls8 (by intro k b t; match k,t with | 0,t | 1,t | _+2,t=>rfl) (fun σ=>Xi (fun r0=>Q (r0,()) (()) σ))
abbrev Xj:Ctrs D:=((8,RF)::C8)
abbrev Fv:Ctr D:= {ps:=[rb,rb],rs:=[vb],bk:=[],sg:=false,P:=fun x σ Q=>bq x.1 x.2.1 (fun r0=>Q (r0,()) (()) σ)}
noncomputable def c11:Code:=Tryz.f11.body.getD .skip
def A11:Ann:=(sl (.seq (sl (.cond s2 lf)) (.seq (sl (.block (.loop 1 [0,1,5] (.seq (sl (.cond lf lf)) (.seq (.block (.seq (.plan (.take 0 [] (.take 1 [] (.take 2 [] (.take 3 [] (.take 4 [] (.take 5 [] (.take 6 [] (.take 7 [] (.take 8 [] .done)))))))))) (.cond s2 lf))) lf))))) s2)))
abbrev Nl:Nat->List Ds
 | 1=>[rb,rb,vi]
 | _=>[]
abbrev Xk: ∀ k,bq.V->TupD D (Nl k)->bq.V
 | 1,c,t=> {c with a0:=t.1,b1:=t.2.1,i5:=t.2.2.1}
 | _,c,_=>c
abbrev Xl: ∀ k,bq.V->TupD D (Nl k)
 | 1,c=>(c.a0,c.b1,c.i5,())
 | 0,c=>()
 | _+2,c=>()
abbrev RG (Q:bq.QT):Nat->List (bq.V->Prop)->bq.V->Prop
 | 1,[S1],c=>bq.B1 S1 Q c
 | _,_,_=>False
abbrev Xm (Q:QT Fv):Pts D:=Pts.gZ Nl Xk Xl (by intro k b t; match k,t with | 0,t | 1,t | _+2,t=>rfl) (fun σ=>RG (fun r0=>Q (r0,()) (()) σ))
abbrev Xn:Ctrs D:=((11,Fv)::Xj)
abbrev Fw:Ctr D:= {ps:=[.val (.st 0)],rs:=[vi],bk:=[],sg:=false,P:=fun x σ Q=>cC x.1 (fun r0=>Q (r0,()) (()) σ)}
noncomputable def c16:Code:=Tryz.f16.body.getD .skip
def A16:Ann:=(sl (.seq (sl (.cond s2 lf)) s2))
abbrev Xo (Q:QT Fw):Pts D:=Pts.no
abbrev Xp:Ctrs D:=((16,Fw)::Xn)
abbrev Fx:Ctr D:= {ps:=[vi],rs:=[.val (.st 0),vi],bk:=[],sg:=false,P:=fun x σ Q=>bM x.1 (fun r0 r1=>Q (r0,r1,()) (()) σ)}
noncomputable def c30:Code:=Tryz.f30.body.getD .skip
def A30:Ann:=(sl (.seq (.join 1 [0,2,12] lf (.cond s2 lf)) (sl (.seq (sl (.block (.loop 2 [2,4,5] (.seq (.join 3 [2,4,5,23] lf (.cond lf lf)) (.block (sl (sl (.plan (.take 0 [12] (.take 1 [12] (.take 2 [12] (.take 3 [12] (.take 4 [11,12] (.take 5 [11,12] (.take 6 [11,12] (.take 7 [11,12] (.take 8 [11,12] (.take 9 [11,12] (.take 10 [11,12] (.all (.alt 11 (.all (.alt 12 (.take 13 [] .done) .nil)) .nil))))))))))))))))))))) s2))))
abbrev Nn:Nat->List Ds
 | 1=>[vi, .blk 48 [.own (.int .i64)],vb]
 | 2=>[.blk 48 [.own (.int .i64)], .own (.int .i64),vi]
 | 3=>[.blk 48 [.own (.int .i64)], .own (.int .i64),vi,vb]
 | _=>[]
abbrev Xq: ∀ k,bM.V->TupD D (Nn k)->bM.V
 | 1,c,t=> {c with dh:=t.1,v2:=⟨t.2.1.1⟩,Ee:=t.2.2.1}
 | 2,c,t=> {c with v2:=⟨t.1.1⟩,l4:=t.2.1,eE:=t.2.2.1}
 | 3,c,t=> {c with v2:=⟨t.1.1⟩,l4:=t.2.1,eE:=t.2.2.1,vo:=t.2.2.2.1}
 | _,c,_=>c
abbrev Xr: ∀ k,bM.V->TupD D (Nn k)
 | 1,c=>(c.dh,(c.v2.eL,()),c.Ee,())
 | 2,c=>((c.v2.eL,()),c.l4,c.eE,())
 | 3,c=>((c.v2.eL,()),c.l4,c.eE,c.vo,())
 | 0,c=>()
 | _+4,c=>()
abbrev RH (Q:bM.QT):Nat->List (bM.V->Prop)->bM.V->Prop
 | 1,[],c=>bM.K1 Q c
 | 2,[S2],c=>bM.B2 S2 Q c
 | 3,[S2],c=>bM.K3 S2 Q c
 | _,_,_=>False
abbrev Xs (Q:QT Fx):Pts D:=Pts.gZ Nn Xq Xr (by intro k b t; match k,t with | 0,t | 1,t | 2,t | 3,t | _+4,t=>rfl) (fun σ=>RH (fun r0 r1=>Q (r0,r1,()) (()) σ))
abbrev Xt:Ctrs D:=((30,Fx)::Xp)
abbrev Fy:Ctr D:= {ps:=[rb],rs:=[vb],bk:=[],sg:=false,P:=fun x σ Q=>gz x.1 (fun r0=>Q (r0,()) (()) σ)}
noncomputable def c31:Code:=Tryz.f31.body.getD .skip
def A31:Ann:=(sl s2)
abbrev Xu (Q:QT Fy):Pts D:=Pts.no
abbrev Xv:Ctrs D:=((31,Fy)::Xt)
abbrev FA:Ctr D:= {ps:=[.val (.st 0)],rs:=[vi],bk:=[],sg:=false,P:=fun x σ Q=>eN x.1 (fun r0=>Q (r0,()) (()) σ)}
noncomputable def c81:Code:=Tryz.f81.body.getD .skip
def A81:Ann:=(sl s2)
abbrev Xw (Q:QT FA):Pts D:=Pts.no
abbrev Xx:Ctrs D:=((81,FA)::Xv)
abbrev FB:Ctr D:= {ps:=[.val (.st 0),vi],rs:=[vi],bk:=[],sg:=false,P:=fun x σ Q=>bC x.1 x.2.1 (fun r0=>Q (r0,()) (()) σ)}
noncomputable def c61:Code:=Tryz.f61.body.getD .skip
def A61:Ann:=(sl (.seq (sl (.cond s2 lf)) (.seq (sl (.block (.loop 1 [1,2,9,10] (sl (.seq (.cond lf lf) (.seq (.block (sl (sl (.cond s2 lf)))) lf)))))) s2)))
abbrev No:Nat->List Ds
 | 1=>[vi, .blk 48 [.v (.st 0)],vi,vi]
 | _=>[]
abbrev Xy: ∀ k,bC.V->TupD D (No k)->bC.V
 | 1,c,t=> {c with bI:=t.1,s2:=t.2.1.1,v9:=t.2.2.1,v10:=t.2.2.2.1}
 | _,c,_=>c
abbrev Xz: ∀ k,bC.V->TupD D (No k)
 | 1,c=>(c.bI,(c.s2,()),c.v9,c.v10,())
 | 0,c=>()
 | _+2,c=>()
abbrev RI (Q:bC.QT):Nat->List (bC.V->Prop)->bC.V->Prop
 | 1,[S1],c=>bC.B1 S1 Q c
 | _,_,_=>False
abbrev XA (Q:QT FB):Pts D:=Pts.gZ No Xy Xz (by intro k b t; match k,t with | 0,t | 1,t | _+2,t=>rfl) (fun σ=>RI (fun r0=>Q (r0,()) (()) σ))
abbrev XB:Ctrs D:=((61,FB)::Xx)
abbrev FC:Ctr D:= {ps:=[.val (.st 0),vi,vi],rs:=[vi],bk:=[],sg:=false,P:=fun x σ Q=>bn x.1 x.2.1 x.2.2.1 (fun r0=>Q (r0,()) (()) σ)}
noncomputable def c34:Code:=Tryz.f34.body.getD .skip
def A34:Ann:=(sl (.seq (.join 1 [1,2,18] lf (.cond s2 lf)) s2))
abbrev Np:Nat->List Ds
 | 1=>[vi,vi,vb]
 | _=>[]
abbrev XC: ∀ k,bn.V->TupD D (Np k)->bn.V
 | 1,c,t=> {c with bI:=t.1,dB:=t.2.1,iE:=t.2.2.1}
 | _,c,_=>c
abbrev XD: ∀ k,bn.V->TupD D (Np k)
 | 1,c=>(c.bI,c.dB,c.iE,())
 | 0,c=>()
 | _+2,c=>()
abbrev RJ (Q:bn.QT):Nat->List (bn.V->Prop)->bn.V->Prop
 | 1,[],c=>bn.K1 Q c
 | _,_,_=>False
abbrev XE (Q:QT FC):Pts D:=Pts.gZ Np XC XD (by intro k b t; match k,t with | 0,t | 1,t | _+2,t=>rfl) (fun σ=>RJ (fun r0=>Q (r0,()) (()) σ))
abbrev Nq:Ctrs D:=((34,FC)::XB)
abbrev yy:Ctr D:= {ps:=[rb],rs:=[vu],bk:=[],sg:=false,P:=fun x σ Q=>iF x.1 (fun r0=>Q (r0,()) (()) σ)}
noncomputable def XF:Code:=Tryz.f119.body.getD .skip
def XG:Ann:=(sl (.seq (.plan (.take 0 [] (.take 1 [] (.take 2 [] (.take 3 [] (.take 4 [] (.take 5 [] (.take 6 [] (.take 7 [] (.take 8 [] (.take 9 [] (.take 10 [] (.take 11 [] (.take 12 [] (.take 13 [] (.take 14 [] (.take 15 [] (.take 16 [] (.take 17 [] (.take 18 [] (.take 19 [] (.take 20 [] (.take 21 [] (.take 22 [] .done)))))))))))))))))))))))) lf))
abbrev RK (Q:QT yy):Pts D:=Pts.no
abbrev Nr:Ctrs D:=((119,yy)::Nq)
abbrev sH:Ctr D:= {ps:=[.val (.vec .u8 32), .val (.vec .u8 12),vu],rs:=[.val (.vec .u32 16)],bk:=[],sg:=false,P:=fun x σ Q=>aV x.1 x.2.1 x.2.2.1 (fun r0=>Q (r0,()) (()) σ)}
noncomputable def XH:Code:=Tryz.f109.body.getD .skip
def XI:Ann:=(sl (sl (.seq (sl (.block (.loop 1 [2,3,4,6,7,11] (sl (.seq (.cond lf lf) (.seq (.block s2) lf)))))) (sl (.seq (sl (.block (.loop 2 [4,6,7,24] (sl (.seq (.cond lf lf) (.seq (.block s2) lf)))))) s2)))))
abbrev FD:Nat->List Ds
 | 1=>[vu, .blk 22 [.v (.vec .u8 32)], .blk 136 [.v (.vec .u8 12)], .blk 177 [.v (.vec .u32 16)], .blk 177 [.v (.vec .u32 16)],vi]
 | 2=>[.blk 136 [.v (.vec .u8 12)], .blk 177 [.v (.vec .u32 16)], .blk 177 [.v (.vec .u32 16)],vi]
 | _=>[]
abbrev RL: ∀ k,aV.V->TupD D (FD k)->aV.V
 | 1,c,t=> {c with bg:=t.1,ow:=t.2.1.1,eO:=t.2.2.1.1,v6:=t.2.2.2.1.1,w7:=t.2.2.2.2.1.1,v11:=t.2.2.2.2.2.1}
 | 2,c,t=> {c with eO:=t.1.1,v6:=t.2.1.1,w7:=t.2.2.1.1,Eh:=t.2.2.2.1}
 | _,c,_=>c
abbrev RM: ∀ k,aV.V->TupD D (FD k)
 | 1,c=>(c.bg,(c.ow,()),(c.eO,()),(c.v6,()),(c.w7,()),c.v11,())
 | 2,c=>((c.eO,()),(c.v6,()),(c.w7,()),c.Eh,())
 | 0,c=>()
 | _+3,c=>()
abbrev Ns (Q:aV.QT):Nat->List (aV.V->Prop)->aV.V->Prop
 | 1,[S1],c=>aV.B1 S1 Q c
 | 2,[S2],c=>aV.B2 S2 Q c
 | _,_,_=>False
abbrev RN (Q:QT sH):Pts D:=Pts.gZ FD RL RM (by intro k b t; match k,t with | 0,t | 1,t | 2,t | _+3,t=>rfl) (fun σ=>Ns (fun r0=>Q (r0,()) (()) σ))
abbrev Nt:Ctrs D:=((109,sH)::Nr)
abbrev yz:Ctr D:= {ps:=[vu,vi],rs:=[vu],bk:=[],sg:=false,P:=fun x σ Q=>cX x.1 x.2.1 (fun r0=>Q (r0,()) (()) σ)}
noncomputable def XJ:Code:=Tryz.f121.body.getD .skip
def XK:Ann:=(sl (sl s2))
abbrev RO (Q:QT yz):Pts D:=Pts.no
abbrev Nv:Ctrs D:=((121,yz)::Nt)
abbrev yA:Ctr D:= {ps:=[vi,vi,vi,vi, .blk 179 [.v (.vec .u32 4)]],rs:=[],bk:=[(4, .blk 179 [.v (.vec .u32 4)])],sg:=false,P:=fun x σ Q=>cQ x.1 x.2.1 x.2.2.1 x.2.2.2.1 x.2.2.2.2.1.1 (fun z0=>Q (()) ((z0,()),()) σ)}
noncomputable def XL:Code:=Tryz.f120.body.getD .skip
def XN:Ann:=(.seq (.plan (.take 0 [8] (.take 1 [8] (.take 2 [8] (.take 3 [8] (.take 4 [8] (.take 5 [8] (.take 6 [8] (.take 7 [8] (.all (.alt 8 .done .nil))))))))))) (.plan (.take 0 [11] (.take 1 [9,11] (.take 2 [9,11] (.take 3 [9,11] (.take 4 [9,11] (.take 5 [9,11] (.take 6 [9,11] (.take 7 [9,11] (.take 8 [9,11] (.all (.alt 9 (.take 10 [11] (.all (.alt 11 .done .nil))) .nil)))))))))))))
abbrev RP (Q:QT yA):Pts D:=Pts.no
abbrev JY:Ctrs D:=((120,yA)::Nv)
abbrev pV:Ctr D:= {ps:=[.val (.vec .u32 4)],rs:=[.val (.vec .u32 4)],bk:=[],sg:=false,P:=fun x σ Q=>cA x.1 (fun r0=>Q (r0,()) (()) σ)}
noncomputable def XO:Code:=Tryz.f111.body.getD .skip
def XP:Ann:=(sl (sl (sl (sl (sl (sl s2))))))
abbrev RQ (Q:QT pV):Pts D:=Pts.no
abbrev JZ:Ctr D:= {ps:=[.val (.vec .u8 32), .val (.vec .u8 12),vu],rs:=[.val (.vec .u8 64)],bk:=[],sg:=false,P:=fun x σ Q=>aG x.1 x.2.1 x.2.2.1 (fun r0=>Q (r0,()) (()) σ)}
abbrev XQ:Ctrs D:=((96,JZ)::((111,pV)::JY))
abbrev FE:Ctr D:= {ps:=[.val (.vec .u8 32), .val (.vec .u8 12),vu,rb],rs:=[.own (.int .u8)],bk:=[],sg:=false,P:=fun x σ Q=>bK x.1 x.2.1 x.2.2.1 x.2.2.2.1 (fun r0=>Q (r0,()) (()) σ)}
noncomputable def c82:Code:=Tryz.f82.body.getD .skip
def A82:Ann:=(sl (sl (.seq (sl (.block (.loop 1 [2,4,5,9,10] (.seq (sl (.cond lf lf)) (.seq (.block (sl (.seq (sl (.block (.loop 2 [2,4,5,9,10,11,34,35] (sl (.seq (.cond lf lf) (.seq (.block (sl (.plan (.take 0 [11] (.take 1 [11] (.take 2 [11] (.take 3 [11] (.take 4 [11] (.take 5 [11] (.take 6 [11] (.take 7 [11] (.take 8 [11] (.take 9 [11] (.take 10 [11] (.all (.alt 11 .done .nil)))))))))))))))) lf)))))) lf))) lf))))) s2)))
abbrev Nw:Nat->List Ds
 | 1=>[vu, .blk 22 [.v (.vec .u8 32)], .blk 136 [.v (.vec .u8 12)], .own (.int .u8),vi]
 | 2=>[vu, .blk 22 [.v (.vec .u8 32)], .blk 136 [.v (.vec .u8 12)], .own (.int .u8),vi, .blk 161 [.v (.vec .u8 64)],vi,vi]
 | _=>[]
abbrev XR: ∀ k,bK.V->TupD D (Nw k)->bK.V
 | 1,c,t=> {c with bg:=t.1,gI:=t.2.1.1,fJ:=t.2.2.1.1,eW:=t.2.2.2.1,j4:=t.2.2.2.2.1}
 | 2,c,t=> {c with bg:=t.1,gI:=t.2.1.1,fJ:=t.2.2.1.1,eW:=t.2.2.2.1,j4:=t.2.2.2.2.1,qg:=t.2.2.2.2.2.1.1,Qc:=t.2.2.2.2.2.2.1,fM:=t.2.2.2.2.2.2.2.1}
 | _,c,_=>c
abbrev XS: ∀ k,bK.V->TupD D (Nw k)
 | 1,c=>(c.bg,(c.gI,()),(c.fJ,()),c.eW,c.j4,())
 | 2,c=>(c.bg,(c.gI,()),(c.fJ,()),c.eW,c.j4,(c.qg,()),c.Qc,c.fM,())
 | 0,c=>()
 | _+3,c=>()
abbrev RR (Q:bK.QT):Nat->List (bK.V->Prop)->bK.V->Prop
 | 1,[S1],c=>bK.B1 S1 Q c
 | 2,[S2,S1],c=>bK.B2 S1 S2 Q c
 | _,_,_=>False
abbrev XT (Q:QT FE):Pts D:=Pts.gZ Nw XR XS (by intro k b t; match k,t with | 0,t | 1,t | 2,t | _+3,t=>rfl) (fun σ=>RR (fun r0=>Q (r0,()) (()) σ))
abbrev XU:Ctrs D:=((82,FE)::XQ)
abbrev FF:Ctr D:= {ps:=[vu, .val (.int .u64)],rs:=[.val (.vec .u8 12)],bk:=[],sg:=false,P:=fun x σ Q=>bL x.1 x.2.1 (fun r0=>Q (r0,()) (()) σ)}
noncomputable def c83:Code:=Tryz.f83.body.getD .skip
def A83:Ann:=(sl (sl (.seq (sl (.block (.loop 1 [0,1,4,5,7] (sl (.seq (.cond lf lf) (.join 2 [0,1,4,5,7] (.block (sl (sl (.cond lf lf)))) lf)))))) s2)))
abbrev Nx:Nat->List Ds
 | 1=>[vu, .val (.int .u64), .blk 136 [.v (.vec .u8 12)], .blk 136 [.v (.vec .u8 12)],vi]
 | 2=>[vu, .val (.int .u64), .blk 136 [.v (.vec .u8 12)], .blk 136 [.v (.vec .u8 12)],vi]
 | _=>[]
abbrev XV: ∀ k,bL.V->TupD D (Nx k)->bL.V
 | 1,c,t=> {c with fD:=t.1,eB:=t.2.1,v4:=t.2.2.1.1,n5:=t.2.2.2.1.1,v7:=t.2.2.2.2.1}
 | 2,c,t=> {c with fD:=t.1,eB:=t.2.1,v4:=t.2.2.1.1,n5:=t.2.2.2.1.1,v7:=t.2.2.2.2.1}
 | _,c,_=>c
abbrev XW: ∀ k,bL.V->TupD D (Nx k)
 | 1,c=>(c.fD,c.eB,(c.v4,()),(c.n5,()),c.v7,())
 | 2,c=>(c.fD,c.eB,(c.v4,()),(c.n5,()),c.v7,())
 | 0,c=>()
 | _+3,c=>()
abbrev RS (Q:bL.QT):Nat->List (bL.V->Prop)->bL.V->Prop
 | 1,[S1],c=>bL.B1 S1 Q c
 | 2,[S1],c=>bL.K2 S1 Q c
 | _,_,_=>False
abbrev XY (Q:QT FF):Pts D:=Pts.gZ Nx XV XW (by intro k b t; match k,t with | 0,t | 1,t | 2,t | _+3,t=>rfl) (fun σ=>RS (fun r0=>Q (r0,()) (()) σ))
abbrev XZ:Ctrs D:=((83,FF)::XU)
abbrev FG:Ctr D:= {ps:=[.val (.vec .u8 32),vu,vi,rb],rs:=[.own (.int .u8),vi],bk:=[],sg:=false,P:=fun x σ Q=>cE x.1 x.2.1 x.2.2.1 x.2.2.2.1 (fun r0 r1=>Q (r0,r1,()) (()) σ)}
noncomputable def c62:Code:=Tryz.f62.body.getD .skip
def A62:Ann:=(sl (.seq (.join 1 [1,2,3,4,16] lf (.cond s2 lf)) (.seq (.plan (.take 0 [6] (.take 1 [4,6] (.take 2 [4,6] (.take 3 [4,6] (.take 5 [6] (.all (.alt 4 (.all (.alt 6 (.take 7 [] (.take 8 [] .done)) .nil)) .nil)))))))) lf)))
abbrev Ny:Nat->List Ds
 | 1=>[vu,vi,rb, .blk 22 [.v (.vec .u8 32)],vb]
 | _=>[]
abbrev X0: ∀ k,cE.V->TupD D (Ny k)->cE.V
 | 1,c,t=> {c with kR:=t.1,eP:=t.2.1,nu:=t.2.2.1,gI:=t.2.2.2.1.1,qh:=t.2.2.2.2.1}
 | _,c,_=>c
abbrev X1: ∀ k,cE.V->TupD D (Ny k)
 | 1,c=>(c.kR,c.eP,c.nu,(c.gI,()),c.qh,())
 | 0,c=>()
 | _+2,c=>()
abbrev RU (Q:cE.QT):Nat->List (cE.V->Prop)->cE.V->Prop
 | 1,[],c=>cE.K1 Q c
 | _,_,_=>False
abbrev X3 (Q:QT FG):Pts D:=Pts.gZ Ny X0 X1 (by intro k b t; match k,t with | 0,t | 1,t | _+2,t=>rfl) (fun σ=>RU (fun r0 r1=>Q (r0,r1,()) (()) σ))
abbrev VX:Ctrs D:=((62,FG)::XZ)
abbrev Dv:Ctr D:= {ps:=[vi],rs:=[vb],bk:=[],sg:=false,P:=fun x σ Q=>j5 x.1 (fun r0=>Q (r0,()) (()) σ)}
noncomputable def c63:Code:=Tryz.f63.body.getD .skip
def A63:Ann:=(sl s2)
abbrev X4 (Q:QT Dv):Pts D:=Pts.no
abbrev J0:Ctr D:= {ps:=[rb],rs:=[.own (.int .u8)],bk:=[],sg:=false,P:=fun x σ Q=>cL x.1 (fun r0=>Q (r0,()) (()) σ)}
abbrev X5:Ctrs D:=((45,J0)::((63,Dv)::VX))
abbrev FH:Ctr D:= {ps:=[],rs:=[.val (.st 1)],bk:=[],sg:=false,P:=fun x σ Q=>vr (fun r0=>Q (r0,()) (()) σ)}
noncomputable def c97:Code:=Tryz.f97.body.getD .skip
def A97:Ann:=(sl s2)
abbrev X6 (Q:QT FH):Pts D:=Pts.no
abbrev Nz:Ctrs D:=((97,FH)::X5)
abbrev yB:Ctr D:= {ps:=[],rs:=[.val (.vec .u32 8)],bk:=[],sg:=false,P:=fun x σ Q=>ud (fun r0=>Q (r0,()) (()) σ)}
noncomputable def X7:Code:=Tryz.f112.body.getD .skip
def X9:Ann:=(sl s2)
abbrev RV (Q:QT yB):Pts D:=Pts.no
abbrev NA:Ctrs D:=((112,yB)::Nz)
abbrev yC:Ctr D:= {ps:=[vu,vi],rs:=[vu],bk:=[],sg:=false,P:=fun x σ Q=>eH x.1 x.2.1 (fun r0=>Q (r0,()) (()) σ)}
noncomputable def Ya:Code:=Tryz.f124.body.getD .skip
def Yb:Ann:=(sl s2)
abbrev RW (Q:QT yC):Pts D:=Pts.no
abbrev NB:Ctrs D:=((124,yC)::NA)
abbrev yD:Ctr D:= {ps:=[rb],rs:=[vu],bk:=[],sg:=false,P:=fun x σ Q=>cy x.1 (fun r0=>Q (r0,()) (()) σ)}
noncomputable def Yc:Code:=Tryz.f133.body.getD .skip
def Yd:Ann:=(sl (sl (.seq (sl (.block (.loop 1 [3,6,7,8] (sl (.seq (.cond lf lf) (.seq (.block s2) lf)))))) s2)))
abbrev FJ:Nat->List Ds
 | 1=>[vu,rb,vi,vi]
 | _=>[]
abbrev RX: ∀ k,cy.V->TupD D (FJ k)->cy.V
 | 1,c,t=> {c with w3:=t.1,v6:=t.2.1,v7:=t.2.2.1,v8:=t.2.2.2.1}
 | _,c,_=>c
abbrev RY: ∀ k,cy.V->TupD D (FJ k)
 | 1,c=>(c.w3,c.v6,c.v7,c.v8,())
 | 0,c=>()
 | _+2,c=>()
abbrev NC (Q:cy.QT):Nat->List (cy.V->Prop)->cy.V->Prop
 | 1,[S1],c=>cy.B1 S1 Q c
 | _,_,_=>False
abbrev RZ (Q:QT yD):Pts D:=Pts.gZ FJ RX RY (by intro k b t; match k,t with | 0,t | 1,t | _+2,t=>rfl) (fun σ=>NC (fun r0=>Q (r0,()) (()) σ))
abbrev ND:Ctrs D:=((133,yD)::NB)
abbrev yE:Ctr D:= {ps:=[rb],rs:=[.val (.vec .u32 64)],bk:=[],sg:=false,P:=fun x σ Q=>bT x.1 (fun r0=>Q (r0,()) (()) σ)}
noncomputable def Ye:Code:=Tryz.f122.body.getD .skip
def Yf:Ann:=(sl (sl (.seq (sl (.block (.loop 1 [0,2,3,9] (sl (.seq (.cond lf lf) (.join 2 [0,2,3,9] (.block (sl (.seq (sl (.cond s2 lf)) (.seq (.plan (.take 0 [] (.take 1 [] (.take 2 [] (.take 3 [] (.take 4 [] (.take 5 [] (.take 6 [] (.take 7 [] (.take 8 [] (.take 9 [] .done))))))))))) (sl (sl (.plan (.take 0 [15] (.take 1 [15] (.take 2 [15] (.take 3 [15] (.take 4 [15] (.take 5 [15] (.take 6 [15] (.take 7 [15] (.take 8 [15] (.take 9 [15] (.take 10 [15] (.take 11 [15] (.take 12 [15] (.take 13 [15] (.take 14 [15] (.all (.alt 15 .done .nil)))))))))))))))))))))))) lf)))))) s2)))
abbrev FK:Nat->List Ds
 | 1=>[rb, .blk 190 [.v (.vec .u32 64)], .blk 190 [.v (.vec .u32 64)],vi]
 | 2=>[rb, .blk 190 [.v (.vec .u32 64)], .blk 190 [.v (.vec .u32 64)],vi]
 | _=>[]
abbrev R5: ∀ k,bT.V->TupD D (FK k)->bT.V
 | 1,c,t=> {c with b0:=t.1,v2:=t.2.1.1,w3:=t.2.2.1.1,v9:=t.2.2.2.1}
 | 2,c,t=> {c with b0:=t.1,v2:=t.2.1.1,w3:=t.2.2.1.1,v9:=t.2.2.2.1}
 | _,c,_=>c
abbrev R6: ∀ k,bT.V->TupD D (FK k)
 | 1,c=>(c.b0,(c.v2,()),(c.w3,()),c.v9,())
 | 2,c=>(c.b0,(c.v2,()),(c.w3,()),c.v9,())
 | 0,c=>()
 | _+3,c=>()
abbrev NF (Q:bT.QT):Nat->List (bT.V->Prop)->bT.V->Prop
 | 1,[S1],c=>bT.B1 S1 Q c
 | 2,[S1],c=>bT.K2 S1 Q c
 | _,_,_=>False
abbrev R7 (Q:QT yE):Pts D:=Pts.gZ FK R5 R6 (by intro k b t; match k,t with | 0,t | 1,t | 2,t | _+3,t=>rfl) (fun σ=>NF (fun r0=>Q (r0,()) (()) σ))
abbrev NG:Ctrs D:=((122,yE)::ND)
abbrev yF:Ctr D:= {ps:=[],rs:=[.val (.vec .u32 64)],bk:=[],sg:=false,P:=fun x σ Q=>mh (fun r0=>Q (r0,()) (()) σ)}
noncomputable def Yg:Code:=Tryz.f123.body.getD .skip
def Yh:Ann:=(sl s2)
abbrev R8 (Q:QT yF):Pts D:=Pts.no
abbrev NH:Ctrs D:=((123,yF)::NG)
abbrev yG:Ctr D:= {ps:=[.val (.vec .u32 8),rb],rs:=[.val (.vec .u32 8)],bk:=[],sg:=false,P:=fun x σ Q=>bU x.1 x.2.1 (fun r0=>Q (r0,()) (()) σ)}
noncomputable def Yi:Code:=Tryz.f113.body.getD .skip
def Yj:Ann:=(sl (sl (sl (.seq (sl (.block (.loop 1 [2,4,5,6,7,18] (sl (.seq (.cond lf lf) (.seq (.block (sl (.seq (.plan (.take 0 [] (.take 1 [] (.take 2 [] (.take 3 [] (.take 4 [] (.take 5 [] .done))))))) (.seq (.plan (.take 0 [] (.take 1 [] (.take 2 [3,5,8] (.take 4 [5,8] (.take 7 [8] (.take 11 [] (.take 12 [] (.take 13 [] (.take 14 [] (.take 15 [] (.take 16 [] (.take 17 [] (.take 18 [] (.take 19 [] (.take 20 [] (.take 22 [] (.take 23 [] (.take 24 [] (.take 26 [] (.take 27 [] (.take 28 [] (.all (.alt 3 (.all (.alt 5 (.take 6 [] (.all (.alt 8 (.take 9 [] (.take 10 [] (.take 21 [] (.take 25 [] (.take 29 [] (.take 30 [] .done)))))) .nil))) .nil)) .nil)))))))))))))))))))))))) (.seq (.plan (.take 0 [1,3,6] (.take 2 [3,6] (.take 5 [6] (.take 8 [] (.take 9 [] (.take 10 [] (.take 11 [] (.take 12 [] (.take 13 [] (.take 14 [] (.take 15 [] (.take 16 [] (.take 17 [] (.take 18 [] (.take 19 [] (.take 20 [] (.take 21 [] (.take 22 [] (.all (.alt 1 (.all (.alt 3 (.take 4 [] (.all (.alt 6 (.take 7 [] (.take 23 [] (.take 24 [] .done))) .nil))) .nil)) .nil))))))))))))))))))))) (.seq (.plan (.take 0 [2] (.take 1 [2] (.all (.alt 2 .done .nil))))) s2)))))) lf)))))) (.seq (sl (.block (.loop 2 [2,4,7,92] (sl (.seq (.cond lf lf) (.seq (.block (sl (.plan (.take 0 [8] (.take 1 [8] (.take 2 [8] (.take 3 [8] (.take 4 [8] (.take 5 [8] (.take 6 [8] (.take 7 [8] (.all (.alt 8 .done .nil))))))))))))) lf)))))) s2)))))
abbrev FL:Nat->List Ds
 | 1=>[.blk 163 [.v (.vec .u32 8)], .blk 163 [.v (.vec .u32 8)], .blk 190 [.v (.vec .u32 64)], .blk 190 [.v (.vec .u32 64)], .blk 163 [.v (.vec .u32 8)],vi]
 | 2=>[.blk 163 [.v (.vec .u32 8)], .blk 163 [.v (.vec .u32 8)], .blk 163 [.v (.vec .u32 8)],vi]
 | _=>[]
abbrev R9: ∀ k,bU.V->TupD D (FL k)->bU.V
 | 1,c,t=> {c with h2:=t.1.1,v4:=t.2.1.1,w5:=t.2.2.1.1,k6:=t.2.2.2.1.1,x7:=t.2.2.2.2.1.1,iE:=t.2.2.2.2.2.1}
 | 2,c,t=> {c with h2:=t.1.1,v4:=t.2.1.1,x7:=t.2.2.1.1,zV:=t.2.2.2.1}
 | _,c,_=>c
abbrev Sa: ∀ k,bU.V->TupD D (FL k)
 | 1,c=>((c.h2,()),(c.v4,()),(c.w5,()),(c.k6,()),(c.x7,()),c.iE,())
 | 2,c=>((c.h2,()),(c.v4,()),(c.x7,()),c.zV,())
 | 0,c=>()
 | _+3,c=>()
abbrev NJ (Q:bU.QT):Nat->List (bU.V->Prop)->bU.V->Prop
 | 1,[S1],c=>bU.B1 S1 Q c
 | 2,[S2],c=>bU.B2 S2 Q c
 | _,_,_=>False
abbrev Sb (Q:QT yG):Pts D:=Pts.gZ FL R9 Sa (by intro k b t; match k,t with | 0,t | 1,t | 2,t | _+3,t=>rfl) (fun σ=>NJ (fun r0=>Q (r0,()) (()) σ))
abbrev Yk:Ctrs D:=((113,yG)::NH)
abbrev FM:Ctr D:= {ps:=[.val (.st 1),rb],rs:=[.val (.st 1)],bk:=[],sg:=false,P:=fun x σ Q=>aQ x.1 x.2.1 (fun r0=>Q (r0,()) (()) σ)}
noncomputable def c98:Code:=Tryz.f98.body.getD .skip
def A98:Ann:=(sl (.join 3 [1,2,4] (.join 1 [1,2,4,17] lf (.cond lf lf)) (sl (sl (.seq (.block (.loop 2 [2,4,5] (.seq (sl (.cond lf lf)) (.block (.seq (.plan (.take 0 [4,6] (.take 1 [4,6] (.take 2 [4,6] (.take 3 [4,6] (.all (.alt 4 (.take 5 [6] (.all (.alt 6 .done .nil))) .nil))))))) lf))))) (sl s2))))))
abbrev NK:Nat->List Ds
 | 3=>[rb, .blk 165 [.v (.st 1)], .blk 165 [.v (.vec .u32 8), .own (.int .u8), .v (.int .u64)]]
 | 1=>[rb, .blk 165 [.v (.st 1)], .blk 165 [.v (.vec .u32 8), .own (.int .u8), .v (.int .u64)],vb]
 | 2=>[.blk 165 [.v (.st 1)], .blk 165 [.v (.vec .u32 8), .own (.int .u8), .v (.int .u64)], .own (.int .u8)]
 | _=>[]
abbrev Ym: ∀ k,aQ.V->TupD D (NK k)->aQ.V
 | 3,c,t=> {c with b1:=t.1,s2:=t.2.1.1,v4:=⟨t.2.2.1.1,t.2.2.1.2.1,t.2.2.1.2.2.1⟩}
 | 1,c,t=> {c with b1:=t.1,s2:=t.2.1.1,v4:=⟨t.2.2.1.1,t.2.2.1.2.1,t.2.2.1.2.2.1⟩,mI:=t.2.2.2.1}
 | 2,c,t=> {c with s2:=t.1.1,v4:=⟨t.2.1.1,t.2.1.2.1,t.2.1.2.2.1⟩,jq:=t.2.2.1}
 | _,c,_=>c
abbrev Yn: ∀ k,aQ.V->TupD D (NK k)
 | 3,c=>(c.b1,(c.s2,()),(c.v4.h,c.v4.rest,c.v4.n,()),())
 | 1,c=>(c.b1,(c.s2,()),(c.v4.h,c.v4.rest,c.v4.n,()),c.mI,())
 | 2,c=>((c.s2,()),(c.v4.h,c.v4.rest,c.v4.n,()),c.jq,())
 | 0,c=>()
 | _+4,c=>()
abbrev Sc (Q:aQ.QT):Nat->List (aQ.V->Prop)->aQ.V->Prop
 | 3,[],c=>aQ.K3 Q c
 | 1,[],c=>aQ.K1 Q c
 | 2,[S2],c=>aQ.B2 S2 Q c
 | _,_,_=>False
abbrev Yo (Q:QT FM):Pts D:=Pts.gZ NK Ym Yn (by intro k b t; match k,t with | 0,t | 1,t | 2,t | 3,t | _+4,t=>rfl) (fun σ=>Sc (fun r0=>Q (r0,()) (()) σ))
abbrev Yp:Ctrs D:=((98,FM)::Yk)
abbrev FN:Ctr D:= {ps:=[.val (.st 1)],rs:=[.val (.vec .u8 32)],bk:=[],sg:=false,P:=fun x σ Q=>aY x.1 (fun r0=>Q (r0,()) (()) σ)}
noncomputable def c99:Code:=Tryz.f99.body.getD .skip
def A99:Ann:=(sl (sl (.seq (.block (.loop 1 [1,2,3] (.seq (sl (.cond lf lf)) (.block lf)))) (.seq (sl (.block (.loop 2 [1,2,3,21] (sl (.seq (.cond lf lf) (.seq (.block s2) lf)))))) (sl (sl (.seq (sl (.block (.loop 3 [2,5,6,39] (sl (.seq (.cond lf lf) (.seq (.block s2) lf)))))) s2)))))))
abbrev NL:Nat->List Ds
 | 1=>[.blk 165 [.v (.st 1)], .blk 22 [.v (.vec .u8 32)], .own (.int .u8)]
 | 2=>[.blk 165 [.v (.st 1)], .blk 22 [.v (.vec .u8 32)], .own (.int .u8),vi]
 | 3=>[.blk 22 [.v (.vec .u8 32)], .blk 165 [.v (.st 1)], .blk 22 [.v (.vec .u8 32)],vi]
 | _=>[]
abbrev Yq: ∀ k,aY.V->TupD D (NL k)->aY.V
 | 1,c,t=> {c with s1:=t.1.1,v2:=t.2.1.1,mL:=t.2.2.1}
 | 2,c,t=> {c with s1:=t.1.1,v2:=t.2.1.1,mL:=t.2.2.1,oc:=t.2.2.2.1}
 | 3,c,t=> {c with v2:=t.1.1,pJ:=t.2.1.1,d6:=t.2.2.1.1,mZ:=t.2.2.2.1}
 | _,c,_=>c
abbrev Yr: ∀ k,aY.V->TupD D (NL k)
 | 1,c=>((c.s1,()),(c.v2,()),c.mL,())
 | 2,c=>((c.s1,()),(c.v2,()),c.mL,c.oc,())
 | 3,c=>((c.v2,()),(c.pJ,()),(c.d6,()),c.mZ,())
 | 0,c=>()
 | _+4,c=>()
abbrev Se (Q:aY.QT):Nat->List (aY.V->Prop)->aY.V->Prop
 | 1,[S1],c=>aY.B1 S1 Q c
 | 2,[S2],c=>aY.B2 S2 Q c
 | 3,[S3],c=>aY.B3 S3 Q c
 | _,_,_=>False
abbrev Ys (Q:QT FN):Pts D:=Pts.gZ NL Yq Yr (by intro k b t; match k,t with | 0,t | 1,t | 2,t | 3,t | _+4,t=>rfl) (fun σ=>Se (fun r0=>Q (r0,()) (()) σ))
abbrev VY:Ctrs D:=((99,FN)::Yp)
abbrev yH:Ctr D:= {ps:=[.rd (.list (.int .u8))],rs:=[.val (.vec .u8 32)],bk:=[],sg:=false,P:=fun x σ Q=>cx x.1 (fun r0=>Q (r0,()) (()) σ)}
noncomputable def c84:Code:=Tryz.f84.body.getD .skip
def A84:Ann:=(sl (sl (.seq (sl (.block (.loop 1 [2,3,7,8,9] (sl (.seq (.cond lf lf) (.seq (.block s2) lf)))))) s2)))
abbrev NM:Nat->List Ds
 | 1=>[.blk 22 [.v (.vec .u8 32)], .blk 165 [.v (.st 1)], .rd (.list (.int .u8)),vi,vi]
 | _=>[]
abbrev Yt: ∀ k,cx.V->TupD D (NM k)->cx.V
 | 1,c,t=> {c with v2:=t.1.1,s3:=t.2.1.1,v7:=t.2.2.1,v8:=t.2.2.2.1,v9:=t.2.2.2.2.1}
 | _,c,_=>c
abbrev Yu: ∀ k,cx.V->TupD D (NM k)
 | 1,c=>((c.v2,()),(c.s3,()),c.v7,c.v8,c.v9,())
 | 0,c=>()
 | _+2,c=>()
abbrev Sf (Q:cx.QT):Nat->List (cx.V->Prop)->cx.V->Prop
 | 1,[S1],c=>cx.B1 S1 Q c
 | _,_,_=>False
abbrev Yv (Q:QT yH):Pts D:=Pts.gZ NM Yt Yu (by intro k b t; match k,t with | 0,t | 1,t | _+2,t=>rfl) (fun σ=>Sf (fun r0=>Q (r0,()) (()) σ))
abbrev J1:Ctr D:= {ps:=[.val .ptr, .val (.list (.int .u8))],rs:=[.val (.vec .u8 32)],bk:=[],sg:=true,P:=fun x o Q=>match o with
 | some σ=>aP x.1 x.2.1 σ (fun r0 σ1=>Q (r0,()) (()) (some σ1))
 | none=>False}
abbrev Yw:Ctrs D:=((64,J1)::((84,yH)::VY))
abbrev FO:Ctr D:= {ps:=[.val .ptr, .val (.vec .u8 32),vu,vi,vi,rb],rs:=[.val (.list (.int .u8)), .val (.st 2),vi],bk:=[],sg:=true,P:=fun x o Q=>match o with
 | some σ=>cB x.1 x.2.1 x.2.2.1 x.2.2.2.1 x.2.2.2.2.1 x.2.2.2.2.2.1 σ (fun r0 r1 r2 σ1=>Q (r0,r1,r2,()) (()) (some σ1))
 | none=>False}
noncomputable def c35:Code:=Tryz.f35.body.getD .skip
def A35:Ann:=(sl (sl (.seq (.join 1 [0,2,3,13,15,31] lf (.cond s2 lf)) s2)))
abbrev NN:Nat->List Ds
 | 1=>[.val .ptr,vu,vi, .blk 31 [.v (.st 2)], .own (.int .u8),vb]
 | _=>[]
abbrev Yx: ∀ k,cB.V->TupD D (NN k)->cB.V
 | 1,c,t=> {c with b0:=t.1,fW:=t.2.1,jd:=t.2.2.1,iP:=t.2.2.2.1.1,KZ:=t.2.2.2.2.1,Mz:=t.2.2.2.2.2.1}
 | _,c,_=>c
abbrev Yy: ∀ k,cB.V->TupD D (NN k)
 | 1,c=>(c.b0,c.fW,c.jd,(c.iP,()),c.KZ,c.Mz,())
 | 0,c=>()
 | _+2,c=>()
abbrev Sg (Q:cB.QT):Nat->List (cB.V->St Pt.Obj->Prop)->cB.V->St Pt.Obj->Prop
 | 1,[],c,σ=>cB.K1 Q c σ
 | _,_,_,_=>False
abbrev Yz (Q:QT FO):Pts D:=Pts.mkS NN Yx Yy (by intro k b t; match k,t with | 0,t | 1,t | _+2,t=>rfl) (Sg (fun r0 r1 r2 σ1=>Q (r0,r1,r2,()) (()) (some σ1)))
abbrev YA:Ctrs D:=((35,FO)::Yw)
abbrev FP:Ctr D:= {ps:=[rb, .blk 48 [.v (.st 0)], .blk 56 [.own (.st 2)], .blk 86 [.v .ptr], .blk 22 [.v (.vec .u8 32)], .blk 23 [.v (.int .u32)], .blk 29 [.own (.st 3)]],rs:=[],bk:=[(1, .blk 48 [.v (.st 0)]),(2, .blk 56 [.own (.st 2)]),(3, .blk 86 [.v .ptr]),(4, .blk 22 [.v (.vec .u8 32)]),(5, .blk 23 [.v (.int .u32)]),(6, .blk 29 [.own (.st 3)])],sg:=true,P:=fun x o Q=>match o with
 | some σ=>iG x.1 x.2.1.1 x.2.2.1.1 x.2.2.2.1.1 x.2.2.2.2.1.1 x.2.2.2.2.2.1.1 x.2.2.2.2.2.2.1.1 σ (fun z1 z5 σ1=>Q (()) (x.2.1,(z1,()),x.2.2.2.1,x.2.2.2.2.1,x.2.2.2.2.2.1,(z5,()),()) (some σ1))
 | none=>False}
noncomputable def c33:Code:=Tryz.f33.body.getD .skip
def A33:Ann:=(sl (sl s2))
abbrev YB (Q:QT FP):Pts D:=Pts.no
abbrev YC:Ctrs D:=((33,FP)::YA)
abbrev FQ:Ctr D:= {ps:=[.val (.st 0),vi],rs:=[.own (.int .i64)],bk:=[],sg:=false,P:=fun x σ Q=>bA x.1 x.2.1 (fun r0=>Q (r0,()) (()) σ)}
noncomputable def c36:Code:=Tryz.f36.body.getD .skip
def A36:Ann:=(sl (sl (.seq (sl (.cond s2 lf)) (.seq (.plan (.take 0 [] (.take 1 [] (.take 2 [] (.take 3 [] (.take 4 [] (.take 5 [] (.take 6 [] (.take 7 [] (.take 8 [] (.take 9 [] (.take 10 [] (.take 11 [] (.take 12 [] (.take 13 [] (.take 14 [] (.take 15 [] .done))))))))))))))))) (sl (.seq (sl (.block (.loop 1 [2,5,6,7,8] (.seq (sl (.cond lf lf)) (.seq (.block lf) lf))))) s2))))))
abbrev NO:Nat->List Ds
 | 1=>[.blk 48 [.v (.st 0)],vi,vi, .own (.int .i64),vi]
 | _=>[]
abbrev YD: ∀ k,bA.V->TupD D (NO k)->bA.V
 | 1,c,t=> {c with s2:=t.1.1,qW:=t.2.1,eX:=t.2.2.1,l7:=t.2.2.2.1,k8:=t.2.2.2.2.1}
 | _,c,_=>c
abbrev YE: ∀ k,bA.V->TupD D (NO k)
 | 1,c=>((c.s2,()),c.qW,c.eX,c.l7,c.k8,())
 | 0,c=>()
 | _+2,c=>()
abbrev Sh (Q:bA.QT):Nat->List (bA.V->Prop)->bA.V->Prop
 | 1,[S1],c=>bA.B1 S1 Q c
 | _,_,_=>False
abbrev YF (Q:QT FQ):Pts D:=Pts.gZ NO YD YE (by intro k b t; match k,t with | 0,t | 1,t | _+2,t=>rfl) (fun σ=>Sh (fun r0=>Q (r0,()) (()) σ))
abbrev NP:Ctrs D:=((36,FQ)::YC)
abbrev yI:Ctr D:= {ps:=[vi],rs:=[vi],bk:=[],sg:=false,P:=fun x σ Q=>gu x.1 (fun r0=>Q (r0,()) (()) σ)}
noncomputable def YG:Code:=Tryz.f100.body.getD .skip
def YI:Ann:=(sl s2)
abbrev Si (Q:QT yI):Pts D:=Pts.no
abbrev YJ:Ctrs D:=((100,yI)::NP)
abbrev FU:Ctr D:= {ps:=[rb, .val (.int .u64),vi],rs:=[.own (.int .u8)],bk:=[],sg:=false,P:=fun x σ Q=>bJ x.1 x.2.1 x.2.2.1 (fun r0=>Q (r0,()) (()) σ)}
noncomputable def c85:Code:=Tryz.f85.body.getD .skip
def A85:Ann:=(sl (sl (.seq (sl (.block (.join 7 [1,7] (.block (.join 6 [1,7] (.block (.join 5 [1,7] (.block (.join 4 [1,7] (.block (.join 3 [1,7] (.block (.join 2 [1,7] (.block (.join 1 [1,7] (.block (.seq (.block (.seq (.seq (sl (.cond lf lf)) (.seq (sl (.cond lf lf)) (.seq (sl (.cond lf lf)) (.seq (sl (.cond lf lf)) (.seq (sl (.cond lf lf)) (.seq (sl (.cond lf lf)) (sl (.cond lf lf)))))))) lf)) s2)) s2)) s2)) s2)) s2)) s2)) s2)) s2))) s2)))
abbrev NQ:Nat->List Ds
 | 7=>[.val (.int .u64), .own (.int .u8)]
 | 6=>[.val (.int .u64), .own (.int .u8)]
 | 5=>[.val (.int .u64), .own (.int .u8)]
 | 4=>[.val (.int .u64), .own (.int .u8)]
 | 3=>[.val (.int .u64), .own (.int .u8)]
 | 2=>[.val (.int .u64), .own (.int .u8)]
 | 1=>[.val (.int .u64), .own (.int .u8)]
 | _=>[]
abbrev YK: ∀ k,bJ.V->TupD D (NQ k)->bJ.V
 | 7,c,t=> {c with n1:=t.1,dx:=t.2.1}
 | 6,c,t=> {c with n1:=t.1,dx:=t.2.1}
 | 5,c,t=> {c with n1:=t.1,dx:=t.2.1}
 | 4,c,t=> {c with n1:=t.1,dx:=t.2.1}
 | 3,c,t=> {c with n1:=t.1,dx:=t.2.1}
 | 2,c,t=> {c with n1:=t.1,dx:=t.2.1}
 | 1,c,t=> {c with n1:=t.1,dx:=t.2.1}
 | _,c,_=>c
abbrev YL: ∀ k,bJ.V->TupD D (NQ k)
 | 7,c=>(c.n1,c.dx,())
 | 6,c=>(c.n1,c.dx,())
 | 5,c=>(c.n1,c.dx,())
 | 4,c=>(c.n1,c.dx,())
 | 3,c=>(c.n1,c.dx,())
 | 2,c=>(c.n1,c.dx,())
 | 1,c=>(c.n1,c.dx,())
 | 0,c=>()
 | _+8,c=>()
abbrev Sj (Q:bJ.QT):Nat->List (bJ.V->Prop)->bJ.V->Prop
 | 7,[],c=>bJ.K7 Q c
 | 6,[],c=>bJ.K6 Q c
 | 5,[],c=>bJ.K5 Q c
 | 4,[],c=>bJ.K4 Q c
 | 3,[],c=>bJ.K3 Q c
 | 2,[],c=>bJ.K2 Q c
 | 1,[],c=>bJ.K1 Q c
 | _,_,_=>False
abbrev YM (Q:QT FU):Pts D:=Pts.gZ NQ YK YL (by intro k b t; match k,t with | 0,t | 1,t | 2,t | 3,t | 4,t | 5,t | 6,t | 7,t | _+8,t=>rfl) (fun σ=>Sj (fun r0=>Q (r0,()) (()) σ))
abbrev YN:Ctrs D:=((85,FU)::YJ)
abbrev FV:Ctr D:= {ps:=[.val (.st 2)],rs:=[.own (.int .u8)],bk:=[],sg:=false,P:=fun x σ Q=>nw x.1 (fun r0=>Q (r0,()) (()) σ)}
noncomputable def c65:Code:=Tryz.f65.body.getD .skip
def A65:Ann:=(sl (.seq (.plan (.take 0 [3,7,10] (.take 1 [3,7,10] (.take 2 [3,7,10] (.take 4 [7,10] (.take 5 [7,10] (.take 6 [7,10] (.take 8 [10] (.take 9 [10] (.all (.alt 3 (.all (.alt 7 (.all (.alt 10 (.take 11 [] .done) .nil)) .nil)) .nil))))))))))) lf))
abbrev YO (Q:QT FV):Pts D:=Pts.no
abbrev YP:Ctrs D:=((65,FV)::YN)
abbrev FW:Ctr D:= {ps:=[rb,vi],rs:=[.own (.int .u8),vi],bk:=[],sg:=false,P:=fun x σ Q=>oB x.1 x.2.1 (fun r0 r1=>Q (r0,r1,()) (()) σ)}
noncomputable def c66:Code:=Tryz.f66.body.getD .skip
def A66:Ann:=(sl (.seq (sl (.cond s2 lf)) s2))
abbrev YQ (Q:QT FW):Pts D:=Pts.no
abbrev YR:Ctrs D:=((66,FW)::YP)
abbrev FX:Ctr D:= {ps:=[.rd (.st 2)],rs:=[.own (.int .u8),vi],bk:=[],sg:=false,P:=fun x σ Q=>cq x.1 (fun r0 r1=>Q (r0,r1,()) (()) σ)}
noncomputable def c37:Code:=Tryz.f37.body.getD .skip
def A37:Ann:=(sl (.seq (.join 1 [0,14] lf (.cond s2 lf)) (sl (.seq (sl (.block (.loop 2 [4,19,20,21] (sl (.seq (.cond lf lf) (.seq (.block (sl (.seq (.join 3 [4,6,19,20,21,32] lf (.cond s2 lf)) lf))) lf)))))) s2))))
abbrev NR:Nat->List Ds
 | 1=>[.rd (.st 2),vb]
 | 2=>[.own (.int .u8), .rd (.st 2),vi,vi]
 | 3=>[.own (.int .u8), .blk 31 [.v (.st 2)], .rd (.st 2),vi,vi,vb]
 | _=>[]
abbrev YS: ∀ k,cq.V->TupD D (NR k)->cq.V
 | 1,c,t=> {c with kD:=t.1,l9:=t.2.1}
 | 2,c,t=> {c with b4:=t.1,pH:=t.2.1,v20:=t.2.2.1,oc:=t.2.2.2.1}
 | 3,c,t=> {c with b4:=t.1,r6:=t.2.1.1,pH:=t.2.2.1,v20:=t.2.2.2.1,oc:=t.2.2.2.2.1,DJ:=t.2.2.2.2.2.1}
 | _,c,_=>c
abbrev YT: ∀ k,cq.V->TupD D (NR k)
 | 1,c=>(c.kD,c.l9,())
 | 2,c=>(c.b4,c.pH,c.v20,c.oc,())
 | 3,c=>(c.b4,(c.r6,()),c.pH,c.v20,c.oc,c.DJ,())
 | 0,c=>()
 | _+4,c=>()
abbrev Sk (Q:cq.QT):Nat->List (cq.V->Prop)->cq.V->Prop
 | 1,[],c=>cq.K1 Q c
 | 2,[S2],c=>cq.B2 S2 Q c
 | 3,[S2],c=>cq.K3 S2 Q c
 | _,_,_=>False
abbrev YU (Q:QT FX):Pts D:=Pts.gZ NR YS YT (by intro k b t; match k,t with | 0,t | 1,t | 2,t | 3,t | _+4,t=>rfl) (fun σ=>Sk (fun r0 r1=>Q (r0,r1,()) (()) σ))
abbrev AS:Ctrs D:=((37,FX)::YR)
abbrev yJ (b:Unit):=((fun x0 _ K=>gz x0 (fun r=>K r ())):(List Int)->Unit->(Bool->Unit->Prop)->Prop)
abbrev nU:Ctr D:= {ps:=[.rd (.list (.int .u8)), .fn 31 []],rs:=[vi],bk:=[],sg:=false,P:=fun x σ Q=>aC (yJ ()) x.1 () (fun r0 _=>Q (r0,()) () σ)}
noncomputable def NS:Code:=Tryz.f60.body.getD .skip
def NT:Ann:=(sl (.seq (sl (.block (.loop 1 [0,1,7,8] (sl (.seq (.cond lf lf) (.seq (.block (sl (sl (.cond s2 lf)))) lf)))))) s2))
abbrev wj:Nat->List Ds
 | 1=>[.rd (.list (.int .u8)), .fn 31 [],vi,vi]
 | _=>[]
abbrev J4: ∀ k,aC.V × Unit->TupD D (wj k)->aC.V × Unit
 | 1,c,t=>({c.1 with s0:=t.1,v7:=t.2.2.1,v8:=t.2.2.2.1},())
 | _,c,_=>c
abbrev J5: ∀ k,aC.V × Unit->TupD D (wj k)
 | 1,c=>(c.1.s0,(()),c.1.v7,c.1.v8,())
 | 0,c=>()
 | _+2,c=>()
abbrev FY (Q:aC.QT Unit) (b:Unit):Nat->List (aC.V->Unit->Prop)->aC.V->Unit->Prop
 | 1,[S1],c,z=>aC.B1 (yJ b) S1 Q c z
 | _,_,_,_=>False
abbrev J6 (Q:QT nU):Pts D:=Pts.mkB wj J4 J5 (by intro k b t; match k,t with | 0,t | 1,t | _+2,t=>rfl) (fun b σ=>FY (fun r0 _=>Q (r0,()) () σ) b)
abbrev AT:Ctrs D:=((60,nU)::AS)
abbrev FZ (b:Unit):=((fun x0 _ K=>gz x0 (fun r=>K r ())):(List Int)->Unit->(Bool->Unit->Prop)->Prop)
abbrev nV:Ctr D:= {ps:=[.rd (.list (.int .u8)), .fn 31 []],rs:=[vb],bk:=[],sg:=false,P:=fun x σ Q=>cR (FZ ()) x.1 () (fun r0 _=>Q (r0,()) () σ)}
noncomputable def NU:Code:=Tryz.f32.body.getD .skip
def NV:Ann:=(sl s2)
abbrev J7 (Q:QT nV):Pts D:=Pts.no
abbrev C9:Ctrs D:=((32,nV)::AT)
abbrev Sm:Ctr D:= {ps:=[.val .ptr, .val (.vec .u8 32),vu, .rd (.list (.int .u8))],rs:=[.own (.st 3), .val (.st 2),vi],bk:=[],sg:=true,P:=fun x o Q=>match o with
 | some σ=>bR x.1 x.2.1 x.2.2.1 x.2.2.2.1 σ (fun r0 r1 r2 σ1=>Q (r0,r1,r2,()) (()) (some σ1))
 | none=>False}
noncomputable def c9:Code:=Tryz.f9.body.getD .skip
def A9:Ann:=(sl (sl (sl (.seq (.join 1 [3,4,5,6,9,11,35] lf (.cond s2 lf)) (sl (sl (sl (.seq (sl (.block (.loop 2 [3,9,11,14,15,16,38,39,40,4,5,6] (sl (.seq (.cond lf lf) (.seq (.block s2) lf)))))) (.seq (sl (.block (.loop 3 [9,11,14,15,16,19,4,5,6] (.seq (sl (.cond lf lf)) (.seq (.block (sl (.seq (.plan (.take 0 [11] (.take 1 [11] (.take 2 [11] (.take 3 [11] (.take 4 [11] (.take 5 [11] (.take 6 [11] (.take 7 [11] (.take 8 [11] (.take 9 [11] (.take 10 [11] (.all (.alt 11 (.take 12 [] (.take 13 [] (.take 14 [] (.take 15 [] (.take 16 [] .done))))) .nil)))))))))))))) lf))) lf))))) (.seq (.plan (.take 0 [8] (.take 1 [8] (.take 2 [8] (.take 3 [8] (.take 4 [8] (.take 5 [8] (.take 6 [8] (.take 7 [8] (.all (.alt 8 (.take 9 [] .done) .nil))))))))))) lf))))))))))
abbrev YV:Nat->List Ds
 | 1=>[.rd (.list (.int .u8)), .blk 86 [.v .ptr], .blk 22 [.v (.vec .u8 32)], .blk 23 [.v (.int .u32)], .blk 31 [.v (.st 2)], .blk 48 [.v (.st 0)],vb]
 | 2=>[.rd (.list (.int .u8)), .blk 31 [.v (.st 2)], .blk 48 [.v (.st 0)], .blk 29 [.own (.st 3)], .blk 56 [.own (.st 2)], .al 33 [2,4,9,10,11,3], .rd (.list (.int .u8)),vi,vi, .blk 86 [.v .ptr], .blk 22 [.v (.vec .u8 32)], .blk 23 [.v (.int .u32)]]
 | 3=>[.blk 31 [.v (.st 2)], .blk 48 [.v (.st 0)], .blk 29 [.own (.st 3)], .blk 56 [.own (.st 2)], .al 33 [1,3,6,7,8,2],vi, .blk 86 [.v .ptr], .blk 22 [.v (.vec .u8 32)], .blk 23 [.v (.int .u32)]]
 | _=>[]
abbrev up9: ∀ k,bR.V->TupD D (YV k)->bR.V
 | 1,c,t=> {c with eR:=t.1,b4:=t.2.1.1,vv:=t.2.2.1.1,j6:=t.2.2.2.1.1,v9:=t.2.2.2.2.1.1,qg:=t.2.2.2.2.2.1.1,fM:=t.2.2.2.2.2.2.1}
 | 2,c,t=> {c with eR:=t.1,v9:=t.2.1.1,qg:=t.2.2.1.1,fX:=t.2.2.2.1.1,eS:=t.2.2.2.2.1.1,w9:=t.2.2.2.2.2.2.1,mZ:=t.2.2.2.2.2.2.2.1,DK:=t.2.2.2.2.2.2.2.2.1,iT:=t.2.2.2.2.2.2.2.2.2.1.1,iU:=t.2.2.2.2.2.2.2.2.2.2.1.1,iV:=t.2.2.2.2.2.2.2.2.2.2.2.1.1}
 | 3,c,t=> {c with v9:=t.1.1,qg:=t.2.1.1,fX:=t.2.2.1.1,eS:=t.2.2.2.1.1,iM:=t.2.2.2.2.2.1,iT:=t.2.2.2.2.2.2.1.1,iU:=t.2.2.2.2.2.2.2.1.1,iV:=t.2.2.2.2.2.2.2.2.1.1}
 | _,c,_=>c
abbrev ls9: ∀ k,bR.V->TupD D (YV k)
 | 1,c=>(c.eR,(c.b4,()),(c.vv,()),(c.j6,()),(c.v9,()),(c.qg,()),c.fM,())
 | 2,c=>(c.eR,(c.v9,()),(c.qg,()),(c.fX,()),(c.eS,()),(),c.w9,c.mZ,c.DK,(c.iT,()),(c.iU,()),(c.iV,()),())
 | 3,c=>((c.v9,()),(c.qg,()),(c.fX,()),(c.eS,()),(),c.iM,(c.iT,()),(c.iU,()),(c.iV,()),())
 | 0,c=>()
 | _+4,c=>()
abbrev YW (Q:bR.QT):Nat->List (bR.V->St Pt.Obj->Prop)->bR.V->St Pt.Obj->Prop
 | 1,[],c,σ=>bR.K1 Q c σ
 | 2,[S2],c,σ=>bR.B2 S2 Q c σ
 | 3,[S3],c,σ=>bR.B3 S3 Q c σ
 | _,_,_,_=>False
abbrev pt9 (Q:QT Sm):Pts D:=Pts.mkS YV up9 ls9 (by intro k b t; match k,t with | 0,t | 1,t | 2,t | 3,t | _+4,t=>rfl) (YW (fun r0 r1 r2 σ1=>Q (r0,r1,r2,()) (()) (some σ1)))
abbrev YX:Ctrs D:=((9,Sm)::C9)
abbrev F4:Ctr D:= {ps:=[.val (.st 0)],rs:=[vi],bk:=[],sg:=false,P:=fun x σ Q=>dR x.1 (fun r0=>Q (r0,()) (()) σ)}
noncomputable def c22:Code:=Tryz.f22.body.getD .skip
def A22:Ann:=(sl (.seq (sl (.cond s2 lf)) s2))
abbrev YY (Q:QT F4):Pts D:=Pts.no
abbrev YZ:Ctrs D:=((22,F4)::YX)
abbrev F5:Ctr D:= {ps:=[vi],rs:=[.blk 106 [.own (.int .u8), .own (.st 4), .own (.list (.int .u8)), .own (.int .i64)],vi],bk:=[],sg:=false,P:=fun x σ Q=>dm x.1 (fun r0 r1=>Q ((r0.blocks,r0.waits,r0.cN,r0.trace,()),r1,()) (()) σ)}
noncomputable def c42:Code:=Tryz.f42.body.getD .skip
def A42:Ann:=(sl (.seq (.join 1 [0,9] lf (.cond s2 lf)) s2))
abbrev NW:Nat->List Ds
 | 1=>[vi,vb]
 | _=>[]
abbrev Y0: ∀ k,dm.V->TupD D (NW k)->dm.V
 | 1,c,t=> {c with c7:=t.1,v9:=t.2.1}
 | _,c,_=>c
abbrev Y5: ∀ k,dm.V->TupD D (NW k)
 | 1,c=>(c.c7,c.v9,())
 | 0,c=>()
 | _+2,c=>()
abbrev Sn (Q:dm.QT):Nat->List (dm.V->Prop)->dm.V->Prop
 | 1,[],c=>dm.K1 Q c
 | _,_,_=>False
abbrev Y6 (Q:QT F5):Pts D:=Pts.gZ NW Y0 Y5 (by intro k b t; match k,t with | 0,t | 1,t | _+2,t=>rfl) (fun σ=>Sn (fun r0 r1=>Q ((r0.blocks,r0.waits,r0.cN,r0.trace,()),r1,()) (()) σ))
abbrev Y7:Ctrs D:=((42,F5)::YZ)
abbrev F6:Ctr D:= {ps:=[.blk 106 [.own (.int .u8), .own (.st 4), .own (.list (.int .u8)), .own (.int .i64)]],rs:=[vi],bk:=[(0, .blk 106 [.own (.int .u8), .own (.st 4), .own (.list (.int .u8)), .own (.int .i64)])],sg:=false,P:=fun x σ Q=>fu (⟨x.1.1,x.1.2.1,x.1.2.2.1,x.1.2.2.2.1⟩) (fun r0 z0=>Q (r0,()) ((z0.blocks,z0.waits,z0.cN,z0.trace,()),()) σ)}
noncomputable def c72:Code:=Tryz.f72.body.getD .skip
def A72:Ann:=(sl (.seq (sl (.cond s2 lf)) s2))
abbrev Y8 (Q:QT F6):Pts D:=Pts.no
abbrev Y9:Ctrs D:=((72,F6)::Y7)
abbrev F7:Ctr D:= {ps:=[.blk 106 [.own (.int .u8), .own (.st 4), .own (.list (.int .u8)), .own (.int .i64)],vi],rs:=[vi],bk:=[(0, .blk 106 [.own (.int .u8), .own (.st 4), .own (.list (.int .u8)), .own (.int .i64)])],sg:=false,P:=fun x σ Q=>bQ x.2.1 (⟨x.1.1,x.1.2.1,x.1.2.2.1,x.1.2.2.2.1⟩) (fun r0 z0=>Q (r0,()) ((z0.blocks,z0.waits,z0.cN,z0.trace,()),()) σ)}
noncomputable def c52:Code:=Tryz.f52.body.getD .skip
def A52:Ann:=(sl (.seq (.block (sl (.cond s2 (.join 1 [9,0] lf (.cond s2 lf))))) s2))
abbrev NY:Nat->List Ds
 | 1=>[vb, .blk 106 [.own (.int .u8), .own (.st 4), .own (.list (.int .u8)), .own (.int .i64)]]
 | _=>[]
abbrev Za: ∀ k,bQ.V->TupD D (NY k)->bQ.V
 | 1,c,t=> {c with v9:=t.1,s0:=⟨t.2.1.1,t.2.1.2.1,t.2.1.2.2.1,t.2.1.2.2.2.1⟩}
 | _,c,_=>c
abbrev Zb: ∀ k,bQ.V->TupD D (NY k)
 | 1,c=>(c.v9,(c.s0.blocks,c.s0.waits,c.s0.cN,c.s0.trace,()),())
 | 0,c=>()
 | _+2,c=>()
abbrev So (Q:bQ.QT):Nat->List (bQ.V->Prop)->bQ.V->Prop
 | 1,[],c=>bQ.K1 Q c
 | _,_,_=>False
abbrev Zc (Q:QT F7):Pts D:=Pts.gZ NY Za Zb (by intro k b t; match k,t with | 0,t | 1,t | _+2,t=>rfl) (fun σ=>So (fun r0 z0=>Q (r0,()) ((z0.blocks,z0.waits,z0.cN,z0.trace,()),()) σ))
abbrev Zd:Ctrs D:=((52,F7)::Y9)
abbrev F8:Ctr D:= {ps:=[.blk 106 [.own (.int .u8), .own (.st 4), .own (.list (.int .u8)), .own (.int .i64)],vi],rs:=[],bk:=[(0, .blk 106 [.own (.int .u8), .own (.st 4), .own (.list (.int .u8)), .own (.int .i64)])],sg:=false,P:=fun x σ Q=>fK x.2.1 (⟨x.1.1,x.1.2.1,x.1.2.2.1,x.1.2.2.2.1⟩) (fun z0=>Q (()) ((z0.blocks,z0.waits,z0.cN,z0.trace,()),()) σ)}
noncomputable def c74:Code:=Tryz.f74.body.getD .skip
def A74:Ann:=(sl (sl (.cond lf lf)))
abbrev Ze (Q:QT F8):Pts D:=Pts.no
abbrev Zf:Ctrs D:=((74,F8)::Zd)
abbrev F9:Ctr D:= {ps:=[.blk 106 [.own (.int .u8), .own (.st 4), .own (.list (.int .u8)), .own (.int .i64)],vi,rb],rs:=[vi],bk:=[(0, .blk 106 [.own (.int .u8), .own (.st 4), .own (.list (.int .u8)), .own (.int .i64)])],sg:=false,P:=fun x σ Q=>gi x.2.1 x.2.2.1 (⟨x.1.1,x.1.2.1,x.1.2.2.1,x.1.2.2.2.1⟩) (fun r0 z0=>Q (r0,()) ((z0.blocks,z0.waits,z0.cN,z0.trace,()),()) σ)}
noncomputable def c71:Code:=Tryz.f71.body.getD .skip
def A71:Ann:=(sl (.seq (sl (.block (sl (.cond s2 (sl (.cond s2 lf)))))) (.seq (.plan (.take 0 [13] (.take 1 [10,13] (.take 2 [10,13] (.take 3 [10,13] (.take 4 [10,13] (.take 5 [9,10,13] (.take 6 [7,9,10,13] (.all (.alt 7 (.take 8 [9,10,13] (.all (.alt 9 (.all (.alt 10 (.take 11 [13] (.take 12 [13] (.all (.alt 13 .done .nil)))) .nil)) .nil))) .nil)))))))))) (sl s2))))
abbrev Zg (Q:QT F9):Pts D:=Pts.no
abbrev Zh:Ctrs D:=((71,F9)::Zf)
abbrev Ga:Ctr D:= {ps:=[.blk 106 [.own (.int .u8), .own (.st 4), .own (.list (.int .u8)), .own (.int .i64)], .rd (.st 3)],rs:=[vi],bk:=[(0, .blk 106 [.own (.int .u8), .own (.st 4), .own (.list (.int .u8)), .own (.int .i64)])],sg:=false,P:=fun x σ Q=>cM x.2.1 (⟨x.1.1,x.1.2.1,x.1.2.2.1,x.1.2.2.2.1⟩) (fun r0 z0=>Q (r0,()) ((z0.blocks,z0.waits,z0.cN,z0.trace,()),()) σ)}
noncomputable def c43:Code:=Tryz.f43.body.getD .skip
def A43:Ann:=(sl (.seq (sl (.block (.loop 1 [0,8,9,10] (sl (.seq (.cond lf lf) (.seq (.block (sl (sl (sl (.cond s2 lf))))) lf)))))) s2))
abbrev NZ:Nat->List Ds
 | 1=>[.blk 106 [.own (.int .u8), .own (.st 4), .own (.list (.int .u8)), .own (.int .i64)], .rd (.st 3),vi,vi]
 | _=>[]
abbrev Zi: ∀ k,cM.V->TupD D (NZ k)->cM.V
 | 1,c,t=> {c with ug:=⟨t.1.1,t.1.2.1,t.1.2.2.1,t.1.2.2.2.1⟩,v8:=t.2.1,v9:=t.2.2.1,v10:=t.2.2.2.1}
 | _,c,_=>c
abbrev Zj: ∀ k,cM.V->TupD D (NZ k)
 | 1,c=>((c.ug.blocks,c.ug.waits,c.ug.cN,c.ug.trace,()),c.v8,c.v9,c.v10,())
 | 0,c=>()
 | _+2,c=>()
abbrev Sq (Q:cM.QT):Nat->List (cM.V->Prop)->cM.V->Prop
 | 1,[S1],c=>cM.B1 S1 Q c
 | _,_,_=>False
abbrev Zk (Q:QT Ga):Pts D:=Pts.gZ NZ Zi Zj (by intro k b t; match k,t with | 0,t | 1,t | _+2,t=>rfl) (fun σ=>Sq (fun r0 z0=>Q (r0,()) ((z0.blocks,z0.waits,z0.cN,z0.trace,()),()) σ))
abbrev Zl:Ctrs D:=((43,Ga)::Zh)
abbrev Gb:Ctr D:= {ps:=[.blk 106 [.own (.int .u8), .v (.list (.st 4)), .own (.list (.int .u8)), .own (.int .i64)], .val (.st 4),vi],rs:=[],bk:=[(0, .blk 106 [.own (.int .u8), .v (.list (.st 4)), .own (.list (.int .u8)), .own (.int .i64)])],sg:=false,P:=fun x σ Q=>gK x.2.1 x.2.2.1 (⟨x.1.1,x.1.2.1,x.1.2.2.1,x.1.2.2.2.1⟩) (fun z0=>Q (()) ((z0.blocks,z0.waits,z0.cN,z0.trace,()),()) σ)}
noncomputable def c73:Code:=Tryz.f73.body.getD .skip
def A73:Ann:=(sl (.plan (.take 0 [12] (.take 1 [12] (.take 2 [12] (.take 3 [12] (.take 4 [12] (.take 5 [12] (.take 6 [12] (.take 7 [12] (.take 8 [12] (.take 9 [12] (.take 10 [12] (.take 11 [12] (.all (.alt 12 .done .nil))))))))))))))))
abbrev Zm (Q:QT Gb):Pts D:=Pts.no
abbrev Zn:Ctrs D:=((73,Gb)::Zl)
abbrev Gc:Ctr D:= {ps:=[.blk 106 [.own (.int .u8), .own (.st 4), .own (.list (.int .u8)), .own (.int .i64)]],rs:=[vi],bk:=[(0, .blk 106 [.own (.int .u8), .own (.st 4), .own (.list (.int .u8)), .own (.int .i64)])],sg:=false,P:=fun x σ Q=>bE (⟨x.1.1,x.1.2.1,x.1.2.2.1,x.1.2.2.2.1⟩) (fun r0 z0=>Q (r0,()) ((z0.blocks,z0.waits,z0.cN,z0.trace,()),()) σ)}
noncomputable def c44:Code:=Tryz.f44.body.getD .skip
def A44:Ann:=(sl (.seq (sl (.cond s2 lf)) (sl (.seq (sl (.block (.loop 1 [0,3,17,18,19] (sl (.seq (.cond lf lf) (.seq (.block s2) lf)))))) (sl (sl s2))))))
abbrev N0:Nat->List Ds
 | 1=>[.blk 106 [.own (.int .u8), .v (.list (.st 4)), .own (.list (.int .u8)), .own (.int .i64)],vi, .val (.list (.st 4)),vi,vi]
 | _=>[]
abbrev Zo: ∀ k,bE.V->TupD D (N0 k)->bE.V
 | 1,c,t=> {c with s0:=⟨t.1.1,t.1.2.1,t.1.2.2.1,t.1.2.2.2.1⟩,n3:=t.2.1,mI:=t.2.2.1,iE:=t.2.2.2.1,pH:=t.2.2.2.2.1}
 | _,c,_=>c
abbrev Zp: ∀ k,bE.V->TupD D (N0 k)
 | 1,c=>((c.s0.blocks,c.s0.waits,c.s0.cN,c.s0.trace,()),c.n3,c.mI,c.iE,c.pH,())
 | 0,c=>()
 | _+2,c=>()
abbrev Sr (Q:bE.QT):Nat->List (bE.V->Prop)->bE.V->Prop
 | 1,[S1],c=>bE.B1 S1 Q c
 | _,_,_=>False
abbrev Zq (Q:QT Gc):Pts D:=Pts.gZ N0 Zo Zp (by intro k b t; match k,t with | 0,t | 1,t | _+2,t=>rfl) (fun σ=>Sr (fun r0 z0=>Q (r0,()) ((z0.blocks,z0.waits,z0.cN,z0.trace,()),()) σ))
abbrev Zr:Ctrs D:=((44,Gc)::Zn)
abbrev Gd:Ctr D:= {ps:=[.val .ptr, .val (.vec .u8 32),vu, .rd (.list (.int .u8))],rs:=[.blk 106 [.own (.int .u8), .own (.st 4), .own (.list (.int .u8)), .own (.int .i64)], .val (.st 0), .val (.st 2),vb],bk:=[],sg:=true,P:=fun x o Q=>match o with
 | some σ=>bt x.1 x.2.1 x.2.2.1 x.2.2.2.1 σ (fun r0 r1 r2 r3 σ1=>Q ((r0.blocks,r0.waits,r0.cN,r0.trace,()),r1,r2,r3,()) (()) (some σ1))
 | none=>False}
noncomputable def c12:Code:=Tryz.f12.body.getD .skip
def A12:Ann:=(sl (sl (sl (sl (.seq (.join 1 [9,10,12,14,16,17,59] lf (.cond (.seq (.plan (.take 0 [3,4] (.take 1 [4] (.take 2 [3,4] (.all (.alt 3 (.all (.alt 4 (.take 5 [] .done) .nil)) .nil)))))) lf) lf)) (.seq (.plan (.take 0 [15,16] (.take 1 [15,16] (.take 2 [16] (.take 3 [5,9,15,16] (.take 4 [5,9,15,16] (.all (.alt 5 (.take 6 [9,15,16] (.take 7 [9,15,16] (.take 8 [9,15,16] (.take 10 [] (.take 11 [] (.all (.alt 9 (.take 12 [] (.take 13 [] (.take 14 [15,16] (.all (.alt 15 (.all (.alt 16 (.take 17 [] .done) .nil)) .nil))))) .nil))))))) .nil)))))))) lf))))))
abbrev N1:Nat->List Ds
 | 1=>[.blk 48 [.own (.int .i64)], .blk 31 [.v (.st 2)], .blk 48 [.v (.st 0)], .blk 106 [.own (.int .u8), .own (.st 4), .own (.list (.int .u8)), .own (.int .i64)], .own (.st 3), .blk 31 [.v (.st 2)],vb]
 | _=>[]
abbrev Zs: ∀ k,bt.V->TupD D (N1 k)->bt.V
 | 1,c,t=> {c with v9:=⟨t.1.1⟩,v10:=t.2.1.1,La:=t.2.2.1.1,tq:=⟨t.2.2.2.1.1,t.2.2.2.1.2.1,t.2.2.2.1.2.2.1,t.2.2.2.1.2.2.2.1⟩,kS:=t.2.2.2.2.1,kT:=t.2.2.2.2.2.1.1,uh:=t.2.2.2.2.2.2.1}
 | _,c,_=>c
abbrev Zt: ∀ k,bt.V->TupD D (N1 k)
 | 1,c=>((c.v9.eL,()),(c.v10,()),(c.La,()),(c.tq.blocks,c.tq.waits,c.tq.cN,c.tq.trace,()),c.kS,(c.kT,()),c.uh,())
 | 0,c=>()
 | _+2,c=>()
abbrev Su (Q:bt.QT):Nat->List (bt.V->St Pt.Obj->Prop)->bt.V->St Pt.Obj->Prop
 | 1,[],c,σ=>bt.K1 Q c σ
 | _,_,_,_=>False
abbrev Zu (Q:QT Gd):Pts D:=Pts.mkS N1 Zs Zt (by intro k b t; match k,t with | 0,t | 1,t | _+2,t=>rfl) (Su (fun r0 r1 r2 r3 σ1=>Q ((r0.blocks,r0.waits,r0.cN,r0.trace,()),r1,r2,r3,()) (()) (some σ1)))
abbrev Zv:Ctrs D:=((12,Gd)::Zr)
abbrev Ge:Ctr D:= {ps:=[vi],rs:=[.val (.st 5),vi],bk:=[],sg:=false,P:=fun x σ Q=>av x.1 (fun r0 r1=>Q (r0,r1,()) (()) σ)}
noncomputable def c13:Code:=Tryz.f13.body.getD .skip
def A13:Ann:=(sl (.seq (.join 1 [0,2,16] lf (.cond s2 lf)) (sl (.seq (sl (.block (.loop 2 [0,2,4,5] (.seq (sl (.cond lf lf)) (.seq (.block s2) lf))))) (sl (.seq (sl (.block (.loop 3 [2,4,6,7,8] (.seq (.join 4 [2,4,6,7,8,41] lf (.cond lf lf)) (.seq (.block (sl (.seq (sl (.block (.loop 5 [2,4,6,7,8,9,10] (.seq (sl (.cond lf lf)) (.seq (.block (sl s2)) lf))))) lf))) lf))))) s2))))))
abbrev N2:Nat->List Ds
 | 1=>[vi, .blk 52 [.v (.int .i64), .own (.int .i64), .own (.int .i64)],vb]
 | 2=>[vi, .blk 52 [.v (.int .i64), .own (.int .i64), .own (.int .i64)], .blk 52 [.v (.int .i64), .own (.int .i64), .own (.int .i64)],vi]
 | 3=>[.blk 52 [.v (.int .i64), .own (.int .i64), .own (.int .i64)], .blk 52 [.v (.int .i64), .own (.int .i64), .own (.int .i64)],vi,vi,vi]
 | 4=>[.blk 52 [.v (.int .i64), .own (.int .i64), .own (.int .i64)], .blk 52 [.v (.int .i64), .own (.int .i64), .own (.int .i64)],vi,vi,vi,vb]
 | 5=>[.blk 52 [.v (.int .i64), .own (.int .i64), .own (.int .i64)], .blk 52 [.v (.int .i64), .own (.int .i64), .own (.int .i64)],vi,vi,vi,vi,vi]
 | _=>[]
abbrev Zw: ∀ k,av.V->TupD D (N2 k)->av.V
 | 1,c,t=> {c with dh:=t.1,v2:=⟨t.2.1.1,t.2.1.2.1,t.2.1.2.2.1⟩,qh:=t.2.2.1}
 | 2,c,t=> {c with dh:=t.1,v2:=⟨t.2.1.1,t.2.1.2.1,t.2.1.2.2.1⟩,s4:=⟨t.2.2.1.1,t.2.2.1.2.1,t.2.2.1.2.2.1⟩,i5:=t.2.2.2.1}
 | 3,c,t=> {c with v2:=⟨t.1.1,t.1.2.1,t.1.2.2.1⟩,s4:=⟨t.2.1.1,t.2.1.2.1,t.2.1.2.2.1⟩,eX:=t.2.2.1,eK:=t.2.2.2.1,dD:=t.2.2.2.2.1}
 | 4,c,t=> {c with v2:=⟨t.1.1,t.1.2.1,t.1.2.2.1⟩,s4:=⟨t.2.1.1,t.2.1.2.1,t.2.1.2.2.1⟩,eX:=t.2.2.1,eK:=t.2.2.2.1,dD:=t.2.2.2.2.1,MB:=t.2.2.2.2.2.1}
 | 5,c,t=> {c with v2:=⟨t.1.1,t.1.2.1,t.1.2.2.1⟩,s4:=⟨t.2.1.1,t.2.1.2.1,t.2.1.2.2.1⟩,eX:=t.2.2.1,eK:=t.2.2.2.1,dD:=t.2.2.2.2.1,n9:=t.2.2.2.2.2.1,DM:=t.2.2.2.2.2.2.1}
 | _,c,_=>c
abbrev Zx: ∀ k,av.V->TupD D (N2 k)
 | 1,c=>(c.dh,(c.v2.P,c.v2.Level,c.v2.dO,()),c.qh,())
 | 2,c=>(c.dh,(c.v2.P,c.v2.Level,c.v2.dO,()),(c.s4.P,c.s4.Level,c.s4.dO,()),c.i5,())
 | 3,c=>((c.v2.P,c.v2.Level,c.v2.dO,()),(c.s4.P,c.s4.Level,c.s4.dO,()),c.eX,c.eK,c.dD,())
 | 4,c=>((c.v2.P,c.v2.Level,c.v2.dO,()),(c.s4.P,c.s4.Level,c.s4.dO,()),c.eX,c.eK,c.dD,c.MB,())
 | 5,c=>((c.v2.P,c.v2.Level,c.v2.dO,()),(c.s4.P,c.s4.Level,c.s4.dO,()),c.eX,c.eK,c.dD,c.n9,c.DM,())
 | 0,c=>()
 | _+6,c=>()
abbrev Sv (Q:av.QT):Nat->List (av.V->Prop)->av.V->Prop
 | 1,[],c=>av.K1 Q c
 | 2,[S2],c=>av.B2 S2 Q c
 | 3,[S3],c=>av.B3 S3 Q c
 | 4,[S3],c=>av.K4 S3 Q c
 | 5,[S5,S3],c=>av.B5 S3 S5 Q c
 | _,_,_=>False
abbrev Zy (Q:QT Ge):Pts D:=Pts.gZ N2 Zw Zx (by intro k b t; match k,t with | 0,t | 1,t | 2,t | 3,t | 4,t | 5,t | _+6,t=>rfl) (fun σ=>Sv (fun r0 r1=>Q (r0,r1,()) (()) σ))
abbrev Zz:Ctrs D:=((13,Ge)::Zv)
abbrev Gf:Ctr D:= {ps:=[.blk 106 [.own (.int .u8), .own (.st 4), .own (.list (.int .u8)), .own (.int .i64)]],rs:=[.own (.int .u8)],bk:=[(0, .blk 106 [.own (.int .u8), .own (.st 4), .own (.list (.int .u8)), .own (.int .i64)])],sg:=false,P:=fun x σ Q=>iN (⟨x.1.1,x.1.2.1,x.1.2.2.1,x.1.2.2.2.1⟩) (fun r0 z0=>Q (r0,()) ((z0.blocks,z0.waits,z0.cN,z0.trace,()),()) σ)}
noncomputable def c14:Code:=Tryz.f14.body.getD .skip
def A14:Ann:=(sl (.seq (sl (.cond s2 lf)) s2))
abbrev ZA (Q:QT Gf):Pts D:=Pts.no
abbrev Gg:Ctr D:= {ps:=[.blk 106 [.own (.int .u8), .own (.st 4), .own (.list (.int .u8)), .own (.int .i64)],vi],rs:=[.own (.int .u8),vi],bk:=[(0, .blk 106 [.own (.int .u8), .own (.st 4), .own (.list (.int .u8)), .own (.int .i64)])],sg:=false,P:=fun x σ Q=>gL x.2.1 (⟨x.1.1,x.1.2.1,x.1.2.2.1,x.1.2.2.2.1⟩) (fun r0 r1 z0=>Q (r0,r1,()) ((z0.blocks,z0.waits,z0.cN,z0.trace,()),()) σ)}
abbrev ZB:Ctrs D:=((14,Gf)::Zz)
abbrev ZC:Ctrs D:=((23,Gg)::ZB)
abbrev Gh:Ctr D:= {ps:=[.val .ptr, .val (.vec .u8 32), .val (.st 2),vi, .val (.list (.int .u8))],rs:=[.own (.int .u8),vi],bk:=[],sg:=true,P:=fun x o Q=>match o with
 | some σ=>cI x.1 x.2.1 x.2.2.1 x.2.2.2.1 x.2.2.2.2.1 σ (fun r0 r1 σ1=>Q (r0,r1,()) (()) (some σ1))
 | none=>False}
noncomputable def c48:Code:=Tryz.f48.body.getD .skip
def A48:Ann:=(sl (.seq (.join 1 [0,3,4,6,7,18] lf (.cond s2 lf)) (.seq (.seq (.plan (.take 0 [2] (.take 1 [2] (.take 3 [] (.take 4 [] (.all (.alt 2 (.take 5 [] .done) .nil))))))) (.cond s2 lf)) s2)))
abbrev N3:Nat->List Ds
 | 1=>[.val .ptr,vi, .val (.list (.int .u8)), .blk 22 [.v (.vec .u8 32)], .blk 31 [.v (.st 2)],vb]
 | _=>[]
abbrev ZD: ∀ k,cI.V->TupD D (N3 k)->cI.V
 | 1,c,t=> {c with b0:=t.1,j7:=t.2.1,iq:=t.2.2.1,qX:=t.2.2.2.1.1,r7:=t.2.2.2.2.1.1,iE:=t.2.2.2.2.2.1}
 | _,c,_=>c
abbrev ZE: ∀ k,cI.V->TupD D (N3 k)
 | 1,c=>(c.b0,c.j7,c.iq,(c.qX,()),(c.r7,()),c.iE,())
 | 0,c=>()
 | _+2,c=>()
abbrev Sw (Q:cI.QT):Nat->List (cI.V->St Pt.Obj->Prop)->cI.V->St Pt.Obj->Prop
 | 1,[],c,σ=>cI.K1 Q c σ
 | _,_,_,_=>False
abbrev ZF (Q:QT Gh):Pts D:=Pts.mkS N3 ZD ZE (by intro k b t; match k,t with | 0,t | 1,t | _+2,t=>rfl) (Sw (fun r0 r1 σ1=>Q (r0,r1,()) (()) (some σ1)))
abbrev ZG:Ctrs D:=((48,Gh)::ZC)
abbrev Gi:Ctr D:= {ps:=[.val .ptr, .blk 106 [.own (.int .u8), .own (.st 4), .own (.list (.int .u8)), .own (.int .i64)], .val (.vec .u8 32), .val (.st 0),vi, .val (.st 2)],rs:=[.own (.int .u8),vi],bk:=[(1, .blk 106 [.own (.int .u8), .own (.st 4), .own (.list (.int .u8)), .own (.int .i64)])],sg:=true,P:=fun x o Q=>match o with
 | some σ=>je x.1 x.2.2.1 x.2.2.2.1 x.2.2.2.2.1 x.2.2.2.2.2.1 (⟨x.2.1.1,x.2.1.2.1,x.2.1.2.2.1,x.2.1.2.2.2.1⟩) σ (fun r0 r1 z0 σ1=>Q (r0,r1,()) ((z0.blocks,z0.waits,z0.cN,z0.trace,()),()) (some σ1))
 | none=>False}
noncomputable def c17:Code:=Tryz.f17.body.getD .skip
def A17:Ann:=(sl (sl (.seq (sl (.cond s2 lf)) (sl (.seq (sl (.cond s2 lf)) s2)))))
abbrev ZH (Q:QT Gi):Pts D:=Pts.no
abbrev ZI:Ctrs D:=((17,Gi)::ZG)
abbrev Gj:Ctr D:= {ps:=[.val (.list (.int .u8))],rs:=[.blk 175 [.v (.st 6)]],bk:=[],sg:=false,P:=fun x σ Q=>jH x.1 (fun r0=>Q ((r0,()),()) (()) σ)}
noncomputable def c90:Code:=Tryz.f90.body.getD .skip
def A90:Ann:=(sl s2)
abbrev ZJ (Q:QT Gj):Pts D:=Pts.no
abbrev N4:Ctrs D:=((90,Gj)::ZI)
abbrev yK:Ctr D:= {ps:=[.blk 175 [.v (.st 6)]],rs:=[vi],bk:=[(0, .blk 175 [.v (.st 6)])],sg:=false,P:=fun x σ Q=>ct x.1.1 (fun r0 z0=>Q (r0,()) ((z0,()),()) σ)}
noncomputable def ZK:Code:=Tryz.f106.body.getD .skip
def ZL:Ann:=(sl (.seq (sl (.cond s2 lf)) s2))
abbrev Sx (Q:QT yK):Pts D:=Pts.no
abbrev N5:Ctrs D:=((106,yK)::N4)
abbrev yL:Ctr D:= {ps:=[.blk 175 [.v (.st 6)],vi],rs:=[],bk:=[(0, .blk 175 [.v (.st 6)])],sg:=false,P:=fun x σ Q=>dP x.2.1 x.1.1 (fun z0=>Q (()) ((z0,()),()) σ)}
noncomputable def ZM:Code:=Tryz.f107.body.getD .skip
def ZN:Ann:=(sl (.cond lf lf))
abbrev Sy (Q:QT yL):Pts D:=Pts.no
abbrev ZO:Ctrs D:=((107,yL)::N5)
abbrev Gk:Ctr D:= {ps:=[.blk 175 [.v (.st 6)],vi],rs:=[.own (.int .u8)],bk:=[(0, .blk 175 [.v (.st 6)])],sg:=false,P:=fun x σ Q=>cT x.2.1 x.1.1 (fun r0 z0=>Q (r0,()) ((z0,()),()) σ)}
noncomputable def c93:Code:=Tryz.f93.body.getD .skip
def A93:Ann:=(sl (sl (.seq (.block (sl (.cond s2 (sl (.cond (sl s2) lf))))) (sl (sl s2)))))
abbrev ZP (Q:QT Gk):Pts D:=Pts.no
abbrev ZQ:Ctrs D:=((93,Gk)::ZO)
abbrev Gl:Ctr D:= {ps:=[.blk 175 [.v (.st 6)],vi, .val (.int .u64)],rs:=[.val (.int .u64)],bk:=[(0, .blk 175 [.v (.st 6)])],sg:=false,P:=fun x σ Q=>aK x.2.1 x.2.2.1 x.1.1 (fun r0 z0=>Q (r0,()) ((z0,()),()) σ)}
noncomputable def c91:Code:=Tryz.f91.body.getD .skip
def A91:Ann:=(sl (sl (.seq (sl (.block (.loop 1 [0,2,7,13,14,15] (sl (.seq (.cond lf lf) (.seq (.block s2) lf)))))) (.seq (.join 2 [0,7,35] lf (.cond (sl s2) lf)) s2))))
abbrev N6:Nat->List Ds
 | 1=>[.blk 175 [.v (.st 6)], .val (.int .u64), .val (.int .u64), .own (.int .u8),vi,vi]
 | 2=>[.blk 175 [.v (.st 6)], .val (.int .u64),vb]
 | _=>[]
abbrev ZR: ∀ k,aK.V->TupD D (N6 k)->aK.V
 | 1,c,t=> {c with r0:=t.1.1,ny:=t.2.1,n7:=t.2.2.1,iP:=t.2.2.2.1,l9:=t.2.2.2.2.1,wE:=t.2.2.2.2.2.1}
 | 2,c,t=> {c with r0:=t.1.1,n7:=t.2.1,fM:=t.2.2.1}
 | _,c,_=>c
abbrev ZS: ∀ k,aK.V->TupD D (N6 k)
 | 1,c=>((c.r0,()),c.ny,c.n7,c.iP,c.l9,c.wE,())
 | 2,c=>((c.r0,()),c.n7,c.fM,())
 | 0,c=>()
 | _+3,c=>()
abbrev Sz (Q:aK.QT):Nat->List (aK.V->Prop)->aK.V->Prop
 | 1,[S1],c=>aK.B1 S1 Q c
 | 2,[],c=>aK.K2 Q c
 | _,_,_=>False
abbrev ZT (Q:QT Gl):Pts D:=Pts.gZ N6 ZR ZS (by intro k b t; match k,t with | 0,t | 1,t | 2,t | _+3,t=>rfl) (fun σ=>Sz (fun r0 z0=>Q (r0,()) ((z0,()),()) σ))
abbrev ZU:Ctrs D:=((91,Gl)::ZQ)
abbrev Gn:Ctr D:= {ps:=[.val (.list (.int .u8))],rs:=[.val (.st 2),vi],bk:=[],sg:=false,P:=fun x σ Q=>jf x.1 (fun r0 r1=>Q (r0,r1,()) (()) σ)}
noncomputable def c92:Code:=Tryz.f92.body.getD .skip
def A92:Ann:=(sl (.seq (sl (.cond s2 lf)) (sl (sl (.seq (.plan (.take 0 [4] (.take 1 [4] (.take 2 [3,4] (.all (.alt 3 (.all (.alt 4 .done .nil)) .nil)))))) (.seq (sl (.cond s2 lf)) s2))))))
abbrev ZV (Q:QT Gn):Pts D:=Pts.no
abbrev N7:Ctrs D:=((92,Gn)::ZU)
abbrev yM:Ctr D:= {ps:=[.val (.list (.int .u8)), .val (.int .u8)],rs:=[.val (.list (.int .u8))],bk:=[],sg:=false,P:=fun x σ Q=>bf x.1 x.2.1 (fun r0=>Q (r0,()) (()) σ)}
noncomputable def ZW:Code:=Tryz.f126.body.getD .skip
def ZX:Ann:=(sl (.seq (.block (.loop 1 [0,1] (.seq (.join 2 [0,1,14] lf (.cond lf lf)) (.block lf)))) (.seq (sl (.cond s2 lf)) s2)))
abbrev Gp:Nat->List Ds
 | 1=>[.val (.list (.int .u8)), .val (.int .u8)]
 | 2=>[.val (.list (.int .u8)), .val (.int .u8),vb]
 | _=>[]
abbrev SA: ∀ k,bf.V->TupD D (Gp k)->bf.V
 | 1,c,t=> {c with s0:=t.1,c1:=t.2.1}
 | 2,c,t=> {c with s0:=t.1,c1:=t.2.1,l9:=t.2.2.1}
 | _,c,_=>c
abbrev SB: ∀ k,bf.V->TupD D (Gp k)
 | 1,c=>(c.s0,c.c1,())
 | 2,c=>(c.s0,c.c1,c.l9,())
 | 0,c=>()
 | _+3,c=>()
abbrev N8 (Q:bf.QT):Nat->List (bf.V->Prop)->bf.V->Prop
 | 1,[S1],c=>bf.B1 S1 Q c
 | 2,[S1],c=>bf.K2 S1 Q c
 | _,_,_=>False
abbrev SC (Q:QT yM):Pts D:=Pts.gZ Gp SA SB (by intro k b t; match k,t with | 0,t | 1,t | 2,t | _+3,t=>rfl) (fun σ=>N8 (fun r0=>Q (r0,()) (()) σ))
abbrev N9:Ctrs D:=((126,yM)::N7)
abbrev yN:Ctr D:= {ps:=[.val (.list (.int .u8)), .val (.int .u8)],rs:=[.val (.list (.int .u8))],bk:=[],sg:=false,P:=fun x σ Q=>aU x.1 x.2.1 (fun r0=>Q (r0,()) (()) σ)}
noncomputable def ZY:Code:=Tryz.f127.body.getD .skip
def ZZ:Ann:=(sl (.seq (.block (.loop 1 [0,1] (.seq (.join 2 [0,1,17] lf (.cond lf lf)) (.block lf)))) s2))
abbrev Gq:Nat->List Ds
 | 1=>[.val (.list (.int .u8)), .val (.int .u8)]
 | 2=>[.val (.list (.int .u8)), .val (.int .u8),vb]
 | _=>[]
abbrev SD: ∀ k,aU.V->TupD D (Gq k)->aU.V
 | 1,c,t=> {c with s0:=t.1,c1:=t.2.1}
 | 2,c,t=> {c with s0:=t.1,c1:=t.2.1,mI:=t.2.2.1}
 | _,c,_=>c
abbrev SE: ∀ k,aU.V->TupD D (Gq k)
 | 1,c=>(c.s0,c.c1,())
 | 2,c=>(c.s0,c.c1,c.mI,())
 | 0,c=>()
 | _+3,c=>()
abbrev Oa (Q:aU.QT):Nat->List (aU.V->Prop)->aU.V->Prop
 | 1,[S1],c=>aU.B1 S1 Q c
 | 2,[S1],c=>aU.K2 S1 Q c
 | _,_,_=>False
abbrev SI (Q:QT yN):Pts D:=Pts.gZ Gq SD SE (by intro k b t; match k,t with | 0,t | 1,t | 2,t | _+3,t=>rfl) (fun σ=>Oa (fun r0=>Q (r0,()) (()) σ))
abbrev Ob:Ctrs D:=((127,yN)::N9)
abbrev yO:Ctr D:= {ps:=[.val (.list (.int .u8)), .val .str],rs:=[.val (.list (.int .u8))],bk:=[],sg:=false,P:=fun x σ Q=>cF x.1 x.2.1 (fun r0=>Q (r0,()) (()) σ)}
noncomputable def Z0:Code:=Tryz.f118.body.getD .skip
def Z1:Ann:=(sl (.seq (sl (.cond s2 lf)) (.seq (sl (.cond s2 lf)) (.seq (.join 1 [0,1,20] lf (.cond (.seq (.plan (.take 0 [3,6] (.take 1 [3,6] (.take 2 [3,6] (.take 4 [6] (.take 5 [6] (.all (.alt 3 (.all (.alt 6 (.take 7 [] .done) .nil)) .nil)))))))) lf) lf)) (.seq (sl (sl (.cond s2 lf))) s2)))))
abbrev Gr:Nat->List Ds
 | 1=>[.val (.list (.int .u8)), .val .str,vb]
 | _=>[]
abbrev SJ: ∀ k,cF.V->TupD D (Gr k)->cF.V
 | 1,c,t=> {c with s0:=t.1,eT:=t.2.1,v20:=t.2.2.1}
 | _,c,_=>c
abbrev SK: ∀ k,cF.V->TupD D (Gr k)
 | 1,c=>(c.s0,c.eT,c.v20,())
 | 0,c=>()
 | _+2,c=>()
abbrev Oc (Q:cF.QT):Nat->List (cF.V->Prop)->cF.V->Prop
 | 1,[],c=>cF.K1 Q c
 | _,_,_=>False
abbrev SL (Q:QT yO):Pts D:=Pts.gZ Gr SJ SK (by intro k b t; match k,t with | 0,t | 1,t | _+2,t=>rfl) (fun σ=>Oc (fun r0=>Q (r0,()) (()) σ))
abbrev Od:Ctrs D:=((118,yO)::Ob)
abbrev yP:Ctr D:= {ps:=[.val (.list (.int .u8))],rs:=[vb],bk:=[],sg:=false,P:=fun x σ Q=>lQ x.1 (fun r0=>Q (r0,()) (()) σ)}
noncomputable def Z2:Code:=Tryz.f108.body.getD .skip
def Z3:Ann:=(sl s2)
abbrev SN (Q:QT yP):Pts D:=Pts.no
abbrev Z4:Ctrs D:=((108,yP)::Od)
abbrev Gt:Ctr D:= {ps:=[.blk 175 [.v (.st 6)]],rs:=[vi],bk:=[(0, .blk 175 [.v (.st 6)])],sg:=false,P:=fun x σ Q=>bB x.1.1 (fun r0 z0=>Q (r0,()) ((z0,()),()) σ)}
noncomputable def c94:Code:=Tryz.f94.body.getD .skip
def A94:Ann:=(sl (.join 2 [0] (.join 1 [0,13] lf (.cond lf lf)) s2))
abbrev Oe:Nat->List Ds
 | 2=>[.blk 175 [.v (.st 6)]]
 | 1=>[.blk 175 [.v (.st 6)],vb]
 | _=>[]
abbrev Z5: ∀ k,bB.V->TupD D (Oe k)->bB.V
 | 2,c,t=> {c with r0:=t.1.1}
 | 1,c,t=> {c with r0:=t.1.1,iP:=t.2.1}
 | _,c,_=>c
abbrev Z6: ∀ k,bB.V->TupD D (Oe k)
 | 2,c=>((c.r0,()),())
 | 1,c=>((c.r0,()),c.iP,())
 | 0,c=>()
 | _+3,c=>()
abbrev SP (Q:bB.QT):Nat->List (bB.V->Prop)->bB.V->Prop
 | 2,[],c=>bB.K2 Q c
 | 1,[],c=>bB.K1 Q c
 | _,_,_=>False
abbrev Z7 (Q:QT Gt):Pts D:=Pts.gZ Oe Z5 Z6 (by intro k b t; match k,t with | 0,t | 1,t | 2,t | _+3,t=>rfl) (fun σ=>SP (fun r0 z0=>Q (r0,()) ((z0,()),()) σ))
abbrev Z8:Ctrs D:=((94,Gt)::Z4)
abbrev Gu:Ctr D:= {ps:=[.val (.list (.int .u8))],rs:=[.own (.st 2),vi],bk:=[],sg:=false,P:=fun x σ Q=>cr x.1 (fun r0 r1=>Q (r0,r1,()) (()) σ)}
noncomputable def c77:Code:=Tryz.f77.body.getD .skip
def A77:Ann:=(sl (.seq (sl (.cond s2 lf)) (sl (sl (sl (.seq (sl (.block (.loop 1 [4,5,6,21,22] (sl (.seq (.cond lf lf) (.seq (.block (sl (sl (.seq (sl (.cond s2 lf)) (.plan (.take 0 [5] (.take 1 [5] (.take 2 [5] (.take 3 [4,5] (.all (.alt 4 (.all (.alt 5 .done .nil)) .nil))))))))))) lf)))))) (.seq (.join 2 [6,46] lf (.cond s2 lf)) s2)))))))
abbrev Of:Nat->List Ds
 | 1=>[.blk 175 [.v (.st 6)],vi, .own (.st 2),vi,vi]
 | 2=>[.own (.st 2),vb]
 | _=>[]
abbrev Z9: ∀ k,cr.V->TupD D (Of k)->cr.V
 | 1,c,t=> {c with r4:=t.1.1,eE:=t.2.1,l6:=t.2.2.1,oc:=t.2.2.2.1,gX:=t.2.2.2.2.1}
 | 2,c,t=> {c with l6:=t.1,Qo:=t.2.1}
 | _,c,_=>c
abbrev aaa: ∀ k,cr.V->TupD D (Of k)
 | 1,c=>((c.r4,()),c.eE,c.l6,c.oc,c.gX,())
 | 2,c=>(c.l6,c.Qo,())
 | 0,c=>()
 | _+3,c=>()
abbrev SQ (Q:cr.QT):Nat->List (cr.V->Prop)->cr.V->Prop
 | 1,[S1],c=>cr.B1 S1 Q c
 | 2,[],c=>cr.K2 Q c
 | _,_,_=>False
abbrev aab (Q:QT Gu):Pts D:=Pts.gZ Of Z9 aaa (by intro k b t; match k,t with | 0,t | 1,t | 2,t | _+3,t=>rfl) (fun σ=>SQ (fun r0 r1=>Q (r0,r1,()) (()) σ))
abbrev C50:Ctrs D:=((77,Gu)::Z8)
abbrev Gv:Ctr D:= {ps:=[.val (.list (.int .u8)),vi],rs:=[.own (.st 2),vi],bk:=[],sg:=false,P:=fun x σ Q=>cj x.1 x.2.1 (fun r0 r1=>Q (r0,r1,()) (()) σ)}
noncomputable def c50:Code:=Tryz.f50.body.getD .skip
def A50:Ann:=(sl (.seq (.join 1 [0,1,13] lf (.cond s2 lf)) (sl (.seq (.block (sl (.cond s2 (sl (.cond s2 lf))))) s2))))
abbrev Og:Nat->List Ds
 | 1=>[.val (.list (.int .u8)),vi,vb]
 | _=>[]
abbrev aad: ∀ k,cj.V->TupD D (Og k)->cj.V
 | 1,c,t=> {c with c5:=t.1,many1:=t.2.1,iP:=t.2.2.1}
 | _,c,_=>c
abbrev aae: ∀ k,cj.V->TupD D (Og k)
 | 1,c=>(c.c5,c.many1,c.iP,())
 | 0,c=>()
 | _+2,c=>()
abbrev SU (Q:cj.QT):Nat->List (cj.V->Prop)->cj.V->Prop
 | 1,[],c=>cj.K1 Q c
 | _,_,_=>False
abbrev aaf (Q:QT Gv):Pts D:=Pts.gZ Og aad aae (by intro k b t; match k,t with | 0,t | 1,t | _+2,t=>rfl) (fun σ=>SU (fun r0 r1=>Q (r0,r1,()) (()) σ))
abbrev C19:Ctrs D:=((50,Gv)::C50)
abbrev Gw:Ctr D:= {ps:=[.val (.st 0),vi, .val (.list (.int .u8))],rs:=[.own (.st 2),vi],bk:=[],sg:=false,P:=fun x σ Q=>iZ x.1 x.2.1 x.2.2.1 (fun r0 r1=>Q (r0,r1,()) (()) σ)}
noncomputable def c19:Code:=Tryz.f19.body.getD .skip
def A19:Ann:=(sl (sl (.seq (sl (.cond s2 lf)) s2)))
abbrev aah (Q:QT Gw):Pts D:=Pts.no
abbrev C46:Ctrs D:=((19,Gw)::C19)
abbrev Gx:Ctr D:= {ps:=[.val (.st 0)],rs:=[vi],bk:=[],sg:=false,P:=fun x σ Q=>ef x.1 (fun r0=>Q (r0,()) (()) σ)}
noncomputable def c46:Code:=Tryz.f46.body.getD .skip
def A46:Ann:=(sl (.seq (sl (.cond s2 lf)) s2))
abbrev aaj (Q:QT Gx):Pts D:=Pts.no
abbrev C47:Ctrs D:=((46,Gx)::C46)
abbrev Gy:Ctr D:= {ps:=[.val (.st 0)],rs:=[vi],bk:=[],sg:=false,P:=fun x σ Q=>eI x.1 (fun r0=>Q (r0,()) (()) σ)}
noncomputable def c47:Code:=Tryz.f47.body.getD .skip
def A47:Ann:=(sl s2)
abbrev aal (Q:QT Gy):Pts D:=Pts.no
abbrev C15:Ctrs D:=((47,Gy)::C47)
abbrev Gz:Ctr D:= {ps:=[.val .ptr, .blk 106 [.own (.int .u8), .own (.st 4), .own (.list (.int .u8)), .own (.int .i64)], .val (.vec .u8 32), .val (.st 0), .val (.st 2)],rs:=[.own (.st 2), .own (.list (.int .u8)),vi],bk:=[(1, .blk 106 [.own (.int .u8), .own (.st 4), .own (.list (.int .u8)), .own (.int .i64)])],sg:=true,P:=fun x o Q=>match o with
 | some σ=>bW x.1 x.2.2.1 x.2.2.2.1 x.2.2.2.2.1 (⟨x.2.1.1,x.2.1.2.1,x.2.1.2.2.1,x.2.1.2.2.2.1⟩) σ (fun r0 r1 r2 z0 σ1=>Q (r0,r1,r2,()) ((z0.blocks,z0.waits,z0.cN,z0.trace,()),()) (some σ1))
 | none=>False}
noncomputable def c15:Code:=Tryz.f15.body.getD .skip
def A15:Ann:=(sl (.seq (sl (.cond s2 lf)) (sl (sl (.seq (.plan (.take 0 [5] (.take 1 [2,5] (.take 3 [5] (.all (.alt 2 (.take 4 [5] (.all (.alt 5 .done .nil))) .nil)))))) (.seq (sl (.block (.loop 1 [0,1,7,8,13,14,15] (.seq (sl (.cond lf lf)) (.join 2 [0,1,7,8,13,14,15] (.block (.seq (.plan (.take 0 [9] (.take 1 [9] (.take 2 [9] (.take 3 [9] (.take 4 [9] (.take 5 [9] (.take 6 [9] (.take 7 [9] (.take 8 [9] (.all (.alt 9 (.take 10 [] (.take 11 [] (.take 12 [] (.take 13 [] (.take 14 [] .done))))) .nil)))))))))))) (.seq (sl (.cond s2 lf)) (.seq (sl (.cond s2 lf)) (sl (.seq (sl (.cond s2 lf)) lf)))))) lf))))) s2))))))
abbrev Oh:Nat->List Ds
 | 1=>[.val .ptr, .blk 106 [.own (.int .u8), .own (.st 4), .own (.list (.int .u8)), .own (.int .i64)], .blk 22 [.v (.vec .u8 32)], .blk 48 [.v (.st 0)], .own (.st 2), .own (.list (.int .u8)),vi]
 | 2=>[.val .ptr, .blk 106 [.own (.int .u8), .own (.st 4), .own (.list (.int .u8)), .own (.int .i64)], .blk 22 [.v (.vec .u8 32)], .blk 48 [.v (.st 0)], .own (.st 2), .own (.list (.int .u8)),vi]
 | _=>[]
abbrev aan: ∀ k,bW.V->TupD D (Oh k)->bW.V
 | 1,c,t=> {c with b0:=t.1,sZ:=⟨t.2.1.1,t.2.1.2.1,t.2.1.2.2.1,t.2.1.2.2.2.1⟩,z6:=t.2.2.1.1,s8:=t.2.2.2.1.1,gM:=t.2.2.2.2.1,iu:=t.2.2.2.2.2.1,fY:=t.2.2.2.2.2.2.1}
 | 2,c,t=> {c with b0:=t.1,sZ:=⟨t.2.1.1,t.2.1.2.1,t.2.1.2.2.1,t.2.1.2.2.2.1⟩,z6:=t.2.2.1.1,s8:=t.2.2.2.1.1,gM:=t.2.2.2.2.1,iu:=t.2.2.2.2.2.1,fY:=t.2.2.2.2.2.2.1}
 | _,c,_=>c
abbrev aao: ∀ k,bW.V->TupD D (Oh k)
 | 1,c=>(c.b0,(c.sZ.blocks,c.sZ.waits,c.sZ.cN,c.sZ.trace,()),(c.z6,()),(c.s8,()),c.gM,c.iu,c.fY,())
 | 2,c=>(c.b0,(c.sZ.blocks,c.sZ.waits,c.sZ.cN,c.sZ.trace,()),(c.z6,()),(c.s8,()),c.gM,c.iu,c.fY,())
 | 0,c=>()
 | _+3,c=>()
abbrev SW (Q:bW.QT):Nat->List (bW.V->St Pt.Obj->Prop)->bW.V->St Pt.Obj->Prop
 | 1,[S1],c,σ=>bW.B1 S1 Q c σ
 | 2,[S1],c,σ=>bW.K2 S1 Q c σ
 | _,_,_,_=>False
abbrev aap (Q:QT Gz):Pts D:=Pts.mkS Oh aan aao (by intro k b t; match k,t with | 0,t | 1,t | 2,t | _+3,t=>rfl) (SW (fun r0 r1 r2 z0 σ1=>Q (r0,r1,r2,()) ((z0.blocks,z0.waits,z0.cN,z0.trace,()),()) (some σ1)))
abbrev C67:Ctrs D:=((15,Gz)::C15)
abbrev GA:Ctr D:= {ps:=[.val (.st 5),vi],rs:=[vb],bk:=[],sg:=false,P:=fun x σ Q=>cY x.1 x.2.1 (fun r0=>Q (r0,()) (()) σ)}
noncomputable def c67:Code:=Tryz.f67.body.getD .skip
def A67:Ann:=(sl s2)
abbrev aar (Q:QT GA):Pts D:=Pts.no
abbrev C41:Ctrs D:=((67,GA)::C67)
abbrev GB:Ctr D:= {ps:=[.val (.st 5),vi,vi],rs:=[vi],bk:=[],sg:=false,P:=fun x σ Q=>ax x.1 x.2.1 x.2.2.1 (fun r0=>Q (r0,()) (()) σ)}
noncomputable def c41:Code:=Tryz.f41.body.getD .skip
def A41:Ann:=(sl (.seq (.join 1 [1,2,18] lf (.cond s2 lf)) s2))
abbrev Oi:Nat->List Ds
 | 1=>[vi,vi,vb]
 | _=>[]
abbrev aat: ∀ k,ax.V->TupD D (Oi k)->ax.V
 | 1,c,t=> {c with bI:=t.1,dB:=t.2.1,iE:=t.2.2.1}
 | _,c,_=>c
abbrev aau: ∀ k,ax.V->TupD D (Oi k)
 | 1,c=>(c.bI,c.dB,c.iE,())
 | 0,c=>()
 | _+2,c=>()
abbrev SX (Q:ax.QT):Nat->List (ax.V->Prop)->ax.V->Prop
 | 1,[],c=>ax.K1 Q c
 | _,_,_=>False
abbrev aav (Q:QT GB):Pts D:=Pts.gZ Oi aat aau (by intro k b t; match k,t with | 0,t | 1,t | _+2,t=>rfl) (fun σ=>SX (fun r0=>Q (r0,()) (()) σ))
abbrev Oj:Ctrs D:=((41,GB)::C41)
abbrev yQ:Ctr D:= {ps:=[vi],rs:=[.own (.int .u64)],bk:=[],sg:=false,P:=fun x σ Q=>an x.1 (fun r0=>Q (r0,()) (()) σ)}
noncomputable def aaw:Code:=Tryz.f101.body.getD .skip
def aax:Ann:=(sl (sl (.seq (sl (.block (.loop 1 [0,3,4] (.seq (sl (.cond lf lf)) (.join 4 [0,3,4] (.block (sl (.seq (sl (.block (.loop 2 [0,3,4,5,6] (.seq (sl (.cond lf lf)) (.join 3 [0,3,4,5,6] (.block lf) lf))))) (sl (.cond lf lf))))) lf))))) s2)))
abbrev GC:Nat->List Ds
 | 1=>[vi, .own (.int .u64), .val (.int .u64)]
 | 4=>[vi, .own (.int .u64), .val (.int .u64)]
 | 2=>[vi, .own (.int .u64), .val (.int .u64),vb,vi]
 | 3=>[vi, .own (.int .u64), .val (.int .u64),vb,vi]
 | _=>[]
abbrev SY: ∀ k,an.V->TupD D (GC k)->an.V
 | 1,c,t=> {c with n0:=t.1,cP:=t.2.1,p4:=t.2.2.1}
 | 4,c,t=> {c with n0:=t.1,cP:=t.2.1,p4:=t.2.2.1}
 | 2,c,t=> {c with n0:=t.1,cP:=t.2.1,p4:=t.2.2.1,Im:=t.2.2.2.1,i6:=t.2.2.2.2.1}
 | 3,c,t=> {c with n0:=t.1,cP:=t.2.1,p4:=t.2.2.1,Im:=t.2.2.2.1,i6:=t.2.2.2.2.1}
 | _,c,_=>c
abbrev SZ: ∀ k,an.V->TupD D (GC k)
 | 1,c=>(c.n0,c.cP,c.p4,())
 | 4,c=>(c.n0,c.cP,c.p4,())
 | 2,c=>(c.n0,c.cP,c.p4,c.Im,c.i6,())
 | 3,c=>(c.n0,c.cP,c.p4,c.Im,c.i6,())
 | 0,c=>()
 | _+5,c=>()
abbrev Ok (Q:an.QT):Nat->List (an.V->Prop)->an.V->Prop
 | 1,[S1],c=>an.B1 S1 Q c
 | 4,[S1],c=>an.K4 S1 Q c
 | 2,[S2,S1],c=>an.B2 S1 S2 Q c
 | 3,[S2,S1],c=>an.K3 S1 S2 Q c
 | _,_,_=>False
abbrev S6 (Q:QT yQ):Pts D:=Pts.gZ GC SY SZ (by intro k b t; match k,t with | 0,t | 1,t | 2,t | 3,t | 4,t | _+5,t=>rfl) (fun σ=>Ok (fun r0=>Q (r0,()) (()) σ))
abbrev Ol:Ctrs D:=((101,yQ)::Oj)
abbrev yR:Ctr D:= {ps:=[.val (.int .u64), .val (.int .u64)],rs:=[.val (.int .u64), .val (.int .u64)],bk:=[],sg:=false,P:=fun x σ Q=>di x.1 x.2.1 (fun r0 r1=>Q (r0,r1,()) (()) σ)}
noncomputable def aay:Code:=Tryz.f114.body.getD .skip
def aaz:Ann:=(sl (sl (sl (sl (sl s2)))))
abbrev S9 (Q:QT yR):Pts D:=Pts.no
abbrev Om:Ctrs D:=((114,yR)::Ol)
abbrev yS:Ctr D:= {ps:=[.val (.int .u64)],rs:=[vu],bk:=[],sg:=false,P:=fun x σ Q=>aE x.1 (fun r0=>Q (r0,()) (()) σ)}
noncomputable def aaA:Code:=Tryz.f102.body.getD .skip
def aaB:Ann:=(sl (sl (.seq (sl (.block (.loop 1 [0,3,4] (.seq (sl (.cond lf lf)) (.join 4 [0,3,4] (.block (sl (sl (sl (sl (sl (sl (.join 3 [0,3,4,5,9,12,13] (sl (.cond lf lf)) (sl (.join 2 [0,3,4,5,67] lf (.cond lf lf))))))))))) lf))))) s2)))
abbrev GD:Nat->List Ds
 | 1=>[.val (.int .u64), .val (.int .u64),vi]
 | 4=>[.val (.int .u64), .val (.int .u64),vi]
 | 3=>[.val (.int .u64), .val (.int .u64),vi, .val (.int .u64), .val (.int .u64), .val (.int .u64), .val (.int .u64)]
 | 2=>[.val (.int .u64), .val (.int .u64),vi, .val (.int .u64),vb]
 | _=>[]
abbrev Ta: ∀ k,aE.V->TupD D (GD k)->aE.V
 | 1,c,t=> {c with p0:=t.1,r3:=t.2.1,k4:=t.2.2.1}
 | 4,c,t=> {c with p0:=t.1,r3:=t.2.1,k4:=t.2.2.1}
 | 3,c,t=> {c with p0:=t.1,r3:=t.2.1,k4:=t.2.2.1,x5:=t.2.2.2.1,Py:=t.2.2.2.2.1,qY:=t.2.2.2.2.2.1,uj:=t.2.2.2.2.2.2.1}
 | 2,c,t=> {c with p0:=t.1,r3:=t.2.1,k4:=t.2.2.1,x5:=t.2.2.2.1,Lc:=t.2.2.2.2.1}
 | _,c,_=>c
abbrev Tb: ∀ k,aE.V->TupD D (GD k)
 | 1,c=>(c.p0,c.r3,c.k4,())
 | 4,c=>(c.p0,c.r3,c.k4,())
 | 3,c=>(c.p0,c.r3,c.k4,c.x5,c.Py,c.qY,c.uj,())
 | 2,c=>(c.p0,c.r3,c.k4,c.x5,c.Lc,())
 | 0,c=>()
 | _+5,c=>()
abbrev On (Q:aE.QT):Nat->List (aE.V->Prop)->aE.V->Prop
 | 1,[S1],c=>aE.B1 S1 Q c
 | 4,[S1],c=>aE.K4 S1 Q c
 | 3,[S1],c=>aE.K3 S1 Q c
 | 2,[S1],c=>aE.K2 S1 Q c
 | _,_,_=>False
abbrev Tc (Q:QT yS):Pts D:=Pts.gZ GD Ta Tb (by intro k b t; match k,t with | 0,t | 1,t | 2,t | 3,t | 4,t | _+5,t=>rfl) (fun σ=>On (fun r0=>Q (r0,()) (()) σ))
abbrev Oo:Ctrs D:=((102,yS)::Om)
abbrev yT:Ctr D:= {ps:=[.val (.int .u64)],rs:=[vu],bk:=[],sg:=false,P:=fun x σ Q=>aA x.1 (fun r0=>Q (r0,()) (()) σ)}
noncomputable def aaC:Code:=Tryz.f103.body.getD .skip
def aaD:Ann:=(sl (sl (.seq (sl (.block (.loop 1 [0,3,4] (.seq (sl (.cond lf lf)) (.join 3 [0,3,4] (.block (sl (sl (.join 2 [0,3,4,5,33] lf (.cond lf lf))))) lf))))) s2)))
abbrev GF:Nat->List Ds
 | 1=>[.val (.int .u64), .val (.int .u64),vi]
 | 3=>[.val (.int .u64), .val (.int .u64),vi]
 | 2=>[.val (.int .u64), .val (.int .u64),vi, .val (.int .u64),vb]
 | _=>[]
abbrev Td: ∀ k,aA.V->TupD D (GF k)->aA.V
 | 1,c,t=> {c with p0:=t.1,r3:=t.2.1,k4:=t.2.2.1}
 | 3,c,t=> {c with p0:=t.1,r3:=t.2.1,k4:=t.2.2.1}
 | 2,c,t=> {c with p0:=t.1,r3:=t.2.1,k4:=t.2.2.1,x5:=t.2.2.2.1,Pz:=t.2.2.2.2.1}
 | _,c,_=>c
abbrev Te: ∀ k,aA.V->TupD D (GF k)
 | 1,c=>(c.p0,c.r3,c.k4,())
 | 3,c=>(c.p0,c.r3,c.k4,())
 | 2,c=>(c.p0,c.r3,c.k4,c.x5,c.Pz,())
 | 0,c=>()
 | _+4,c=>()
abbrev Oq (Q:aA.QT):Nat->List (aA.V->Prop)->aA.V->Prop
 | 1,[S1],c=>aA.B1 S1 Q c
 | 3,[S1],c=>aA.K3 S1 Q c
 | 2,[S1],c=>aA.K2 S1 Q c
 | _,_,_=>False
abbrev Tf (Q:QT yT):Pts D:=Pts.gZ GF Td Te (by intro k b t; match k,t with | 0,t | 1,t | 2,t | 3,t | _+4,t=>rfl) (fun σ=>Oq (fun r0=>Q (r0,()) (()) σ))
abbrev C86:Ctrs D:=((103,yT)::Oo)
abbrev GG:Ctr D:= {ps:=[],rs:=[.own (.int .u32), .own (.int .u32)],bk:=[],sg:=false,P:=fun x σ Q=>aR (fun r0 r1=>Q (r0,r1,()) (()) σ)}
noncomputable def c86:Code:=Tryz.f86.body.getD .skip
def A86:Ann:=(sl (sl (sl (.seq (sl (.block (.loop 1 [2,3,4,5] (.seq (sl (.cond lf lf)) (.seq (.block lf) lf))))) (.seq (sl (.block (.loop 2 [2,3,4,6] (.seq (sl (.cond lf lf)) (.seq (.block lf) lf))))) s2)))))
abbrev Ot:Nat->List Ds
 | 1=>[.own (.int .u64), .own (.int .u32), .own (.int .u32),vi]
 | 2=>[.own (.int .u64), .own (.int .u32), .own (.int .u32),vi]
 | _=>[]
abbrev aaF: ∀ k,aR.V->TupD D (Ot k)->aR.V
 | 1,c,t=> {c with l2:=t.1,k3:=t.2.1,jg:=t.2.2.1,t5:=t.2.2.2.1}
 | 2,c,t=> {c with l2:=t.1,k3:=t.2.1,jg:=t.2.2.1,t6:=t.2.2.2.1}
 | _,c,_=>c
abbrev aaG: ∀ k,aR.V->TupD D (Ot k)
 | 1,c=>(c.l2,c.k3,c.jg,c.t5,())
 | 2,c=>(c.l2,c.k3,c.jg,c.t6,())
 | 0,c=>()
 | _+3,c=>()
abbrev Tg (Q:aR.QT):Nat->List (aR.V->Prop)->aR.V->Prop
 | 1,[S1],c=>aR.B1 S1 Q c
 | 2,[S2],c=>aR.B2 S2 Q c
 | _,_,_=>False
abbrev aaH (Q:QT GG):Pts D:=Pts.gZ Ot aaF aaG (by intro k b t; match k,t with | 0,t | 1,t | 2,t | _+3,t=>rfl) (fun σ=>Tg (fun r0 r1=>Q (r0,r1,()) (()) σ))
abbrev C87:Ctrs D:=((86,GG)::C86)
abbrev GH:Ctr D:= {ps:=[rb],rs:=[.own (.int .u8)],bk:=[],sg:=false,P:=fun x σ Q=>aS x.1 (fun r0=>Q (r0,()) (()) σ)}
noncomputable def c87:Code:=Tryz.f87.body.getD .skip
def A87:Ann:=(sl (sl (.seq (.block (.loop 1 [0,3] (.seq (sl (.cond lf lf)) (.block lf)))) (sl (.seq (sl (.block (.loop 2 [3,4,5] (.seq (sl (.cond lf lf)) (.seq (.block lf) lf))))) s2)))))
abbrev Ou:Nat->List Ds
 | 1=>[rb, .own (.int .u8)]
 | 2=>[.own (.int .u8), .val (.int .u64),vi]
 | _=>[]
abbrev aaJ: ∀ k,aS.V->TupD D (Ou k)->aS.V
 | 1,c,t=> {c with b0:=t.1,cP:=t.2.1}
 | 2,c,t=> {c with cP:=t.1,n4:=t.2.1,i5:=t.2.2.1}
 | _,c,_=>c
abbrev aaK: ∀ k,aS.V->TupD D (Ou k)
 | 1,c=>(c.b0,c.cP,())
 | 2,c=>(c.cP,c.n4,c.i5,())
 | 0,c=>()
 | _+3,c=>()
abbrev Th (Q:aS.QT):Nat->List (aS.V->Prop)->aS.V->Prop
 | 1,[S1],c=>aS.B1 S1 Q c
 | 2,[S2],c=>aS.B2 S2 Q c
 | _,_,_=>False
abbrev aaL (Q:QT GH):Pts D:=Pts.gZ Ou aaJ aaK (by intro k b t; match k,t with | 0,t | 1,t | 2,t | _+3,t=>rfl) (fun σ=>Th (fun r0=>Q (r0,()) (()) σ))
abbrev Ov:Ctrs D:=((87,GH)::C87)
abbrev yU:Ctr D:= {ps:=[vu,vi],rs:=[vu],bk:=[],sg:=false,P:=fun x σ Q=>aI x.1 x.2.1 (fun r0=>Q (r0,()) (()) σ)}
noncomputable def aaM:Code:=Tryz.f104.body.getD .skip
def aaN:Ann:=(sl (sl (.seq (sl (.block (.loop 1 [0,1,5] (.seq (sl (.cond lf lf)) (.seq (.block lf) lf))))) s2)))
abbrev GI:Nat->List Ds
 | 1=>[vu,vi,vi]
 | _=>[]
abbrev Ti: ∀ k,aI.V->TupD D (GI k)->aI.V
 | 1,c,t=> {c with x0:=t.1,n1:=t.2.1,i5:=t.2.2.1}
 | _,c,_=>c
abbrev Tj: ∀ k,aI.V->TupD D (GI k)
 | 1,c=>(c.x0,c.n1,c.i5,())
 | 0,c=>()
 | _+2,c=>()
abbrev Ow (Q:aI.QT):Nat->List (aI.V->Prop)->aI.V->Prop
 | 1,[S1],c=>aI.B1 S1 Q c
 | _,_,_=>False
abbrev Tk (Q:QT yU):Pts D:=Pts.gZ GI Ti Tj (by intro k b t; match k,t with | 0,t | 1,t | _+2,t=>rfl) (fun σ=>Ow (fun r0=>Q (r0,()) (()) σ))
abbrev C88:Ctrs D:=((104,yU)::Ov)
abbrev GJ:Ctr D:= {ps:=[.rd (.int .u32), .rd (.int .u32),rb],rs:=[.own (.int .u32)],bk:=[],sg:=false,P:=fun x σ Q=>aq x.1 x.2.1 x.2.2.1 (fun r0=>Q (r0,()) (()) σ)}
noncomputable def c88:Code:=Tryz.f88.body.getD .skip
def A88:Ann:=(sl (sl (.seq (sl (.block (.loop 1 [0,1,2,7,8] (.seq (sl (.cond lf lf)) (.join 2 [0,1,2,7,8] (.block (.seq (sl (.cond (.seq (.plan (.take 0 [35] (.take 1 [34,35] (.take 2 [34,35] (.take 3 [34,35] (.take 4 [34,35] (.take 5 [34,35] (.take 6 [34,35] (.take 7 [34,35] (.take 8 [34,35] (.take 9 [34,35] (.take 10 [34,35] (.take 11 [34,35] (.take 12 [34,35] (.take 13 [34,35] (.take 14 [34,35] (.take 15 [34,35] (.take 16 [34,35] (.take 17 [34,35] (.take 18 [34,35] (.take 19 [34,35] (.take 20 [34,35] (.take 21 [34,35] (.take 22 [34,35] (.take 23 [34,35] (.take 24 [34,35] (.take 25 [34,35] (.take 26 [34,35] (.take 27 [34,35] (.take 28 [34,35] (.take 29 [34,35] (.take 30 [34,35] (.take 31 [34,35] (.take 32 [34,35] (.take 33 [34,35] (.all (.alt 34 (.all (.alt 35 (.take 36 [] .done) .nil)) .nil))))))))))))))))))))))))))))))))))))) lf) lf)) (.seq (.plan (.take 0 [] (.take 1 [] (.take 2 [] (.take 3 [] (.take 4 [] (.take 5 [] (.take 6 [] (.take 7 [] (.take 8 [] (.take 9 [] (.take 10 [] (.take 11 [] .done))))))))))))) (sl (sl (.plan (.take 0 [17] (.take 1 [16,17] (.take 2 [16,17] (.take 3 [16,17] (.take 4 [16,17] (.take 5 [16,17] (.take 6 [16,17] (.take 7 [16,17] (.take 8 [16,17] (.take 9 [16,17] (.take 10 [16,17] (.take 11 [16,17] (.take 12 [16,17] (.take 13 [16,17] (.take 14 [16,17] (.take 15 [16,17] (.all (.alt 16 (.all (.alt 17 (.take 18 [] .done) .nil)) .nil)))))))))))))))))))))))) lf))))) (sl (.seq (sl (.block (.loop 3 [0,1,7,13,14] (.seq (sl (.cond lf lf)) (.seq (.block (.seq (.plan (.take 0 [] (.take 1 [] (.take 2 [] (.take 3 [] (.take 4 [] (.take 5 [] (.take 6 [] (.take 7 [] .done))))))))) (.seq (.plan (.take 0 [] (.take 1 [] (.take 2 [] (.take 3 [4,6,9] (.take 5 [6,9] (.take 8 [9] (.take 12 [] (.take 13 [] (.take 14 [] (.take 15 [] (.take 16 [] (.take 17 [] (.take 18 [] (.take 19 [] (.take 20 [] (.take 21 [] (.take 22 [] (.take 23 [] (.take 25 [] (.take 26 [] (.take 27 [] (.take 28 [] (.take 30 [] (.take 31 [] (.take 32 [] (.take 33 [] (.all (.alt 4 (.all (.alt 6 (.take 7 [] (.all (.alt 9 (.take 10 [] (.take 11 [] (.take 24 [] (.take 29 [] (.take 34 [] (.take 35 [] .done)))))) .nil))) .nil)) .nil))))))))))))))))))))))))))))) (.seq (.plan (.take 0 [1,3,6] (.take 2 [3,6] (.take 5 [6] (.take 8 [] (.take 9 [] (.take 10 [] (.take 11 [] (.take 12 [] (.take 13 [] (.take 14 [] (.take 15 [] (.take 16 [] (.take 17 [] (.take 18 [] (.take 19 [] (.take 20 [] (.take 21 [] (.take 22 [] (.take 23 [] (.take 24 [] (.take 25 [] (.take 26 [] (.all (.alt 1 (.all (.alt 3 (.take 4 [] (.all (.alt 6 (.take 7 [] (.take 27 [] (.take 28 [] .done))) .nil))) .nil)) .nil))))))))))))))))))))))))) (.plan (.take 0 [26] (.take 1 [26] (.take 2 [26] (.take 3 [26] (.take 4 [26] (.take 5 [26] (.take 6 [26] (.take 7 [26] (.take 8 [26] (.take 9 [26] (.take 10 [26] (.take 11 [26] (.take 12 [26] (.take 13 [26] (.take 14 [26] (.take 15 [26] (.take 16 [26] (.take 17 [26] (.take 18 [26] (.take 19 [26] (.take 20 [26] (.take 21 [26] (.take 22 [26] (.take 23 [26] (.take 24 [26] (.take 25 [26] (.all (.alt 26 (.take 27 [] .done) .nil))))))))))))))))))))))))))))))))) lf))))) (sl (.seq (sl (.block (.loop 4 [1,13,19,20] (.seq (sl (.cond lf lf)) (.seq (.block (.plan (.take 0 [11] (.take 1 [10,11] (.take 2 [10,11] (.take 3 [10,11] (.take 4 [10,11] (.take 5 [10,11] (.take 6 [10,11] (.take 7 [10,11] (.take 8 [10,11] (.take 9 [10,11] (.all (.alt 10 (.all (.alt 11 (.take 12 [] .done) .nil)) .nil)))))))))))))) lf))))) s2)))))))
abbrev Ox:Nat->List Ds
 | 1=>[.rd (.int .u32), .rd (.int .u32),rb, .own (.int .u32),vi]
 | 2=>[.rd (.int .u32), .rd (.int .u32),rb, .own (.int .u32),vi]
 | 3=>[.rd (.int .u32), .rd (.int .u32), .own (.int .u32), .own (.int .u32),vi]
 | 4=>[.rd (.int .u32), .own (.int .u32), .own (.int .u32),vi]
 | _=>[]
abbrev aaP: ∀ k,aq.V->TupD D (Ox k)->aq.V
 | 1,c,t=> {c with k0:=t.1,s1:=t.2.1,b2:=t.2.2.1,w7:=t.2.2.2.1,t8:=t.2.2.2.2.1}
 | 2,c,t=> {c with k0:=t.1,s1:=t.2.1,b2:=t.2.2.1,w7:=t.2.2.2.1,t8:=t.2.2.2.2.1}
 | 3,c,t=> {c with k0:=t.1,s1:=t.2.1,w7:=t.2.2.1,pK:=t.2.2.2.1,t14:=t.2.2.2.2.1}
 | 4,c,t=> {c with s1:=t.1,pK:=t.2.1,nA:=t.2.2.1,i20:=t.2.2.2.1}
 | _,c,_=>c
abbrev aaQ: ∀ k,aq.V->TupD D (Ox k)
 | 1,c=>(c.k0,c.s1,c.b2,c.w7,c.t8,())
 | 2,c=>(c.k0,c.s1,c.b2,c.w7,c.t8,())
 | 3,c=>(c.k0,c.s1,c.w7,c.pK,c.t14,())
 | 4,c=>(c.s1,c.pK,c.nA,c.i20,())
 | 0,c=>()
 | _+5,c=>()
abbrev Tl (Q:aq.QT):Nat->List (aq.V->Prop)->aq.V->Prop
 | 1,[S1],c=>aq.B1 S1 Q c
 | 2,[S1],c=>aq.K2 S1 Q c
 | 3,[S3],c=>aq.B3 S3 Q c
 | 4,[S4],c=>aq.B4 S4 Q c
 | _,_,_=>False
abbrev aaR (Q:QT GJ):Pts D:=Pts.gZ Ox aaP aaQ (by intro k b t; match k,t with | 0,t | 1,t | 2,t | 3,t | 4,t | _+5,t=>rfl) (fun σ=>Tl (fun r0=>Q (r0,()) (()) σ))
abbrev C70:Ctrs D:=((88,GJ)::C88)
abbrev GK:Ctr D:= {ps:=[rb],rs:=[.val (.vec .u8 32)],bk:=[],sg:=false,P:=fun x σ Q=>aT x.1 (fun r0=>Q (r0,()) (()) σ)}
noncomputable def c70:Code:=Tryz.f70.body.getD .skip
def A70:Ann:=(sl (sl (sl (.seq (sl (.block (.loop 1 [2,3,4,5,6] (.seq (sl (.cond lf lf)) (.seq (.block lf) lf))))) (sl (.seq (sl (.block (.loop 2 [2,4,7,8] (.seq (sl (.cond lf lf)) (.seq (.block lf) lf))))) s2))))))
abbrev Oy:Nat->List Ds
 | 1=>[.blk 22 [.v (.vec .u8 32)], .own (.int .u32), .own (.int .u32), .own (.int .u8),vi]
 | 2=>[.blk 22 [.v (.vec .u8 32)], .own (.int .u32), .blk 22 [.v (.vec .u8 32)],vi]
 | _=>[]
abbrev aaT: ∀ k,aT.V->TupD D (Oy k)->aT.V
 | 1,c,t=> {c with v2:=t.1.1,k3:=t.2.1,s4:=t.2.2.1,p5:=t.2.2.2.1,i6:=t.2.2.2.2.1}
 | 2,c,t=> {c with v2:=t.1.1,s4:=t.2.1,dx:=t.2.2.1.1,i8:=t.2.2.2.1}
 | _,c,_=>c
abbrev aaU: ∀ k,aT.V->TupD D (Oy k)
 | 1,c=>((c.v2,()),c.k3,c.s4,c.p5,c.i6,())
 | 2,c=>((c.v2,()),c.s4,(c.dx,()),c.i8,())
 | 0,c=>()
 | _+3,c=>()
abbrev Tm (Q:aT.QT):Nat->List (aT.V->Prop)->aT.V->Prop
 | 1,[S1],c=>aT.B1 S1 Q c
 | 2,[S2],c=>aT.B2 S2 Q c
 | _,_,_=>False
abbrev aaV (Q:QT GK):Pts D:=Pts.gZ Oy aaT aaU (by intro k b t; match k,t with | 0,t | 1,t | 2,t | _+3,t=>rfl) (fun σ=>Tm (fun r0=>Q (r0,()) (()) σ))
abbrev Oz:Ctrs D:=((70,GK)::C70)
abbrev yV:Ctr D:= {ps:=[rb],rs:=[vu],bk:=[],sg:=false,P:=fun x σ Q=>ej x.1 (fun r0=>Q (r0,()) (()) σ)}
noncomputable def aaW:Code:=Tryz.f115.body.getD .skip
def aaX:Ann:=(sl (.seq (.plan (.take 0 [] (.take 1 [] (.take 2 [] (.take 3 [] (.take 4 [] (.take 5 [] (.take 6 [] (.take 7 [] (.take 8 [] (.take 9 [] (.take 10 [] (.take 11 [] (.take 12 [] (.take 13 [] (.take 14 [] (.take 15 [] (.take 16 [] (.take 17 [] (.take 18 [] (.take 19 [] (.take 20 [] (.take 21 [] (.take 22 [] .done)))))))))))))))))))))))) lf))
abbrev Tn (Q:QT yV):Pts D:=Pts.no
abbrev OA:Ctrs D:=((115,yV)::Oz)
abbrev yW:Ctr D:= {ps:=[],rs:=[.own (.list (.int .i64))],bk:=[],sg:=false,P:=fun x σ Q=>iQ (fun r0=>Q (r0,()) (()) σ)}
noncomputable def aaY:Code:=Tryz.f116.body.getD .skip
def aaZ:Ann:=(sl s2)
abbrev To (Q:QT yW):Pts D:=Pts.no
abbrev OC:Ctrs D:=((116,yW)::OA)
abbrev yX:Ctr D:= {ps:=[vu,vi],rs:=[vu],bk:=[],sg:=false,P:=fun x σ Q=>aZ x.1 x.2.1 (fun r0=>Q (r0,()) (()) σ)}
noncomputable def aa0:Code:=Tryz.f125.body.getD .skip
def aa1:Ann:=(sl (.seq (sl (.block (.loop 1 [0,1,5] (.seq (sl (.cond lf lf)) (.seq (.block lf) lf))))) s2))
abbrev GL:Nat->List Ds
 | 1=>[vu,vi,vi]
 | _=>[]
abbrev Tp: ∀ k,aZ.V->TupD D (GL k)->aZ.V
 | 1,c,t=> {c with x0:=t.1,n1:=t.2.1,i5:=t.2.2.1}
 | _,c,_=>c
abbrev Tq: ∀ k,aZ.V->TupD D (GL k)
 | 1,c=>(c.x0,c.n1,c.i5,())
 | 0,c=>()
 | _+2,c=>()
abbrev OD (Q:aZ.QT):Nat->List (aZ.V->Prop)->aZ.V->Prop
 | 1,[S1],c=>aZ.B1 S1 Q c
 | _,_,_=>False
abbrev Ts (Q:QT yX):Pts D:=Pts.gZ GL Tp Tq (by intro k b t; match k,t with | 0,t | 1,t | _+2,t=>rfl) (fun σ=>OD (fun r0=>Q (r0,()) (()) σ))
abbrev OE:Ctrs D:=((125,yX)::OC)
abbrev yY:Ctr D:= {ps:=[.val (.vec .u32 4)],rs:=[.val (.vec .u32 4)],bk:=[],sg:=false,P:=fun x σ Q=>dy x.1 (fun r0=>Q (r0,()) (()) σ)}
noncomputable def aa2:Code:=Tryz.f117.body.getD .skip
def aa3:Ann:=(sl (.seq (.plan (.take 0 [] (.take 1 [] (.take 2 [] (.take 3 [] (.take 4 [] (.take 5 [] (.take 6 [] (.take 7 [] (.take 8 [] (.take 9 [] (.take 10 [] (.take 11 [] .done))))))))))))) (sl (sl (sl (sl (sl (sl (sl (sl s2))))))))))
abbrev Tt (Q:QT yY):Pts D:=Pts.no
abbrev OF:Ctrs D:=((117,yY)::OE)
abbrev yZ:Ctr D:= {ps:=[.val (.vec .u8 32), .val (.vec .u8 12),vu],rs:=[.val (.vec .u8 64)],bk:=[],sg:=false,P:=fun x σ Q=>ai x.1 x.2.1 x.2.2.1 (fun r0=>Q (r0,()) (()) σ)}
noncomputable def aa4:Code:=Tryz.f105.body.getD .skip
def aa5:Ann:=(sl (sl (.seq (sl (.block (.loop 1 [2,3,4,6,7,8] (.seq (sl (.cond lf lf)) (.seq (.block lf) lf))))) (sl (.seq (sl (.block (.loop 2 [4,6,7,9] (.seq (sl (.cond lf lf)) (.seq (.block lf) lf))))) (sl (.seq (sl (.block (.loop 3 [6,7,10,11] (.seq (sl (.cond lf lf)) (.seq (.block (sl (.block (.loop 4 [6,7,10,11,59,60,61] (sl (.seq (.cond lf lf) (.seq (.block (sl (.join 6 [6,7,10,11,13,14,59,60,61] (.plan (.take 0 [25,27] (.take 1 [25,27] (.take 2 [25,27] (.take 3 [25,27] (.take 4 [25,27] (.take 5 [25,27] (.take 6 [25,27] (.take 7 [25,27] (.take 8 [25,27] (.take 9 [25,27] (.take 10 [25,27] (.take 11 [25,27] (.take 12 [25,27] (.take 13 [25,27] (.take 14 [25,27] (.take 15 [25,27] (.take 16 [25,27] (.take 17 [25,27] (.take 18 [25,27] (.take 19 [25,27] (.take 20 [25,27] (.take 21 [25,27] (.take 22 [25,27] (.take 23 [25,27] (.take 24 [25,27] (.all (.alt 25 (.all (.alt 26 (.all (.alt 27 .done .nil)) .nil)) (.alt 26 (.all (.alt 25 (.all (.alt 27 .done .nil)) .nil)) .nil))))))))))))))))))))))))))))) (sl (.block (.loop 5 [6,7,10,11,13,14,15,59,60,61] (.seq (sl (.cond lf lf)) (.seq (.block (.plan (.take 0 [9] (.take 1 [9] (.take 2 [9] (.take 3 [9] (.take 4 [9] (.take 5 [9] (.take 6 [9] (.take 7 [9] (.take 8 [9] (.all (.alt 9 .done .nil))))))))))))) lf)))))))) lf))))))) lf))))) (sl (.seq (sl (.block (.loop 7 [6,7,10,16,17] (.seq (sl (.cond lf lf)) (.seq (.block (.seq (.plan (.take 0 [] (.take 1 [] (.take 2 [] (.take 3 [] (.take 4 [] (.take 5 [] (.take 6 [] (.take 7 [] (.take 8 [] (.take 9 [] .done))))))))))) (sl (.block (.loop 8 [6,7,10,16,17,18,19] (.seq (sl (.cond lf lf)) (.seq (.block lf) lf))))))) lf))))) s2)))))))))
abbrev GM:Nat->List Ds
 | 1=>[vu, .blk 22 [.v (.vec .u8 32)], .blk 136 [.v (.vec .u8 12)], .blk 161 [.v (.vec .u8 64)], .own (.int .u32),vi]
 | 2=>[.blk 136 [.v (.vec .u8 12)], .blk 161 [.v (.vec .u8 64)], .own (.int .u32),vi]
 | 3=>[.blk 161 [.v (.vec .u8 64)], .own (.int .u32), .own (.int .u32),vi]
 | 4=>[.blk 161 [.v (.vec .u8 64)], .own (.int .u32), .own (.int .u32),vi, .own (.list (.int .i64)),vi,vi]
 | 6=>[.blk 161 [.v (.vec .u8 64)], .own (.int .u32), .own (.int .u32),vi, .val (.list (.int .i64)), .blk 179 [.v (.vec .u32 4)], .own (.list (.int .i64)),vi,vi]
 | 5=>[.blk 161 [.v (.vec .u8 64)], .own (.int .u32), .own (.int .u32),vi, .val (.list (.int .i64)), .blk 179 [.v (.vec .u32 4)],vi, .own (.list (.int .i64)),vi,vi]
 | 7=>[.blk 161 [.v (.vec .u8 64)], .own (.int .u32), .own (.int .u32), .blk 161 [.v (.vec .u8 64)],vi]
 | 8=>[.blk 161 [.v (.vec .u8 64)], .own (.int .u32), .own (.int .u32), .blk 161 [.v (.vec .u8 64)],vi,vu,vi]
 | _=>[]
abbrev Tu: ∀ k,ai.V->TupD D (GM k)->ai.V
 | 1,c,t=> {c with bg:=t.1,ow:=t.2.1.1,eO:=t.2.2.1.1,v6:=t.2.2.2.1.1,aM:=t.2.2.2.2.1,i8:=t.2.2.2.2.2.1}
 | 2,c,t=> {c with eO:=t.1.1,v6:=t.2.1.1,aM:=t.2.2.1,i9:=t.2.2.2.1}
 | 3,c,t=> {c with v6:=t.1.1,aM:=t.2.1,od:=t.2.2.1,eo:=t.2.2.2.1}
 | 4,c,t=> {c with v6:=t.1.1,aM:=t.2.1,od:=t.2.2.1,eo:=t.2.2.2.1,uh:=t.2.2.2.2.1,DN:=t.2.2.2.2.2.1,z8:=t.2.2.2.2.2.2.1}
 | 6,c,t=> {c with v6:=t.1.1,aM:=t.2.1,od:=t.2.2.1,eo:=t.2.2.2.1,Io:=t.2.2.2.2.1,Lo:=t.2.2.2.2.2.1.1,uh:=t.2.2.2.2.2.2.1,DN:=t.2.2.2.2.2.2.2.1,z8:=t.2.2.2.2.2.2.2.2.1}
 | 5,c,t=> {c with v6:=t.1.1,aM:=t.2.1,od:=t.2.2.1,eo:=t.2.2.2.1,Io:=t.2.2.2.2.1,Lo:=t.2.2.2.2.2.1.1,Lq:=t.2.2.2.2.2.2.1,uh:=t.2.2.2.2.2.2.2.1,DN:=t.2.2.2.2.2.2.2.2.1,z8:=t.2.2.2.2.2.2.2.2.2.1}
 | 7,c,t=> {c with v6:=t.1.1,aM:=t.2.1,od:=t.2.2.1,kU:=t.2.2.2.1.1,i17:=t.2.2.2.2.1}
 | 8,c,t=> {c with v6:=t.1.1,aM:=t.2.1,od:=t.2.2.1,kU:=t.2.2.2.1.1,i17:=t.2.2.2.2.1,QH:=t.2.2.2.2.2.1,Et:=t.2.2.2.2.2.2.1}
 | _,c,_=>c
abbrev Tv: ∀ k,ai.V->TupD D (GM k)
 | 1,c=>(c.bg,(c.ow,()),(c.eO,()),(c.v6,()),c.aM,c.i8,())
 | 2,c=>((c.eO,()),(c.v6,()),c.aM,c.i9,())
 | 3,c=>((c.v6,()),c.aM,c.od,c.eo,())
 | 4,c=>((c.v6,()),c.aM,c.od,c.eo,c.uh,c.DN,c.z8,())
 | 6,c=>((c.v6,()),c.aM,c.od,c.eo,c.Io,(c.Lo,()),c.uh,c.DN,c.z8,())
 | 5,c=>((c.v6,()),c.aM,c.od,c.eo,c.Io,(c.Lo,()),c.Lq,c.uh,c.DN,c.z8,())
 | 7,c=>((c.v6,()),c.aM,c.od,(c.kU,()),c.i17,())
 | 8,c=>((c.v6,()),c.aM,c.od,(c.kU,()),c.i17,c.QH,c.Et,())
 | 0,c=>()
 | _+9,c=>()
abbrev OG (Q:ai.QT):Nat->List (ai.V->Prop)->ai.V->Prop
 | 1,[S1],c=>ai.B1 S1 Q c
 | 2,[S2],c=>ai.B2 S2 Q c
 | 3,[S3],c=>ai.B3 S3 Q c
 | 4,[S4,S3],c=>ai.B4 S3 S4 Q c
 | 6,[S4,S3],c=>ai.K6 S3 S4 Q c
 | 5,[S5,S4,S3],c=>ai.B5 S3 S4 S5 Q c
 | 7,[S7],c=>ai.B7 S7 Q c
 | 8,[S8,S7],c=>ai.B8 S7 S8 Q c
 | _,_,_=>False
abbrev Tw (Q:QT yZ):Pts D:=Pts.gZ GM Tu Tv (by intro k b t; match k,t with | 0,t | 1,t | 2,t | 3,t | 4,t | 5,t | 6,t | 7,t | 8,t | _+9,t=>rfl) (fun σ=>OG (fun r0=>Q (r0,()) (()) σ))
abbrev C89:Ctrs D:=((105,yZ)::OF)
abbrev GN:Ctr D:= {ps:=[.val (.vec .u8 32), .val (.vec .u8 12),vu,vi],rs:=[.own (.int .u8)],bk:=[],sg:=false,P:=fun x σ Q=>aJ x.1 x.2.1 x.2.2.1 x.2.2.2.1 (fun r0=>Q (r0,()) (()) σ)}
noncomputable def c89:Code:=Tryz.f89.body.getD .skip
def A89:Ann:=(sl (.seq (.join 1 [2,3,4,5,16] lf (.cond s2 lf)) (sl (.seq (.block (.loop 2 [2,3,4,5,9] (.seq (sl (.cond lf lf)) (.block (sl s2))))) s2))))
abbrev OH:Nat->List Ds
 | 1=>[vu,vi, .blk 22 [.v (.vec .u8 32)], .blk 136 [.v (.vec .u8 12)],vb]
 | 2=>[vu,vi, .blk 22 [.v (.vec .u8 32)], .blk 136 [.v (.vec .u8 12)], .own (.int .u8)]
 | _=>[]
abbrev aa7: ∀ k,aJ.V->TupD D (OH k)->aJ.V
 | 1,c,t=> {c with bg:=t.1,gY:=t.2.1,gI:=t.2.2.1.1,fJ:=t.2.2.2.1.1,qh:=t.2.2.2.2.1}
 | 2,c,t=> {c with bg:=t.1,gY:=t.2.1,gI:=t.2.2.1.1,fJ:=t.2.2.2.1.1,eW:=t.2.2.2.2.1}
 | _,c,_=>c
abbrev aa8: ∀ k,aJ.V->TupD D (OH k)
 | 1,c=>(c.bg,c.gY,(c.gI,()),(c.fJ,()),c.qh,())
 | 2,c=>(c.bg,c.gY,(c.gI,()),(c.fJ,()),c.eW,())
 | 0,c=>()
 | _+3,c=>()
abbrev Tz (Q:aJ.QT):Nat->List (aJ.V->Prop)->aJ.V->Prop
 | 1,[],c=>aJ.K1 Q c
 | 2,[S2],c=>aJ.B2 S2 Q c
 | _,_,_=>False
abbrev aa9 (Q:QT GN):Pts D:=Pts.gZ OH aa7 aa8 (by intro k b t; match k,t with | 0,t | 1,t | 2,t | _+3,t=>rfl) (fun σ=>Tz (fun r0=>Q (r0,()) (()) σ))
abbrev C75:Ctrs D:=((89,GN)::C89)
abbrev GO:Ctr D:= {ps:=[.val (.vec .u8 32), .val (.vec .u8 12),vu,rb],rs:=[.own (.int .u8)],bk:=[],sg:=false,P:=fun x σ Q=>bw x.1 x.2.1 x.2.2.1 x.2.2.2.1 (fun r0=>Q (r0,()) (()) σ)}
noncomputable def c75:Code:=Tryz.f75.body.getD .skip
def A75:Ann:=(sl (sl (sl (.seq (sl (.block (.loop 1 [3,9,10,11] (.seq (sl (.cond lf lf)) (.seq (.block (.plan (.take 0 [12] (.take 1 [12] (.take 2 [12] (.take 3 [12] (.take 4 [12] (.take 5 [12] (.take 6 [12] (.take 7 [12] (.take 8 [12] (.take 9 [12] (.take 10 [12] (.take 11 [12] (.all (.alt 12 .done .nil)))))))))))))))) lf))))) s2))))
abbrev OI:Nat->List Ds
 | 1=>[rb, .own (.int .u8), .own (.int .u8),vi]
 | _=>[]
abbrev abb: ∀ k,bw.V->TupD D (OI k)->bw.V
 | 1,c,t=> {c with b3:=t.1,s9:=t.2.1,nB:=t.2.2.1,i11:=t.2.2.2.1}
 | _,c,_=>c
abbrev abc: ∀ k,bw.V->TupD D (OI k)
 | 1,c=>(c.b3,c.s9,c.nB,c.i11,())
 | 0,c=>()
 | _+2,c=>()
abbrev TA (Q:bw.QT):Nat->List (bw.V->Prop)->bw.V->Prop
 | 1,[S1],c=>bw.B1 S1 Q c
 | _,_,_=>False
abbrev abd (Q:QT GO):Pts D:=Pts.gZ OI abb abc (by intro k b t; match k,t with | 0,t | 1,t | _+2,t=>rfl) (fun σ=>TA (fun r0=>Q (r0,()) (()) σ))
abbrev C76:Ctrs D:=((75,GO)::C75)
abbrev GP:Ctr D:= {ps:=[vu, .val (.int .u64)],rs:=[.val (.vec .u8 12)],bk:=[],sg:=false,P:=fun x σ Q=>aN x.1 x.2.1 (fun r0=>Q (r0,()) (()) σ)}
noncomputable def c76:Code:=Tryz.f76.body.getD .skip
def A76:Ann:=(sl (sl (.seq (sl (.block (.loop 1 [0,1,4,5,6] (.seq (sl (.cond lf lf)) (.seq (.block lf) lf))))) (.seq (sl (.block (.loop 2 [1,4,5,7] (.seq (sl (.cond lf lf)) (.seq (.block lf) lf))))) s2))))
abbrev OJ:Nat->List Ds
 | 1=>[vu, .val (.int .u64), .blk 136 [.v (.vec .u8 12)], .blk 136 [.v (.vec .u8 12)],vi]
 | 2=>[.val (.int .u64), .blk 136 [.v (.vec .u8 12)], .blk 136 [.v (.vec .u8 12)],vi]
 | _=>[]
abbrev abf: ∀ k,aN.V->TupD D (OJ k)->aN.V
 | 1,c,t=> {c with fD:=t.1,eB:=t.2.1,v4:=t.2.2.1.1,ga:=t.2.2.2.1.1,i6:=t.2.2.2.2.1}
 | 2,c,t=> {c with eB:=t.1,v4:=t.2.1.1,ga:=t.2.2.1.1,i7:=t.2.2.2.1}
 | _,c,_=>c
abbrev abg: ∀ k,aN.V->TupD D (OJ k)
 | 1,c=>(c.fD,c.eB,(c.v4,()),(c.ga,()),c.i6,())
 | 2,c=>(c.eB,(c.v4,()),(c.ga,()),c.i7,())
 | 0,c=>()
 | _+3,c=>()
abbrev TB (Q:aN.QT):Nat->List (aN.V->Prop)->aN.V->Prop
 | 1,[S1],c=>aN.B1 S1 Q c
 | 2,[S2],c=>aN.B2 S2 Q c
 | _,_,_=>False
abbrev abh (Q:QT GP):Pts D:=Pts.gZ OJ abf abg (by intro k b t; match k,t with | 0,t | 1,t | 2,t | _+3,t=>rfl) (fun σ=>TB (fun r0=>Q (r0,()) (()) σ))
abbrev C49:Ctrs D:=((76,GP)::C76)
abbrev GQ:Ctr D:= {ps:=[.val (.vec .u8 32), .val (.st 7),vi,rb],rs:=[.own (.int .u8),vi],bk:=[],sg:=false,P:=fun x σ Q=>bD x.1 x.2.1 x.2.2.1 x.2.2.2.1 (fun r0 r1=>Q (r0,r1,()) (()) σ)}
noncomputable def c49:Code:=Tryz.f49.body.getD .skip
def A49:Ann:=(sl (.seq (.join 1 [2,3,4,5,16] lf (.cond s2 lf)) (.seq (.seq (.plan (.take 0 [1] (.take 2 [] (.take 3 [] (.all (.alt 1 (.take 4 [] .done) .nil)))))) (.cond s2 lf)) (.seq (.plan (.take 0 [7] (.take 1 [5,7] (.take 2 [5,7] (.take 3 [5,7] (.take 4 [5,7] (.take 6 [7] (.all (.alt 5 (.all (.alt 7 (.take 8 [] (.take 9 [] .done)) .nil)) .nil))))))))) lf))))
abbrev OK:Nat->List Ds
 | 1=>[vi,rb, .blk 22 [.v (.vec .u8 32)], .blk 36 [.v (.st 7)],vb]
 | _=>[]
abbrev abj: ∀ k,bD.V->TupD D (OK k)->bD.V
 | 1,c,t=> {c with eP:=t.1,iw:=t.2.1,gI:=t.2.2.1.1,r5:=t.2.2.2.1.1,qh:=t.2.2.2.2.1}
 | _,c,_=>c
abbrev abk: ∀ k,bD.V->TupD D (OK k)
 | 1,c=>(c.eP,c.iw,(c.gI,()),(c.r5,()),c.qh,())
 | 0,c=>()
 | _+2,c=>()
abbrev TC (Q:bD.QT):Nat->List (bD.V->Prop)->bD.V->Prop
 | 1,[],c=>bD.K1 Q c
 | _,_,_=>False
abbrev abl (Q:QT GQ):Pts D:=Pts.gZ OK abj abk (by intro k b t; match k,t with | 0,t | 1,t | _+2,t=>rfl) (fun σ=>TC (fun r0 r1=>Q (r0,r1,()) (()) σ))
abbrev C18:Ctrs D:=((49,GQ)::C49)
abbrev GR:Ctr D:= {ps:=[rb, .val (.vec .u8 32), .val (.st 5),vi, .val (.st 7)],rs:=[.own (.int .u8),vi],bk:=[],sg:=false,P:=fun x σ Q=>bz x.1 x.2.1 x.2.2.1 x.2.2.2.1 x.2.2.2.2.1 (fun r0 r1=>Q (r0,r1,()) (()) σ)}
noncomputable def c18:Code:=Tryz.f18.body.getD .skip
def A18:Ann:=(sl (sl (.seq (.join 1 [0,6,9,12,27] lf (.cond s2 lf)) (.seq (.plan (.take 0 [10] (.take 1 [10] (.take 2 [10] (.take 3 [10] (.take 4 [10] (.take 5 [10] (.take 6 [10] (.take 7 [10] (.take 8 [10] (.take 9 [10] (.all (.alt 10 (.take 11 [] (.take 12 [] (.take 13 [] (.take 14 [] .done)))) .nil))))))))))))) lf))))
abbrev OL:Nat->List Ds
 | 1=>[rb, .blk 22 [.v (.vec .u8 32)], .blk 36 [.v (.st 7)],vi,vb]
 | _=>[]
abbrev abn: ∀ k,bz.V->TupD D (OL k)->bz.V
 | 1,c,t=> {c with c7:=t.1,qX:=t.2.1.1,r9:=t.2.2.1.1,Jf:=t.2.2.2.1,QU:=t.2.2.2.2.1}
 | _,c,_=>c
abbrev abo: ∀ k,bz.V->TupD D (OL k)
 | 1,c=>(c.c7,(c.qX,()),(c.r9,()),c.Jf,c.QU,())
 | 0,c=>()
 | _+2,c=>()
abbrev TD (Q:bz.QT):Nat->List (bz.V->Prop)->bz.V->Prop
 | 1,[],c=>bz.K1 Q c
 | _,_,_=>False
abbrev abp (Q:QT GR):Pts D:=Pts.gZ OL abn abo (by intro k b t; match k,t with | 0,t | 1,t | _+2,t=>rfl) (fun σ=>TD (fun r0 r1=>Q (r0,r1,()) (()) σ))
abbrev C38:Ctrs D:=((18,GR)::C18)
abbrev GS:Ctr D:= {ps:=[.val (.st 5),vi],rs:=[.own (.int .i64)],bk:=[],sg:=false,P:=fun x σ Q=>au x.1 x.2.1 (fun r0=>Q (r0,()) (()) σ)}
noncomputable def c38:Code:=Tryz.f38.body.getD .skip
def A38:Ann:=(sl (sl (.seq (.join 1 [1,2,5,18] lf (.cond s2 lf)) (.seq (sl (.block (.loop 2 [1,2,5,6] (.seq (.join 3 [1,2,5,6,45] (.plan (.take 0 [] (.take 1 [] (.take 2 [] (.take 3 [] (.take 4 [] (.take 5 [] (.take 6 [] (.take 7 [] (.take 8 [] (.take 9 [] (.take 10 [] (.take 11 [] (.take 12 [] (.take 13 [] (.take 14 [] (.take 15 [] (.take 16 [] (.take 17 [] (.take 18 [] (.take 19 [] (.take 20 [] (.take 21 [] .done))))))))))))))))))))))) (.cond lf lf)) (.seq (.block lf) lf))))) s2))))
abbrev OM:Nat->List Ds
 | 1=>[vi, .blk 52 [.v (.st 5)], .own (.int .i64),vb]
 | 2=>[vi, .blk 52 [.v (.st 5)], .own (.int .i64),vi]
 | 3=>[vi, .blk 52 [.v (.st 5)], .own (.int .i64),vi,vb]
 | _=>[]
abbrev abr: ∀ k,au.V->TupD D (OM k)->au.V
 | 1,c,t=> {c with bI:=t.1,s2:=t.2.1.1,ga:=t.2.2.1,iE:=t.2.2.2.1}
 | 2,c,t=> {c with bI:=t.1,s2:=t.2.1.1,ga:=t.2.2.1,k6:=t.2.2.2.1}
 | 3,c,t=> {c with bI:=t.1,s2:=t.2.1.1,ga:=t.2.2.1,k6:=t.2.2.2.1,PA:=t.2.2.2.2.1}
 | _,c,_=>c
abbrev abt: ∀ k,au.V->TupD D (OM k)
 | 1,c=>(c.bI,(c.s2,()),c.ga,c.iE,())
 | 2,c=>(c.bI,(c.s2,()),c.ga,c.k6,())
 | 3,c=>(c.bI,(c.s2,()),c.ga,c.k6,c.PA,())
 | 0,c=>()
 | _+4,c=>()
abbrev TE (Q:au.QT):Nat->List (au.V->Prop)->au.V->Prop
 | 1,[],c=>au.K1 Q c
 | 2,[S2],c=>au.B2 S2 Q c
 | 3,[S2],c=>au.K3 S2 Q c
 | _,_,_=>False
abbrev abu (Q:QT GS):Pts D:=Pts.gZ OM abr abt (by intro k b t; match k,t with | 0,t | 1,t | 2,t | 3,t | _+4,t=>rfl) (fun σ=>TE (fun r0=>Q (r0,()) (()) σ))
abbrev C68:Ctrs D:=((38,GS)::C38)
abbrev GU:Ctr D:= {ps:=[.val (.st 7)],rs:=[.own (.int .u8)],bk:=[],sg:=false,P:=fun x σ Q=>bF x.1 (fun r0=>Q (r0,()) (()) σ)}
noncomputable def c68:Code:=Tryz.f68.body.getD .skip
def A68:Ann:=(sl (sl (.seq (sl (.block (.loop 1 [1,3,4] (.seq (sl (.cond lf lf)) (.seq (.block lf) lf))))) s2)))
abbrev ON:Nat->List Ds
 | 1=>[.blk 36 [.v (.st 7)], .own (.int .u8),vi]
 | _=>[]
abbrev abw: ∀ k,bF.V->TupD D (ON k)->bF.V
 | 1,c,t=> {c with r1:=t.1.1,cP:=t.2.1,i4:=t.2.2.1}
 | _,c,_=>c
abbrev abx: ∀ k,bF.V->TupD D (ON k)
 | 1,c=>((c.r1,()),c.cP,c.i4,())
 | 0,c=>()
 | _+2,c=>()
abbrev TF (Q:bF.QT):Nat->List (bF.V->Prop)->bF.V->Prop
 | 1,[S1],c=>bF.B1 S1 Q c
 | _,_,_=>False
abbrev aby (Q:QT GU):Pts D:=Pts.gZ ON abw abx (by intro k b t; match k,t with | 0,t | 1,t | _+2,t=>rfl) (fun σ=>TF (fun r0=>Q (r0,()) (()) σ))
abbrev C39:Ctrs D:=((68,GU)::C68)
abbrev GV:Ctr D:= {ps:=[.rd (.st 7)],rs:=[.own (.int .u8),vi],bk:=[],sg:=false,P:=fun x σ Q=>aB x.1 (fun r0 r1=>Q (r0,r1,()) (()) σ)}
noncomputable def c39:Code:=Tryz.f39.body.getD .skip
def A39:Ann:=(sl (.seq (.join 1 [0,13] lf (.cond s2 lf)) (sl (.seq (sl (.block (.loop 2 [0,4,5] (.seq (sl (.cond lf lf)) (.seq (.block (.seq (.join 3 [0,4,5,37] lf (.cond s2 lf)) lf)) lf))))) (.seq (.block (.loop 4 [4] (.seq (sl (.cond lf lf)) (.block lf)))) s2)))))
abbrev OO:Nat->List Ds
 | 1=>[.rd (.st 7),vb]
 | 2=>[.rd (.st 7), .own (.int .u8),vi]
 | 3=>[.rd (.st 7), .own (.int .u8),vi,vb]
 | 4=>[.own (.int .u8)]
 | _=>[]
abbrev abA: ∀ k,aB.V->TupD D (OO k)->aB.V
 | 1,c,t=> {c with l0:=t.1,iP:=t.2.1}
 | 2,c,t=> {c with l0:=t.1,fN:=t.2.1,i5:=t.2.2.1}
 | 3,c,t=> {c with l0:=t.1,fN:=t.2.1,i5:=t.2.2.1,QW:=t.2.2.2.1}
 | 4,c,t=> {c with fN:=t.1}
 | _,c,_=>c
abbrev abB: ∀ k,aB.V->TupD D (OO k)
 | 1,c=>(c.l0,c.iP,())
 | 2,c=>(c.l0,c.fN,c.i5,())
 | 3,c=>(c.l0,c.fN,c.i5,c.QW,())
 | 4,c=>(c.fN,())
 | 0,c=>()
 | _+5,c=>()
abbrev TG (Q:aB.QT):Nat->List (aB.V->Prop)->aB.V->Prop
 | 1,[],c=>aB.K1 Q c
 | 2,[S2],c=>aB.B2 S2 Q c
 | 3,[S2],c=>aB.K3 S2 Q c
 | 4,[S4],c=>aB.B4 S4 Q c
 | _,_,_=>False
abbrev abC (Q:QT GV):Pts D:=Pts.gZ OO abA abB (by intro k b t; match k,t with | 0,t | 1,t | 2,t | 3,t | 4,t | _+5,t=>rfl) (fun σ=>TG (fun r0 r1=>Q (r0,r1,()) (()) σ))
abbrev C95:Ctrs D:=((39,GV)::C39)
abbrev GW:Ctr D:= {ps:=[rb],rs:=[.val (.st 7),vi],bk:=[],sg:=false,P:=fun x σ Q=>ay x.1 (fun r0 r1=>Q (r0,r1,()) (()) σ)}
noncomputable def c95:Code:=Tryz.f95.body.getD .skip
def A95:Ann:=(sl (.seq (.join 1 [0,2,15] lf (.cond s2 lf)) (sl (.seq (sl (.block (.loop 2 [0,2,4,5] (.seq (sl (.cond lf lf)) (.seq (.block (.plan (.take 0 [13] (.take 1 [13] (.take 2 [13] (.take 3 [13] (.take 4 [13] (.take 5 [13] (.take 6 [13] (.take 7 [13] (.take 8 [13] (.take 9 [13] (.take 10 [13] (.take 11 [13] (.take 12 [13] (.all (.alt 13 .done .nil))))))))))))))))) lf))))) (.seq (sl (.block (.loop 3 [0,2,4,6] (.seq (sl (.cond lf lf)) (.seq (.block lf) lf))))) s2)))))
abbrev OP:Nat->List Ds
 | 1=>[rb, .blk 36 [.v (.st 7)],vb]
 | 2=>[rb, .blk 36 [.v (.st 7)], .blk 36 [.v (.st 7)],vi]
 | 3=>[rb, .blk 36 [.v (.st 7)], .blk 36 [.v (.st 7)],vi]
 | _=>[]
abbrev abE: ∀ k,ay.V->TupD D (OP k)->ay.V
 | 1,c,t=> {c with b0:=t.1,v2:=t.2.1.1,wE:=t.2.2.1}
 | 2,c,t=> {c with b0:=t.1,v2:=t.2.1.1,r4:=t.2.2.1.1,i5:=t.2.2.2.1}
 | 3,c,t=> {c with b0:=t.1,v2:=t.2.1.1,r4:=t.2.2.1.1,i6:=t.2.2.2.1}
 | _,c,_=>c
abbrev abF: ∀ k,ay.V->TupD D (OP k)
 | 1,c=>(c.b0,(c.v2,()),c.wE,())
 | 2,c=>(c.b0,(c.v2,()),(c.r4,()),c.i5,())
 | 3,c=>(c.b0,(c.v2,()),(c.r4,()),c.i6,())
 | 0,c=>()
 | _+4,c=>()
abbrev TH (Q:ay.QT):Nat->List (ay.V->Prop)->ay.V->Prop
 | 1,[],c=>ay.K1 Q c
 | 2,[S2],c=>ay.B2 S2 Q c
 | 3,[S3],c=>ay.B3 S3 Q c
 | _,_,_=>False
abbrev abG (Q:QT GW):Pts D:=Pts.gZ OP abE abF (by intro k b t; match k,t with | 0,t | 1,t | 2,t | 3,t | _+4,t=>rfl) (fun σ=>TH (fun r0 r1=>Q (r0,r1,()) (()) σ))
abbrev C78:Ctrs D:=((95,GW)::C95)
abbrev GX:Ctr D:= {ps:=[rb],rs:=[.own (.st 7),vi],bk:=[],sg:=false,P:=fun x σ Q=>aL x.1 (fun r0 r1=>Q (r0,r1,()) (()) σ)}
noncomputable def c78:Code:=Tryz.f78.body.getD .skip
def A78:Ann:=(sl (.seq (sl (.cond s2 lf)) (sl (.seq (sl (.block (.loop 1 [0,4,5] (.seq (.join 2 [0,4,5,22] lf (.cond lf lf)) (.seq (.block (sl (.seq (sl (.cond s2 lf)) lf))) lf))))) (sl (.seq (.join 3 [4,55] lf (.cond s2 lf)) s2))))))
abbrev OQ:Nat->List Ds
 | 1=>[rb, .own (.st 7),vi]
 | 2=>[rb, .own (.st 7),vi,vb]
 | 3=>[.own (.st 7),vb]
 | _=>[]
abbrev abI: ∀ k,aL.V->TupD D (OQ k)->aL.V
 | 1,c,t=> {c with c5:=t.1,fN:=t.2.1,i5:=t.2.2.1}
 | 2,c,t=> {c with c5:=t.1,fN:=t.2.1,i5:=t.2.2.1,gX:=t.2.2.2.1}
 | 3,c,t=> {c with fN:=t.1,jo:=t.2.1}
 | _,c,_=>c
abbrev abJ: ∀ k,aL.V->TupD D (OQ k)
 | 1,c=>(c.c5,c.fN,c.i5,())
 | 2,c=>(c.c5,c.fN,c.i5,c.gX,())
 | 3,c=>(c.fN,c.jo,())
 | 0,c=>()
 | _+4,c=>()
abbrev TJ (Q:aL.QT):Nat->List (aL.V->Prop)->aL.V->Prop
 | 1,[S1],c=>aL.B1 S1 Q c
 | 2,[S1],c=>aL.K2 S1 Q c
 | 3,[],c=>aL.K3 Q c
 | _,_,_=>False
abbrev abK (Q:QT GX):Pts D:=Pts.gZ OQ abI abJ (by intro k b t; match k,t with | 0,t | 1,t | 2,t | 3,t | _+4,t=>rfl) (fun σ=>TJ (fun r0 r1=>Q (r0,r1,()) (()) σ))
abbrev C51:Ctrs D:=((78,GX)::C78)
abbrev GY:Ctr D:= {ps:=[rb,vi],rs:=[.own (.st 7),vi],bk:=[],sg:=false,P:=fun x σ Q=>az x.1 x.2.1 (fun r0 r1=>Q (r0,r1,()) (()) σ)}
noncomputable def c51:Code:=Tryz.f51.body.getD .skip
def A51:Ann:=(sl (.seq (.join 1 [0,1,13] lf (.cond s2 lf)) (sl (.seq (.join 2 [6,7,26] lf (.cond s2 lf)) s2))))
abbrev OR:Nat->List Ds
 | 1=>[rb,vi,vb]
 | 2=>[.own (.st 7),vi,vb]
 | _=>[]
abbrev abM: ∀ k,az.V->TupD D (OR k)->az.V
 | 1,c,t=> {c with c5:=t.1,many1:=t.2.1,iP:=t.2.2.1}
 | 2,c,t=> {c with l6:=t.1,e7:=t.2.1,MI:=t.2.2.1}
 | _,c,_=>c
abbrev abN: ∀ k,az.V->TupD D (OR k)
 | 1,c=>(c.c5,c.many1,c.iP,())
 | 2,c=>(c.l6,c.e7,c.MI,())
 | 0,c=>()
 | _+3,c=>()
abbrev TK (Q:az.QT):Nat->List (az.V->Prop)->az.V->Prop
 | 1,[],c=>az.K1 Q c
 | 2,[],c=>az.K2 Q c
 | _,_,_=>False
abbrev abO (Q:QT GY):Pts D:=Pts.gZ OR abM abN (by intro k b t; match k,t with | 0,t | 1,t | 2,t | _+3,t=>rfl) (fun σ=>TK (fun r0 r1=>Q (r0,r1,()) (()) σ))
abbrev C20:Ctrs D:=((51,GY)::C51)
abbrev GZ:Ctr D:= {ps:=[.val (.st 5),vi,rb],rs:=[.own (.st 7),vi],bk:=[],sg:=false,P:=fun x σ Q=>eu x.1 x.2.1 x.2.2.1 (fun r0 r1=>Q (r0,r1,()) (()) σ)}
noncomputable def c20:Code:=Tryz.f20.body.getD .skip
def A20:Ann:=(sl (sl (.seq (sl (.cond s2 lf)) s2)))
abbrev abQ (Q:QT GZ):Pts D:=Pts.no
abbrev VZ:Ctrs D:=((20,GZ)::C20)
abbrev Dw:Ctr D:= {ps:=[.rd (.st 2), .rd (.st 7)],rs:=[vb],bk:=[],sg:=false,P:=fun x σ Q=>bx x.1 x.2.1 (fun r0=>Q (r0,()) (()) σ)}
noncomputable def c21:Code:=Tryz.f21.body.getD .skip
def A21:Ann:=(sl (.seq (sl (.cond s2 lf)) (.seq (sl (.block (.loop 1 [0,1,12,13] (sl (.seq (.cond lf lf) (.seq (.block (sl (.seq (.plan (.take 0 [] (.take 1 [] (.take 2 [] (.take 3 [] (.take 4 [] (.take 5 [] (.take 6 [] (.take 7 [] (.take 8 [] .done)))))))))) (.cond s2 lf)))) lf)))))) s2)))
abbrev OS:Nat->List Ds
 | 1=>[.rd (.st 2), .rd (.st 7),vi,vi]
 | _=>[]
abbrev abR: ∀ k,bx.V->TupD D (OS k)->bx.V
 | 1,c,t=> {c with a0:=t.1,b1:=t.2.1,Ee:=t.2.2.1,iP:=t.2.2.2.1}
 | _,c,_=>c
abbrev abS: ∀ k,bx.V->TupD D (OS k)
 | 1,c=>(c.a0,c.b1,c.Ee,c.iP,())
 | 0,c=>()
 | _+2,c=>()
abbrev TL (Q:bx.QT):Nat->List (bx.V->Prop)->bx.V->Prop
 | 1,[S1],c=>bx.B1 S1 Q c
 | _,_,_=>False
abbrev abT (Q:QT Dw):Pts D:=Pts.gZ OS abR abS (by intro k b t; match k,t with | 0,t | 1,t | _+2,t=>rfl) (fun σ=>TL (fun r0=>Q (r0,()) (()) σ))
abbrev V0:Ctr D:= {ps:=[],rs:=[vb],bk:=[],sg:=false,P:=fun x σ Q=>eU (fun r0=>Q (r0,()) (()) σ)}
abbrev C4:Ctrs D:=((7,V0)::((21,Dw)::VZ))
abbrev TM:Ctr D:= {ps:=[.rd (.list (.int .u8)),vi, .val (.st 7)],rs:=[vb],bk:=[],sg:=true,P:=fun x o Q=>match o with
 | some σ=>aj x.1 x.2.1 x.2.2.1 σ (fun r0 σ1=>Q (r0,()) (()) (some σ1))
 | none=>False}
noncomputable def c4:Code:=Tryz.f4.body.getD .skip
def A4:Ann:=(sl (.seq (.join 1 [0,1,5,39] lf (.cond s2 lf)) (sl (.seq (sl (.cond s2 lf)) (sl (sl (sl (.seq (.join 2 [1,5,7,8,9,11,13,14,77] lf (.cond s2 lf)) (sl (.join 6 [1,7,8,11,13,17] (.join 3 [1,7,8,11,13,14,17,88] lf (.cond lf lf)) (.seq (sl (.block (.loop 4 [1,7,8,11,13,96,97,98] (sl (.seq (.cond lf lf) (.seq (.block (sl (sl (sl (sl (sl (.join 5 [1,7,8,11,13,96,97,98,153] lf (.cond s2 lf)))))))) lf)))))) s2)))))))))))
abbrev pd4:Nat->List Ds
 | 1=>[.rd (.list (.int .u8)),vi, .blk 36 [.v (.st 7)],vb]
 | 2=>[vi, .blk 36 [.v (.st 7)], .blk 106 [.own (.int .u8), .own (.st 4), .own (.list (.int .u8)), .own (.int .i64)], .blk 48 [.v (.st 0)], .blk 31 [.v (.st 2)], .blk 52 [.v (.st 5)], .own (.int .u8), .own (.st 2),vb]
 | 6=>[vi, .blk 106 [.own (.int .u8), .own (.st 4), .own (.list (.int .u8)), .own (.int .i64)], .blk 48 [.v (.st 0)], .blk 52 [.v (.st 5)], .own (.int .u8), .own (.st 2)]
 | 3=>[vi, .blk 106 [.own (.int .u8), .own (.st 4), .own (.list (.int .u8)), .own (.int .i64)], .blk 48 [.v (.st 0)], .blk 52 [.v (.st 5)], .own (.int .u8), .own (.st 2), .own (.st 2),vb]
 | 4=>[vi, .blk 106 [.own (.int .u8), .own (.st 4), .own (.list (.int .u8)), .own (.int .i64)], .blk 48 [.v (.st 0)], .blk 52 [.v (.st 5)], .own (.int .u8), .own (.st 2),vi,vi]
 | 5=>[vi, .blk 106 [.own (.int .u8), .own (.st 4), .own (.list (.int .u8)), .own (.int .i64)], .blk 48 [.v (.st 0)], .blk 52 [.v (.st 5)], .own (.int .u8), .own (.st 2),vi,vi,vb]
 | _=>[]
abbrev up4: ∀ k,aj.V->TupD D (pd4 k)->aj.V
 | 1,c,t=> {c with l0:=t.1,bI:=t.2.1,r5:=t.2.2.1.1,mZ:=t.2.2.2.1}
 | 2,c,t=> {c with bI:=t.1,r5:=t.2.1.1,lR:=⟨t.2.2.1.1,t.2.2.1.2.1,t.2.2.1.2.2.1,t.2.2.1.2.2.2.1⟩,s8:=t.2.2.2.1.1,um:=t.2.2.2.2.1.1,qf:=t.2.2.2.2.2.1.1,dS:=t.2.2.2.2.2.2.1,kW:=t.2.2.2.2.2.2.2.1,QX:=t.2.2.2.2.2.2.2.2.1}
 | 6,c,t=> {c with bI:=t.1,lR:=⟨t.2.1.1,t.2.1.2.1,t.2.1.2.2.1,t.2.1.2.2.2.1⟩,s8:=t.2.2.1.1,qf:=t.2.2.2.1.1,dS:=t.2.2.2.2.1,kE:=t.2.2.2.2.2.1}
 | 3,c,t=> {c with bI:=t.1,lR:=⟨t.2.1.1,t.2.1.2.1,t.2.1.2.2.1,t.2.1.2.2.2.1⟩,s8:=t.2.2.1.1,qf:=t.2.2.2.1.1,dS:=t.2.2.2.2.1,kW:=t.2.2.2.2.2.1,kE:=t.2.2.2.2.2.2.1,QY:=t.2.2.2.2.2.2.2.1}
 | 4,c,t=> {c with bI:=t.1,lR:=⟨t.2.1.1,t.2.1.2.1,t.2.1.2.2.1,t.2.1.2.2.2.1⟩,s8:=t.2.2.1.1,qf:=t.2.2.2.1.1,dS:=t.2.2.2.2.1,MJ:=t.2.2.2.2.2.1,MK:=t.2.2.2.2.2.2.1,Ip:=t.2.2.2.2.2.2.2.1}
 | 5,c,t=> {c with bI:=t.1,lR:=⟨t.2.1.1,t.2.1.2.1,t.2.1.2.2.1,t.2.1.2.2.2.1⟩,s8:=t.2.2.1.1,qf:=t.2.2.2.1.1,dS:=t.2.2.2.2.1,MJ:=t.2.2.2.2.2.1,MK:=t.2.2.2.2.2.2.1,Ip:=t.2.2.2.2.2.2.2.1,Aa:=t.2.2.2.2.2.2.2.2.1}
 | _,c,_=>c
abbrev ls4: ∀ k,aj.V->TupD D (pd4 k)
 | 1,c=>(c.l0,c.bI,(c.r5,()),c.mZ,())
 | 2,c=>(c.bI,(c.r5,()),(c.lR.blocks,c.lR.waits,c.lR.cN,c.lR.trace,()),(c.s8,()),(c.um,()),(c.qf,()),c.dS,c.kW,c.QX,())
 | 6,c=>(c.bI,(c.lR.blocks,c.lR.waits,c.lR.cN,c.lR.trace,()),(c.s8,()),(c.qf,()),c.dS,c.kE,())
 | 3,c=>(c.bI,(c.lR.blocks,c.lR.waits,c.lR.cN,c.lR.trace,()),(c.s8,()),(c.qf,()),c.dS,c.kW,c.kE,c.QY,())
 | 4,c=>(c.bI,(c.lR.blocks,c.lR.waits,c.lR.cN,c.lR.trace,()),(c.s8,()),(c.qf,()),c.dS,c.MJ,c.MK,c.Ip,())
 | 5,c=>(c.bI,(c.lR.blocks,c.lR.waits,c.lR.cN,c.lR.trace,()),(c.s8,()),(c.qf,()),c.dS,c.MJ,c.MK,c.Ip,c.Aa,())
 | 0,c=>()
 | _+7,c=>()
abbrev abV (Q:aj.QT):Nat->List (aj.V->St Pt.Obj->Prop)->aj.V->St Pt.Obj->Prop
 | 1,[],c,σ=>aj.K1 Q c σ
 | 2,[],c,σ=>aj.K2 Q c σ
 | 6,[],c,σ=>aj.K6 Q c σ
 | 3,[],c,σ=>aj.K3 Q c σ
 | 4,[S4],c,σ=>aj.B4 S4 Q c σ
 | 5,[S4],c,σ=>aj.K5 S4 Q c σ
 | _,_,_,_=>False
abbrev pt4 (Q:QT TM):Pts D:=Pts.mkS pd4 up4 ls4 (by intro k b t; match k,t with | 0,t | 1,t | 2,t | 3,t | 4,t | 5,t | 6,t | _+7,t=>rfl) (abV (fun r0 σ1=>Q (r0,()) (()) (some σ1)))
end Go.Proofs.YtkgbogibfogjgaaGreatDoor.Ek
