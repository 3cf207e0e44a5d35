import Derived.Test.YtkgbogibfogjgaaGreatDoorTmB
import Derived.Test.YtkgbogibfogjgaaGreatDoorTmE
import Derived.Test.YtkgbogibfogjgaaGreatDoorProg
set_option linter.unusedVariables false
set_option linter.unusedSimpArgs false
set_option maxHeartbeats 4000000
set_option maxRecDepth 100000
namespace Go.Pt
open Go Go.Wc Go.Pu
variable {ρ:Ids} {h:Hp} {A:List At}
structure bH where
 eT:List Int
 deriving DecidableEq
structure bJ where
 h:Vector Int 8
 rest:List Int
 n:Int
 deriving DecidableEq
structure cA where
 texts:List (List Int)
 deriving DecidableEq
structure bM where
 Place:Int
 dF:Int
 cH:Vector Int 32
 deriving DecidableEq
def oT:Rp bM where
 n:=34
 P:=fun h M vs x=>vs=([.int .i64 x.Place, .int .u32 x.dF]:List Value)++lumpV .u8 32 x.cH.toList
 len:=by
  rintro _ _ _ x rfl
  simp [bK]
 one:=by
  rintro _ _ _ x rfl
  repeat (first | exact dy rfl | exact dy (dh _ _ _) | refine yL ?_ ?_)
 mono:=by
  rintro _ _ _ _ _ x hL rfl
  exact rfl
structure cP where
 Block:Int
 Bytes:List Int
 deriving DecidableEq
def oU:Rp cP where
 n:=2
 P:=fun h M vs x=> ∃ (a0:Option Addr) (c0:Nat),vs=[.int .i64 x.Block, .slice a0 x.Bytes.length c0]∧SlE (rI .u8) h M a0 c0 x.Bytes
 len:=by
  rintro _ _ _ x ⟨a0,c0,rfl,h0⟩
  rfl
 one:=by
  rintro _ _ _ x ⟨a0,c0,rfl,h0⟩
  exact dy rfl
 mono:=by
  rintro _ _ _ _ _ x hL ⟨a0,c0,rfl,h0⟩
  exact ⟨a0,c0,rfl,h0.mono hL⟩
structure aV where
 P:Int
 Level:List Int
 di:List Int
 deriving DecidableEq
structure aj where
 Place:Int
 dF:Int
 cH:Vector Int 32
 deriving DecidableEq
def gU:Rp aj where
 n:=34
 P:=fun h M vs x=>vs=([.int .i64 x.Place, .int .u32 x.dF]:List Value)++lumpV .u8 32 x.cH.toList
 len:=by
  rintro _ _ _ x rfl
  simp [bK]
 one:=by
  rintro _ _ _ x rfl
  repeat (first | exact dy rfl | exact dy (dh _ _ _) | refine yL ?_ ?_)
 mono:=by
  rintro _ _ _ _ _ x hL rfl
  exact rfl
structure bC where
 Block:Int
 Bytes:List Int
 deriving DecidableEq
def gV:Rp bC where
 n:=2
 P:=fun h M vs x=> ∃ (a0:Option Addr) (c0:Nat),vs=[.int .i64 x.Block, .slice a0 x.Bytes.length c0]∧SlE (rI .u8) h M a0 c0 x.Bytes
 len:=by
  rintro _ _ _ x ⟨a0,c0,rfl,h0⟩
  rfl
 one:=by
  rintro _ _ _ x ⟨a0,c0,rfl,h0⟩
  exact dy rfl
 mono:=by
  rintro _ _ _ _ _ x hL ⟨a0,c0,rfl,h0⟩
  exact ⟨a0,c0,rfl,h0.mono hL⟩
def kH:Rp bH where
 n:=1
 P:=fun h M vs x=> ∃ (a0:Option Addr) (c0:Nat),vs=[.slice a0 x.eT.length c0]∧SlE (rI .i64) h M a0 c0 x.eT
 len:=by
  rintro _ _ _ x ⟨a0,c0,rfl,h0⟩
  rfl
 one:=by
  rintro _ _ _ x ⟨a0,c0,rfl,h0⟩
  exact dy rfl
 mono:=by
  rintro _ _ _ _ _ x hL ⟨a0,c0,rfl,h0⟩
  exact ⟨a0,c0,rfl,h0.mono hL⟩
def nF:Rp bJ where
 n:=10
 P:=fun h M vs x=> ∃ (a0:Option Addr) (c0:Nat),vs=lumpV .u32 8 x.h.toList++([.slice a0 x.rest.length c0, .int .u64 x.n]:List Value)∧SlE (rI .u8) h M a0 c0 x.rest
 len:=by
  rintro _ _ _ x ⟨a0,c0,rfl,h0⟩
  simp [bK]
 one:=by
  rintro _ _ _ x ⟨a0,c0,rfl,h0⟩
  repeat (first | exact dy rfl | exact dy (dh _ _ _) | refine yL ?_ ?_)
 mono:=by
  rintro _ _ _ _ _ x hL ⟨a0,c0,rfl,h0⟩
  exact ⟨a0,c0,rfl,h0.mono hL⟩
def gw:Rp aV where
 n:=3
 P:=fun h M vs x=> ∃ (a0:Option Addr) (c0:Nat),∃ (a1:Option Addr) (c1:Nat),vs=[.int .i64 x.P, .slice a0 x.Level.length c0, .slice a1 x.di.length c1]∧SlE (rI .i64) h M a0 c0 x.Level∧SlE (rI .i64) h M a1 c1 x.di
 len:=by
  rintro _ _ _ x ⟨a0,c0,a1,c1,rfl,h0,h1⟩
  rfl
 one:=by
  rintro _ _ _ x ⟨a0,c0,a1,c1,rfl,h0,h1⟩
  exact dy rfl
 mono:=by
  rintro _ _ _ _ _ x hL ⟨a0,c0,a1,c1,rfl,h0,h1⟩
  exact ⟨a0,c0,a1,c1,rfl,h0.mono hL,h1.mono hL⟩
def nG:Rp cA where
 n:=1
 P:=fun h M vs x=> ∃ (a0:Option Addr) (c0:Nat),vs=[.slice a0 x.texts.length c0]∧SlE (rS (rI .u8)) h M a0 c0 x.texts
 len:=by
  rintro _ _ _ x ⟨a0,c0,rfl,h0⟩
  rfl
 one:=by
  rintro _ _ _ x ⟨a0,c0,rfl,h0⟩
  exact dy rfl
 mono:=by
  rintro _ _ _ _ _ x hL ⟨a0,c0,rfl,h0⟩
  exact ⟨a0,c0,rfl,h0.mono hL⟩
inductive Obj where
 | cA (x:Pt.cA)
def jn (ρ:Ids) (x:cA) (p:Addr):At:=exA fun a1:Option Addr=>exA fun c1:Nat=>bigA [blk p (ρ.T 43) [.one (.slice a1 x.texts.length c1)],ownS (rS (rI .u8)) a1 x.texts.length c1 x.texts]
theorem lP {ρ:Ids} {x:cA} {p:Addr} {h:Hp} {A:List At} (I:Inv h (jn ρ x p::A)): ∃ a1:Option Addr,∃ c1:Nat,Inv h (blk p (ρ.T 43) [.one (.slice a1 x.texts.length c1)]::ownS (rS (rI .u8)) a1 x.texts.length c1 x.texts::A):=by
 unfold jn at I
 obtain ⟨a1,I⟩:=I.exE
 obtain ⟨c1,I⟩:=I.exE
 exact ⟨a1,c1,I.bigE⟩
abbrev lQ (σ:St Obj) (p:Addr) (K:cA→Prop):Prop:= ∃ x,σ p=some (.cA x)∧K x
def obA (ρ:Ids):Obj→Addr→At
 | .cA x,p=>jn ρ x p
theorem lR {ρ:Ids} (x:cA) {p:Addr} {h:Hp} {A:List At} {a1:Option Addr} {c1:Nat} {n1:Nat} (I:Inv h (blk p (ρ.T 43) [.one (.slice a1 n1 c1)]::ownS (rS (rI .u8)) a1 n1 c1 x.texts::A)):Inv h (obA ρ (.cA x) p::A):=by
 obtain rfl:=eG I.b9
 exact (Inv.bigI (As:=[blk p (ρ.T 43) [.one (.slice a1 x.texts.length c1)],ownS (rS (rI .u8)) a1 x.texts.length c1 x.texts]) I).conv fun F M H=>⟨a1,c1,H⟩
namespace aJ
structure V where
 l0:List (List Int)
 ud:Bool
 iQ:List (List Int)
 ue:Int
 v20:Int
def v0:V:=⟨[],false,[],0,0⟩
abbrev QT:=Bool→Prop
def B2 (S2:V→Prop) (Q:QT) (c:V):Prop:=
 br (decide (c.v20<c.ue))
 (ixP c.iQ c.v20 fun A5=>
 br (decide ((A5.length:Int)>(600:Int)))
 (Q true)
 (S2 {c with v20:=(IntKind.wrap .i64 (c.v20+(1:Int)))}))
 (Q false)
def L2 (Q:QT) (c:V):Prop:=Lf (fun S=>B2 S Q) c
theorem bW {Q:QT} {c:V} (H:B2 (L2 Q) Q c):L2 Q c:=Lf.fold H
def K1 (Q:QT) (c:V):Prop:=
 br c.ud
 (Q true)
 (L2 Q {c with iQ:=c.l0,ue:=(c.l0.length:Int),v20:=(0:Int)})
end aJ
def aJ (l0:List (List Int)) (Q:aJ.QT):Prop:=
 br (decide ((l0.length:Int)>(14:Int)))
 (br (decide ((l0.length:Int)≤(216:Int)))
 (aJ.K1 Q {aJ.v0 with l0:=l0,ud:=true})
 (aJ.K1 Q {aJ.v0 with l0:=l0,ud:=(decide ((l0.length:Int)>(300:Int)))}))
 (aJ.K1 Q {aJ.v0 with l0:=l0,ud:=(decide ((l0.length:Int)>(300:Int)))})
namespace aX
structure V where
 cr:List (List Int)
 v7:List (List Int)
 v8:Int
 v9:Int
def v0:V:=⟨[],[],0,0⟩
abbrev QT:=(List (List Int))→Prop
def B1 (S1:V→Prop) (Q:QT) (c:V):Prop:=
 br (decide (c.v9<c.v8))
 (ixP c.v7 c.v9 fun KY=>
 (Bnd (c.cr.length+([(cpL (List.replicate (Int.toNat (256:Int)) (0:Int)) KY)]).length))∧
 S1 {c with cr:=(c.cr++[(cpL (List.replicate (Int.toNat (256:Int)) (0:Int)) KY)]),v9:=(IntKind.wrap .i64 (c.v9+(1:Int)))})
 (Q c.cr)
def L1 (Q:QT) (c:V):Prop:=Lf (fun S=>B1 S Q) c
theorem bD {Q:QT} {c:V} (H:B1 (L1 Q) Q c):L1 Q c:=Lf.fold H
end aX
def aX (l0:List (List Int)) (Q:aX.QT):Prop:=
 aX.L1 Q {aX.v0 with cr:=([]:List (List Int)),v7:=l0,v8:=(l0.length:Int),v9:=(0:Int)}
def eH (s0:bH) (Q:Int→Prop):Prop:=
 br ((s0.eT.length:Int)==(0:Int))
 (Q (0:Int))
 (ixP s0.eT (IntKind.wrap .i64 ((s0.eT.length:Int) - (1:Int))) fun A5=>
 Q A5)
namespace bx
structure V where
 cI:Int
 v2:bH
 LJ:Bool
 l4:List Int
 eP:Int
 jI:Bool
def v0:V:=⟨0,(⟨[]⟩:bH),false,[],0,false⟩
abbrev QT:=bH→Int→Prop
def K3 (S2:V→Prop) (Q:QT) (c:V):Prop:=
 br c.jI
 ((SlOk c.l4 (0:Int) (c.l4.length:Int))∧
 ((c.l4.length:Int)=(c.l4.length:Int))∧
 ixP c.l4 (IntKind.wrap .i64 ((c.l4.length:Int) - (1:Int))) fun mR=>
 (Bnd ((sub c.l4 (0:Int) (c.l4.length:Int)).length+([(IntKind.wrap .i64 (mR+(IntKind.wrap .i64 (Int.tdiv (IntKind.wrap .i64 ((IntKind.wrap .i64 (c.eP+(6:Int))) - (1:Int))) (6:Int)))))]).length))∧
 S2 {c with l4:=((sub c.l4 (0:Int) (c.l4.length:Int))++[(IntKind.wrap .i64 (mR+(IntKind.wrap .i64 (Int.tdiv (IntKind.wrap .i64 ((IntKind.wrap .i64 (c.eP+(6:Int))) - (1:Int))) (6:Int)))))]),eP:=(IntKind.wrap .i64 (Int.tdiv (IntKind.wrap .i64 ((IntKind.wrap .i64 (c.eP+(6:Int))) - (1:Int))) (6:Int)))})
 (Q (⟨c.l4⟩:bH) (0:Int))
def B2 (S2:V→Prop) (Q:QT) (c:V):Prop:=
 br (decide (c.eP>(1:Int)))
 (K3 S2 Q {c with jI:=true})
 (K3 S2 Q {c with jI:=((c.l4.length:Int)==(2:Int))})
def L2 (Q:QT) (c:V):Prop:=Lf (fun S=>B2 S Q) c
theorem bW {Q:QT} {c:V} (H:B2 (L2 Q) Q c):L2 Q c:=Lf.fold H
def K1 (Q:QT) (c:V):Prop:=
 br c.LJ
 (Q (⟨([]:List Int)⟩:bH) (1:Int))
 (L2 Q {c with l4:=[(0:Int),c.cI],eP:=c.cI})
end bx
def bx (cI:Int) (Q:bx.QT):Prop:=
 br (decide (cI<(1:Int)))
 (bx.K1 Q {bx.v0 with cI:=cI,v2:=(⟨([]:List Int)⟩:bH),LJ:=true})
 (bx.K1 Q {bx.v0 with cI:=cI,v2:=(⟨([]:List Int)⟩:bH),LJ:=(decide (cI>(216:Int)))})
def fA (p0:List Int) (Q:Bool→Prop):Prop:=
 Q ((p0.length:Int) !=(256:Int))
namespace aA
structure V where
 s0:List (List Int)
 v7:Int
 v8:Int
def v0:V:=⟨[],0,0⟩
abbrev QT (Z:Type):=Int→Z→Prop
def B1 {Z:Type} (φ:(List Int)→Z→(Bool→Z→Prop)→Prop) (S1:V→Z→Prop) (Q:QT Z) (c:V) (z:Z):Prop:=
 br (decide (c.v8<c.v7))
 (ixP c.s0 c.v8 fun KY=>
 φ KY z fun Q3 LK=>
 br Q3
 (Q c.v8 LK)
 (S1 {c with v8:=(IntKind.wrap .i64 (c.v8+(1:Int)))} LK))
 (Q (-1:Int) z)
def L1 {Z:Type} (φ:(List Int)→Z→(Bool→Z→Prop)→Prop) (Q:QT Z) (c:V) (z:Z):Prop:=
 Lf (fun S (v:V × Z)=>B1 φ (fun c z=>S (c,z)) Q v.1 v.2) (c,z)
theorem bD {Z:Type} (φ:(List Int)→Z→(Bool→Z→Prop)→Prop) {Q:QT Z} {c:V} {z:Z} (H:B1 φ (L1 φ Q) Q c z):L1 φ Q c z:=Lf.fold H
end aA
def aA {Z:Type} (φ:(List Int)→Z→(Bool→Z→Prop)→Prop) (s0:List (List Int)) (z:Z) (Q:aA.QT Z):Prop:=
 aA.L1 φ Q {aA.v0 with s0:=s0,v7:=(s0.length:Int),v8:=(0:Int)} z
def cw {Z:Type} (φ:(List Int)→Z→(Bool→Z→Prop)→Prop) (s0:List (List Int)) (z:Z) (Q:Bool→Z→Prop):Prop:=
 aA φ s0 z fun ER YU=>
 Q (decide (ER≥(0:Int))) YU
def dQ (s0:bH) (Q:Int→Prop):Prop:=
 Q (if (0:Int)>(IntKind.wrap .i64 ((s0.eT.length:Int) - (1:Int))) then (0:Int) else (IntKind.wrap .i64 ((s0.eT.length:Int) - (1:Int))))
namespace bp
structure V where
 bT:Int
 s2:bH
 v9:Int
 v10:Int
def v0:V:=⟨0,(⟨[]⟩:bH),0,0⟩
abbrev QT:=Int→Prop
def B1 (S1:V→Prop) (Q:QT) (c:V):Prop:=
 br (decide (c.v10<c.v9))
 (ixP c.s2.eT (IntKind.wrap .i64 (c.v10+(1:Int))) fun wV=>
 br (decide (c.bT<wV))
 (Q c.v10)
 (S1 {c with v10:=(IntKind.wrap .i64 (c.v10+(1:Int)))}))
 (Q (-1:Int))
def L1 (Q:QT) (c:V):Prop:=Lf (fun S=>B1 S Q) c
end bp
def bp (s0:bH) (bT:Int) (Q:bp.QT):Prop:=
 br (decide (bT<(0:Int)))
 (Q (-1:Int))
 (dQ s0 fun wW=>
 bp.L1 Q {bp.v0 with bT:=bT,s2:=s0,v9:=wW,v10:=(0:Int)})
namespace aW
structure V where
 bT:Int
 cg:Int
 iQ:Bool
def v0:V:=⟨0,0,false⟩
abbrev QT:=Int→Prop
def K1 (Q:QT) (c:V):Prop:=
 br c.iQ
 (Q (-1:Int))
 (Q (IntKind.wrap .i64 ((IntKind.wrap .i64 ((2:Int)+(IntKind.wrap .i64 ((2:Int)*c.bT))))+c.cg)))
end aW
def aW (s0:bH) (bT:Int) (cg:Int) (Q:aW.QT):Prop:=
 bp s0 bT fun wW=>
 br (decide (wW<(0:Int)))
 (aW.K1 Q {aW.v0 with bT:=bT,cg:=cg,iQ:=true})
 (br (decide (cg<(0:Int)))
 (aW.K1 Q {aW.v0 with bT:=bT,cg:=cg,iQ:=true})
 (aW.K1 Q {aW.v0 with bT:=bT,cg:=cg,iQ:=(decide (cg>(1:Int)))}))
def gx (b0:List Int) (Q:Int→Prop):Prop:=
 ixP b0 (0:Int) fun Ia=>
 ixP b0 (1:Int) fun BD=>
 ixP b0 (2:Int) fun Ab=>
 ixP b0 (3:Int) fun BE=>
 Q (IntKind.wrap .u32 (((BitVec.ofInt (IntKind.bits .u32) (IntKind.wrap .u32 (((BitVec.ofInt (IntKind.bits .u32) (IntKind.wrap .u32 (((BitVec.ofInt (IntKind.bits .u32) (IntKind.wrap .u32 Ia) ||| (BitVec.ofInt (IntKind.bits .u32) (IntKind.wrap .u32 ((IntKind.wrap .u32 BD)*2 ^ (min (Int.toNat (8:Int)) (IntKind.bits .u32)))))).toNat:Int))) ||| (BitVec.ofInt (IntKind.bits .u32) (IntKind.wrap .u32 ((IntKind.wrap .u32 Ab)*2 ^ (min (Int.toNat (16:Int)) (IntKind.bits .u32)))))).toNat:Int))) ||| (BitVec.ofInt (IntKind.bits .u32) (IntKind.wrap .u32 ((IntKind.wrap .u32 BE)*2 ^ (min (Int.toNat (24:Int)) (IntKind.bits .u32)))))).toNat:Int)))
namespace aP
structure V where
 aU:Int
 dn:Vector Int 32
 dR:Vector Int 12
 v6:Vector Int 16
 w7:Vector Int 16
 v11:Int
 kJ:Int
def v0:V:=⟨0,Vector.replicate 32 0,Vector.replicate 12 0,Vector.replicate 16 0,Vector.replicate 16 0,0,0⟩
abbrev QT:=(Vector Int 16)→Prop
def B2 (S2:V→Prop) (Q:QT) (c:V):Prop:=
 br (decide (c.kJ<(3:Int)))
 ((SlOk c.dR.toList (IntKind.wrap .i64 ((4:Int)*c.kJ)) ((12:Nat):Int))∧
 gx (subA 12 c.dR.toList (IntKind.wrap .i64 ((4:Int)*c.kJ)) ((12:Nat):Int)) fun Ac=>
 ixP c.w7.toList (IntKind.wrap .i64 ((13:Int)+c.kJ)) fun BF=>
 S2 {c with w7:=(c.w7.setIfInBounds (Int.toNat (IntKind.wrap .i64 ((13:Int)+c.kJ))) Ac),kJ:=(IntKind.wrap .i64 (c.kJ+(1:Int)))})
 (Q c.w7)
def L2 (Q:QT) (c:V):Prop:=Lf (fun S=>B2 S Q) c
theorem bW {Q:QT} {c:V} (H:B2 (L2 Q) Q c):L2 Q c:=Lf.fold H
def B1 (S1:V→Prop) (Q:QT) (c:V):Prop:=
 br (decide (c.v11<(8:Int)))
 ((SlOk c.dn.toList (IntKind.wrap .i64 ((4:Int)*c.v11)) ((32:Nat):Int))∧
 gx (subA 32 c.dn.toList (IntKind.wrap .i64 ((4:Int)*c.v11)) ((32:Nat):Int)) fun Ad=>
 ixP c.w7.toList (IntKind.wrap .i64 ((4:Int)+c.v11)) fun ES=>
 S1 {c with w7:=(c.w7.setIfInBounds (Int.toNat (IntKind.wrap .i64 ((4:Int)+c.v11))) Ad),v11:=(IntKind.wrap .i64 (c.v11+(1:Int)))})
 (ixP c.w7.toList (12:Int) fun LM=>
 L2 Q {c with w7:=(c.w7.setIfInBounds (Int.toNat (12:Int)) c.aU),kJ:=(0:Int)})
def L1 (Q:QT) (c:V):Prop:=Lf (fun S=>B1 S Q) c
theorem bD {Q:QT} {c:V} (H:B1 (L1 Q) Q c):L1 Q c:=Lf.fold H
end aP
def aP (dL:Vector Int 32) (cZ:Vector Int 12) (aU:Int) (Q:aP.QT):Prop:=
 aP.L1 Q {aP.v0 with aU:=aU,dn:=dL,dR:=cZ,v6:=(Vector.replicate 16 (0:Int)),w7:= #v[(1634760805:Int),(857760878:Int),(2036477234:Int),(1797285236:Int),(0:Int),(0:Int),(0:Int),(0:Int),(0:Int),(0:Int),(0:Int),(0:Int),(0:Int),(0:Int),(0:Int),(0:Int)],v11:=(0:Int)}
def cC (x0:Int) (k1:Int) (Q:Int→Prop):Prop:=
 iP (IntKind.wrap .u64 (((BitVec.ofInt (IntKind.bits .u64) (IntKind.wrap .u64 k1) &&& (BitVec.ofInt (IntKind.bits .u64) (31:Int))).toNat:Int))) fun _=>
 iP (IntKind.wrap .u64 ((32:Int) - (IntKind.wrap .u64 (((BitVec.ofInt (IntKind.bits .u64) (IntKind.wrap .u64 k1) &&& (BitVec.ofInt (IntKind.bits .u64) (31:Int))).toNat:Int))))) fun _=>
 Q (IntKind.wrap .u32 (((BitVec.ofInt (IntKind.bits .u32) (IntKind.wrap .u32 (x0*2 ^ (min (Int.toNat (IntKind.wrap .u64 (((BitVec.ofInt (IntKind.bits .u64) (IntKind.wrap .u64 k1) &&& (BitVec.ofInt (IntKind.bits .u64) (31:Int))).toNat:Int)))) (IntKind.bits .u32)))) ||| (BitVec.ofInt (IntKind.bits .u32) (Int.fdiv x0 (2 ^ (min (Int.toNat (IntKind.wrap .u64 ((32:Int) - (IntKind.wrap .u64 (((BitVec.ofInt (IntKind.bits .u64) (IntKind.wrap .u64 k1) &&& (BitVec.ofInt (IntKind.bits .u64) (31:Int))).toNat:Int)))))) (IntKind.bits .u32)))))).toNat:Int)))
def ct (x0:Int) (y1:Int) (z2:Int) (YV:Int) (v4:Vector Int 4) (Q:(Vector Int 4)→Prop):Prop:=
 ixP v4.toList x0 fun A7=>
 ixP v4.toList y1 fun wV=>
 ixP v4.toList x0 fun nT=>
 ixP (v4.setIfInBounds (Int.toNat x0) (IntKind.wrap .u32 (A7+wV))).toList z2 fun mR=>
 ixP (v4.setIfInBounds (Int.toNat x0) (IntKind.wrap .u32 (A7+wV))).toList x0 fun Ib=>
 cC (IntKind.wrap .u32 (((BitVec.ofInt (IntKind.bits .u32) mR ^^^ (BitVec.ofInt (IntKind.bits .u32) Ib)).toNat:Int))) YV fun wX=>
 ixP (v4.setIfInBounds (Int.toNat x0) (IntKind.wrap .u32 (A7+wV))).toList z2 fun LN=>
 Q ((v4.setIfInBounds (Int.toNat x0) (IntKind.wrap .u32 (A7+wV))).setIfInBounds (Int.toNat z2) wX)
def bX (w0:Vector Int 4) (Q:(Vector Int 4)→Prop):Prop:=
 ct (0:Int) (1:Int) (3:Int) (16:Int) w0 fun wW=>
 ct (2:Int) (3:Int) (1:Int) (12:Int) wW fun nU=>
 ct (0:Int) (1:Int) (3:Int) (8:Int) nU fun kK=>
 ct (2:Int) (3:Int) (1:Int) (7:Int) kK fun GC=>
 Q GC
namespace aQ
structure V where
 v4:Vector Int 16
 a0:Int
 b1:Int
 c2:Int
 d3:Int
 q9:Vector Int 4
 jI:Vector Int 4
def v0:V:=⟨Vector.replicate 16 0,0,0,0,0,Vector.replicate 4 0,Vector.replicate 4 0⟩
abbrev QT:=(Vector Int 16)→Prop
def K1 (Q:QT) (c:V):Prop:=
 ixP c.q9.toList (0:Int) fun mS=>
 ixP c.q9.toList (1:Int) fun qy=>
 ixP c.q9.toList (2:Int) fun sC=>
 ixP c.q9.toList (3:Int) fun uf=>
 ixP c.v4.toList c.a0 fun sD=>
 ixP (c.v4.setIfInBounds (Int.toNat c.a0) mS).toList c.b1 fun Q4=>
 ixP ((c.v4.setIfInBounds (Int.toNat c.a0) mS).setIfInBounds (Int.toNat c.b1) qy).toList c.c2 fun Q5=>
 ixP (((c.v4.setIfInBounds (Int.toNat c.a0) mS).setIfInBounds (Int.toNat c.b1) qy).setIfInBounds (Int.toNat c.c2) sC).toList c.d3 fun BG=>
 Q ((((c.v4.setIfInBounds (Int.toNat c.a0) mS).setIfInBounds (Int.toNat c.b1) qy).setIfInBounds (Int.toNat c.c2) sC).setIfInBounds (Int.toNat c.d3) uf)
def K3 (Q:QT) (c:V):Prop:=
 K1 Q {c with q9:=c.jI}
def K2 (Q:QT) (c:V):Prop:=
 K3 Q {c with q9:=(Vector.replicate 4 (0:Int))}
end aQ
def aQ (a0:Int) (b1:Int) (c2:Int) (d3:Int) (v4:Vector Int 16) (Q:aQ.QT):Prop:=
 ixP v4.toList a0 fun A7=>
 ixP v4.toList b1 fun wV=>
 ixP v4.toList c2 fun nT=>
 ixP v4.toList d3 fun gE=>
 (bX (#v[A7,wV,nT,gE]) fun Ic=>
 aQ.K2 Q {aQ.v0 with v4:=v4,a0:=a0,b1:=b1,c2:=c2,d3:=d3,jI:=Ic})∧
 (bX (#v[A7,wV,nT,gE]) fun qz=>
 aQ.K3 Q {aQ.v0 with v4:=v4,a0:=a0,b1:=b1,c2:=c2,d3:=d3,q9:=(Vector.replicate 4 (0:Int)),jI:=qz})
namespace aE
structure V where
 v6:Vector Int 64
 aH:Vector Int 16
 w8:Vector Int 16
 v20:Int
 fU:Int
 fC:Int
 iA:Vector Int 64
 jo:Int
def v0:V:=⟨Vector.replicate 64 0,Vector.replicate 16 0,Vector.replicate 16 0,0,0,0,Vector.replicate 64 0,0⟩
abbrev QT:=(Vector Int 64)→Prop
def B3 (S1:V→Prop) (S3:V→Prop) (Q:QT) (c:V):Prop:=
 br (decide (c.fC<(4:Int)))
 (aQ c.fC (IntKind.wrap .i64 ((4:Int)+(Int.tmod (IntKind.wrap .i64 (c.fC+(1:Int))) (4:Int)))) (IntKind.wrap .i64 ((8:Int)+(Int.tmod (IntKind.wrap .i64 (c.fC+(2:Int))) (4:Int)))) (IntKind.wrap .i64 ((12:Int)+(Int.tmod (IntKind.wrap .i64 (c.fC+(3:Int))) (4:Int)))) c.w8 fun wY=>
 S3 {c with w8:=wY,fC:=(IntKind.wrap .i64 (c.fC+(1:Int)))})
 (S1 {c with v20:=(IntKind.wrap .i64 (c.v20+(1:Int)))})
def L3 (S1:V→Prop) (Q:QT) (c:V):Prop:=Lf (fun S=>B3 S1 S Q) c
theorem fF (S1:V→Prop) {Q:QT} {c:V} (H:B3 S1 (L3 S1 Q) Q c):L3 S1 Q c:=Lf.fold H
def B2 (S1:V→Prop) (S2:V→Prop) (Q:QT) (c:V):Prop:=
 br (decide (c.fU<(4:Int)))
 (aQ c.fU (IntKind.wrap .i64 ((4:Int)+c.fU)) (IntKind.wrap .i64 ((8:Int)+c.fU)) (IntKind.wrap .i64 ((12:Int)+c.fU)) c.w8 fun Ie=>
 S2 {c with w8:=Ie,fU:=(IntKind.wrap .i64 (c.fU+(1:Int)))})
 (L3 S1 Q {c with fC:=(0:Int)})
def L2 (S1:V→Prop) (Q:QT) (c:V):Prop:=Lf (fun S=>B2 S1 S Q) c
theorem bW (S1:V→Prop) {Q:QT} {c:V} (H:B2 S1 (L2 S1 Q) Q c):L2 S1 Q c:=Lf.fold H
def B4 (S4:V→Prop) (Q:QT) (c:V):Prop:=
 br (decide (c.jo<(64:Int)))
 (ixP c.w8.toList (IntKind.wrap .i64 (Int.tdiv c.jo (4:Int))) fun wZ=>
 ixP c.aH.toList (IntKind.wrap .i64 (Int.tdiv c.jo (4:Int))) fun Ig=>
 (0≤(IntKind.wrap .i64 ((8:Int)*(Int.tmod c.jo (4:Int)))))∧
 ixP c.iA.toList c.jo fun LO=>
 S4 {c with iA:=(c.iA.setIfInBounds (Int.toNat c.jo) (IntKind.wrap .u8 (Int.fdiv (IntKind.wrap .u32 (wZ+Ig)) (2 ^ (min (Int.toNat (IntKind.wrap .i64 ((8:Int)*(Int.tmod c.jo (4:Int))))) (IntKind.bits .u32)))))),jo:=(IntKind.wrap .i64 (c.jo+(1:Int)))})
 (Q c.iA)
def L4 (Q:QT) (c:V):Prop:=Lf (fun S=>B4 S Q) c
theorem jP {Q:QT} {c:V} (H:B4 (L4 Q) Q c):L4 Q c:=Lf.fold H
def B1 (S1:V→Prop) (Q:QT) (c:V):Prop:=
 br (decide (c.v20<(10:Int)))
 (L2 S1 Q {c with fU:=(0:Int)})
 (L4 Q {c with iA:=(Vector.replicate 64 (0:Int)),jo:=(0:Int)})
def L1 (Q:QT) (c:V):Prop:=Lf (fun S=>B1 S Q) c
theorem bD {Q:QT} {c:V} (H:B1 (L1 Q) Q c):L1 Q c:=Lf.fold H
end aE
def aE (dL:Vector Int 32) (cZ:Vector Int 12) (aU:Int) (Q:aE.QT):Prop:=
 aP dL cZ aU fun kK=>
 aE.L1 Q {aE.v0 with v6:=(Vector.replicate 64 (0:Int)),aH:=kK,w8:=kK,v20:=(0:Int)}
namespace bz
structure V where
 aU:Int
 fG:Vector Int 32
 eL:Vector Int 12
 dX:List Int
 jq:Int
 n7:Vector Int 64
 LQ:Int
 fC:Int
def v0:V:=⟨0,Vector.replicate 32 0,Vector.replicate 12 0,[],0,Vector.replicate 64 0,0,0⟩
abbrev QT:=(List Int)→Prop
def B2 (S1:V→Prop) (S2:V→Prop) (Q:QT) (c:V):Prop:=
 br (decide (c.fC<c.LQ))
 (ixP c.dX (IntKind.wrap .i64 (c.jq+c.fC)) fun LM=>
 ixP c.n7.toList c.fC fun mS=>
 ixP c.dX (IntKind.wrap .i64 (c.jq+c.fC)) fun YW=>
 S2 {c with dX:=(c.dX.set (Int.toNat (IntKind.wrap .i64 (c.jq+c.fC))) (IntKind.wrap .u8 (((BitVec.ofInt (IntKind.bits .u8) LM ^^^ (BitVec.ofInt (IntKind.bits .u8) mS)).toNat:Int)))),fC:=(IntKind.wrap .i64 (c.fC+(1:Int)))})
 (S1 {c with aU:=(IntKind.wrap .u32 (c.aU+(1:Int))),jq:=(IntKind.wrap .i64 (c.jq+(64:Int)))})
def L2 (S1:V→Prop) (Q:QT) (c:V):Prop:=Lf (fun S=>B2 S1 S Q) c
theorem bW (S1:V→Prop) {Q:QT} {c:V} (H:B2 S1 (L2 S1 Q) Q c):L2 S1 Q c:=Lf.fold H
def B1 (S1:V→Prop) (Q:QT) (c:V):Prop:=
 br (decide (c.jq<(if (1048576:Int)<(c.dX.length:Int) then (1048576:Int) else (c.dX.length:Int))))
 (aE c.fG c.eL c.aU fun Ae=>
 (SlOk c.dX c.jq (if (c.dX.length:Int)<(IntKind.wrap .i64 (c.jq+(64:Int))) then (c.dX.length:Int) else (IntKind.wrap .i64 (c.jq+(64:Int)))))∧
 L2 S1 Q {c with n7:=Ae,LQ:=((sub c.dX c.jq (if (c.dX.length:Int)<(IntKind.wrap .i64 (c.jq+(64:Int))) then (c.dX.length:Int) else (IntKind.wrap .i64 (c.jq+(64:Int))))).length:Int),fC:=(0:Int)})
 (Q c.dX)
def L1 (Q:QT) (c:V):Prop:=Lf (fun S=>B1 S Q) c
theorem bD {Q:QT} {c:V} (H:B1 (L1 Q) Q c):L1 Q c:=Lf.fold H
end bz
def bz (dL:Vector Int 32) (cZ:Vector Int 12) (aU:Int) (b3:List Int) (Q:bz.QT):Prop:=
 (Bnd (([]:List Int).length+b3.length))∧
 bz.L1 Q {bz.v0 with aU:=aU,fG:=dL,eL:=cZ,dX:=(([]:List Int)++b3),jq:=(0:Int)}
namespace bA
structure V where
 eE:Int
 dJ:Int
 v4:Vector Int 12
 n5:Vector Int 12
 v7:Int
def v0:V:=⟨0,0,Vector.replicate 12 0,Vector.replicate 12 0,0⟩
abbrev QT:=(Vector Int 12)→Prop
def K2 (S1:V→Prop) (Q:QT) (c:V):Prop:=
 S1 {c with v7:=(IntKind.wrap .i64 (c.v7+(1:Int)))}
def B1 (S1:V→Prop) (Q:QT) (c:V):Prop:=
 br (decide (c.v7<(12:Int)))
 (br (decide (c.v7<(4:Int)))
 (iP (IntKind.wrap .i64 ((8:Int)*c.v7)) fun _=>
 ixP c.n5.toList c.v7 fun BD=>
 K2 S1 Q {c with n5:=(c.n5.setIfInBounds (Int.toNat c.v7) (IntKind.wrap .u8 (Int.fdiv c.eE (2 ^ (min (Int.toNat (IntKind.wrap .i64 ((8:Int)*c.v7))) (IntKind.bits .u32))))))})
 (iP (IntKind.wrap .i64 ((8:Int)*(IntKind.wrap .i64 (c.v7 - (4:Int))))) fun _=>
 ixP c.n5.toList c.v7 fun nT=>
 K2 S1 Q {c with n5:=(c.n5.setIfInBounds (Int.toNat c.v7) (IntKind.wrap .u8 (Int.fdiv c.dJ (2 ^ (min (Int.toNat (IntKind.wrap .i64 ((8:Int)*(IntKind.wrap .i64 (c.v7 - (4:Int)))))) (IntKind.bits .u64))))))}))
 (Q c.n5)
def L1 (Q:QT) (c:V):Prop:=Lf (fun S=>B1 S Q) c
theorem bD {Q:QT} {c:V} (H:B1 (L1 Q) Q c):L1 Q c:=Lf.fold H
end bA
def bA (eE:Int) (dJ:Int) (Q:bA.QT):Prop:=
 bA.L1 Q {bA.v0 with eE:=eE,dJ:=dJ,v4:=(Vector.replicate 12 (0:Int)),n5:=(Vector.replicate 12 (0:Int)),v7:=(0:Int)}
namespace cm
structure V where
 bu:Int
 dS:Int
 fH:List Int
 fG:Vector Int 32
 n8:Bool
def v0:V:=⟨0,0,[],Vector.replicate 32 0,false⟩
abbrev QT:=(List Int)→Int→Prop
def K1 (Q:QT) (c:V):Prop:=
 br c.n8
 (Q ([]:List Int) (1:Int))
 (bA c.bu (IntKind.wrap .u64 c.dS) fun kK=>
 bz c.fG kK (0:Int) c.fH fun GC=>
 Q GC (0:Int))
end cm
def cm (dL:Vector Int 32) (bu:Int) (dS:Int) (fH:List Int) (Q:cm.QT):Prop:=
 br ((fH.length:Int) !=(256:Int))
 (cm.K1 Q {cm.v0 with bu:=bu,dS:=dS,fH:=fH,fG:=dL,n8:=true})
 (cm.K1 Q {cm.v0 with bu:=bu,dS:=dS,fH:=fH,fG:=dL,n8:=(decide (dS<(0:Int)))})
def jr (n0:Int) (Q:Bool→Prop):Prop:=
 br (n0==(0:Int))
 (Q true)
 (Q (n0==(1:Int)))
def cQ (s0:List Int) (Q:List Int→Prop):Prop:=cloneP s0 Q
def sE (Q:bJ→Prop):Prop:=
 Q (⟨(Vector.replicate 8 (0:Int)),([]:List Int),(0:Int)⟩:bJ)
def qR (Q:(Vector Int 8)→Prop):Prop:=
 Q (#v[(1779033703:Int),(3144134277:Int),(1013904242:Int),(2773480762:Int),(1359893119:Int),(2600822924:Int),(528734635:Int),(1541459225:Int)])
def dN (x0:Int) (n1:Int) (Q:Int→Prop):Prop:=
 cC x0 (IntKind.wrap .i64 (0 - (Int.tmod n1 (32:Int)))) fun GD=>
 Q GD
namespace bU
structure V where
 w3:Int
 v6:List Int
 v7:Int
 v8:Int
def v0:V:=⟨0,[],0,0⟩
abbrev QT:=Int→Prop
def B1 (S1:V→Prop) (Q:QT) (c:V):Prop:=
 br (decide (c.v8<c.v7))
 (ixP c.v6 c.v8 fun A7=>
 S1 {c with w3:=(IntKind.wrap .u32 (((BitVec.ofInt (IntKind.bits .u32) (IntKind.wrap .u32 (c.w3*2 ^ (min (Int.toNat (8:Int)) (IntKind.bits .u32)))) ||| (BitVec.ofInt (IntKind.bits .u32) (IntKind.wrap .u32 A7))).toNat:Int))),v8:=(IntKind.wrap .i64 (c.v8+(1:Int)))})
 (Q c.w3)
def L1 (Q:QT) (c:V):Prop:=Lf (fun S=>B1 S Q) c
theorem bD {Q:QT} {c:V} (H:B1 (L1 Q) Q c):L1 Q c:=Lf.fold H
end bU
def bU (b0:List Int) (Q:bU.QT):Prop:=
 bU.L1 Q {bU.v0 with w3:=(0:Int),v6:=b0,v7:=(b0.length:Int),v8:=(0:Int)}
namespace bE
structure V where
 b0:List Int
 v2:Vector Int 64
 w3:Vector Int 64
 v9:Int
def v0:V:=⟨[],Vector.replicate 64 0,Vector.replicate 64 0,0⟩
abbrev QT:=(Vector Int 64)→Prop
def K2 (S1:V→Prop) (Q:QT) (c:V):Prop:=
 S1 {c with v9:=(IntKind.wrap .i64 (c.v9+(1:Int)))}
def B1 (S1:V→Prop) (Q:QT) (c:V):Prop:=
 br (decide (c.v9<(64:Int)))
 (br (decide (c.v9<(16:Int)))
 ((SlOk c.b0 (IntKind.wrap .i64 ((4:Int)*c.v9)) (IntKind.wrap .i64 ((IntKind.wrap .i64 ((4:Int)*c.v9))+(4:Int))))∧
 bU (sub c.b0 (IntKind.wrap .i64 ((4:Int)*c.v9)) (IntKind.wrap .i64 ((IntKind.wrap .i64 ((4:Int)*c.v9))+(4:Int)))) fun ug=>
 ixP c.w3.toList c.v9 fun Ab=>
 K2 S1 Q {c with w3:=(c.w3.setIfInBounds (Int.toNat c.v9) ug)})
 (ixP c.w3.toList (IntKind.wrap .i64 (c.v9 - (15:Int))) fun gE=>
 ixP c.w3.toList (IntKind.wrap .i64 (c.v9 - (2:Int))) fun iR=>
 dN gE (7:Int) fun Ih=>
 dN gE (18:Int) fun wX=>
 dN iR (17:Int) fun Af=>
 dN iR (19:Int) fun Q6=>
 ixP c.w3.toList (IntKind.wrap .i64 (c.v9 - (7:Int))) fun Ii=>
 ixP c.w3.toList (IntKind.wrap .i64 (c.v9 - (16:Int))) fun Ij=>
 ixP c.w3.toList c.v9 fun YX=>
 K2 S1 Q {c with w3:=(c.w3.setIfInBounds (Int.toNat c.v9) (IntKind.wrap .u32 ((IntKind.wrap .u32 ((IntKind.wrap .u32 ((IntKind.wrap .u32 (((BitVec.ofInt (IntKind.bits .u32) (IntKind.wrap .u32 (((BitVec.ofInt (IntKind.bits .u32) Af ^^^ (BitVec.ofInt (IntKind.bits .u32) Q6)).toNat:Int))) ^^^ (BitVec.ofInt (IntKind.bits .u32) (Int.fdiv iR (2 ^ (min (Int.toNat (10:Int)) (IntKind.bits .u32)))))).toNat:Int)))+Ii))+(IntKind.wrap .u32 (((BitVec.ofInt (IntKind.bits .u32) (IntKind.wrap .u32 (((BitVec.ofInt (IntKind.bits .u32) Ih ^^^ (BitVec.ofInt (IntKind.bits .u32) wX)).toNat:Int))) ^^^ (BitVec.ofInt (IntKind.bits .u32) (Int.fdiv gE (2 ^ (min (Int.toNat (3:Int)) (IntKind.bits .u32)))))).toNat:Int)))))+Ij)))}))
 (Q c.w3)
def L1 (Q:QT) (c:V):Prop:=Lf (fun S=>B1 S Q) c
theorem bD {Q:QT} {c:V} (H:B1 (L1 Q) Q c):L1 Q c:=Lf.fold H
end bE
def bE (b0:List Int) (Q:bE.QT):Prop:=
 bE.L1 Q {bE.v0 with b0:=b0,v2:=(Vector.replicate 64 (0:Int)),w3:=(Vector.replicate 64 (0:Int)),v9:=(0:Int)}
def kM (Q:(Vector Int 64)→Prop):Prop:=
 Q (#v[(1116352408:Int),(1899447441:Int),(3049323471:Int),(3921009573:Int),(961987163:Int),(1508970993:Int),(2453635748:Int),(2870763221:Int),(3624381080:Int),(310598401:Int),(607225278:Int),(1426881987:Int),(1925078388:Int),(2162078206:Int),(2614888103:Int),(3248222580:Int),(3835390401:Int),(4022224774:Int),(264347078:Int),(604807628:Int),(770255983:Int),(1249150122:Int),(1555081692:Int),(1996064986:Int),(2554220882:Int),(2821834349:Int),(2952996808:Int),(3210313671:Int),(3336571891:Int),(3584528711:Int),(113926993:Int),(338241895:Int),(666307205:Int),(773529912:Int),(1294757372:Int),(1396182291:Int),(1695183700:Int),(1986661051:Int),(2177026350:Int),(2456956037:Int),(2730485921:Int),(2820302411:Int),(3259730800:Int),(3345764771:Int),(3516065817:Int),(3600352804:Int),(4094571909:Int),(275423344:Int),(430227734:Int),(506948616:Int),(659060556:Int),(883997877:Int),(958139571:Int),(1322822218:Int),(1537002063:Int),(1747873779:Int),(1955562222:Int),(2024104815:Int),(2227730452:Int),(2361852424:Int),(2428436474:Int),(2756734187:Int),(3204031479:Int),(3329325298:Int)])
namespace bF
structure V where
 h2:Vector Int 8
 v4:Vector Int 8
 w5:Vector Int 64
 k6:Vector Int 64
 x7:Vector Int 8
 iQ:Int
 w4:Int
def v0:V:=⟨Vector.replicate 8 0,Vector.replicate 8 0,Vector.replicate 64 0,Vector.replicate 64 0,Vector.replicate 8 0,0,0⟩
abbrev QT:=(Vector Int 8)→Prop
def B2 (S2:V→Prop) (Q:QT) (c:V):Prop:=
 br (decide (c.w4<(8:Int)))
 (ixP c.h2.toList c.w4 fun LR=>
 ixP c.x7.toList c.w4 fun LS=>
 ixP c.h2.toList c.w4 fun Xl=>
 S2 {c with h2:=(c.h2.setIfInBounds (Int.toNat c.w4) (IntKind.wrap .u32 (LR+LS))),w4:=(IntKind.wrap .i64 (c.w4+(1:Int)))})
 (Q c.h2)
def L2 (Q:QT) (c:V):Prop:=Lf (fun S=>B2 S Q) c
theorem bW {Q:QT} {c:V} (H:B2 (L2 Q) Q c):L2 Q c:=Lf.fold H
def B1 (S1:V→Prop) (Q:QT) (c:V):Prop:=
 br (decide (c.iQ<(64:Int)))
 (ixP c.x7.toList (0:Int) fun gE=>
 ixP c.x7.toList (4:Int) fun iR=>
 ixP c.x7.toList (7:Int) fun mS=>
 ixP c.x7.toList (5:Int) fun qy=>
 ixP c.x7.toList (6:Int) fun sC=>
 ixP c.k6.toList c.iQ fun uf=>
 ixP c.w5.toList c.iQ fun sD=>
 dN iR (6:Int) fun Ag=>
 dN iR (11:Int) fun w6=>
 dN iR (25:Int) fun ET=>
 ixP c.x7.toList (1:Int) fun Ik=>
 ixP c.x7.toList (2:Int) fun Il=>
 ixP c.x7.toList (1:Int) fun BG=>
 ixP c.x7.toList (2:Int) fun Im=>
 dN gE (2:Int) fun Io=>
 dN gE (13:Int) fun Ip=>
 dN gE (22:Int) fun Ah=>
 (SlOk c.x7.toList (1:Int) ((8:Nat):Int))∧
 (SlOk c.x7.toList (0:Int) (7:Int))∧
 ixP (cpV c.x7 (Int.toNat (1:Int)) (sub c.x7.toList (0:Int) (7:Int))).toList (0:Int) fun LU=>
 ixP ((cpV c.x7 (Int.toNat (1:Int)) (sub c.x7.toList (0:Int) (7:Int))).setIfInBounds (Int.toNat (0:Int)) (IntKind.wrap .u32 ((IntKind.wrap .u32 ((IntKind.wrap .u32 ((IntKind.wrap .u32 ((IntKind.wrap .u32 (mS+(IntKind.wrap .u32 (((BitVec.ofInt (IntKind.bits .u32) (IntKind.wrap .u32 (((BitVec.ofInt (IntKind.bits .u32) Ag ^^^ (BitVec.ofInt (IntKind.bits .u32) w6)).toNat:Int))) ^^^ (BitVec.ofInt (IntKind.bits .u32) ET)).toNat:Int)))))+(IntKind.wrap .u32 (((BitVec.ofInt (IntKind.bits .u32) (IntKind.wrap .u32 (((BitVec.ofInt (IntKind.bits .u32) iR &&& (BitVec.ofInt (IntKind.bits .u32) qy)).toNat:Int))) ^^^ (BitVec.ofInt (IntKind.bits .u32) (IntKind.wrap .u32 (((BitVec.ofInt (IntKind.bits .u32) (IntKind.wrap .u32 ((BitVec.ofInt (IntKind.bits .u32) (if IntKind.signed .u32 then -1 else IntKind.max .u32) ^^^ BitVec.ofInt (IntKind.bits .u32) iR).toNat:Int)) &&& (BitVec.ofInt (IntKind.bits .u32) sC)).toNat:Int))))).toNat:Int)))))+uf))+sD))+(IntKind.wrap .u32 ((IntKind.wrap .u32 (((BitVec.ofInt (IntKind.bits .u32) (IntKind.wrap .u32 (((BitVec.ofInt (IntKind.bits .u32) Io ^^^ (BitVec.ofInt (IntKind.bits .u32) Ip)).toNat:Int))) ^^^ (BitVec.ofInt (IntKind.bits .u32) Ah)).toNat:Int)))+(IntKind.wrap .u32 (((BitVec.ofInt (IntKind.bits .u32) (IntKind.wrap .u32 (((BitVec.ofInt (IntKind.bits .u32) (IntKind.wrap .u32 (((BitVec.ofInt (IntKind.bits .u32) gE &&& (BitVec.ofInt (IntKind.bits .u32) Ik)).toNat:Int))) ^^^ (BitVec.ofInt (IntKind.bits .u32) (IntKind.wrap .u32 (((BitVec.ofInt (IntKind.bits .u32) gE &&& (BitVec.ofInt (IntKind.bits .u32) Il)).toNat:Int))))).toNat:Int))) ^^^ (BitVec.ofInt (IntKind.bits .u32) (IntKind.wrap .u32 (((BitVec.ofInt (IntKind.bits .u32) BG &&& (BitVec.ofInt (IntKind.bits .u32) Im)).toNat:Int))))).toNat:Int)))))))).toList (4:Int) fun qT=>
 ixP ((cpV c.x7 (Int.toNat (1:Int)) (sub c.x7.toList (0:Int) (7:Int))).setIfInBounds (Int.toNat (0:Int)) (IntKind.wrap .u32 ((IntKind.wrap .u32 ((IntKind.wrap .u32 ((IntKind.wrap .u32 ((IntKind.wrap .u32 (mS+(IntKind.wrap .u32 (((BitVec.ofInt (IntKind.bits .u32) (IntKind.wrap .u32 (((BitVec.ofInt (IntKind.bits .u32) Ag ^^^ (BitVec.ofInt (IntKind.bits .u32) w6)).toNat:Int))) ^^^ (BitVec.ofInt (IntKind.bits .u32) ET)).toNat:Int)))))+(IntKind.wrap .u32 (((BitVec.ofInt (IntKind.bits .u32) (IntKind.wrap .u32 (((BitVec.ofInt (IntKind.bits .u32) iR &&& (BitVec.ofInt (IntKind.bits .u32) qy)).toNat:Int))) ^^^ (BitVec.ofInt (IntKind.bits .u32) (IntKind.wrap .u32 (((BitVec.ofInt (IntKind.bits .u32) (IntKind.wrap .u32 ((BitVec.ofInt (IntKind.bits .u32) (if IntKind.signed .u32 then -1 else IntKind.max .u32) ^^^ BitVec.ofInt (IntKind.bits .u32) iR).toNat:Int)) &&& (BitVec.ofInt (IntKind.bits .u32) sC)).toNat:Int))))).toNat:Int)))))+uf))+sD))+(IntKind.wrap .u32 ((IntKind.wrap .u32 (((BitVec.ofInt (IntKind.bits .u32) (IntKind.wrap .u32 (((BitVec.ofInt (IntKind.bits .u32) Io ^^^ (BitVec.ofInt (IntKind.bits .u32) Ip)).toNat:Int))) ^^^ (BitVec.ofInt (IntKind.bits .u32) Ah)).toNat:Int)))+(IntKind.wrap .u32 (((BitVec.ofInt (IntKind.bits .u32) (IntKind.wrap .u32 (((BitVec.ofInt (IntKind.bits .u32) (IntKind.wrap .u32 (((BitVec.ofInt (IntKind.bits .u32) gE &&& (BitVec.ofInt (IntKind.bits .u32) Ik)).toNat:Int))) ^^^ (BitVec.ofInt (IntKind.bits .u32) (IntKind.wrap .u32 (((BitVec.ofInt (IntKind.bits .u32) gE &&& (BitVec.ofInt (IntKind.bits .u32) Il)).toNat:Int))))).toNat:Int))) ^^^ (BitVec.ofInt (IntKind.bits .u32) (IntKind.wrap .u32 (((BitVec.ofInt (IntKind.bits .u32) BG &&& (BitVec.ofInt (IntKind.bits .u32) Im)).toNat:Int))))).toNat:Int)))))))).toList (4:Int) fun yM=>
 S1 {c with x7:=(((cpV c.x7 (Int.toNat (1:Int)) (sub c.x7.toList (0:Int) (7:Int))).setIfInBounds (Int.toNat (0:Int)) (IntKind.wrap .u32 ((IntKind.wrap .u32 ((IntKind.wrap .u32 ((IntKind.wrap .u32 ((IntKind.wrap .u32 (mS+(IntKind.wrap .u32 (((BitVec.ofInt (IntKind.bits .u32) (IntKind.wrap .u32 (((BitVec.ofInt (IntKind.bits .u32) Ag ^^^ (BitVec.ofInt (IntKind.bits .u32) w6)).toNat:Int))) ^^^ (BitVec.ofInt (IntKind.bits .u32) ET)).toNat:Int)))))+(IntKind.wrap .u32 (((BitVec.ofInt (IntKind.bits .u32) (IntKind.wrap .u32 (((BitVec.ofInt (IntKind.bits .u32) iR &&& (BitVec.ofInt (IntKind.bits .u32) qy)).toNat:Int))) ^^^ (BitVec.ofInt (IntKind.bits .u32) (IntKind.wrap .u32 (((BitVec.ofInt (IntKind.bits .u32) (IntKind.wrap .u32 ((BitVec.ofInt (IntKind.bits .u32) (if IntKind.signed .u32 then -1 else IntKind.max .u32) ^^^ BitVec.ofInt (IntKind.bits .u32) iR).toNat:Int)) &&& (BitVec.ofInt (IntKind.bits .u32) sC)).toNat:Int))))).toNat:Int)))))+uf))+sD))+(IntKind.wrap .u32 ((IntKind.wrap .u32 (((BitVec.ofInt (IntKind.bits .u32) (IntKind.wrap .u32 (((BitVec.ofInt (IntKind.bits .u32) Io ^^^ (BitVec.ofInt (IntKind.bits .u32) Ip)).toNat:Int))) ^^^ (BitVec.ofInt (IntKind.bits .u32) Ah)).toNat:Int)))+(IntKind.wrap .u32 (((BitVec.ofInt (IntKind.bits .u32) (IntKind.wrap .u32 (((BitVec.ofInt (IntKind.bits .u32) (IntKind.wrap .u32 (((BitVec.ofInt (IntKind.bits .u32) gE &&& (BitVec.ofInt (IntKind.bits .u32) Ik)).toNat:Int))) ^^^ (BitVec.ofInt (IntKind.bits .u32) (IntKind.wrap .u32 (((BitVec.ofInt (IntKind.bits .u32) gE &&& (BitVec.ofInt (IntKind.bits .u32) Il)).toNat:Int))))).toNat:Int))) ^^^ (BitVec.ofInt (IntKind.bits .u32) (IntKind.wrap .u32 (((BitVec.ofInt (IntKind.bits .u32) BG &&& (BitVec.ofInt (IntKind.bits .u32) Im)).toNat:Int))))).toNat:Int)))))))).setIfInBounds (Int.toNat (4:Int)) (IntKind.wrap .u32 (qT+(IntKind.wrap .u32 ((IntKind.wrap .u32 ((IntKind.wrap .u32 ((IntKind.wrap .u32 (mS+(IntKind.wrap .u32 (((BitVec.ofInt (IntKind.bits .u32) (IntKind.wrap .u32 (((BitVec.ofInt (IntKind.bits .u32) Ag ^^^ (BitVec.ofInt (IntKind.bits .u32) w6)).toNat:Int))) ^^^ (BitVec.ofInt (IntKind.bits .u32) ET)).toNat:Int)))))+(IntKind.wrap .u32 (((BitVec.ofInt (IntKind.bits .u32) (IntKind.wrap .u32 (((BitVec.ofInt (IntKind.bits .u32) iR &&& (BitVec.ofInt (IntKind.bits .u32) qy)).toNat:Int))) ^^^ (BitVec.ofInt (IntKind.bits .u32) (IntKind.wrap .u32 (((BitVec.ofInt (IntKind.bits .u32) (IntKind.wrap .u32 ((BitVec.ofInt (IntKind.bits .u32) (if IntKind.signed .u32 then -1 else IntKind.max .u32) ^^^ BitVec.ofInt (IntKind.bits .u32) iR).toNat:Int)) &&& (BitVec.ofInt (IntKind.bits .u32) sC)).toNat:Int))))).toNat:Int)))))+uf))+sD))))),iQ:=(IntKind.wrap .i64 (c.iQ+(1:Int)))})
 (L2 Q {c with w4:=(0:Int)})
def L1 (Q:QT) (c:V):Prop:=Lf (fun S=>B1 S Q) c
theorem bD {Q:QT} {c:V} (H:B1 (L1 Q) Q c):L1 Q c:=Lf.fold H
end bF
def bF (h0:Vector Int 8) (b1:List Int) (Q:bF.QT):Prop:=
 bE b1 fun nU=>
 kM fun kK=>
 bF.L1 Q {bF.v0 with h2:=h0,v4:=(Vector.replicate 8 (0:Int)),w5:=nU,k6:=kK,x7:=h0,iQ:=(0:Int)}
namespace aL
structure V where
 b1:List Int
 s2:bJ
 v4:bJ
 ud:Bool
 iq:List Int
def v0:V:=⟨[],(⟨(Vector.replicate 8 (0:Int)),[],(0:Int)⟩:bJ),(⟨(Vector.replicate 8 (0:Int)),[],(0:Int)⟩:bJ),false,[]⟩
abbrev QT:=bJ→Prop
def B2 (S2:V→Prop) (Q:QT) (c:V):Prop:=
 br (decide ((c.iq.length:Int)≥(64:Int)))
 ((SlOk c.iq (0:Int) (64:Int))∧
 bF c.s2.h (sub c.iq (0:Int) (64:Int)) fun qz=>
 (SlOk c.iq (64:Int) (c.iq.length:Int))∧
 S2 {c with s2:=(⟨qz,c.s2.rest,c.s2.n⟩:bJ),iq:=(sub c.iq (64:Int) (c.iq.length:Int))})
 (Q (⟨c.s2.h,c.iq,c.s2.n⟩:bJ))
def L2 (Q:QT) (c:V):Prop:=Lf (fun S=>B2 S Q) c
theorem bW {Q:QT} {c:V} (H:B2 (L2 Q) Q c):L2 Q c:=Lf.fold H
def K3 (Q:QT) (c:V):Prop:=
 (Bnd (([]:List Int).length+c.s2.rest.length))∧
 (Bnd ((([]:List Int)++c.s2.rest).length+c.b1.length))∧
 L2 Q {c with s2:=(⟨c.s2.h,c.s2.rest,(IntKind.wrap .u64 (c.s2.n+(IntKind.wrap .u64 (c.b1.length:Int))))⟩:bJ),iq:=((([]:List Int)++c.s2.rest)++c.b1)}
def K1 (Q:QT) (c:V):Prop:=
 br c.ud
 (qR fun Ai=>
 K3 Q {c with s2:=(⟨Ai,c.s2.rest,c.s2.n⟩:bJ)})
 (K3 Q c)
end aL
def aL (s0:bJ) (b1:List Int) (Q:aL.QT):Prop:=
 br (decide (s0.n<(64:Int)))
 (aL.K1 Q {aL.v0 with b1:=b1,s2:=s0,v4:=(⟨(Vector.replicate 8 (0:Int)),([]:List Int),(0:Int)⟩:bJ),ud:=((s0.rest.length:Int)==(IntKind.wrap .i64 s0.n))})
 (aL.K1 Q {aL.v0 with b1:=b1,s2:=s0,v4:=(⟨(Vector.replicate 8 (0:Int)),([]:List Int),(0:Int)⟩:bJ),ud:=false})
namespace aR
structure V where
 s1:bJ
 v2:Vector Int 32
 kZ:List Int
 qv:Int
 nH:bJ
 d6:Vector Int 32
 qw:Int
def v0:V:=⟨(⟨(Vector.replicate 8 (0:Int)),[],(0:Int)⟩:bJ),Vector.replicate 32 0,[],0,(⟨(Vector.replicate 8 (0:Int)),[],(0:Int)⟩:bJ),Vector.replicate 32 0,0⟩
abbrev QT:=(Vector Int 32)→Prop
def B3 (S3:V→Prop) (Q:QT) (c:V):Prop:=
 br (decide (c.qw<(32:Int)))
 (ixP c.nH.h.toList (IntKind.wrap .i64 (Int.tdiv c.qw (4:Int))) fun Q7=>
 iP (IntKind.wrap .i64 ((24:Int) - (IntKind.wrap .i64 ((8:Int)*(Int.tmod c.qw (4:Int)))))) fun _=>
 ixP c.d6.toList c.qw fun YY=>
 S3 {c with d6:=(c.d6.setIfInBounds (Int.toNat c.qw) (IntKind.wrap .u8 (Int.fdiv Q7 (2 ^ (min (Int.toNat (IntKind.wrap .i64 ((24:Int) - (IntKind.wrap .i64 ((8:Int)*(Int.tmod c.qw (4:Int))))))) (IntKind.bits .u32)))))),qw:=(IntKind.wrap .i64 (c.qw+(1:Int)))})
 (Q c.d6)
def L3 (Q:QT) (c:V):Prop:=Lf (fun S=>B3 S Q) c
theorem fF {Q:QT} {c:V} (H:B3 (L3 Q) Q c):L3 Q c:=Lf.fold H
def B2 (S2:V→Prop) (Q:QT) (c:V):Prop:=
 br (decide (c.qv<(8:Int)))
 (iP (IntKind.wrap .i64 ((8:Int)*(IntKind.wrap .i64 ((7:Int) - c.qv)))) fun _=>
 (Bnd (c.kZ.length+([(IntKind.wrap .u8 (Int.fdiv (IntKind.wrap .u64 ((8:Int)*c.s1.n)) (2 ^ (min (Int.toNat (IntKind.wrap .i64 ((8:Int)*(IntKind.wrap .i64 ((7:Int) - c.qv))))) (IntKind.bits .u64)))))]).length))∧
 S2 {c with kZ:=(c.kZ++[(IntKind.wrap .u8 (Int.fdiv (IntKind.wrap .u64 ((8:Int)*c.s1.n)) (2 ^ (min (Int.toNat (IntKind.wrap .i64 ((8:Int)*(IntKind.wrap .i64 ((7:Int) - c.qv))))) (IntKind.bits .u64)))))]),qv:=(IntKind.wrap .i64 (c.qv+(1:Int)))})
 (aL c.s1 c.kZ fun Q8=>
 L3 Q {c with nH:=Q8,d6:=(Vector.replicate 32 (0:Int)),qw:=(0:Int)})
def L2 (Q:QT) (c:V):Prop:=Lf (fun S=>B2 S Q) c
theorem bW {Q:QT} {c:V} (H:B2 (L2 Q) Q c):L2 Q c:=Lf.fold H
def B1 (S1:V→Prop) (Q:QT) (c:V):Prop:=
 br ((Int.tmod (IntKind.wrap .i64 ((IntKind.wrap .i64 ((c.s1.rest.length:Int)+(c.kZ.length:Int)))+(8:Int))) (64:Int)) !=(0:Int))
 ((Bnd (c.kZ.length+([(0:Int)]).length))∧
 S1 {c with kZ:=(c.kZ++[(0:Int)])})
 (L2 Q {c with qv:=(0:Int)})
def L1 (Q:QT) (c:V):Prop:=Lf (fun S=>B1 S Q) c
theorem bD {Q:QT} {c:V} (H:B1 (L1 Q) Q c):L1 Q c:=Lf.fold H
end aR
def aR (s0:bJ) (Q:aR.QT):Prop:=
 aR.L1 Q {aR.v0 with s1:=s0,v2:=(Vector.replicate 32 (0:Int)),kZ:=[(128:Int)]}
namespace bR
structure V where
 v2:Vector Int 32
 s3:bJ
 v7:List (List Int)
 v8:Int
 v9:Int
def v0:V:=⟨Vector.replicate 32 0,(⟨(Vector.replicate 8 (0:Int)),[],(0:Int)⟩:bJ),[],0,0⟩
abbrev QT:=(Vector Int 32)→Prop
def B1 (S1:V→Prop) (Q:QT) (c:V):Prop:=
 br (decide (c.v9<c.v8))
 (ixP c.v7 c.v9 fun nT=>
 aL c.s3 nT fun wY=>
 S1 {c with s3:=wY,v9:=(IntKind.wrap .i64 (c.v9+(1:Int)))})
 (aR c.s3 fun mT=>
 Q mT)
def L1 (Q:QT) (c:V):Prop:=Lf (fun S=>B1 S Q) c
theorem bD {Q:QT} {c:V} (H:B1 (L1 Q) Q c):L1 Q c:=Lf.fold H
end bR
def bR (fj:List (List Int)) (Q:bR.QT):Prop:=
 sE fun GF=>
 bR.L1 Q {bR.v0 with v2:=(Vector.replicate 32 (0:Int)),s3:=GF,v7:=fj,v8:=(fj.length:Int),v9:=(0:Int)}
namespace aS
structure V where
 b0:Option Addr
 cx:List Int
 v4:Vector Int 32
 uh:Bool
def v0:V:=⟨none,[],Vector.replicate 32 0,false⟩
abbrev QT:=(Vector Int 32)→St Obj→Prop
def K2 (Q:QT) (c:V) (σ:St Obj):Prop:=
 bR ([c.cx]) fun BH=>
 Q BH σ
def K1 (Q:QT) (c:V) (σ:St Obj):Prop:=
 br c.uh
 (nilW c.b0 fun w9=>
 lQ σ w9 fun mR=>
 cQ c.cx fun xb=>
 (Bnd (mR.texts.length+([xb]).length))∧
 K2 Q c (sset σ w9 (.cA (⟨(mR.texts++[xb])⟩:cA))))
 (K2 Q c σ)
end aS
def aS (b0:Option Addr) (cx:List Int) (σ:St Obj) (Q:aS.QT):Prop:=
 br (!(Option.isNone b0))
 (nilW b0 fun Aj=>
 lQ σ Aj fun EU=>
 ∀ BI:Bool,BI=(decide ((EU.texts.length:Int)<(100000:Int)))→
 aS.K1 Q {aS.v0 with b0:=b0,cx:=cx,v4:=(Vector.replicate 32 (0:Int)),uh:=BI} σ)
 (aS.K1 Q {aS.v0 with b0:=b0,cx:=cx,v4:=(Vector.replicate 32 (0:Int)),uh:=false} σ)
namespace bY
structure V where
 b0:Option Addr
 fI:Int
 gW:Int
 BJ:bM
 GG:List Int
 Iq:Bool
def v0:V:=⟨none,0,0,(⟨(0:Int),(0:Int),(Vector.replicate 32 (0:Int))⟩:bM),[],false⟩
abbrev QT:=(List Int)→bM→Int→St Obj→Prop
def K1 (Q:QT) (c:V) (σ:St Obj):Prop:=
 br c.Iq
 (Q ([]:List Int) (⟨(0:Int),(0:Int),(Vector.replicate 32 (0:Int))⟩:bM) (1:Int) σ)
 (aS c.b0 c.GG σ fun Q9 σ_20=>
 Q c.GG (⟨c.gW,c.fI,Q9⟩:bM) (0:Int) σ_20)
end bY
def bY (b0:Option Addr) (EV:Vector Int 32) (fI:Int) (gW:Int) (Ir:Int) (LV:List Int) (σ:St Obj) (Q:bY.QT):Prop:=
 cm EV fI Ir LV fun kK Ra=>
 br (Ra !=(0:Int))
 (bY.K1 Q {bY.v0 with b0:=b0,fI:=fI,gW:=gW,BJ:=(⟨(0:Int),(0:Int),(Vector.replicate 32 (0:Int))⟩:bM),GG:=kK,Iq:=true} σ)
 (jr gW fun ug=>
 bY.K1 Q {bY.v0 with b0:=b0,fI:=fI,gW:=gW,BJ:=(⟨(0:Int),(0:Int),(Vector.replicate 32 (0:Int))⟩:bM),GG:=kK,Iq:=(!ug)} σ)
def gy (LW:List Int) (v1:bH) (v2:List bM) (v3:Option Addr) (v4:Vector Int 32) (v5:Int) (v6:List cP) (σ:St Obj) (Q:(List bM)→(List cP)→St Obj→Prop):Prop:=
 aW v1 (v2.length:Int) (0:Int) fun Is=>
 bY v3 v4 v5 (0:Int) Is LW σ fun Ae Ad YZ σ_20=>
 (Bnd (v6.length+([(⟨Is,Ae⟩:cP)]).length))∧
 (Bnd (v2.length+([Ad]).length))∧
 Q (v2++[Ad]) (v6++[(⟨Is,Ae⟩:cP)]) σ_20
namespace bq
structure V where
 s2:bH
 oV:Int
 dY:Int
 l7:List Int
 k8:Int
def v0:V:=⟨(⟨[]⟩:bH),0,0,[],0⟩
abbrev QT:=(List Int)→Prop
def B1 (S1:V→Prop) (Q:QT) (c:V):Prop:=
 ixP c.s2.eT c.oV fun EW=>
 br (decide (c.k8<(if EW<(IntKind.wrap .i64 (c.dY+(6:Int))) then EW else (IntKind.wrap .i64 (c.dY+(6:Int))))))
 ((Bnd (c.l7.length+([c.k8]).length))∧
 S1 {c with l7:=(c.l7++[c.k8]),k8:=(IntKind.wrap .i64 (c.k8+(1:Int)))})
 (Q c.l7)
def L1 (Q:QT) (c:V):Prop:=Lf (fun S=>B1 S Q) c
end bq
def bq (s0:bH) (bT:Int) (Q:bq.QT):Prop:=
 bp s0 bT fun wW=>
 br (decide (wW<(1:Int)))
 (Q ([]:List Int))
 (ixP s0.eT (IntKind.wrap .i64 (wW - (1:Int))) fun EU=>
 ixP s0.eT wW fun LX=>
 bq.L1 Q {bq.v0 with s2:=s0,oV:=wW,dY:=(IntKind.wrap .i64 (EU+(IntKind.wrap .i64 ((6:Int)*(IntKind.wrap .i64 (bT - LX)))))),l7:=([]:List Int),k8:=(IntKind.wrap .i64 (EU+(IntKind.wrap .i64 ((6:Int)*(IntKind.wrap .i64 (bT - LX))))))})
def jt (yN:Int) (Q:Int→Prop):Prop:=
 Q (if (8:Int)<(if (1:Int)>yN then (1:Int) else yN) then (8:Int) else (if (1:Int)>yN then (1:Int) else yN))
namespace bw
structure V where
 n1:Int
 cR:List Int
def v0:V:=⟨0,[]⟩
abbrev QT:=(List Int)→Prop
def K7 (Q:QT) (c:V):Prop:=
 (Bnd (c.cR.length+([(IntKind.wrap .u8 c.n1)]).length))∧
 Q (c.cR++[(IntKind.wrap .u8 c.n1)])
def K6 (Q:QT) (c:V):Prop:=
 (Bnd (c.cR.length+([(IntKind.wrap .u8 c.n1)]).length))∧
 K7 Q {c with n1:=(Int.fdiv c.n1 (2 ^ (min (Int.toNat (8:Int)) (IntKind.bits .u64)))),cR:=(c.cR++[(IntKind.wrap .u8 c.n1)])}
def K5 (Q:QT) (c:V):Prop:=
 (Bnd (c.cR.length+([(IntKind.wrap .u8 c.n1)]).length))∧
 K6 Q {c with n1:=(Int.fdiv c.n1 (2 ^ (min (Int.toNat (8:Int)) (IntKind.bits .u64)))),cR:=(c.cR++[(IntKind.wrap .u8 c.n1)])}
def K4 (Q:QT) (c:V):Prop:=
 (Bnd (c.cR.length+([(IntKind.wrap .u8 c.n1)]).length))∧
 K5 Q {c with n1:=(Int.fdiv c.n1 (2 ^ (min (Int.toNat (8:Int)) (IntKind.bits .u64)))),cR:=(c.cR++[(IntKind.wrap .u8 c.n1)])}
def K3 (Q:QT) (c:V):Prop:=
 (Bnd (c.cR.length+([(IntKind.wrap .u8 c.n1)]).length))∧
 K4 Q {c with n1:=(Int.fdiv c.n1 (2 ^ (min (Int.toNat (8:Int)) (IntKind.bits .u64)))),cR:=(c.cR++[(IntKind.wrap .u8 c.n1)])}
def K2 (Q:QT) (c:V):Prop:=
 (Bnd (c.cR.length+([(IntKind.wrap .u8 c.n1)]).length))∧
 K3 Q {c with n1:=(Int.fdiv c.n1 (2 ^ (min (Int.toNat (8:Int)) (IntKind.bits .u64)))),cR:=(c.cR++[(IntKind.wrap .u8 c.n1)])}
def K1 (Q:QT) (c:V):Prop:=
 (Bnd (c.cR.length+([(IntKind.wrap .u8 c.n1)]).length))∧
 K2 Q {c with n1:=(Int.fdiv c.n1 (2 ^ (min (Int.toNat (8:Int)) (IntKind.bits .u64)))),cR:=(c.cR++[(IntKind.wrap .u8 c.n1)])}
end bw
def bw (b0:List Int) (n1:Int) (LY:Int) (Q:bw.QT):Prop:=
 cQ b0 fun Ak=>
 jt LY fun nU=>
 br (nU==(8:Int))
 ((Bnd (Ak.length+([(IntKind.wrap .u8 n1)]).length))∧
 bw.K1 Q {bw.v0 with n1:=(Int.fdiv n1 (2 ^ (min (Int.toNat (8:Int)) (IntKind.bits .u64)))),cR:=(Ak++[(IntKind.wrap .u8 n1)])})
 (br (nU==(7:Int))
 (bw.K1 Q {bw.v0 with n1:=n1,cR:=Ak})
 (br (nU==(6:Int))
 (bw.K2 Q {bw.v0 with n1:=n1,cR:=Ak})
 (br (nU==(5:Int))
 (bw.K3 Q {bw.v0 with n1:=n1,cR:=Ak})
 (br (nU==(4:Int))
 (bw.K4 Q {bw.v0 with n1:=n1,cR:=Ak})
 (br (nU==(3:Int))
 (bw.K5 Q {bw.v0 with n1:=n1,cR:=Ak})
 (br (nU==(2:Int))
 (bw.K6 Q {bw.v0 with n1:=n1,cR:=Ak})
 (bw.K7 Q {bw.v0 with n1:=n1,cR:=Ak})))))))
def lS (r0:bM) (Q:(List Int)→Prop):Prop:=
 bw ([]:List Int) (IntKind.wrap .u64 r0.Place) (1:Int) fun GF=>
 bw GF (IntKind.wrap .u64 r0.dF) (4:Int) fun GC=>
 (Bnd (GC.length+r0.cH.toList.length))∧
 Q (GC++r0.cH.toList)
def mU (b0:List Int) (yO:Int) (Q:(List Int)→Int→Prop):Prop:=
 br (decide ((b0.length:Int)>yO))
 (Q ([]:List Int) (1:Int))
 (cQ b0 fun ER=>
 (0≤(IntKind.wrap .i64 (yO - (b0.length:Int))))∧(Bnd (ER.length+Int.toNat (IntKind.wrap .i64 (yO - (b0.length:Int)))))∧
 Q (ER++List.replicate (Int.toNat (IntKind.wrap .i64 (yO - (b0.length:Int)))) (0:Int)) (0:Int))
namespace bL
structure V where
 jH:List bM
 uh:Bool
 b4:List Int
 ue:List bM
 v20:Int
 qv:Int
 r6:bM
 Al:Bool
def v0:V:=⟨[],false,[],[],0,0,(⟨(0:Int),(0:Int),(Vector.replicate 32 (0:Int))⟩:bM),false⟩
abbrev QT:=(List Int)→Int→Prop
def K3 (S2:V→Prop) (Q:QT) (c:V):Prop:=
 br c.Al
 (Q ([]:List Int) (1:Int))
 (lS c.r6 fun mT=>
 (Bnd (c.b4.length+mT.length))∧
 S2 {c with b4:=(c.b4++mT),qv:=(IntKind.wrap .i64 (c.qv+(1:Int)))})
def B2 (S2:V→Prop) (Q:QT) (c:V):Prop:=
 br (decide (c.qv<c.v20))
 (ixP c.ue c.qv fun qA=>
 br (qA.Place !=(0:Int))
 (K3 S2 Q {c with r6:=qA,Al:=(qA.Place !=(1:Int))})
 (K3 S2 Q {c with r6:=qA,Al:=false}))
 (mU c.b4 (256:Int) fun It wY=>
 Q It wY)
def L2 (Q:QT) (c:V):Prop:=Lf (fun S=>B2 S Q) c
theorem bW {Q:QT} {c:V} (H:B2 (L2 Q) Q c):L2 Q c:=Lf.fold H
def K1 (Q:QT) (c:V):Prop:=
 br c.uh
 (Q ([]:List Int) (1:Int))
 (L2 Q {c with b4:=[(IntKind.wrap .u8 (c.jH.length:Int))],ue:=c.jH,v20:=(c.jH.length:Int),qv:=(0:Int)})
end bL
def bL (jH:List bM) (Q:bL.QT):Prop:=
 br (decide ((jH.length:Int)<(1:Int)))
 (bL.K1 Q {bL.v0 with jH:=jH,uh:=true})
 (bL.K1 Q {bL.v0 with jH:=jH,uh:=(decide ((jH.length:Int)>(6:Int)))})
namespace bn
structure V where
 dU:List (List Int)
 b4:Option Addr
 sF:Vector Int 32
 ju:Int
 v9:bM
 n7:bH
 fC:Bool
 eU:List cP
 dV:List bM
 gK:Option Addr
 gL:Vector Int 32
 gM:Int
 uj:List (List Int)
 qw:Int
 Ba:Int
 gF:Int
def v0:V:=⟨[],none,Vector.replicate 32 0,0,(⟨(0:Int),(0:Int),(Vector.replicate 32 (0:Int))⟩:bM),(⟨[]⟩:bH),false,[],[],none,Vector.replicate 32 0,0,[],0,0,0⟩
abbrev QT:=(List cP)→bM→Int→St Obj→Prop
def B3 (S3:V→St Obj→Prop) (Q:QT) (c:V) (σ:St Obj):Prop:=
 eH c.n7 fun Rb=>
 br (decide (c.gF<Rb))
 (bq c.n7 c.gF fun EX=>
 ixP EX (0:Int) fun LZ=>
 ixP EX (0:Int) fun L6=>
 (SlOk c.dV LZ (IntKind.wrap .i64 (L6+(EX.length:Int))))∧
 bL (sub c.dV LZ (IntKind.wrap .i64 (L6+(EX.length:Int)))) fun L9 Xm=>
 gy L9 c.n7 c.dV c.gK c.gL c.gM c.eU σ fun Ma Mb σ_121=>
 S3 {c with eU:=Mb,dV:=Ma,gF:=(IntKind.wrap .i64 (c.gF+(1:Int)))} σ_121)
 (ixP c.dV (IntKind.wrap .i64 ((c.dV.length:Int) - (1:Int))) fun yP=>
 Q c.eU yP (0:Int) σ)
def L3 (Q:QT) (c:V) (σ:St Obj):Prop:=
 Lf (fun S (v:V × St Obj)=>B3 (fun c σ=>S (c,σ)) Q v.1 v.2) (c,σ)
theorem fF {Q:QT} {c:V} {σ:St Obj} (H:B3 (L3 Q) Q c σ):L3 Q c σ:=Lf.fold H
def B2 (S2:V→St Obj→Prop) (Q:QT) (c:V) (σ:St Obj):Prop:=
 br (decide (c.Ba<c.qw))
 (ixP c.uj c.Ba fun EY=>
 gy EY c.n7 c.dV c.gK c.gL c.gM c.eU σ fun Rc Mc σ_69=>
 S2 {c with eU:=Mc,dV:=Rc,Ba:=(IntKind.wrap .i64 (c.Ba+(1:Int)))} σ_69)
 (L3 Q {c with gF:=(c.dU.length:Int)} σ)
def L2 (Q:QT) (c:V) (σ:St Obj):Prop:=
 Lf (fun S (v:V × St Obj)=>B2 (fun c σ=>S (c,σ)) Q v.1 v.2) (c,σ)
theorem bW {Q:QT} {c:V} {σ:St Obj} (H:B2 (L2 Q) Q c σ):L2 Q c σ:=Lf.fold H
def K1 (Q:QT) (c:V) (σ:St Obj):Prop:=
 br c.fC
 (Q ([]:List cP) (⟨(0:Int),(0:Int),(Vector.replicate 32 (0:Int))⟩:bM) (1:Int) σ)
 (L2 Q {c with eU:=([]:List cP),dV:=([]:List bM),gK:=c.b4,gL:=c.sF,gM:=c.ju,uj:=c.dU,qw:=(c.dU.length:Int),Ba:=(0:Int)} σ)
end bn
def bn (b0:Option Addr) (EV:Vector Int 32) (fI:Int) (dU:List (List Int)) (σ:St Obj) (Q:bn.QT):Prop:=
 bx (dU.length:Int) fun EZ Ae=>
 br (Ae !=(0:Int))
 (bn.K1 Q {bn.v0 with dU:=dU,b4:=b0,sF:=EV,ju:=fI,v9:=(⟨(0:Int),(0:Int),(Vector.replicate 32 (0:Int))⟩:bM),n7:=EZ,fC:=true} σ)
 (cw (fun x0 _ K=>fA x0 (fun r=>K r ())) dU () fun It Y0=>
 bn.K1 Q {bn.v0 with dU:=dU,b4:=b0,sF:=EV,ju:=fI,v9:=(⟨(0:Int),(0:Int),(Vector.replicate 32 (0:Int))⟩:bM),n7:=EZ,fC:=It} σ)
namespace au
structure V where
 cI:Int
 v2:aV
 n8:Bool
 s4:aV
 i5:Int
 dY:Int
 dP:Int
 cT:Int
 Iu:Bool
 n9:Int
 Bb:Int
def v0:V:=⟨0,(⟨(0:Int),[],[]⟩:aV),false,(⟨(0:Int),[],[]⟩:aV),0,0,0,0,false,0,0⟩
abbrev QT:=aV→Int→Prop
def B5 (S3:V→Prop) (S5:V→Prop) (Q:QT) (c:V):Prop:=
 br (decide (c.Bb<c.dP))
 ((Bnd (c.s4.Level.length+([c.cT]).length))∧
 (Bnd (c.s4.di.length+([(IntKind.wrap .i64 (c.dY+c.Bb))]).length))∧
 S5 {c with s4:=(⟨c.s4.P,(c.s4.Level++[c.cT]),(c.s4.di++[(IntKind.wrap .i64 (c.dY+c.Bb))])⟩:aV),n9:=(IntKind.wrap .i64 (c.n9+(1:Int))),Bb:=(IntKind.wrap .i64 (c.Bb+(6:Int)))})
 (S3 {c with dY:=(IntKind.wrap .i64 (c.dY+c.dP)),dP:=c.n9,cT:=(IntKind.wrap .i64 (c.cT+(1:Int)))})
def L5 (S3:V→Prop) (Q:QT) (c:V):Prop:=Lf (fun S=>B5 S3 S Q) c
def K4 (S3:V→Prop) (Q:QT) (c:V):Prop:=
 br c.Iu
 (L5 S3 Q {c with n9:=(0:Int),Bb:=(0:Int)})
 (Q c.s4 (0:Int))
def B3 (S3:V→Prop) (Q:QT) (c:V):Prop:=
 br (c.cT==(1:Int))
 (K4 S3 Q {c with Iu:=true})
 (K4 S3 Q {c with Iu:=(decide (c.dP>(1:Int)))})
def L3 (Q:QT) (c:V):Prop:=Lf (fun S=>B3 S Q) c
theorem fF {Q:QT} {c:V} (H:B3 (L3 Q) Q c):L3 Q c:=Lf.fold H
def B2 (S2:V→Prop) (Q:QT) (c:V):Prop:=
 br (decide (c.i5<c.cI))
 ((Bnd (c.s4.Level.length+([(0:Int)]).length))∧
 (Bnd (c.s4.di.length+([(-1:Int)]).length))∧
 S2 {c with s4:=(⟨c.s4.P,(c.s4.Level++[(0:Int)]),(c.s4.di++[(-1:Int)])⟩:aV),i5:=(IntKind.wrap .i64 (c.i5+(1:Int)))})
 (L3 Q {c with dY:=(0:Int),dP:=c.cI,cT:=(1:Int)})
def L2 (Q:QT) (c:V):Prop:=Lf (fun S=>B2 S Q) c
def K1 (Q:QT) (c:V):Prop:=
 br c.n8
 (Q (⟨(0:Int),([]:List Int),([]:List Int)⟩:aV) (1:Int))
 (L2 Q {c with s4:=(⟨c.cI,([]:List Int),([]:List Int)⟩:aV),i5:=(0:Int)})
end au
def au (cI:Int) (Q:au.QT):Prop:=
 br (decide (cI<(1:Int)))
 (au.K1 Q {au.v0 with cI:=cI,v2:=(⟨(0:Int),([]:List Int),([]:List Int)⟩:aV),n8:=true})
 (au.K1 Q {au.v0 with cI:=cI,v2:=(⟨(0:Int),([]:List Int),([]:List Int)⟩:aV),n8:=(decide (cI>(216:Int)))})
def cD (s0:aV) (bT:Int) (Q:Bool→Prop):Prop:=
 br (decide (bT≥(0:Int)))
 (Q (decide (bT<(s0.Level.length:Int))))
 (Q false)
namespace ax
structure V where
 bT:Int
 s2:aV
 eY:List Int
 iQ:Bool
 k6:Int
 KZ:Bool
def v0:V:=⟨0,(⟨(0:Int),[],[]⟩:aV),[],false,0,false⟩
abbrev QT:=(List Int)→Prop
def K3 (S2:V→Prop) (Q:QT) (c:V):Prop:=
 br c.KZ
 ((Bnd (c.eY.length+([c.k6]).length))∧
 S2 {c with eY:=(c.eY++[c.k6]),k6:=(IntKind.wrap .i64 (c.k6+(1:Int)))})
 (Q c.eY)
def B2 (S2:V→Prop) (Q:QT) (c:V):Prop:=
 br (decide ((c.eY.length:Int)<(6:Int)))
 (br (decide (c.k6<c.bT))
 (ixP c.s2.Level c.k6 fun Ii=>
 ixP c.s2.Level c.bT fun Ij=>
 K3 S2 Q {c with KZ:=(Ii==(IntKind.wrap .i64 (Ij - (1:Int))))})
 (K3 S2 Q {c with KZ:=false}))
 (K3 S2 Q {c with KZ:=false})
def L2 (Q:QT) (c:V):Prop:=Lf (fun S=>B2 S Q) c
theorem bW {Q:QT} {c:V} (H:B2 (L2 Q) Q c):L2 Q c:=Lf.fold H
def K1 (Q:QT) (c:V):Prop:=
 br c.iQ
 (Q ([]:List Int))
 (ixP c.s2.di c.bT fun uk=>
 L2 Q {c with k6:=uk})
end ax
def ax (s0:aV) (bT:Int) (Q:ax.QT):Prop:=
 cD s0 bT fun kK=>
 br (!kK)
 (ax.K1 Q {ax.v0 with bT:=bT,s2:=s0,eY:=([]:List Int),iQ:=true})
 (ixP s0.di bT fun qA=>
 ax.K1 Q {ax.v0 with bT:=bT,s2:=s0,eY:=([]:List Int),iQ:=(decide (qA<(0:Int)))})
namespace bt
structure V where
 r1:aj
 cr:List Int
 i4:Int
def v0:V:=⟨(⟨(0:Int),(0:Int),(Vector.replicate 32 (0:Int))⟩:aj),[],0⟩
abbrev QT:=(List Int)→Prop
def B1 (S1:V→Prop) (Q:QT) (c:V):Prop:=
 br (decide (c.i4<(4:Int)))
 (iP (IntKind.wrap .i64 ((8:Int)*c.i4)) fun _=>
 (Bnd (c.cr.length+([(IntKind.wrap .u8 (Int.fdiv c.r1.dF (2 ^ (min (Int.toNat (IntKind.wrap .i64 ((8:Int)*c.i4))) (IntKind.bits .u32)))))]).length))∧
 S1 {c with cr:=(c.cr++[(IntKind.wrap .u8 (Int.fdiv c.r1.dF (2 ^ (min (Int.toNat (IntKind.wrap .i64 ((8:Int)*c.i4))) (IntKind.bits .u32)))))]),i4:=(IntKind.wrap .i64 (c.i4+(1:Int)))})
 ((Bnd (c.cr.length+c.r1.cH.toList.length))∧
 Q (c.cr++c.r1.cH.toList))
def L1 (Q:QT) (c:V):Prop:=Lf (fun S=>B1 S Q) c
theorem bD {Q:QT} {c:V} (H:B1 (L1 Q) Q c):L1 Q c:=Lf.fold H
end bt
def bt (r0:aj) (Q:bt.QT):Prop:=
 bt.L1 Q {bt.v0 with r1:=r0,cr:=[(IntKind.wrap .u8 r0.Place)],i4:=(0:Int)}
namespace aD
structure V where
 l0:List aj
 BJ:Bool
 jv:List Int
 i5:Int
 Md:Bool
def v0:V:=⟨[],false,[],0,false⟩
abbrev QT:=(List Int)→Int→Prop
def K3 (S2:V→Prop) (Q:QT) (c:V):Prop:=
 br c.Md
 (Q ([]:List Int) (1:Int))
 (ixP c.l0 c.i5 fun wZ=>
 bt wZ fun Me=>
 (Bnd (c.jv.length+Me.length))∧
 S2 {c with jv:=(c.jv++Me),i5:=(IntKind.wrap .i64 (c.i5+(1:Int)))})
def B4 (S4:V→Prop) (Q:QT) (c:V):Prop:=
 br (decide ((c.jv.length:Int)<(256:Int)))
 ((Bnd (c.jv.length+([(0:Int)]).length))∧
 S4 {c with jv:=(c.jv++[(0:Int)])})
 (Q c.jv (0:Int))
def L4 (Q:QT) (c:V):Prop:=Lf (fun S=>B4 S Q) c
theorem jP {Q:QT} {c:V} (H:B4 (L4 Q) Q c):L4 Q c:=Lf.fold H
def B2 (S2:V→Prop) (Q:QT) (c:V):Prop:=
 br (decide (c.i5<(c.l0.length:Int)))
 (ixP c.l0 c.i5 fun qA=>
 br (decide (qA.Place<(0:Int)))
 (K3 S2 Q {c with Md:=true})
 (ixP c.l0 c.i5 fun ES=>
 K3 S2 Q {c with Md:=(decide (ES.Place>(1:Int)))}))
 (L4 Q c)
def L2 (Q:QT) (c:V):Prop:=Lf (fun S=>B2 S Q) c
theorem bW {Q:QT} {c:V} (H:B2 (L2 Q) Q c):L2 Q c:=Lf.fold H
def K1 (Q:QT) (c:V):Prop:=
 br c.BJ
 (Q ([]:List Int) (1:Int))
 (L2 Q {c with jv:=[(IntKind.wrap .u8 (c.l0.length:Int))],i5:=(0:Int)})
end aD
def aD (l0:List aj) (Q:aD.QT):Prop:=
 br (decide ((l0.length:Int)<(1:Int)))
 (aD.K1 Q {aD.v0 with l0:=l0,BJ:=true})
 (aD.K1 Q {aD.v0 with l0:=l0,BJ:=(decide ((l0.length:Int)>(6:Int)))})
def dG (b0:List Int) (Q:Int→Prop):Prop:=
 ixP b0 (0:Int) fun Ia=>
 ixP b0 (1:Int) fun BD=>
 ixP b0 (2:Int) fun Ab=>
 ixP b0 (3:Int) fun BE=>
 Q (IntKind.wrap .u32 ((IntKind.wrap .u32 ((IntKind.wrap .u32 ((IntKind.wrap .u32 Ia)+(IntKind.wrap .u32 ((256:Int)*(IntKind.wrap .u32 BD)))))+(IntKind.wrap .u32 ((65536:Int)*(IntKind.wrap .u32 Ab)))))+(IntKind.wrap .u32 ((16777216:Int)*(IntKind.wrap .u32 BE)))))
def gG (Q:(List (List Int))→Prop):Prop:=
 Q ([[(0:Int),(4:Int),(8:Int),(12:Int)],[(1:Int),(5:Int),(9:Int),(13:Int)],[(2:Int),(6:Int),(10:Int),(14:Int)],[(3:Int),(7:Int),(11:Int),(15:Int)],[(0:Int),(5:Int),(10:Int),(15:Int)],[(1:Int),(6:Int),(11:Int),(12:Int)],[(2:Int),(7:Int),(8:Int),(13:Int)],[(3:Int),(4:Int),(9:Int),(14:Int)]])
namespace aT
structure V where
 x0:Int
 n1:Int
 i5:Int
def v0:V:=⟨0,0,0⟩
abbrev QT:=Int→Prop
def B1 (S1:V→Prop) (Q:QT) (c:V):Prop:=
 br (decide (c.i5<c.n1))
 (S1 {c with x0:=(IntKind.wrap .u32 ((IntKind.wrap .u32 (c.x0*(2:Int)))+(IntKind.wrap .u32 (Int.tdiv c.x0 (2147483648:Int))))),i5:=(IntKind.wrap .i64 (c.i5+(1:Int)))})
 (Q c.x0)
def L1 (Q:QT) (c:V):Prop:=Lf (fun S=>B1 S Q) c
theorem bD {Q:QT} {c:V} (H:B1 (L1 Q) Q c):L1 Q c:=Lf.fold H
end aT
def aT (x0:Int) (n1:Int) (Q:aT.QT):Prop:=
 aT.L1 Q {aT.v0 with x0:=x0,n1:=n1,i5:=(0:Int)}
def cS (w0:Vector Int 4) (Q:(Vector Int 4)→Prop):Prop:=
 ixP w0.toList (0:Int) fun xe=>
 ixP w0.toList (1:Int) fun E0=>
 ixP w0.toList (2:Int) fun Iv=>
 ixP w0.toList (3:Int) fun EW=>
 aT (IntKind.wrap .u32 (((BitVec.ofInt (IntKind.bits .u32) EW ^^^ (BitVec.ofInt (IntKind.bits .u32) (IntKind.wrap .u32 (xe+E0)))).toNat:Int))) (16:Int) fun qz=>
 aT (IntKind.wrap .u32 (((BitVec.ofInt (IntKind.bits .u32) E0 ^^^ (BitVec.ofInt (IntKind.bits .u32) (IntKind.wrap .u32 (Iv+qz)))).toNat:Int))) (12:Int) fun mT=>
 aT (IntKind.wrap .u32 (((BitVec.ofInt (IntKind.bits .u32) qz ^^^ (BitVec.ofInt (IntKind.bits .u32) (IntKind.wrap .u32 ((IntKind.wrap .u32 (xe+E0))+mT)))).toNat:Int))) (8:Int) fun Iw=>
 aT (IntKind.wrap .u32 (((BitVec.ofInt (IntKind.bits .u32) mT ^^^ (BitVec.ofInt (IntKind.bits .u32) (IntKind.wrap .u32 ((IntKind.wrap .u32 (Iv+qz))+Iw)))).toNat:Int))) (7:Int) fun Ih=>
 Q (#v[(IntKind.wrap .u32 ((IntKind.wrap .u32 (xe+E0))+mT)),Ih,(IntKind.wrap .u32 ((IntKind.wrap .u32 (Iv+qz))+Iw)),Iw])
namespace aa
structure V where
 aU:Int
 dn:Vector Int 32
 dR:Vector Int 12
 v6:Vector Int 64
 aH:List Int
 i8:Int
 i9:Int
 mI:List Int
 dH:Int
 Bc:List (List Int)
 qU:Int
 lT:Int
 En:List Int
 GH:Vector Int 4
 GI:Int
 jQ:Vector Int 64
 i17:Int
 Mf:Int
 BK:Int
 Qz:Vector Int 4
def v0:V:=⟨0,Vector.replicate 32 0,Vector.replicate 12 0,Vector.replicate 64 0,[],0,0,[],0,[],0,0,[],Vector.replicate 4 0,0,Vector.replicate 64 0,0,0,0,Vector.replicate 4 0⟩
abbrev QT:=(Vector Int 64)→Prop
def B5 (S3:V→Prop) (S4:V→Prop) (S5:V→Prop) (Q:QT) (c:V):Prop:=
 br (decide (c.GI<(4:Int)))
 (ixP c.En c.GI fun yQ=>
 ixP c.GH.toList c.GI fun Mg=>
 ixP c.mI yQ fun GJ=>
 S5 {c with mI:=(c.mI.set (Int.toNat yQ) Mg),GI:=(IntKind.wrap .i64 (c.GI+(1:Int)))})
 (S4 {c with lT:=(IntKind.wrap .i64 (c.lT+(1:Int)))})
def L5 (S3:V→Prop) (S4:V→Prop) (Q:QT) (c:V):Prop:=Lf (fun S=>B5 S3 S4 S Q) c
theorem um (S3:V→Prop) (S4:V→Prop) {Q:QT} {c:V} (H:B5 S3 S4 (L5 S3 S4 Q) Q c):L5 S3 S4 Q c:=Lf.fold H
def K6 (S3:V→Prop) (S4:V→Prop) (Q:QT) (c:V):Prop:=
 L5 S3 S4 Q {c with GI:=(0:Int)}
def QA (S3:V→Prop) (S4:V→Prop) (Q:QT) (b c:V):Prop:=
 K6 S3 S4 Q {b with v6:=c.v6,aH:=c.aH,mI:=c.mI,dH:=c.dH,En:=c.En,GH:=c.Qz,Bc:=c.Bc,qU:=c.qU,lT:=c.lT}
def K9 (S3:V→Prop) (S4:V→Prop) (Q:QT) (b c:V):Prop:=
 QA S3 S4 Q b {c with GH:=(Vector.replicate 4 (0:Int))}
def B4 (S3:V→Prop) (S4:V→Prop) (Q:QT) (c:V):Prop:=
 br (decide (c.lT<c.qU))
 (ixP c.Bc c.lT fun Am=>
 ixP Am (0:Int) fun Re=>
 ixP c.mI Re fun Mh=>
 ixP Am (1:Int) fun Rf=>
 ixP c.mI Rf fun Mi=>
 ixP Am (2:Int) fun Mj=>
 ixP c.mI Mj fun GK=>
 ixP Am (3:Int) fun Mk=>
 ixP c.mI Mk fun yP=>
 (cS (#v[Mh,Mi,GK,yP]) fun Ml=>
 K9 S3 S4 Q c {c with En:=Am,Qz:=Ml})∧
 (cS (#v[Mh,Mi,GK,yP]) fun yR=>
 QA S3 S4 Q c {c with En:=Am,GH:=(Vector.replicate 4 (0:Int)),Qz:=yR}))
 (S3 {c with dH:=(IntKind.wrap .i64 (c.dH+(1:Int)))})
def L4 (S3:V→Prop) (Q:QT) (c:V):Prop:=Lf (fun S=>B4 S3 S Q) c
theorem jP (S3:V→Prop) {Q:QT} {c:V} (H:B4 S3 (L4 S3 Q) Q c):L4 S3 Q c:=Lf.fold H
def B8 (S7:V→Prop) (S8:V→Prop) (Q:QT) (c:V):Prop:=
 br (decide (c.BK<(4:Int)))
 (iP (IntKind.wrap .i64 ((8:Int)*c.BK)) fun _=>
 ixP c.jQ.toList (IntKind.wrap .i64 ((IntKind.wrap .i64 ((4:Int)*c.i17))+c.BK)) fun Xn=>
 S8 {c with jQ:=(c.jQ.setIfInBounds (Int.toNat (IntKind.wrap .i64 ((IntKind.wrap .i64 ((4:Int)*c.i17))+c.BK))) (IntKind.wrap .u8 (Int.fdiv c.Mf (2 ^ (min (Int.toNat (IntKind.wrap .i64 ((8:Int)*c.BK))) (IntKind.bits .u32)))))),BK:=(IntKind.wrap .i64 (c.BK+(1:Int)))})
 (S7 {c with i17:=(IntKind.wrap .i64 (c.i17+(1:Int)))})
def L8 (S7:V→Prop) (Q:QT) (c:V):Prop:=Lf (fun S=>B8 S7 S Q) c
theorem GL (S7:V→Prop) {Q:QT} {c:V} (H:B8 S7 (L8 S7 Q) Q c):L8 S7 Q c:=Lf.fold H
def B7 (S7:V→Prop) (Q:QT) (c:V):Prop:=
 br (decide (c.i17<(16:Int)))
 (ixP c.mI c.i17 fun Mm=>
 ixP c.aH c.i17 fun Mn=>
 L8 S7 Q {c with Mf:=(IntKind.wrap .u32 (Mm+Mn)),BK:=(0:Int)})
 (Q c.jQ)
def L7 (Q:QT) (c:V):Prop:=Lf (fun S=>B7 S Q) c
theorem GM {Q:QT} {c:V} (H:B7 (L7 Q) Q c):L7 Q c:=Lf.fold H
def B3 (S3:V→Prop) (Q:QT) (c:V):Prop:=
 br (decide (c.dH<(10:Int)))
 (gG fun w6=>
 L4 S3 Q {c with Bc:=w6,qU:=(w6.length:Int),lT:=(0:Int)})
 (L7 Q {c with jQ:=(Vector.replicate 64 (0:Int)),i17:=(0:Int)})
def L3 (Q:QT) (c:V):Prop:=Lf (fun S=>B3 S Q) c
theorem fF {Q:QT} {c:V} (H:B3 (L3 Q) Q c):L3 Q c:=Lf.fold H
def B2 (S2:V→Prop) (Q:QT) (c:V):Prop:=
 br (decide (c.i9<(3:Int)))
 ((SlOk c.dR.toList (IntKind.wrap .i64 ((4:Int)*c.i9)) (IntKind.wrap .i64 ((IntKind.wrap .i64 ((4:Int)*c.i9))+(4:Int))))∧
 dG (subA 12 c.dR.toList (IntKind.wrap .i64 ((4:Int)*c.i9)) (IntKind.wrap .i64 ((IntKind.wrap .i64 ((4:Int)*c.i9))+(4:Int)))) fun E2=>
 (Bnd (c.aH.length+([E2]).length))∧
 S2 {c with aH:=(c.aH++[E2]),i9:=(IntKind.wrap .i64 (c.i9+(1:Int)))})
 ((Bnd (([]:List Int).length+c.aH.length))∧
 L3 Q {c with mI:=(([]:List Int)++c.aH),dH:=(0:Int)})
def L2 (Q:QT) (c:V):Prop:=Lf (fun S=>B2 S Q) c
theorem bW {Q:QT} {c:V} (H:B2 (L2 Q) Q c):L2 Q c:=Lf.fold H
def B1 (S1:V→Prop) (Q:QT) (c:V):Prop:=
 br (decide (c.i8<(8:Int)))
 ((SlOk c.dn.toList (IntKind.wrap .i64 ((4:Int)*c.i8)) (IntKind.wrap .i64 ((IntKind.wrap .i64 ((4:Int)*c.i8))+(4:Int))))∧
 dG (subA 32 c.dn.toList (IntKind.wrap .i64 ((4:Int)*c.i8)) (IntKind.wrap .i64 ((IntKind.wrap .i64 ((4:Int)*c.i8))+(4:Int)))) fun Mo=>
 (Bnd (c.aH.length+([Mo]).length))∧
 S1 {c with aH:=(c.aH++[Mo]),i8:=(IntKind.wrap .i64 (c.i8+(1:Int)))})
 ((Bnd (c.aH.length+([c.aU]).length))∧
 L2 Q {c with aH:=(c.aH++[c.aU]),i9:=(0:Int)})
def L1 (Q:QT) (c:V):Prop:=Lf (fun S=>B1 S Q) c
theorem bD {Q:QT} {c:V} (H:B1 (L1 Q) Q c):L1 Q c:=Lf.fold H
end aa
def aa (dL:Vector Int 32) (cZ:Vector Int 12) (aU:Int) (Q:aa.QT):Prop:=
 aa.L1 Q {aa.v0 with aU:=aU,dn:=dL,dR:=cZ,v6:=(Vector.replicate 64 (0:Int)),aH:=[(1634760805:Int),(857760878:Int),(2036477234:Int),(1797285236:Int)],i8:=(0:Int)}
namespace aF
structure V where
 aU:Int
 fV:Int
 fG:Vector Int 32
 eL:Vector Int 12
 n8:Bool
 dX:List Int
def v0:V:=⟨0,0,Vector.replicate 32 0,Vector.replicate 12 0,false,[]⟩
abbrev QT:=(List Int)→Prop
def B2 (S2:V→Prop) (Q:QT) (c:V):Prop:=
 br (decide ((c.dX.length:Int)<c.fV))
 (aa c.fG c.eL c.aU fun ug=>
 (Bnd (c.dX.length+ug.toList.length))∧
 S2 {c with aU:=(IntKind.wrap .u32 (c.aU+(1:Int))),dX:=(c.dX++ug.toList)})
 ((SlOk c.dX (0:Int) c.fV)∧
 Q (sub c.dX (0:Int) c.fV))
def L2 (Q:QT) (c:V):Prop:=Lf (fun S=>B2 S Q) c
theorem bW {Q:QT} {c:V} (H:B2 (L2 Q) Q c):L2 Q c:=Lf.fold H
def K1 (Q:QT) (c:V):Prop:=
 br c.n8
 (Q ([]:List Int))
 (L2 Q {c with dX:=([]:List Int)})
end aF
def aF (dL:Vector Int 32) (cZ:Vector Int 12) (aU:Int) (fV:Int) (Q:aF.QT):Prop:=
 br (decide (fV<(0:Int)))
 (aF.K1 Q {aF.v0 with aU:=aU,fV:=fV,fG:=dL,eL:=cZ,n8:=true})
 (aF.K1 Q {aF.v0 with aU:=aU,fV:=fV,fG:=dL,eL:=cZ,n8:=(decide (fV>(1048576:Int)))})
namespace aY
structure V where
 b3:List Int
 s9:List Int
 lU:List Int
 i11:Int
def v0:V:=⟨[],[],[],0⟩
abbrev QT:=(List Int)→Prop
def B1 (S1:V→Prop) (Q:QT) (c:V):Prop:=
 br (decide (c.i11<(c.s9.length:Int)))
 (ixP c.b3 c.i11 fun Mp=>
 ixP c.s9 c.i11 fun BL=>
 ixP c.lU c.i11 fun Mq=>
 S1 {c with lU:=(c.lU.set (Int.toNat c.i11) (IntKind.wrap .u8 (((BitVec.ofInt (IntKind.bits .u8) Mp ^^^ (BitVec.ofInt (IntKind.bits .u8) BL)).toNat:Int)))),i11:=(IntKind.wrap .i64 (c.i11+(1:Int)))})
 (Q c.lU)
def L1 (Q:QT) (c:V):Prop:=Lf (fun S=>B1 S Q) c
theorem bD {Q:QT} {c:V} (H:B1 (L1 Q) Q c):L1 Q c:=Lf.fold H
end aY
def aY (dL:Vector Int 32) (cZ:Vector Int 12) (aU:Int) (b3:List Int) (Q:aY.QT):Prop:=
 aF dL cZ aU (if (1048576:Int)<(b3.length:Int) then (1048576:Int) else (b3.length:Int)) fun nU=>
 (Bnd (([]:List Int).length+b3.length))∧
 aY.L1 Q {aY.v0 with b3:=b3,s9:=nU,lU:=(([]:List Int)++b3),i11:=(0:Int)}
namespace aI
structure V where
 eE:Int
 dJ:Int
 v4:Vector Int 12
 eY:Vector Int 12
 i6:Int
 i7:Int
def v0:V:=⟨0,0,Vector.replicate 12 0,Vector.replicate 12 0,0,0⟩
abbrev QT:=(Vector Int 12)→Prop
def B2 (S2:V→Prop) (Q:QT) (c:V):Prop:=
 br (decide (c.i7<(8:Int)))
 (iP (IntKind.wrap .i64 ((8:Int)*c.i7)) fun _=>
 ixP c.eY.toList (IntKind.wrap .i64 ((4:Int)+c.i7)) fun Mp=>
 S2 {c with eY:=(c.eY.setIfInBounds (Int.toNat (IntKind.wrap .i64 ((4:Int)+c.i7))) (IntKind.wrap .u8 (Int.fdiv c.dJ (2 ^ (min (Int.toNat (IntKind.wrap .i64 ((8:Int)*c.i7))) (IntKind.bits .u64)))))),i7:=(IntKind.wrap .i64 (c.i7+(1:Int)))})
 (Q c.eY)
def L2 (Q:QT) (c:V):Prop:=Lf (fun S=>B2 S Q) c
theorem bW {Q:QT} {c:V} (H:B2 (L2 Q) Q c):L2 Q c:=Lf.fold H
def B1 (S1:V→Prop) (Q:QT) (c:V):Prop:=
 br (decide (c.i6<(4:Int)))
 (iP (IntKind.wrap .i64 ((8:Int)*c.i6)) fun _=>
 ixP c.eY.toList c.i6 fun BD=>
 S1 {c with eY:=(c.eY.setIfInBounds (Int.toNat c.i6) (IntKind.wrap .u8 (Int.fdiv c.eE (2 ^ (min (Int.toNat (IntKind.wrap .i64 ((8:Int)*c.i6))) (IntKind.bits .u32)))))),i6:=(IntKind.wrap .i64 (c.i6+(1:Int)))})
 (L2 Q {c with i7:=(0:Int)})
def L1 (Q:QT) (c:V):Prop:=Lf (fun S=>B1 S Q) c
theorem bD {Q:QT} {c:V} (H:B1 (L1 Q) Q c):L1 Q c:=Lf.fold H
end aI
def aI (eE:Int) (dJ:Int) (Q:aI.QT):Prop:=
 aI.L1 Q {aI.v0 with eE:=eE,dJ:=dJ,v4:=(Vector.replicate 12 (0:Int)),eY:=(Vector.replicate 12 (0:Int)),i6:=(0:Int)}
namespace aZ
structure V where
 bu:Int
 dS:Int
 fH:List Int
 fG:Vector Int 32
 n8:Bool
def v0:V:=⟨0,0,[],Vector.replicate 32 0,false⟩
abbrev QT:=(List Int)→Int→Prop
def K1 (Q:QT) (c:V):Prop:=
 br c.n8
 (Q ([]:List Int) (1:Int))
 (aI c.bu (IntKind.wrap .u64 c.dS) fun kK=>
 aY c.fG kK (0:Int) c.fH fun GC=>
 Q GC (0:Int))
end aZ
def aZ (dL:Vector Int 32) (bu:Int) (dS:Int) (fH:List Int) (Q:aZ.QT):Prop:=
 br ((fH.length:Int) !=(256:Int))
 (aZ.K1 Q {aZ.v0 with bu:=bu,dS:=dS,fH:=fH,fG:=dL,n8:=true})
 (aZ.K1 Q {aZ.v0 with bu:=bu,dS:=dS,fH:=fH,fG:=dL,n8:=(decide (dS<(0:Int)))})
namespace an
structure V where
 n0:Int
 cr:List Int
 p4:Int
 Eo:Bool
 i6:Int
def v0:V:=⟨0,[],0,false,0⟩
abbrev QT:=(List Int)→Prop
def K3 (S1:V→Prop) (S2:V→Prop) (Q:QT) (c:V):Prop:=
 S2 {c with i6:=(IntKind.wrap .i64 (c.i6+(1:Int)))}
def K4 (S1:V→Prop) (Q:QT) (c:V):Prop:=
 S1 {c with p4:=(IntKind.wrap .u64 (c.p4+(1:Int)))}
def B2 (S1:V→Prop) (S2:V→Prop) (Q:QT) (c:V):Prop:=
 br (decide (c.i6<(c.cr.length:Int)))
 (br c.Eo
 (ixP c.cr c.i6 fun A5=>
 nzW A5 fun _=>
 K3 S1 S2 Q {c with Eo:=((Int.tmod c.p4 A5) !=(0:Int))})
 (K3 S1 S2 Q {c with Eo:=false}))
 (br c.Eo
 ((Bnd (c.cr.length+([c.p4]).length))∧
 K4 S1 Q {c with cr:=(c.cr++[c.p4])})
 (K4 S1 Q c))
def L2 (S1:V→Prop) (Q:QT) (c:V):Prop:=Lf (fun S=>B2 S1 S Q) c
theorem bW (S1:V→Prop) {Q:QT} {c:V} (H:B2 S1 (L2 S1 Q) Q c):L2 S1 Q c:=Lf.fold H
def B1 (S1:V→Prop) (Q:QT) (c:V):Prop:=
 br (decide ((c.cr.length:Int)<c.n0))
 (L2 S1 Q {c with Eo:=true,i6:=(0:Int)})
 (Q c.cr)
def L1 (Q:QT) (c:V):Prop:=Lf (fun S=>B1 S Q) c
theorem bD {Q:QT} {c:V} (H:B1 (L1 Q) Q c):L1 Q c:=Lf.fold H
end an
def an (n0:Int) (Q:an.QT):Prop:=
 an.L1 Q {an.v0 with n0:=n0,cr:=([]:List Int),p4:=(2:Int)}
def cJ (a0:Int) (b1:Int) (Q:Int→Int→Prop):Prop:=
 Q (IntKind.wrap .u64 ((IntKind.wrap .u64 ((IntKind.wrap .u64 ((IntKind.wrap .u64 (Int.tdiv a0 (4294967296:Int)))*(IntKind.wrap .u64 (Int.tdiv b1 (4294967296:Int)))))+(IntKind.wrap .u64 (Int.tdiv (IntKind.wrap .u64 ((IntKind.wrap .u64 ((IntKind.wrap .u64 (Int.tdiv a0 (4294967296:Int)))*(Int.tmod b1 (4294967296:Int))))+(IntKind.wrap .u64 (Int.tdiv (IntKind.wrap .u64 ((Int.tmod a0 (4294967296:Int))*(Int.tmod b1 (4294967296:Int)))) (4294967296:Int))))) (4294967296:Int)))))+(IntKind.wrap .u64 (Int.tdiv (IntKind.wrap .u64 ((IntKind.wrap .u64 ((Int.tmod a0 (4294967296:Int))*(IntKind.wrap .u64 (Int.tdiv b1 (4294967296:Int)))))+(Int.tmod (IntKind.wrap .u64 ((IntKind.wrap .u64 ((IntKind.wrap .u64 (Int.tdiv a0 (4294967296:Int)))*(Int.tmod b1 (4294967296:Int))))+(IntKind.wrap .u64 (Int.tdiv (IntKind.wrap .u64 ((Int.tmod a0 (4294967296:Int))*(Int.tmod b1 (4294967296:Int)))) (4294967296:Int))))) (4294967296:Int)))) (4294967296:Int))))) (IntKind.wrap .u64 ((IntKind.wrap .u64 ((IntKind.wrap .u64 ((IntKind.wrap .u64 ((Int.tmod a0 (4294967296:Int))*(IntKind.wrap .u64 (Int.tdiv b1 (4294967296:Int)))))+(Int.tmod (IntKind.wrap .u64 ((IntKind.wrap .u64 ((IntKind.wrap .u64 (Int.tdiv a0 (4294967296:Int)))*(Int.tmod b1 (4294967296:Int))))+(IntKind.wrap .u64 (Int.tdiv (IntKind.wrap .u64 ((Int.tmod a0 (4294967296:Int))*(Int.tmod b1 (4294967296:Int)))) (4294967296:Int))))) (4294967296:Int))))*(4294967296:Int)))+(Int.tmod (IntKind.wrap .u64 ((Int.tmod a0 (4294967296:Int))*(Int.tmod b1 (4294967296:Int)))) (4294967296:Int))))
namespace aC
structure V where
 p0:Int
 r3:Int
 k4:Int
 x5:Int
 xg:Bool
 K0:Int
 oW:Int
 qV:Int
def v0:V:=⟨0,0,0,0,false,0,0,0⟩
abbrev QT:=Int→Prop
def K4 (S1:V→Prop) (Q:QT) (c:V):Prop:=
 S1 {c with k4:=(IntKind.wrap .i64 (c.k4 - (1:Int)))}
def K2 (S1:V→Prop) (Q:QT) (c:V):Prop:=
 br c.xg
 (K4 S1 Q {c with r3:=c.x5})
 (K4 S1 Q c)
def K3 (S1:V→Prop) (Q:QT) (c:V):Prop:=
 br (c.qV==(0:Int))
 (br (decide (c.oW<(IntKind.wrap .u64 (c.p0*(4294967296:Int)))))
 (K2 S1 Q {c with xg:=true})
 (br (c.oW==(IntKind.wrap .u64 (c.p0*(4294967296:Int))))
 (K2 S1 Q {c with xg:=(c.K0==(0:Int))})
 (K2 S1 Q {c with xg:=false})))
 (K2 S1 Q {c with xg:=false})
def B1 (S1:V→Prop) (Q:QT) (c:V):Prop:=
 br (decide (c.k4≥(0:Int)))
 (iP c.k4 fun _=>
 cJ (IntKind.wrap .u64 (c.r3+(IntKind.wrap .u64 ((1:Int)*2 ^ (min (Int.toNat c.k4) (IntKind.bits .u64)))))) (IntKind.wrap .u64 (c.r3+(IntKind.wrap .u64 ((1:Int)*2 ^ (min (Int.toNat c.k4) (IntKind.bits .u64)))))) fun GD Ak=>
 cJ Ak (IntKind.wrap .u64 (c.r3+(IntKind.wrap .u64 ((1:Int)*2 ^ (min (Int.toNat c.k4) (IntKind.bits .u64)))))) fun ER GF=>
 cJ GD (IntKind.wrap .u64 (c.r3+(IntKind.wrap .u64 ((1:Int)*2 ^ (min (Int.toNat c.k4) (IntKind.bits .u64)))))) fun wW nU=>
 br (decide ((IntKind.wrap .u64 (ER+nU))<ER))
 (K3 S1 Q {c with x5:=(IntKind.wrap .u64 (c.r3+(IntKind.wrap .u64 ((1:Int)*2 ^ (min (Int.toNat c.k4) (IntKind.bits .u64)))))),K0:=GF,oW:=(IntKind.wrap .u64 (ER+nU)),qV:=(IntKind.wrap .u64 (wW+(1:Int)))})
 (K3 S1 Q {c with x5:=(IntKind.wrap .u64 (c.r3+(IntKind.wrap .u64 ((1:Int)*2 ^ (min (Int.toNat c.k4) (IntKind.bits .u64)))))),K0:=GF,oW:=(IntKind.wrap .u64 (ER+nU)),qV:=wW}))
 (Q (IntKind.wrap .u32 (Int.tmod c.r3 (4294967296:Int))))
def L1 (Q:QT) (c:V):Prop:=Lf (fun S=>B1 S Q) c
theorem bD {Q:QT} {c:V} (H:B1 (L1 Q) Q c):L1 Q c:=Lf.fold H
end aC
def aC (p0:Int) (Q:aC.QT):Prop:=
 aC.L1 Q {aC.v0 with p0:=p0,r3:=(0:Int),k4:=(34:Int)}
namespace az
structure V where
 p0:Int
 r3:Int
 k4:Int
 x5:Int
 La:Bool
def v0:V:=⟨0,0,0,0,false⟩
abbrev QT:=Int→Prop
def K3 (S1:V→Prop) (Q:QT) (c:V):Prop:=
 S1 {c with k4:=(IntKind.wrap .i64 (c.k4 - (1:Int)))}
def K2 (S1:V→Prop) (Q:QT) (c:V):Prop:=
 br c.La
 (K3 S1 Q {c with r3:=c.x5})
 (K3 S1 Q c)
def B1 (S1:V→Prop) (Q:QT) (c:V):Prop:=
 br (decide (c.k4≥(0:Int)))
 (iP c.k4 fun _=>
 cJ (IntKind.wrap .u64 (c.r3+(IntKind.wrap .u64 ((1:Int)*2 ^ (min (Int.toNat c.k4) (IntKind.bits .u64)))))) (IntKind.wrap .u64 (c.r3+(IntKind.wrap .u64 ((1:Int)*2 ^ (min (Int.toNat c.k4) (IntKind.bits .u64)))))) fun GD Ak=>
 br (decide (GD<c.p0))
 (K2 S1 Q {c with x5:=(IntKind.wrap .u64 (c.r3+(IntKind.wrap .u64 ((1:Int)*2 ^ (min (Int.toNat c.k4) (IntKind.bits .u64)))))),La:=true})
 (br (GD==c.p0)
 (K2 S1 Q {c with x5:=(IntKind.wrap .u64 (c.r3+(IntKind.wrap .u64 ((1:Int)*2 ^ (min (Int.toNat c.k4) (IntKind.bits .u64)))))),La:=(Ak==(0:Int))})
 (K2 S1 Q {c with x5:=(IntKind.wrap .u64 (c.r3+(IntKind.wrap .u64 ((1:Int)*2 ^ (min (Int.toNat c.k4) (IntKind.bits .u64)))))),La:=false})))
 (Q (IntKind.wrap .u32 (Int.tmod c.r3 (4294967296:Int))))
def L1 (Q:QT) (c:V):Prop:=Lf (fun S=>B1 S Q) c
theorem bD {Q:QT} {c:V} (H:B1 (L1 Q) Q c):L1 Q c:=Lf.fold H
end az
def az (p0:Int) (Q:az.QT):Prop:=
 az.L1 Q {az.v0 with p0:=p0,r3:=(0:Int),k4:=(35:Int)}
namespace aM
structure V where
 l2:List Int
 k3:List Int
 gX:List Int
 t5:Int
 t6:Int
def v0:V:=⟨[],[],[],0,0⟩
abbrev QT:=(List Int)→(List Int)→Prop
def B2 (S2:V→Prop) (Q:QT) (c:V):Prop:=
 br (decide (c.t6<(8:Int)))
 (ixP c.l2 c.t6 fun Ib=>
 az Ib fun Af=>
 (Bnd (c.gX.length+([Af]).length))∧
 S2 {c with gX:=(c.gX++[Af]),t6:=(IntKind.wrap .i64 (c.t6+(1:Int)))})
 (Q c.k3 c.gX)
def L2 (Q:QT) (c:V):Prop:=Lf (fun S=>B2 S Q) c
theorem bW {Q:QT} {c:V} (H:B2 (L2 Q) Q c):L2 Q c:=Lf.fold H
def B1 (S1:V→Prop) (Q:QT) (c:V):Prop:=
 br (decide (c.t5<(64:Int)))
 (ixP c.l2 c.t5 fun Rg=>
 aC Rg fun Ai=>
 (Bnd (c.k3.length+([Ai]).length))∧
 S1 {c with k3:=(c.k3++[Ai]),t5:=(IntKind.wrap .i64 (c.t5+(1:Int)))})
 (L2 Q {c with t6:=(0:Int)})
def L1 (Q:QT) (c:V):Prop:=Lf (fun S=>B1 S Q) c
theorem bD {Q:QT} {c:V} (H:B1 (L1 Q) Q c):L1 Q c:=Lf.fold H
end aM
def aM (Q:aM.QT):Prop:=
 an (64:Int) fun GD=>
 aM.L1 Q {aM.v0 with l2:=GD,k3:=([]:List Int),gX:=([]:List Int),t5:=(0:Int)}
namespace aN
structure V where
 b0:List Int
 cr:List Int
 n4:Int
 i5:Int
def v0:V:=⟨[],[],0,0⟩
abbrev QT:=(List Int)→Prop
def B2 (S2:V→Prop) (Q:QT) (c:V):Prop:=
 br (decide (c.i5≥(0:Int)))
 (iP c.i5 fun _=>
 (Bnd (c.cr.length+([(IntKind.wrap .u8 (Int.fdiv c.n4 (2 ^ (min (Int.toNat c.i5) (IntKind.bits .u64)))))]).length))∧
 S2 {c with cr:=(c.cr++[(IntKind.wrap .u8 (Int.fdiv c.n4 (2 ^ (min (Int.toNat c.i5) (IntKind.bits .u64)))))]),i5:=(IntKind.wrap .i64 (c.i5 - (8:Int)))})
 (Q c.cr)
def L2 (Q:QT) (c:V):Prop:=Lf (fun S=>B2 S Q) c
theorem bW {Q:QT} {c:V} (H:B2 (L2 Q) Q c):L2 Q c:=Lf.fold H
def B1 (S1:V→Prop) (Q:QT) (c:V):Prop:=
 br ((Int.tmod (c.cr.length:Int) (64:Int)) !=(56:Int))
 ((Bnd (c.cr.length+([(0:Int)]).length))∧
 S1 {c with cr:=(c.cr++[(0:Int)])})
 (L2 Q {c with n4:=(IntKind.wrap .u64 ((IntKind.wrap .u64 (c.b0.length:Int))*(8:Int))),i5:=(56:Int)})
def L1 (Q:QT) (c:V):Prop:=Lf (fun S=>B1 S Q) c
theorem bD {Q:QT} {c:V} (H:B1 (L1 Q) Q c):L1 Q c:=Lf.fold H
end aN
def aN (b0:List Int) (Q:aN.QT):Prop:=
 (Bnd (([]:List Int).length+b0.length))∧
 (Bnd ((([]:List Int)++b0).length+([(128:Int)]).length))∧
 aN.L1 Q {aN.v0 with b0:=b0,cr:=((([]:List Int)++b0)++[(128:Int)])}
namespace aG
structure V where
 x0:Int
 n1:Int
 i5:Int
def v0:V:=⟨0,0,0⟩
abbrev QT:=Int→Prop
def B1 (S1:V→Prop) (Q:QT) (c:V):Prop:=
 br (decide (c.i5<c.n1))
 (S1 {c with x0:=(IntKind.wrap .u32 ((IntKind.wrap .u32 (Int.tdiv c.x0 (2:Int)))+(IntKind.wrap .u32 ((Int.tmod c.x0 (2:Int))*(2147483648:Int))))),i5:=(IntKind.wrap .i64 (c.i5+(1:Int)))})
 (Q c.x0)
def L1 (Q:QT) (c:V):Prop:=Lf (fun S=>B1 S Q) c
theorem bD {Q:QT} {c:V} (H:B1 (L1 Q) Q c):L1 Q c:=Lf.fold H
end aG
def aG (x0:Int) (n1:Int) (Q:aG.QT):Prop:=
 aG.L1 Q {aG.v0 with x0:=x0,n1:=(Int.tmod (IntKind.wrap .i64 ((Int.tmod n1 (32:Int))+(32:Int))) (32:Int)),i5:=(0:Int)}
namespace aq
structure V where
 k0:List Int
 s1:List Int
 b2:List Int
 w7:List Int
 t8:Int
 nI:List Int
 t14:Int
 lV:List Int
 i20:Int
def v0:V:=⟨[],[],[],[],0,[],0,[],0⟩
abbrev QT:=(List Int)→Prop
def K2 (S1:V→Prop) (Q:QT) (c:V):Prop:=
 S1 {c with t8:=(IntKind.wrap .i64 (c.t8+(1:Int)))}
def B4 (S4:V→Prop) (Q:QT) (c:V):Prop:=
 br (decide (c.i20<(8:Int)))
 (ixP c.nI c.i20 fun GN=>
 ixP c.s1 c.i20 fun GO=>
 (Bnd (c.lV.length+([(IntKind.wrap .u32 (GN+GO))]).length))∧
 S4 {c with lV:=(c.lV++[(IntKind.wrap .u32 (GN+GO))]),i20:=(IntKind.wrap .i64 (c.i20+(1:Int)))})
 (Q c.lV)
def L4 (Q:QT) (c:V):Prop:=Lf (fun S=>B4 S Q) c
theorem jP {Q:QT} {c:V} (H:B4 (L4 Q) Q c):L4 Q c:=Lf.fold H
def B3 (S3:V→Prop) (Q:QT) (c:V):Prop:=
 br (decide (c.t14<(64:Int)))
 (ixP c.nI (0:Int) fun BM=>
 ixP c.nI (4:Int) fun xh=>
 ixP c.nI (7:Int) fun GP=>
 ixP c.nI (5:Int) fun qT=>
 ixP c.nI (6:Int) fun yM=>
 ixP c.k0 c.t14 fun GQ=>
 ixP c.w7 c.t14 fun GR=>
 aG xh (6:Int) fun GS=>
 aG xh (11:Int) fun yR=>
 aG xh (25:Int) fun GU=>
 ixP c.nI (1:Int) fun Mr=>
 ixP c.nI (2:Int) fun yQ=>
 ixP c.nI (1:Int) fun Ms=>
 ixP c.nI (2:Int) fun GJ=>
 aG BM (2:Int) fun Mt=>
 aG BM (13:Int) fun Mu=>
 aG BM (22:Int) fun Mv=>
 ixP c.nI (0:Int) fun Mw=>
 ixP c.nI (1:Int) fun Mx=>
 ixP c.nI (2:Int) fun My=>
 ixP c.nI (3:Int) fun Mz=>
 ixP c.nI (4:Int) fun MA=>
 ixP c.nI (5:Int) fun MB=>
 ixP c.nI (6:Int) fun MD=>
 S3 {c with nI:=[(IntKind.wrap .u32 ((IntKind.wrap .u32 ((IntKind.wrap .u32 ((IntKind.wrap .u32 ((IntKind.wrap .u32 (GP+(IntKind.wrap .u32 (((BitVec.ofInt (IntKind.bits .u32) (IntKind.wrap .u32 (((BitVec.ofInt (IntKind.bits .u32) GS ^^^ (BitVec.ofInt (IntKind.bits .u32) yR)).toNat:Int))) ^^^ (BitVec.ofInt (IntKind.bits .u32) GU)).toNat:Int)))))+(IntKind.wrap .u32 (((BitVec.ofInt (IntKind.bits .u32) (IntKind.wrap .u32 (((BitVec.ofInt (IntKind.bits .u32) xh &&& (BitVec.ofInt (IntKind.bits .u32) qT)).toNat:Int))) ^^^ (BitVec.ofInt (IntKind.bits .u32) (IntKind.wrap .u32 (((BitVec.ofInt (IntKind.bits .u32) (IntKind.wrap .u32 ((4294967295:Int) - xh)) &&& (BitVec.ofInt (IntKind.bits .u32) yM)).toNat:Int))))).toNat:Int)))))+GQ))+GR))+(IntKind.wrap .u32 ((IntKind.wrap .u32 (((BitVec.ofInt (IntKind.bits .u32) (IntKind.wrap .u32 (((BitVec.ofInt (IntKind.bits .u32) Mt ^^^ (BitVec.ofInt (IntKind.bits .u32) Mu)).toNat:Int))) ^^^ (BitVec.ofInt (IntKind.bits .u32) Mv)).toNat:Int)))+(IntKind.wrap .u32 (((BitVec.ofInt (IntKind.bits .u32) (IntKind.wrap .u32 (((BitVec.ofInt (IntKind.bits .u32) (IntKind.wrap .u32 (((BitVec.ofInt (IntKind.bits .u32) BM &&& (BitVec.ofInt (IntKind.bits .u32) Mr)).toNat:Int))) ^^^ (BitVec.ofInt (IntKind.bits .u32) (IntKind.wrap .u32 (((BitVec.ofInt (IntKind.bits .u32) BM &&& (BitVec.ofInt (IntKind.bits .u32) yQ)).toNat:Int))))).toNat:Int))) ^^^ (BitVec.ofInt (IntKind.bits .u32) (IntKind.wrap .u32 (((BitVec.ofInt (IntKind.bits .u32) Ms &&& (BitVec.ofInt (IntKind.bits .u32) GJ)).toNat:Int))))).toNat:Int))))))),Mw,Mx,My,(IntKind.wrap .u32 (Mz+(IntKind.wrap .u32 ((IntKind.wrap .u32 ((IntKind.wrap .u32 ((IntKind.wrap .u32 (GP+(IntKind.wrap .u32 (((BitVec.ofInt (IntKind.bits .u32) (IntKind.wrap .u32 (((BitVec.ofInt (IntKind.bits .u32) GS ^^^ (BitVec.ofInt (IntKind.bits .u32) yR)).toNat:Int))) ^^^ (BitVec.ofInt (IntKind.bits .u32) GU)).toNat:Int)))))+(IntKind.wrap .u32 (((BitVec.ofInt (IntKind.bits .u32) (IntKind.wrap .u32 (((BitVec.ofInt (IntKind.bits .u32) xh &&& (BitVec.ofInt (IntKind.bits .u32) qT)).toNat:Int))) ^^^ (BitVec.ofInt (IntKind.bits .u32) (IntKind.wrap .u32 (((BitVec.ofInt (IntKind.bits .u32) (IntKind.wrap .u32 ((4294967295:Int) - xh)) &&& (BitVec.ofInt (IntKind.bits .u32) yM)).toNat:Int))))).toNat:Int)))))+GQ))+GR)))),MA,MB,MD],t14:=(IntKind.wrap .i64 (c.t14+(1:Int)))})
 (L4 Q {c with lV:=([]:List Int),i20:=(0:Int)})
def L3 (Q:QT) (c:V):Prop:=Lf (fun S=>B3 S Q) c
theorem fF {Q:QT} {c:V} (H:B3 (L3 Q) Q c):L3 Q c:=Lf.fold H
def B1 (S1:V→Prop) (Q:QT) (c:V):Prop:=
 br (decide (c.t8<(64:Int)))
 (br (decide (c.t8<(16:Int)))
 (ixP c.b2 (IntKind.wrap .i64 ((4:Int)*c.t8)) fun wV=>
 ixP c.b2 (IntKind.wrap .i64 ((IntKind.wrap .i64 ((4:Int)*c.t8))+(1:Int))) fun nT=>
 ixP c.b2 (IntKind.wrap .i64 ((IntKind.wrap .i64 ((4:Int)*c.t8))+(2:Int))) fun gE=>
 ixP c.b2 (IntKind.wrap .i64 ((IntKind.wrap .i64 ((4:Int)*c.t8))+(3:Int))) fun iR=>
 (Bnd (c.w7.length+([(IntKind.wrap .u32 ((IntKind.wrap .u32 ((IntKind.wrap .u32 ((IntKind.wrap .u32 ((IntKind.wrap .u32 wV)*(16777216:Int)))+(IntKind.wrap .u32 ((IntKind.wrap .u32 nT)*(65536:Int)))))+(IntKind.wrap .u32 ((IntKind.wrap .u32 gE)*(256:Int)))))+(IntKind.wrap .u32 iR)))]).length))∧
 K2 S1 Q {c with w7:=(c.w7++[(IntKind.wrap .u32 ((IntKind.wrap .u32 ((IntKind.wrap .u32 ((IntKind.wrap .u32 ((IntKind.wrap .u32 wV)*(16777216:Int)))+(IntKind.wrap .u32 ((IntKind.wrap .u32 nT)*(65536:Int)))))+(IntKind.wrap .u32 ((IntKind.wrap .u32 gE)*(256:Int)))))+(IntKind.wrap .u32 iR)))])})
 (ixP c.w7 (IntKind.wrap .i64 (c.t8 - (15:Int))) fun BF=>
 ixP c.w7 (IntKind.wrap .i64 (c.t8 - (2:Int))) fun E3=>
 aG BF (7:Int) fun ME=>
 aG BF (18:Int) fun MF=>
 aG E3 (17:Int) fun MH=>
 aG E3 (19:Int) fun MI=>
 ixP c.w7 (IntKind.wrap .i64 (c.t8 - (7:Int))) fun sD=>
 ixP c.w7 (IntKind.wrap .i64 (c.t8 - (16:Int))) fun MJ=>
 (Bnd (c.w7.length+([(IntKind.wrap .u32 ((IntKind.wrap .u32 ((IntKind.wrap .u32 ((IntKind.wrap .u32 (((BitVec.ofInt (IntKind.bits .u32) (IntKind.wrap .u32 (((BitVec.ofInt (IntKind.bits .u32) MH ^^^ (BitVec.ofInt (IntKind.bits .u32) MI)).toNat:Int))) ^^^ (BitVec.ofInt (IntKind.bits .u32) (IntKind.wrap .u32 (Int.tdiv E3 (1024:Int))))).toNat:Int)))+sD))+(IntKind.wrap .u32 (((BitVec.ofInt (IntKind.bits .u32) (IntKind.wrap .u32 (((BitVec.ofInt (IntKind.bits .u32) ME ^^^ (BitVec.ofInt (IntKind.bits .u32) MF)).toNat:Int))) ^^^ (BitVec.ofInt (IntKind.bits .u32) (IntKind.wrap .u32 (Int.tdiv BF (8:Int))))).toNat:Int)))))+MJ))]).length))∧
 K2 S1 Q {c with w7:=(c.w7++[(IntKind.wrap .u32 ((IntKind.wrap .u32 ((IntKind.wrap .u32 ((IntKind.wrap .u32 (((BitVec.ofInt (IntKind.bits .u32) (IntKind.wrap .u32 (((BitVec.ofInt (IntKind.bits .u32) MH ^^^ (BitVec.ofInt (IntKind.bits .u32) MI)).toNat:Int))) ^^^ (BitVec.ofInt (IntKind.bits .u32) (IntKind.wrap .u32 (Int.tdiv E3 (1024:Int))))).toNat:Int)))+sD))+(IntKind.wrap .u32 (((BitVec.ofInt (IntKind.bits .u32) (IntKind.wrap .u32 (((BitVec.ofInt (IntKind.bits .u32) ME ^^^ (BitVec.ofInt (IntKind.bits .u32) MF)).toNat:Int))) ^^^ (BitVec.ofInt (IntKind.bits .u32) (IntKind.wrap .u32 (Int.tdiv BF (8:Int))))).toNat:Int)))))+MJ))])}))
 ((Bnd (([]:List Int).length+c.s1.length))∧
 L3 Q {c with nI:=(([]:List Int)++c.s1),t14:=(0:Int)})
def L1 (Q:QT) (c:V):Prop:=Lf (fun S=>B1 S Q) c
theorem bD {Q:QT} {c:V} (H:B1 (L1 Q) Q c):L1 Q c:=Lf.fold H
end aq
def aq (k0:List Int) (s1:List Int) (b2:List Int) (Q:aq.QT):Prop:=
 aq.L1 Q {aq.v0 with k0:=k0,s1:=s1,b2:=b2,w7:=([]:List Int),t8:=(0:Int)}
namespace aO
structure V where
 v2:Vector Int 32
 k3:List Int
 s4:List Int
 p5:List Int
 i6:Int
 cR:Vector Int 32
 i8:Int
def v0:V:=⟨Vector.replicate 32 0,[],[],[],0,Vector.replicate 32 0,0⟩
abbrev QT:=(Vector Int 32)→Prop
def B2 (S2:V→Prop) (Q:QT) (c:V):Prop:=
 br (decide (c.i8<(32:Int)))
 (ixP c.s4 (IntKind.wrap .i64 (Int.tdiv c.i8 (4:Int))) fun LN=>
 iP (IntKind.wrap .i64 ((24:Int) - (IntKind.wrap .i64 ((8:Int)*(Int.tmod c.i8 (4:Int)))))) fun _=>
 ixP c.cR.toList c.i8 fun LO=>
 S2 {c with cR:=(c.cR.setIfInBounds (Int.toNat c.i8) (IntKind.wrap .u8 (Int.fdiv LN (2 ^ (min (Int.toNat (IntKind.wrap .i64 ((24:Int) - (IntKind.wrap .i64 ((8:Int)*(Int.tmod c.i8 (4:Int))))))) (IntKind.bits .u32)))))),i8:=(IntKind.wrap .i64 (c.i8+(1:Int)))})
 (Q c.cR)
def L2 (Q:QT) (c:V):Prop:=Lf (fun S=>B2 S Q) c
theorem bW {Q:QT} {c:V} (H:B2 (L2 Q) Q c):L2 Q c:=Lf.fold H
def B1 (S1:V→Prop) (Q:QT) (c:V):Prop:=
 br (decide (c.i6<(c.p5.length:Int)))
 ((SlOk c.p5 c.i6 (IntKind.wrap .i64 (c.i6+(64:Int))))∧
 aq c.k3 c.s4 (sub c.p5 c.i6 (IntKind.wrap .i64 (c.i6+(64:Int)))) fun Rh=>
 S1 {c with s4:=Rh,i6:=(IntKind.wrap .i64 (c.i6+(64:Int)))})
 (L2 Q {c with cR:=(Vector.replicate 32 (0:Int)),i8:=(0:Int)})
def L1 (Q:QT) (c:V):Prop:=Lf (fun S=>B1 S Q) c
theorem bD {Q:QT} {c:V} (H:B1 (L1 Q) Q c):L1 Q c:=Lf.fold H
end aO
def aO (b0:List Int) (Q:aO.QT):Prop:=
 aM fun GF kK=>
 aN b0 fun ug=>
 aO.L1 Q {aO.v0 with v2:=(Vector.replicate 32 (0:Int)),k3:=GF,s4:=kK,p5:=ug,i6:=(0:Int)}
namespace aK
structure V where
 bu:Int
 cg:Int
 v11:aj
 Iy:List Int
 Al:Bool
def v0:V:=⟨0,0,(⟨(0:Int),(0:Int),(Vector.replicate 32 (0:Int))⟩:aj),[],false⟩
abbrev QT:=(List Int)→aj→Int→Prop
def K1 (Q:QT) (c:V):Prop:=
 br c.Al
 (Q ([]:List Int) (⟨(0:Int),(0:Int),(Vector.replicate 32 (0:Int))⟩:aj) (1:Int))
 (aO c.Iy fun Ri=>
 Q c.Iy (⟨c.cg,c.bu,Ri⟩:aj) (0:Int))
end aK
def aK (dL:Vector Int 32) (bu:Int) (cg:Int) (Iz:Int) (MK:List Int) (Q:aK.QT):Prop:=
 aZ dL bu Iz MK fun nU ML=>
 br (ML !=(0:Int))
 (aK.K1 Q {aK.v0 with bu:=bu,cg:=cg,v11:=(⟨(0:Int),(0:Int),(Vector.replicate 32 (0:Int))⟩:aj),Iy:=nU,Al:=true})
 (br (decide (cg<(0:Int)))
 (aK.K1 Q {aK.v0 with bu:=bu,cg:=cg,v11:=(⟨(0:Int),(0:Int),(Vector.replicate 32 (0:Int))⟩:aj),Iy:=nU,Al:=true})
 (aK.K1 Q {aK.v0 with bu:=bu,cg:=cg,v11:=(⟨(0:Int),(0:Int),(Vector.replicate 32 (0:Int))⟩:aj),Iy:=nU,Al:=(decide (cg>(1:Int)))}))
namespace ay
structure V where
 bT:Int
 cg:Int
 iQ:Bool
def v0:V:=⟨0,0,false⟩
abbrev QT:=Int→Prop
def K1 (Q:QT) (c:V):Prop:=
 br c.iQ
 (Q (-1:Int))
 (Q (IntKind.wrap .i64 ((IntKind.wrap .i64 ((2:Int)+(IntKind.wrap .i64 ((2:Int)*c.bT))))+c.cg)))
end ay
def ay (s0:aV) (bT:Int) (cg:Int) (Q:ay.QT):Prop:=
 cD s0 bT fun kK=>
 br (!kK)
 (ay.K1 Q {ay.v0 with bT:=bT,cg:=cg,iQ:=true})
 (br (decide (cg<(0:Int)))
 (ay.K1 Q {ay.v0 with bT:=bT,cg:=cg,iQ:=true})
 (ay.K1 Q {ay.v0 with bT:=bT,cg:=cg,iQ:=(decide (cg>(1:Int)))}))
namespace ak
structure V where
 bu:Int
 dO:List (List Int)
 dn:Vector Int 32
 v7:aj
 s9:aV
 fJ:List bC
 dz:List aj
 i13:Int
 BN:List Int
 yS:aj
 f18:Int
 fX:List Int
 Lb:Int
 Lc:Int
 xg:List Int
 QB:List Int
 QC:aj
 MM:Int
 QD:Int
def v0:V:=⟨0,[],Vector.replicate 32 0,(⟨(0:Int),(0:Int),(Vector.replicate 32 (0:Int))⟩:aj),(⟨(0:Int),[],[]⟩:aV),[],[],0,[],(⟨(0:Int),(0:Int),(Vector.replicate 32 (0:Int))⟩:aj),0,[],0,0,[],[],(⟨(0:Int),(0:Int),(Vector.replicate 32 (0:Int))⟩:aj),0,0⟩
abbrev QT:=(List bC)→aj→Int→Prop
def K2 (S1:V→Prop) (Q:QT) (c:V):Prop:=
 br (c.f18 !=(0:Int))
 (Q ([]:List bC) (⟨(0:Int),(0:Int),(Vector.replicate 32 (0:Int))⟩:aj) (1:Int))
 (ay c.s9 c.i13 (0:Int) fun Ah=>
 (Bnd (c.fJ.length+([(⟨Ah,c.BN⟩:bC)]).length))∧
 (Bnd (c.dz.length+([c.yS]).length))∧
 S1 {c with fJ:=(c.fJ++[(⟨Ah,c.BN⟩:bC)]),dz:=(c.dz++[c.yS]),i13:=(IntKind.wrap .i64 (c.i13+(1:Int)))})
def K6 (S1:V→Prop) (Q:QT) (b c:V):Prop:=
 K2 S1 Q {b with bu:=c.bu,dO:=c.dO,dn:=c.dn,v7:=c.v7,s9:=c.s9,fJ:=c.fJ,dz:=c.dz,i13:=c.i13,BN:=c.BN,yS:=c.yS,f18:=c.MM}
def K5 (S1:V→Prop) (Q:QT) (b c:V):Prop:=
 K6 S1 Q b {c with BN:=c.QB,yS:=c.QC}
def K7 (S1:V→Prop) (Q:QT) (b c:V):Prop:=
 aK c.dn c.Lb (0:Int) c.Lc c.xg fun MN MO MP=>
 K6 S1 Q b {c with BN:=MN,yS:=MO,MM:=MP}
def K4 (S1:V→Prop) (Q:QT) (b c:V):Prop:=
 (aK c.dn c.Lb (0:Int) c.Lc c.xg fun MQ MR MS=>
 K5 S1 Q b {c with yS:=(⟨(0:Int),(0:Int),(Vector.replicate 32 (0:Int))⟩:aj),QB:=MQ,QC:=MR,MM:=MS})∧
 (K7 S1 Q b {c with yS:=(⟨(0:Int),(0:Int),(Vector.replicate 32 (0:Int))⟩:aj)})
def K8 (S1:V→Prop) (Q:QT) (b c:V):Prop:=
 ay c.s9 c.QD (0:Int) fun MT=>
 K7 S1 Q b {c with Lc:=MT}
def K3 (S1:V→Prop) (Q:QT) (c:V):Prop:=
 (ay c.s9 c.i13 (0:Int) fun MU=>
 K4 S1 Q c {c with Lb:=c.bu,Lc:=MU,xg:=c.fX})∧
 (K8 S1 Q c {c with yS:=(⟨(0:Int),(0:Int),(Vector.replicate 32 (0:Int))⟩:aj),Lb:=c.bu,QD:=c.i13,xg:=c.fX})
def B1 (S1:V→Prop) (Q:QT) (c:V):Prop:=
 br (decide (c.i13<(c.s9.Level.length:Int)))
 (br (decide (c.i13<(c.dO.length:Int)))
 (ixP c.dO c.i13 fun Mq=>
 K3 S1 Q {c with fX:=Mq})
 (ax c.s9 c.i13 fun uo=>
 ixP uo (0:Int) fun MV=>
 ixP uo (0:Int) fun EY=>
 (SlOk c.dz MV (IntKind.wrap .i64 (EY+(uo.length:Int))))∧
 aD (sub c.dz MV (IntKind.wrap .i64 (EY+(uo.length:Int)))) fun Ag Mc=>
 K3 S1 Q {c with fX:=Ag}))
 (ixP c.dz (IntKind.wrap .i64 ((c.dz.length:Int) - (1:Int))) fun Rj=>
 Q c.fJ Rj (0:Int))
def L1 (Q:QT) (c:V):Prop:=Lf (fun S=>B1 S Q) c
theorem bD {Q:QT} {c:V} (H:B1 (L1 Q) Q c):L1 Q c:=Lf.fold H
end ak
def ak (dL:Vector Int 32) (bu:Int) (dO:List (List Int)) (Q:ak.QT):Prop:=
 au (dO.length:Int) fun nU EZ=>
 br (EZ !=(0:Int))
 (Q ([]:List bC) (⟨(0:Int),(0:Int),(Vector.replicate 32 (0:Int))⟩:aj) (1:Int))
 (ak.L1 Q {ak.v0 with bu:=bu,dO:=dO,dn:=dL,v7:=(⟨(0:Int),(0:Int),(Vector.replicate 32 (0:Int))⟩:aj),s9:=nU,fJ:=([]:List bC),dz:=([]:List aj),i13:=(0:Int)})
namespace bf
structure V where
 a0:List Int
 b1:List Int
 i5:Int
def v0:V:=⟨[],[],0⟩
abbrev QT:=Bool→Prop
def B1 (S1:V→Prop) (Q:QT) (c:V):Prop:=
 br (decide (c.i5<(c.a0.length:Int)))
 (ixP c.a0 c.i5 fun KY=>
 ixP c.b1 c.i5 fun qA=>
 br (KY !=qA)
 (Q false)
 (S1 {c with i5:=(IntKind.wrap .i64 (c.i5+(1:Int)))}))
 (Q true)
def L1 (Q:QT) (c:V):Prop:=Lf (fun S=>B1 S Q) c
end bf
def bf (a0:List Int) (b1:List Int) (Q:bf.QT):Prop:=
 br ((a0.length:Int) !=(b1.length:Int))
 (Q false)
 (bf.L1 Q {bf.v0 with a0:=a0,b1:=b1,i5:=(0:Int)})
def dr (Q:Bool→Prop):Prop:=Q true
namespace af
structure V where
 bu:Int
 dn:Vector Int 32
 fU:List (List (List Int))
 jI:Int
 kJ:Int
 a9:List cP
 iA:List bC
 Ld:Bool
 qU:Int
 lT:Int
 MW:Bool
def v0:V:=⟨0,Vector.replicate 32 0,[],0,0,[],[],false,0,0,false⟩
abbrev QT:=Bool→St Obj→Prop
def K4 (S1:V→St Obj→Prop) (S3:V→St Obj→Prop) (Q:QT) (c:V) (σ:St Obj):Prop:=
 br c.MW
 (Q false σ)
 (S3 {c with lT:=(IntKind.wrap .i64 (c.lT+(1:Int)))} σ)
def B3 (S1:V→St Obj→Prop) (S3:V→St Obj→Prop) (Q:QT) (c:V) (σ:St Obj):Prop:=
 br (decide (c.lT<c.qU))
 (ixP c.a9 c.lT fun Rk=>
 ixP c.iA c.lT fun Rl=>
 br (Rk.Block !=Rl.Block)
 (K4 S1 S3 Q {c with MW:=true} σ)
 (ixP c.a9 c.lT fun Rm=>
 ixP c.iA c.lT fun Rn=>
 bf Rm.Bytes Rn.Bytes fun Ro=>
 K4 S1 S3 Q {c with MW:=(!Ro)} σ))
 (S1 {c with kJ:=(IntKind.wrap .i64 (c.kJ+(1:Int)))} σ)
def L3 (S1:V→St Obj→Prop) (Q:QT) (c:V) (σ:St Obj):Prop:=
 Lf (fun S (v:V × St Obj)=>B3 S1 (fun c σ=>S (c,σ)) Q v.1 v.2) (c,σ)
theorem fF (S1:V→St Obj→Prop) {Q:QT} {c:V} {σ:St Obj} (H:B3 S1 (L3 S1 Q) Q c σ):L3 S1 Q c σ:=Lf.fold H
def K2 (S1:V→St Obj→Prop) (Q:QT) (c:V) (σ:St Obj):Prop:=
 br c.Ld
 (Q false σ)
 (L3 S1 Q {c with qU:=(c.a9.length:Int),lT:=(0:Int)} σ)
def B1 (S1:V→St Obj→Prop) (Q:QT) (c:V) (σ:St Obj):Prop:=
 br (decide (c.kJ<c.jI))
 (ixP c.fU c.kJ fun mR=>
 bn none c.dn c.bu mR σ fun mT wX Af σ_36=>
 ak c.dn c.bu mR fun Ac uo Rq=>
 br (!((wX.Place==uo.Place) && ((wX.dF==uo.dF) && ((wX.cH.toList==uo.cH.toList) && true))))
 (K2 S1 Q {c with a9:=mT,iA:=Ac,Ld:=true} σ_36)
 (br (Af !=Rq)
 (K2 S1 Q {c with a9:=mT,iA:=Ac,Ld:=true} σ_36)
 (K2 S1 Q {c with a9:=mT,iA:=Ac,Ld:=((mT.length:Int) !=(Ac.length:Int))} σ_36)))
 (dr fun E2=>
 Q E2 σ)
def L1 (Q:QT) (c:V) (σ:St Obj):Prop:=
 Lf (fun S (v:V × St Obj)=>B1 (fun c σ=>S (c,σ)) Q v.1 v.2) (c,σ)
theorem bD {Q:QT} {c:V} {σ:St Obj} (H:B1 (L1 Q) Q c σ):L1 Q c σ:=Lf.fold H
end af
def af (dL:Vector Int 32) (bu:Int) (l2:List (List Int)) (σ:St Obj) (Q:af.QT):Prop:=
 aJ l2 fun wW=>
 br wW
 (dr fun nU=>
 Q nU σ)
 (aX l2 fun kK=>
 af.L1 Q {af.v0 with bu:=bu,dn:=dL,fU:=[l2,kK],jI:=(2:Int),kJ:=(0:Int)} σ)
end Go.Pt
namespace Go.Proofs.YtkgbogibfogjgaaGreatDoor.Ek
open Go Go.Wc Go.Pu Go.Ex Go.Proofs.YtkgbogibfogjgaaGreatDoor Go.Pt
def τ:Tys:=[
(0,⟨.other,1,0,(.tuple [].toArray),[.any],true⟩),
(3,⟨.int .i64,1,8,(.int .i64 (0:Int)),[.int .i64],true⟩),
(4,⟨.bool,1,1,(.bool false),[.bool],true⟩),
(5,⟨.int .u8,1,1,(.int .u8 (0:Int)),[.int .u8],true⟩),
(22,⟨.arr 32 5,32,32,(.agg (lumpV .u8 32 (List.replicate 32 0)).toArray),[.lump .u8 32],true⟩),
(23,⟨.int .u32,1,4,(.int .u32 (0:Int)),[.int .u32],true⟩),
(24,⟨.slice 39,1,24,(.slice none 0 0),[.sl],true⟩),
(28,⟨.slice 24,1,24,(.slice none 0 0),[.sl],true⟩),
(29,⟨.slice 41,1,24,(.slice none 0 0),[.sl],true⟩),
(31,⟨.struct [(3,0),(23,1),(22,2)],34,48,(.agg (([(.int .i64 (0:Int)),(.int .u32 (0:Int))]:List Value)++lumpV .u8 32 (List.replicate 32 0)).toArray),[.int .i64, .int .u32, .lump .u8 32],true⟩),
(35,⟨.slice 42,1,24,(.slice none 0 0),[.sl],true⟩),
(36,⟨.struct [(3,0),(23,1),(22,2)],34,48,(.agg (([(.int .i64 (0:Int)),(.int .u32 (0:Int))]:List Value)++lumpV .u8 32 (List.replicate 32 0)).toArray),[.int .i64, .int .u32, .lump .u8 32],true⟩),
(39,⟨.slice 5,1,24,(.slice none 0 0),[.sl],true⟩),
(41,⟨.struct [(3,0),(39,1)],2,32,(.agg [(.int .i64 (0:Int)),(.slice none 0 0)].toArray),[.int .i64, .sl],true⟩),
(42,⟨.struct [(3,0),(39,1)],2,32,(.agg [(.int .i64 (0:Int)),(.slice none 0 0)].toArray),[.int .i64, .sl],true⟩),
(46,⟨.slice 3,1,24,(.slice none 0 0),[.sl],true⟩),
(48,⟨.struct [(46,0)],1,24,(.agg [(.slice none 0 0)].toArray),[.sl],true⟩),
(52,⟨.struct [(3,0),(46,1),(46,2)],3,56,(.agg [(.int .i64 (0:Int)),(.slice none 0 0),(.slice none 0 0)].toArray),[.int .i64, .sl, .sl],true⟩),
(56,⟨.slice 31,1,24,(.slice none 0 0),[.sl],true⟩),
(66,⟨.slice 36,1,24,(.slice none 0 0),[.sl],true⟩),
(86,⟨.ptr 144,1,8,(.pointer none),[.ptr],true⟩),
(136,⟨.arr 12 5,12,12,(.agg (lumpV .u8 12 (List.replicate 12 0)).toArray),[.lump .u8 12],true⟩),
(138,⟨.int .u64,1,8,(.int .u64 (0:Int)),[.int .u64],true⟩),
(144,⟨.struct [(24,0)],1,24,(.agg [(.slice none 0 0)].toArray),[.sl],true⟩),
(147,⟨.slice 23,1,24,(.slice none 0 0),[.sl],true⟩),
(161,⟨.arr 64 5,64,64,(.agg (lumpV .u8 64 (List.replicate 64 0)).toArray),[.lump .u8 64],true⟩),
(163,⟨.arr 8 23,8,32,(.agg (lumpV .u32 8 (List.replicate 8 0)).toArray),[.lump .u32 8],true⟩),
(165,⟨.struct [(163,0),(39,8),(138,9)],10,64,(.agg (lumpV .u32 8 (List.replicate 8 0)++([(.slice none 0 0),(.int .u64 (0:Int))]:List Value)).toArray),[.lump .u32 8, .sl, .int .u64],true⟩),
(169,⟨.int .u64,1,8,(.int .u64 (0:Int)),[.int .u64],true⟩),
(170,⟨.slice 138,1,24,(.slice none 0 0),[.sl],true⟩),
(177,⟨.arr 16 23,16,64,(.agg (lumpV .u32 16 (List.replicate 16 0)).toArray),[.lump .u32 16],true⟩),
(179,⟨.arr 4 23,4,16,(.agg (lumpV .u32 4 (List.replicate 4 0)).toArray),[.lump .u32 4],true⟩),
(187,⟨.slice 46,1,24,(.slice none 0 0),[.sl],true⟩),
(190,⟨.arr 64 23,64,256,(.agg (lumpV .u32 64 (List.replicate 64 0)).toArray),[.lump .u32 64],true⟩)]
theorem agree:Agree Tryz.prog τ:=oB _ _ (by kernel_rfl) (by kernel_rfl)
theorem mixed:Tryz.prog.follows .mixedOrders=true:=by kernel_rfl
def ρ:Ids:=ids [(0,3),(1,5),(10,175),(11,48),(12,52),(16,31),(19,22),(21,41),(22,136),(23,161),(24,177),(25,179),(26,39),(27,165),(28,163),(29,190),(30,36),(34,4),(35,42),(36,23),(37,46),(38,138),(39,24),(40,86),(41,29),(42,56),(43,144)] [(9,45),(16,59),(28,11),(42,90),(43,91),(44,93),(45,94),(47,100),(48,106),(49,107),(50,108),(51,118),(52,127),(53,126),(54,128),(67,85),(68,66),(74,30),(75,13),(80,16),(90,54),(94,61),(95,56),(96,81),(97,47),(102,37),(105,46),(107,36),(110,34),(111,35),(112,62),(113,63),(114,64),(115,83),(116,82),(117,96),(118,109),(119,110),(120,119),(121,111),(122,120),(123,121),(124,84),(125,97),(126,98),(127,99),(128,112),(129,113),(130,122),(131,123),(132,124),(133,133),(134,65),(135,57),(137,58),(138,38),(139,67),(144,39),(145,41),(146,40),(147,68),(148,69),(149,70),(150,76),(151,75),(152,89),(153,105),(154,115),(155,116),(156,117),(157,125),(158,86),(159,87),(160,88),(161,101),(162,102),(163,103),(164,114),(165,104),(166,6),(167,7),(168,8),(169,9),(170,10),(171,31),(172,32),(173,33),(174,60)]
def X:Nat→Type
 | 0=>bH
 | 1=>bJ
 | 2=>bM
 | 3=>cP
 | 4=>aV
 | 5=>aj
 | 6=>bC
 | 7=>cA
 | _=>Unit
def lv:Nat→List Ty
 | 0=>[(.list (.int .i64))]
 | 1=>[(.vec .u32 8),(.list (.int .u8)),(.int .u64)]
 | 2=>[(.int .i64),(.int .u32),(.vec .u8 32)]
 | 3=>[(.int .i64),(.list (.int .u8))]
 | 4=>[(.int .i64),(.list (.int .i64)),(.list (.int .i64))]
 | 5=>[(.int .i64),(.int .u32),(.vec .u8 32)]
 | 6=>[(.int .i64),(.list (.int .u8))]
 | 7=>[(.list (.list (.int .u8)))]
 | _=>[]
def Rt: ∀ i,Rp (X i)
 | 0=>kH
 | 1=>nF
 | 2=>oT
 | 3=>oU
 | 4=>gw
 | 5=>gU
 | 6=>gV
 | 7=>nG
 | _+8=>rJ Unit
abbrev T0:Tab:=⟨X,Rt⟩
def gt: ∀ i,X i→Tup T0 (lv i)
 | 0=>fun (x:bH)=>(x.eT,())
 | 1=>fun (x:bJ)=>(x.h,x.rest,x.n,())
 | 2=>fun (x:bM)=>(x.Place,x.dF,x.cH,())
 | 3=>fun (x:cP)=>(x.Block,x.Bytes,())
 | 4=>fun (x:aV)=>(x.P,x.Level,x.di,())
 | 5=>fun (x:aj)=>(x.Place,x.dF,x.cH,())
 | 6=>fun (x:bC)=>(x.Block,x.Bytes,())
 | 7=>fun (x:cA)=>(x.texts,())
 | _+8=>fun _=>()
def pu: ∀ i,Tup T0 (lv i)→X i
 | 0=>fun x=>(⟨x.1⟩:bH)
 | 1=>fun x=>(⟨x.1,x.2.1,x.2.2.1⟩:bJ)
 | 2=>fun x=>(⟨x.1,x.2.1,x.2.2.1⟩:bM)
 | 3=>fun x=>(⟨x.1,x.2.1⟩:cP)
 | 4=>fun x=>(⟨x.1,x.2.1,x.2.2.1⟩:aV)
 | 5=>fun x=>(⟨x.1,x.2.1,x.2.2.1⟩:aj)
 | 6=>fun x=>(⟨x.1,x.2.1⟩:bC)
 | 7=>fun x=>(⟨x.1⟩:cA)
 | _+8=>fun _=>()
theorem RI: ∀ h M vs (x:bH),kH.P h M vs x↔TupP T0 h M (lv 0) vs (gt 0 x):=by
 intro h M vs x; constructor
 ·rintro ⟨a0,c0,rfl,h0⟩
  exact ⟨([.slice a0 x.eT.length c0]:List Value),[],by simp,⟨a0,c0,rfl,h0⟩,rfl⟩
 ·rintro ⟨_,_,rfl,⟨a0,c0,rfl,h0⟩,rfl⟩
  exact ⟨a0,c0,(by simp [gt] <;> (repeat (first | rfl | refine ⟨rfl, ?_⟩))),h0⟩
theorem RJ: ∀ h M vs (x:bJ),nF.P h M vs x↔TupP T0 h M (lv 1) vs (gt 1 x):=by
 intro h M vs x; constructor
 ·rintro ⟨a1,c1,rfl,h1⟩
  exact ⟨((lumpV .u32 8 x.h.toList):List Value),([.slice a1 x.rest.length c1]++([.int .u64 x.n]++[])),by simp,rfl,([.slice a1 x.rest.length c1]:List Value),([.int .u64 x.n]++[]),rfl,⟨a1,c1,rfl,h1⟩,([.int .u64 x.n]:List Value),[],rfl,rfl,rfl⟩
 ·rintro ⟨_,_,rfl,rfl,_,_,rfl,⟨a1,c1,rfl,h1⟩,_,_,rfl,rfl,rfl⟩
  exact ⟨a1,c1,(by simp [gt] <;> (repeat (first | rfl | refine ⟨rfl, ?_⟩))),h1⟩
theorem RK: ∀ h M vs (x:bM),oT.P h M vs x↔TupP T0 h M (lv 2) vs (gt 2 x):=by
 intro h M vs x; constructor
 ·rintro rfl
  exact ⟨([.int .i64 x.Place]:List Value),([.int .u32 x.dF]++((lumpV .u8 32 x.cH.toList)++[])),by simp,rfl,([.int .u32 x.dF]:List Value),((lumpV .u8 32 x.cH.toList)++[]),rfl,rfl,((lumpV .u8 32 x.cH.toList):List Value),[],rfl,rfl,rfl⟩
 ·rintro ⟨_,_,rfl,rfl,_,_,rfl,rfl,_,_,rfl,rfl,rfl⟩
  exact (by show _=_; simp [gt])
theorem RL: ∀ h M vs (x:cP),oU.P h M vs x↔TupP T0 h M (lv 3) vs (gt 3 x):=by
 intro h M vs x; constructor
 ·rintro ⟨a1,c1,rfl,h1⟩
  exact ⟨([.int .i64 x.Block]:List Value),([.slice a1 x.Bytes.length c1]++[]),by simp,rfl,([.slice a1 x.Bytes.length c1]:List Value),[],rfl,⟨a1,c1,rfl,h1⟩,rfl⟩
 ·rintro ⟨_,_,rfl,rfl,_,_,rfl,⟨a1,c1,rfl,h1⟩,rfl⟩
  exact ⟨a1,c1,(by simp [gt] <;> (repeat (first | rfl | refine ⟨rfl, ?_⟩))),h1⟩
theorem RM: ∀ h M vs (x:aV),gw.P h M vs x↔TupP T0 h M (lv 4) vs (gt 4 x):=by
 intro h M vs x; constructor
 ·rintro ⟨a1,c1,a2,c2,rfl,h1,h2⟩
  exact ⟨([.int .i64 x.P]:List Value),([.slice a1 x.Level.length c1]++([.slice a2 x.di.length c2]++[])),by simp,rfl,([.slice a1 x.Level.length c1]:List Value),([.slice a2 x.di.length c2]++[]),rfl,⟨a1,c1,rfl,h1⟩,([.slice a2 x.di.length c2]:List Value),[],rfl,⟨a2,c2,rfl,h2⟩,rfl⟩
 ·rintro ⟨_,_,rfl,rfl,_,_,rfl,⟨a1,c1,rfl,h1⟩,_,_,rfl,⟨a2,c2,rfl,h2⟩,rfl⟩
  exact ⟨a1,c1,a2,c2,(by simp [gt] <;> (repeat (first | rfl | refine ⟨rfl, ?_⟩))),h1,h2⟩
theorem RN: ∀ h M vs (x:aj),gU.P h M vs x↔TupP T0 h M (lv 5) vs (gt 5 x):=by
 intro h M vs x; constructor
 ·rintro rfl
  exact ⟨([.int .i64 x.Place]:List Value),([.int .u32 x.dF]++((lumpV .u8 32 x.cH.toList)++[])),by simp,rfl,([.int .u32 x.dF]:List Value),((lumpV .u8 32 x.cH.toList)++[]),rfl,rfl,((lumpV .u8 32 x.cH.toList):List Value),[],rfl,rfl,rfl⟩
 ·rintro ⟨_,_,rfl,rfl,_,_,rfl,rfl,_,_,rfl,rfl,rfl⟩
  exact (by show _=_; simp [gt])
theorem RO: ∀ h M vs (x:bC),gV.P h M vs x↔TupP T0 h M (lv 6) vs (gt 6 x):=by
 intro h M vs x; constructor
 ·rintro ⟨a1,c1,rfl,h1⟩
  exact ⟨([.int .i64 x.Block]:List Value),([.slice a1 x.Bytes.length c1]++[]),by simp,rfl,([.slice a1 x.Bytes.length c1]:List Value),[],rfl,⟨a1,c1,rfl,h1⟩,rfl⟩
 ·rintro ⟨_,_,rfl,rfl,_,_,rfl,⟨a1,c1,rfl,h1⟩,rfl⟩
  exact ⟨a1,c1,(by simp [gt] <;> (repeat (first | rfl | refine ⟨rfl, ?_⟩))),h1⟩
theorem RP: ∀ h M vs (x:cA),nG.P h M vs x↔TupP T0 h M (lv 7) vs (gt 7 x):=by
 intro h M vs x; constructor
 ·rintro ⟨a0,c0,rfl,h0⟩
  exact ⟨([.slice a0 x.texts.length c0]:List Value),[],by simp,⟨a0,c0,rfl,h0⟩,rfl⟩
 ·rintro ⟨_,_,rfl,⟨a0,c0,rfl,h0⟩,rfl⟩
  exact ⟨a0,c0,(by simp [gt] <;> (repeat (first | rfl | refine ⟨rfl, ?_⟩))),h0⟩
def D:Tabs:=
 {X:=X,R:=Rt,leaves:=lv,flat:=(fun i=>match i with
 | 0=>rfl
 | 1=>rfl
 | 2=>rfl
 | 3=>rfl
 | 4=>rfl
 | 5=>rfl
 | 6=>rfl
 | 7=>rfl
 | _+8=>rfl),get:=gt,put:=pu,za:=(by intro i; match i with
 | 0=>exact fun _=>rfl
 | 1=>exact fun _=>rfl
 | 2=>exact fun _=>rfl
 | 3=>exact fun _=>rfl
 | 4=>exact fun _=>rfl
 | 5=>exact fun _=>rfl
 | 6=>exact fun _=>rfl
 | 7=>exact fun _=>rfl
 | _+8=>exact fun _=>rfl),rep:=(by intro i; match i with
 | 0=>exact RI
 | 1=>exact RJ
 | 2=>exact RK
 | 3=>exact RL
 | 4=>exact RM
 | 5=>exact RN
 | 6=>exact RO
 | 7=>exact RP
 | _+8=>exact fun _ _ _ _=>Iff.rfl),O:=Pt.Obj,ob:=obA ρ}
def ty:Nat→Option Ty
 | 3=>some (.int .i64)
 | 4=>some .bool
 | 5=>some (.int .u8)
 | 22=>some (.vec .u8 32)
 | 23=>some (.int .u32)
 | 24=>some (.list (.list (.int .u8)))
 | 28=>some (.list (.list (.list (.int .u8))))
 | 29=>some (.list (.st 3))
 | 31=>some (.st 2)
 | 35=>some (.list (.st 6))
 | 36=>some (.st 5)
 | 39=>some (.list (.int .u8))
 | 41=>some (.st 3)
 | 42=>some (.st 6)
 | 46=>some (.list (.int .i64))
 | 48=>some (.st 0)
 | 52=>some (.st 4)
 | 56=>some (.list (.st 2))
 | 66=>some (.list (.st 5))
 | 86=>some .ptr
 | 136=>some (.vec .u8 12)
 | 138=>some (.int .u64)
 | 144=>some (.st 7)
 | 147=>some (.list (.int .u32))
 | 161=>some (.vec .u8 64)
 | 163=>some (.vec .u32 8)
 | 165=>some (.st 1)
 | 169=>some (.int .u64)
 | 170=>some (.list (.int .u64))
 | 177=>some (.vec .u32 16)
 | 179=>some (.vec .u32 4)
 | 187=>some (.list (.list (.int .i64)))
 | 190=>some (.vec .u32 64)
 | _=>none
abbrev CO (C:Ctrs D):=CtrsOk Tryz.prog C
abbrev SO (f:Nat) (c:Ctr D):=SpecOk Tryz.prog f (specOf c)
theorem fk {f:Nat} {fn:Func} {code:Code} {c:Ctr D} {C:Ctrs D} (hC:CO C) (hf:Tryz.prog.funcs[f]? =some fn) (hb:fn.body=some code) (hn:(fn.name== "runtime.NumGoroutine")=false) (A:Ann) (pt:QT c→Pts D) (v0: ∀ Q,TupD D c.ps→(pt Q).V)
  (ho:fnB c A fn.ntmps=true)
  (entry: ∀ x σ Q,c.P x σ Q→unLk c.ps x ⟨[],σ⟩ fun svs H=>WS (pt Q) (opsS τ ty C) (c.bk.map (·.1)) fn.ntmps (v0 Q x) code A [] (argS 0 svs) H (retS τ c fn.results Q))
  (obl: ∀ Q,allP (fun k=> ∀ inner,inner.length=depth k A→ObS τ ty C fn.ntmps code A fn.results pt Q k inner) (pts A)):SO f c:=
 I7 agree hC mixed hf hb hn A pt v0 ho entry obl
end Go.Proofs.YtkgbogibfogjgaaGreatDoor.Ek
namespace Go.Proofs.YtkgbogibfogjgaaGreatDoor.Ek
open Go Go.Wc Go.Pu Go.Ex Go.Proofs.YtkgbogibfogjgaaGreatDoor Go.Pt
abbrev C6:Ctrs D:=[]
abbrev Nq:Ctr D:= {ps:=[.rd (.list (.int .u8))],rs:=[vb],bk:=[],sg:=false,P:=fun x σ Q=>aJ x.1 (fun r0=>Q (r0,()) (()) σ)}
noncomputable def c6:Code:=Tryz.f6.body.getD .skip
def A6:Ann:=(sl (.seq (.join 1 [0,17] lf (.cond s2 lf)) (.seq (sl (.block (.loop 2 [18,19,20] (sl (.seq (.cond lf lf) (.seq (.block (sl (sl (.cond s2 lf)))) lf)))))) s2)))
abbrev RQ:Nat→List Ds
 | 1=>[.rd (.list (.int .u8)),vb]
 | 2=>[.rd (.list (.int .u8)),vi,vi]
 | _=>[]
abbrev iK: ∀ k,aJ.V→TupD D (RQ k)→aJ.V
 | 1,c,t=> {c with l0:=t.1,ud:=t.2.1}
 | 2,c,t=> {c with iQ:=t.1,ue:=t.2.1,v20:=t.2.2.1}
 | _,c,_=>c
abbrev Zf: ∀ k,aJ.V→TupD D (RQ k)
 | 1,c=>(c.l0,c.ud,())
 | 2,c=>(c.iQ,c.ue,c.v20,())
 | 0,c=>()
 | _+3,c=>()
abbrev RR (Q:aJ.QT):Nat→List (aJ.V→Prop)→aJ.V→Prop
 | 1,[],c=>aJ.K1 Q c
 | 2,[S2],c=>aJ.B2 S2 Q c
 | _,_,_=>False
abbrev Zg (Q:QT Nq):Pts D:=Pts.ja RQ iK Zf (by intro k b t; match k,t with | 0,t | 1,t | 2,t | _+3,t=>rfl) (fun σ=>RR (fun r0=>Q (r0,()) (()) σ))
abbrev C8:Ctrs D:=((6,Nq)::C6)
abbrev Nr:Ctr D:= {ps:=[.rd (.list (.int .u8))],rs:=[.own (.list (.int .u8))],bk:=[],sg:=false,P:=fun x σ Q=>aX x.1 (fun r0=>Q (r0,()) (()) σ)}
noncomputable def c8:Code:=Tryz.f8.body.getD .skip
def A8:Ann:=(sl (sl (.seq (sl (.block (.loop 1 [3,7,8,9] (sl (.seq (.cond lf lf) (.seq (.block (sl (sl s2))) lf)))))) s2)))
abbrev RS:Nat→List Ds
 | 1=>[.own (.list (.int .u8)), .rd (.list (.int .u8)),vi,vi]
 | _=>[]
abbrev Zh: ∀ k,aX.V→TupD D (RS k)→aX.V
 | 1,c,t=> {c with cr:=t.1,v7:=t.2.1,v8:=t.2.2.1,v9:=t.2.2.2.1}
 | _,c,_=>c
abbrev Zi: ∀ k,aX.V→TupD D (RS k)
 | 1,c=>(c.cr,c.v7,c.v8,c.v9,())
 | 0,c=>()
 | _+2,c=>()
abbrev RU (Q:aX.QT):Nat→List (aX.V→Prop)→aX.V→Prop
 | 1,[S1],c=>aX.B1 S1 Q c
 | _,_,_=>False
abbrev Zj (Q:QT Nr):Pts D:=Pts.ja RS Zh Zi (by intro k b t; match k,t with | 0,t | 1,t | _+2,t=>rfl) (fun σ=>RU (fun r0=>Q (r0,()) (()) σ))
abbrev RV:Ctrs D:=((8,Nr)::C8)
abbrev CI:Ctr D:= {ps:=[.val (.st 0)],rs:=[vi],bk:=[],sg:=false,P:=fun x σ Q=>eH x.1 (fun r0=>Q (r0,()) (()) σ)}
noncomputable def Zk:Code:=Tryz.f16.body.getD .skip
def Zl:Ann:=(sl (.seq (sl (.cond s2 lf)) s2))
abbrev RW (Q:QT CI):Pts D:=Pts.no
abbrev RX:Ctrs D:=((16,CI)::RV)
abbrev CJ:Ctr D:= {ps:=[vi],rs:=[.val (.st 0),vi],bk:=[],sg:=false,P:=fun x σ Q=>bx x.1 (fun r0 r1=>Q (r0,r1,()) (()) σ)}
noncomputable def Zm:Code:=Tryz.f30.body.getD .skip
def Zn:Ann:=(sl (.seq (.join 1 [0,2,12] lf (.cond s2 lf)) (sl (.seq (sl (.block (.loop 2 [2,4,5] (.seq (.join 3 [2,4,5,23] lf (.cond lf lf)) (.block (sl (sl (.plan (.take 0 [12] (.take 1 [12] (.take 2 [12] (.take 3 [12] (.take 4 [11,12] (.take 5 [11,12] (.take 6 [11,12] (.take 7 [11,12] (.take 8 [11,12] (.take 9 [11,12] (.take 10 [11,12] (.all (.alt 11 (.all (.alt 12 (.take 13 [] .done) .nil)) .nil))))))))))))))))))))) s2))))
abbrev I8:Nat→List Ds
 | 1=>[vi, .blk 48 [.own (.int .i64)],vb]
 | 2=>[.blk 48 [.own (.int .i64)], .own (.int .i64),vi]
 | 3=>[.blk 48 [.own (.int .i64)], .own (.int .i64),vi,vb]
 | _=>[]
abbrev RY: ∀ k,bx.V→TupD D (I8 k)→bx.V
 | 1,c,t=> {c with cI:=t.1,v2:=⟨t.2.1.1⟩,LJ:=t.2.2.1}
 | 2,c,t=> {c with v2:=⟨t.1.1⟩,l4:=t.2.1,eP:=t.2.2.1}
 | 3,c,t=> {c with v2:=⟨t.1.1⟩,l4:=t.2.1,eP:=t.2.2.1,jI:=t.2.2.2.1}
 | _,c,_=>c
abbrev RZ: ∀ k,bx.V→TupD D (I8 k)
 | 1,c=>(c.cI,(c.v2.eT,()),c.LJ,())
 | 2,c=>((c.v2.eT,()),c.l4,c.eP,())
 | 3,c=>((c.v2.eT,()),c.l4,c.eP,c.jI,())
 | 0,c=>()
 | _+4,c=>()
abbrev Ns (Q:bx.QT):Nat→List (bx.V→Prop)→bx.V→Prop
 | 1,[],c=>bx.K1 Q c
 | 2,[S2],c=>bx.B2 S2 Q c
 | 3,[S2],c=>bx.K3 S2 Q c
 | _,_,_=>False
abbrev R5 (Q:QT CJ):Pts D:=Pts.ja I8 RY RZ (by intro k b t; match k,t with | 0,t | 1,t | 2,t | 3,t | _+4,t=>rfl) (fun σ=>Ns (fun r0 r1=>Q (r0,r1,()) (()) σ))
abbrev R6:Ctrs D:=((30,CJ)::RX)
abbrev CL:Ctr D:= {ps:=[rb],rs:=[vb],bk:=[],sg:=false,P:=fun x σ Q=>fA x.1 (fun r0=>Q (r0,()) (()) σ)}
noncomputable def Zo:Code:=Tryz.f31.body.getD .skip
def Zp:Ann:=(sl s2)
abbrev R7 (Q:QT CL):Pts D:=Pts.no
abbrev R8:Ctrs D:=((31,CL)::R6)
abbrev CM:Ctr D:= {ps:=[.val (.st 0)],rs:=[vi],bk:=[],sg:=false,P:=fun x σ Q=>dQ x.1 (fun r0=>Q (r0,()) (()) σ)}
noncomputable def Zq:Code:=Tryz.f81.body.getD .skip
def Zr:Ann:=(sl s2)
abbrev R9 (Q:QT CM):Pts D:=Pts.no
abbrev Sa:Ctrs D:=((81,CM)::R8)
abbrev CN:Ctr D:= {ps:=[.val (.st 0),vi],rs:=[vi],bk:=[],sg:=false,P:=fun x σ Q=>bp x.1 x.2.1 (fun r0=>Q (r0,()) (()) σ)}
noncomputable def Zs:Code:=Tryz.f61.body.getD .skip
def Zt:Ann:=(sl (.seq (sl (.cond s2 lf)) (.seq (sl (.block (.loop 1 [1,2,9,10] (sl (.seq (.cond lf lf) (.seq (.block (sl (sl (.cond s2 lf)))) lf)))))) s2)))
abbrev I9:Nat→List Ds
 | 1=>[vi, .blk 48 [.v (.st 0)],vi,vi]
 | _=>[]
abbrev Sb: ∀ k,bp.V→TupD D (I9 k)→bp.V
 | 1,c,t=> {c with bT:=t.1,s2:=t.2.1.1,v9:=t.2.2.1,v10:=t.2.2.2.1}
 | _,c,_=>c
abbrev Sc: ∀ k,bp.V→TupD D (I9 k)
 | 1,c=>(c.bT,(c.s2,()),c.v9,c.v10,())
 | 0,c=>()
 | _+2,c=>()
abbrev Nt (Q:bp.QT):Nat→List (bp.V→Prop)→bp.V→Prop
 | 1,[S1],c=>bp.B1 S1 Q c
 | _,_,_=>False
abbrev Se (Q:QT CN):Pts D:=Pts.ja I9 Sb Sc (by intro k b t; match k,t with | 0,t | 1,t | _+2,t=>rfl) (fun σ=>Nt (fun r0=>Q (r0,()) (()) σ))
abbrev Sf:Ctrs D:=((61,CN)::Sa)
abbrev CP:Ctr D:= {ps:=[.val (.st 0),vi,vi],rs:=[vi],bk:=[],sg:=false,P:=fun x σ Q=>aW x.1 x.2.1 x.2.2.1 (fun r0=>Q (r0,()) (()) σ)}
noncomputable def Zu:Code:=Tryz.f34.body.getD .skip
def Zv:Ann:=(sl (.seq (.join 1 [1,2,18] lf (.cond s2 lf)) s2))
abbrev Ja:Nat→List Ds
 | 1=>[vi,vi,vb]
 | _=>[]
abbrev Sg: ∀ k,aW.V→TupD D (Ja k)→aW.V
 | 1,c,t=> {c with bT:=t.1,cg:=t.2.1,iQ:=t.2.2.1}
 | _,c,_=>c
abbrev Sh: ∀ k,aW.V→TupD D (Ja k)
 | 1,c=>(c.bT,c.cg,c.iQ,())
 | 0,c=>()
 | _+2,c=>()
abbrev Nv (Q:aW.QT):Nat→List (aW.V→Prop)→aW.V→Prop
 | 1,[],c=>aW.K1 Q c
 | _,_,_=>False
abbrev Si (Q:QT CP):Pts D:=Pts.ja Ja Sg Sh (by intro k b t; match k,t with | 0,t | 1,t | _+2,t=>rfl) (fun σ=>Nv (fun r0=>Q (r0,()) (()) σ))
abbrev Jb:Ctrs D:=((34,CP)::Sf)
abbrev vh:Ctr D:= {ps:=[rb],rs:=[vu],bk:=[],sg:=false,P:=fun x σ Q=>gx x.1 (fun r0=>Q (r0,()) (()) σ)}
noncomputable def Sj:Code:=Tryz.f119.body.getD .skip
def Sk:Ann:=(sl (.seq (.plan (.take 0 [] (.take 1 [] (.take 2 [] (.take 3 [] (.take 4 [] (.take 5 [] (.take 6 [] (.take 7 [] (.take 8 [] (.take 9 [] (.take 10 [] (.take 11 [] (.take 12 [] (.take 13 [] (.take 14 [] (.take 15 [] (.take 16 [] (.take 17 [] (.take 18 [] (.take 19 [] (.take 20 [] (.take 21 [] (.take 22 [] .done)))))))))))))))))))))))) lf))
abbrev Nw (Q:QT vh):Pts D:=Pts.no
abbrev Jc:Ctrs D:=((119,vh)::Jb)
abbrev qa:Ctr D:= {ps:=[.val (.vec .u8 32), .val (.vec .u8 12),vu],rs:=[.val (.vec .u32 16)],bk:=[],sg:=false,P:=fun x σ Q=>aP x.1 x.2.1 x.2.2.1 (fun r0=>Q (r0,()) (()) σ)}
noncomputable def Sm:Code:=Tryz.f109.body.getD .skip
def Sn:Ann:=(sl (sl (.seq (sl (.block (.loop 1 [2,3,4,6,7,11] (sl (.seq (.cond lf lf) (.seq (.block s2) lf)))))) (sl (.seq (sl (.block (.loop 2 [4,6,7,24] (sl (.seq (.cond lf lf) (.seq (.block s2) lf)))))) s2)))))
abbrev CQ:Nat→List Ds
 | 1=>[vu, .blk 22 [.v (.vec .u8 32)], .blk 136 [.v (.vec .u8 12)], .blk 177 [.v (.vec .u32 16)], .blk 177 [.v (.vec .u32 16)],vi]
 | 2=>[.blk 136 [.v (.vec .u8 12)], .blk 177 [.v (.vec .u32 16)], .blk 177 [.v (.vec .u32 16)],vi]
 | _=>[]
abbrev Nx: ∀ k,aP.V→TupD D (CQ k)→aP.V
 | 1,c,t=> {c with aU:=t.1,dn:=t.2.1.1,dR:=t.2.2.1.1,v6:=t.2.2.2.1.1,w7:=t.2.2.2.2.1.1,v11:=t.2.2.2.2.2.1}
 | 2,c,t=> {c with dR:=t.1.1,v6:=t.2.1.1,w7:=t.2.2.1.1,kJ:=t.2.2.2.1}
 | _,c,_=>c
abbrev Ny: ∀ k,aP.V→TupD D (CQ k)
 | 1,c=>(c.aU,(c.dn,()),(c.dR,()),(c.v6,()),(c.w7,()),c.v11,())
 | 2,c=>((c.dR,()),(c.v6,()),(c.w7,()),c.kJ,())
 | 0,c=>()
 | _+3,c=>()
abbrev Jd (Q:aP.QT):Nat→List (aP.V→Prop)→aP.V→Prop
 | 1,[S1],c=>aP.B1 S1 Q c
 | 2,[S2],c=>aP.B2 S2 Q c
 | _,_,_=>False
abbrev Nz (Q:QT qa):Pts D:=Pts.ja CQ Nx Ny (by intro k b t; match k,t with | 0,t | 1,t | 2,t | _+3,t=>rfl) (fun σ=>Jd (fun r0=>Q (r0,()) (()) σ))
abbrev Je:Ctrs D:=((109,qa)::Jc)
abbrev vj:Ctr D:= {ps:=[vu,vi],rs:=[vu],bk:=[],sg:=false,P:=fun x σ Q=>cC x.1 x.2.1 (fun r0=>Q (r0,()) (()) σ)}
noncomputable def So:Code:=Tryz.f121.body.getD .skip
def Sq:Ann:=(sl (sl s2))
abbrev NA (Q:QT vj):Pts D:=Pts.no
abbrev Jf:Ctrs D:=((121,vj)::Je)
abbrev vk:Ctr D:= {ps:=[vi,vi,vi,vi, .blk 179 [.v (.vec .u32 4)]],rs:=[],bk:=[(4, .blk 179 [.v (.vec .u32 4)])],sg:=false,P:=fun x σ Q=>ct x.1 x.2.1 x.2.2.1 x.2.2.2.1 x.2.2.2.2.1.1 (fun z0=>Q (()) ((z0,()),()) σ)}
noncomputable def Sr:Code:=Tryz.f120.body.getD .skip
def Su:Ann:=(.seq (.plan (.take 0 [8] (.take 1 [8] (.take 2 [8] (.take 3 [8] (.take 4 [8] (.take 5 [8] (.take 6 [8] (.take 7 [8] (.all (.alt 8 .done .nil))))))))))) (.plan (.take 0 [11] (.take 1 [9,11] (.take 2 [9,11] (.take 3 [9,11] (.take 4 [9,11] (.take 5 [9,11] (.take 6 [9,11] (.take 7 [9,11] (.take 8 [9,11] (.all (.alt 9 (.take 10 [11] (.all (.alt 11 .done .nil))) .nil)))))))))))))
abbrev NB (Q:QT vk):Pts D:=Pts.no
abbrev FF:Ctrs D:=((120,vk)::Jf)
abbrev nQ:Ctr D:= {ps:=[.val (.vec .u32 4)],rs:=[.val (.vec .u32 4)],bk:=[],sg:=false,P:=fun x σ Q=>bX x.1 (fun r0=>Q (r0,()) (()) σ)}
noncomputable def Sv:Code:=Tryz.f111.body.getD .skip
def Sw:Ann:=(sl (sl (sl (sl (sl (sl s2))))))
abbrev NC (Q:QT nQ):Pts D:=Pts.no
abbrev FG:Ctr D:= {ps:=[.val (.vec .u8 32), .val (.vec .u8 12),vu],rs:=[.val (.vec .u8 64)],bk:=[],sg:=false,P:=fun x σ Q=>aE x.1 x.2.1 x.2.2.1 (fun r0=>Q (r0,()) (()) σ)}
abbrev Sx:Ctrs D:=((96,FG)::((111,nQ)::FF))
abbrev CS:Ctr D:= {ps:=[.val (.vec .u8 32), .val (.vec .u8 12),vu,rb],rs:=[.own (.int .u8)],bk:=[],sg:=false,P:=fun x σ Q=>bz x.1 x.2.1 x.2.2.1 x.2.2.2.1 (fun r0=>Q (r0,()) (()) σ)}
noncomputable def Zw:Code:=Tryz.f82.body.getD .skip
def Zx:Ann:=(sl (sl (.seq (sl (.block (.loop 1 [2,4,5,9,10] (.seq (sl (.cond lf lf)) (.seq (.block (sl (.seq (sl (.block (.loop 2 [2,4,5,9,10,11,34,35] (sl (.seq (.cond lf lf) (.seq (.block (sl (.plan (.take 0 [11] (.take 1 [11] (.take 2 [11] (.take 3 [11] (.take 4 [11] (.take 5 [11] (.take 6 [11] (.take 7 [11] (.take 8 [11] (.take 9 [11] (.take 10 [11] (.all (.alt 11 .done .nil)))))))))))))))) lf)))))) lf))) lf))))) s2)))
abbrev Jg:Nat→List Ds
 | 1=>[vu, .blk 22 [.v (.vec .u8 32)], .blk 136 [.v (.vec .u8 12)], .own (.int .u8),vi]
 | 2=>[vu, .blk 22 [.v (.vec .u8 32)], .blk 136 [.v (.vec .u8 12)], .own (.int .u8),vi, .blk 161 [.v (.vec .u8 64)],vi,vi]
 | _=>[]
abbrev Sy: ∀ k,bz.V→TupD D (Jg k)→bz.V
 | 1,c,t=> {c with aU:=t.1,fG:=t.2.1.1,eL:=t.2.2.1.1,dX:=t.2.2.2.1,jq:=t.2.2.2.2.1}
 | 2,c,t=> {c with aU:=t.1,fG:=t.2.1.1,eL:=t.2.2.1.1,dX:=t.2.2.2.1,jq:=t.2.2.2.2.1,n7:=t.2.2.2.2.2.1.1,LQ:=t.2.2.2.2.2.2.1,fC:=t.2.2.2.2.2.2.2.1}
 | _,c,_=>c
abbrev Sz: ∀ k,bz.V→TupD D (Jg k)
 | 1,c=>(c.aU,(c.fG,()),(c.eL,()),c.dX,c.jq,())
 | 2,c=>(c.aU,(c.fG,()),(c.eL,()),c.dX,c.jq,(c.n7,()),c.LQ,c.fC,())
 | 0,c=>()
 | _+3,c=>()
abbrev ND (Q:bz.QT):Nat→List (bz.V→Prop)→bz.V→Prop
 | 1,[S1],c=>bz.B1 S1 Q c
 | 2,[S2,S1],c=>bz.B2 S1 S2 Q c
 | _,_,_=>False
abbrev SA (Q:QT CS):Pts D:=Pts.ja Jg Sy Sz (by intro k b t; match k,t with | 0,t | 1,t | 2,t | _+3,t=>rfl) (fun σ=>ND (fun r0=>Q (r0,()) (()) σ))
abbrev SB:Ctrs D:=((82,CS)::Sx)
abbrev CT:Ctr D:= {ps:=[vu, .val (.int .u64)],rs:=[.val (.vec .u8 12)],bk:=[],sg:=false,P:=fun x σ Q=>bA x.1 x.2.1 (fun r0=>Q (r0,()) (()) σ)}
noncomputable def Zy:Code:=Tryz.f83.body.getD .skip
def Zz:Ann:=(sl (sl (.seq (sl (.block (.loop 1 [0,1,4,5,7] (sl (.seq (.cond lf lf) (.join 2 [0,1,4,5,7] (.block (sl (sl (.cond lf lf)))) lf)))))) s2)))
abbrev Jh:Nat→List Ds
 | 1=>[vu, .val (.int .u64), .blk 136 [.v (.vec .u8 12)], .blk 136 [.v (.vec .u8 12)],vi]
 | 2=>[vu, .val (.int .u64), .blk 136 [.v (.vec .u8 12)], .blk 136 [.v (.vec .u8 12)],vi]
 | _=>[]
abbrev SC: ∀ k,bA.V→TupD D (Jh k)→bA.V
 | 1,c,t=> {c with eE:=t.1,dJ:=t.2.1,v4:=t.2.2.1.1,n5:=t.2.2.2.1.1,v7:=t.2.2.2.2.1}
 | 2,c,t=> {c with eE:=t.1,dJ:=t.2.1,v4:=t.2.2.1.1,n5:=t.2.2.2.1.1,v7:=t.2.2.2.2.1}
 | _,c,_=>c
abbrev SD: ∀ k,bA.V→TupD D (Jh k)
 | 1,c=>(c.eE,c.dJ,(c.v4,()),(c.n5,()),c.v7,())
 | 2,c=>(c.eE,c.dJ,(c.v4,()),(c.n5,()),c.v7,())
 | 0,c=>()
 | _+3,c=>()
abbrev NF (Q:bA.QT):Nat→List (bA.V→Prop)→bA.V→Prop
 | 1,[S1],c=>bA.B1 S1 Q c
 | 2,[S1],c=>bA.K2 S1 Q c
 | _,_,_=>False
abbrev SE (Q:QT CT):Pts D:=Pts.ja Jh SC SD (by intro k b t; match k,t with | 0,t | 1,t | 2,t | _+3,t=>rfl) (fun σ=>NF (fun r0=>Q (r0,()) (()) σ))
abbrev SI:Ctrs D:=((83,CT)::SB)
abbrev CU:Ctr D:= {ps:=[.val (.vec .u8 32),vu,vi,rb],rs:=[.own (.int .u8),vi],bk:=[],sg:=false,P:=fun x σ Q=>cm x.1 x.2.1 x.2.2.1 x.2.2.2.1 (fun r0 r1=>Q (r0,r1,()) (()) σ)}
noncomputable def ZA:Code:=Tryz.f62.body.getD .skip
def ZB:Ann:=(sl (.seq (.join 1 [1,2,3,4,16] lf (.cond s2 lf)) (.seq (.plan (.take 0 [6] (.take 1 [4,6] (.take 2 [4,6] (.take 3 [4,6] (.take 5 [6] (.all (.alt 4 (.all (.alt 6 (.take 7 [] (.take 8 [] .done)) .nil)) .nil)))))))) lf)))
abbrev Ji:Nat→List Ds
 | 1=>[vu,vi,rb, .blk 22 [.v (.vec .u8 32)],vb]
 | _=>[]
abbrev SJ: ∀ k,cm.V→TupD D (Ji k)→cm.V
 | 1,c,t=> {c with bu:=t.1,dS:=t.2.1,fH:=t.2.2.1,fG:=t.2.2.2.1.1,n8:=t.2.2.2.2.1}
 | _,c,_=>c
abbrev SK: ∀ k,cm.V→TupD D (Ji k)
 | 1,c=>(c.bu,c.dS,c.fH,(c.fG,()),c.n8,())
 | 0,c=>()
 | _+2,c=>()
abbrev NG (Q:cm.QT):Nat→List (cm.V→Prop)→cm.V→Prop
 | 1,[],c=>cm.K1 Q c
 | _,_,_=>False
abbrev SL (Q:QT CU):Pts D:=Pts.ja Ji SJ SK (by intro k b t; match k,t with | 0,t | 1,t | _+2,t=>rfl) (fun σ=>NG (fun r0 r1=>Q (r0,r1,()) (()) σ))
abbrev QG:Ctrs D:=((62,CU)::SI)
abbrev AO:Ctr D:= {ps:=[vi],rs:=[vb],bk:=[],sg:=false,P:=fun x σ Q=>jr x.1 (fun r0=>Q (r0,()) (()) σ)}
noncomputable def ZC:Code:=Tryz.f63.body.getD .skip
def ZD:Ann:=(sl s2)
abbrev SM (Q:QT AO):Pts D:=Pts.no
abbrev FH:Ctr D:= {ps:=[rb],rs:=[.own (.int .u8)],bk:=[],sg:=false,P:=fun x σ Q=>cQ x.1 (fun r0=>Q (r0,()) (()) σ)}
abbrev SN:Ctrs D:=((45,FH)::((63,AO)::QG))
abbrev CV:Ctr D:= {ps:=[],rs:=[.val (.st 1)],bk:=[],sg:=false,P:=fun x σ Q=>sE (fun r0=>Q (r0,()) (()) σ)}
noncomputable def ZE:Code:=Tryz.f97.body.getD .skip
def ZF:Ann:=(sl s2)
abbrev SP (Q:QT CV):Pts D:=Pts.no
abbrev Jj:Ctrs D:=((97,CV)::SN)
abbrev vl:Ctr D:= {ps:=[],rs:=[.val (.vec .u32 8)],bk:=[],sg:=false,P:=fun x σ Q=>qR (fun r0=>Q (r0,()) (()) σ)}
noncomputable def SQ:Code:=Tryz.f112.body.getD .skip
def SU:Ann:=(sl s2)
abbrev NH (Q:QT vl):Pts D:=Pts.no
abbrev Jk:Ctrs D:=((112,vl)::Jj)
abbrev vm:Ctr D:= {ps:=[vu,vi],rs:=[vu],bk:=[],sg:=false,P:=fun x σ Q=>dN x.1 x.2.1 (fun r0=>Q (r0,()) (()) σ)}
noncomputable def SW:Code:=Tryz.f124.body.getD .skip
def SX:Ann:=(sl s2)
abbrev NJ (Q:QT vm):Pts D:=Pts.no
abbrev Jl:Ctrs D:=((124,vm)::Jk)
abbrev vn:Ctr D:= {ps:=[rb],rs:=[vu],bk:=[],sg:=false,P:=fun x σ Q=>bU x.1 (fun r0=>Q (r0,()) (()) σ)}
noncomputable def SY:Code:=Tryz.f133.body.getD .skip
def SZ:Ann:=(sl (sl (.seq (sl (.block (.loop 1 [3,6,7,8] (sl (.seq (.cond lf lf) (.seq (.block s2) lf)))))) s2)))
abbrev CW:Nat→List Ds
 | 1=>[vu,rb,vi,vi]
 | _=>[]
abbrev NK: ∀ k,bU.V→TupD D (CW k)→bU.V
 | 1,c,t=> {c with w3:=t.1,v6:=t.2.1,v7:=t.2.2.1,v8:=t.2.2.2.1}
 | _,c,_=>c
abbrev NL: ∀ k,bU.V→TupD D (CW k)
 | 1,c=>(c.w3,c.v6,c.v7,c.v8,())
 | 0,c=>()
 | _+2,c=>()
abbrev Jm (Q:bU.QT):Nat→List (bU.V→Prop)→bU.V→Prop
 | 1,[S1],c=>bU.B1 S1 Q c
 | _,_,_=>False
abbrev NM (Q:QT vn):Pts D:=Pts.ja CW NK NL (by intro k b t; match k,t with | 0,t | 1,t | _+2,t=>rfl) (fun σ=>Jm (fun r0=>Q (r0,()) (()) σ))
abbrev Jn:Ctrs D:=((133,vn)::Jl)
abbrev vo:Ctr D:= {ps:=[rb],rs:=[.val (.vec .u32 64)],bk:=[],sg:=false,P:=fun x σ Q=>bE x.1 (fun r0=>Q (r0,()) (()) σ)}
noncomputable def S6:Code:=Tryz.f122.body.getD .skip
def S9:Ann:=(sl (sl (.seq (sl (.block (.loop 1 [0,2,3,9] (sl (.seq (.cond lf lf) (.join 2 [0,2,3,9] (.block (sl (.seq (sl (.cond s2 lf)) (.seq (.plan (.take 0 [] (.take 1 [] (.take 2 [] (.take 3 [] (.take 4 [] (.take 5 [] (.take 6 [] (.take 7 [] (.take 8 [] (.take 9 [] .done))))))))))) (sl (sl (.plan (.take 0 [15] (.take 1 [15] (.take 2 [15] (.take 3 [15] (.take 4 [15] (.take 5 [15] (.take 6 [15] (.take 7 [15] (.take 8 [15] (.take 9 [15] (.take 10 [15] (.take 11 [15] (.take 12 [15] (.take 13 [15] (.take 14 [15] (.all (.alt 15 .done .nil)))))))))))))))))))))))) lf)))))) s2)))
abbrev CX:Nat→List Ds
 | 1=>[rb, .blk 190 [.v (.vec .u32 64)], .blk 190 [.v (.vec .u32 64)],vi]
 | 2=>[rb, .blk 190 [.v (.vec .u32 64)], .blk 190 [.v (.vec .u32 64)],vi]
 | _=>[]
abbrev NN: ∀ k,bE.V→TupD D (CX k)→bE.V
 | 1,c,t=> {c with b0:=t.1,v2:=t.2.1.1,w3:=t.2.2.1.1,v9:=t.2.2.2.1}
 | 2,c,t=> {c with b0:=t.1,v2:=t.2.1.1,w3:=t.2.2.1.1,v9:=t.2.2.2.1}
 | _,c,_=>c
abbrev NO: ∀ k,bE.V→TupD D (CX k)
 | 1,c=>(c.b0,(c.v2,()),(c.w3,()),c.v9,())
 | 2,c=>(c.b0,(c.v2,()),(c.w3,()),c.v9,())
 | 0,c=>()
 | _+3,c=>()
abbrev Jo (Q:bE.QT):Nat→List (bE.V→Prop)→bE.V→Prop
 | 1,[S1],c=>bE.B1 S1 Q c
 | 2,[S1],c=>bE.K2 S1 Q c
 | _,_,_=>False
abbrev NP (Q:QT vo):Pts D:=Pts.ja CX NN NO (by intro k b t; match k,t with | 0,t | 1,t | 2,t | _+3,t=>rfl) (fun σ=>Jo (fun r0=>Q (r0,()) (()) σ))
abbrev Jp:Ctrs D:=((122,vo)::Jn)
abbrev vp:Ctr D:= {ps:=[],rs:=[.val (.vec .u32 64)],bk:=[],sg:=false,P:=fun x σ Q=>kM (fun r0=>Q (r0,()) (()) σ)}
noncomputable def Ta:Code:=Tryz.f123.body.getD .skip
def Tb:Ann:=(sl s2)
abbrev NQ (Q:QT vp):Pts D:=Pts.no
abbrev Jq:Ctrs D:=((123,vp)::Jp)
abbrev vq:Ctr D:= {ps:=[.val (.vec .u32 8),rb],rs:=[.val (.vec .u32 8)],bk:=[],sg:=false,P:=fun x σ Q=>bF x.1 x.2.1 (fun r0=>Q (r0,()) (()) σ)}
noncomputable def Tc:Code:=Tryz.f113.body.getD .skip
def Td:Ann:=(sl (sl (sl (.seq (sl (.block (.loop 1 [2,4,5,6,7,18] (sl (.seq (.cond lf lf) (.seq (.block (sl (.seq (.plan (.take 0 [] (.take 1 [] (.take 2 [] (.take 3 [] (.take 4 [] (.take 5 [] .done))))))) (.seq (.plan (.take 0 [] (.take 1 [] (.take 2 [3,5,8] (.take 4 [5,8] (.take 7 [8] (.take 11 [] (.take 12 [] (.take 13 [] (.take 14 [] (.take 15 [] (.take 16 [] (.take 17 [] (.take 18 [] (.take 19 [] (.take 20 [] (.take 22 [] (.take 23 [] (.take 24 [] (.take 26 [] (.take 27 [] (.take 28 [] (.all (.alt 3 (.all (.alt 5 (.take 6 [] (.all (.alt 8 (.take 9 [] (.take 10 [] (.take 21 [] (.take 25 [] (.take 29 [] (.take 30 [] .done)))))) .nil))) .nil)) .nil)))))))))))))))))))))))) (.seq (.plan (.take 0 [1,3,6] (.take 2 [3,6] (.take 5 [6] (.take 8 [] (.take 9 [] (.take 10 [] (.take 11 [] (.take 12 [] (.take 13 [] (.take 14 [] (.take 15 [] (.take 16 [] (.take 17 [] (.take 18 [] (.take 19 [] (.take 20 [] (.take 21 [] (.take 22 [] (.all (.alt 1 (.all (.alt 3 (.take 4 [] (.all (.alt 6 (.take 7 [] (.take 23 [] (.take 24 [] .done))) .nil))) .nil)) .nil))))))))))))))))))))) (.seq (.plan (.take 0 [2] (.take 1 [2] (.all (.alt 2 .done .nil))))) s2)))))) lf)))))) (.seq (sl (.block (.loop 2 [2,4,7,92] (sl (.seq (.cond lf lf) (.seq (.block (sl (.plan (.take 0 [8] (.take 1 [8] (.take 2 [8] (.take 3 [8] (.take 4 [8] (.take 5 [8] (.take 6 [8] (.take 7 [8] (.all (.alt 8 .done .nil))))))))))))) lf)))))) s2)))))
abbrev CY:Nat→List Ds
 | 1=>[.blk 163 [.v (.vec .u32 8)], .blk 163 [.v (.vec .u32 8)], .blk 190 [.v (.vec .u32 64)], .blk 190 [.v (.vec .u32 64)], .blk 163 [.v (.vec .u32 8)],vi]
 | 2=>[.blk 163 [.v (.vec .u32 8)], .blk 163 [.v (.vec .u32 8)], .blk 163 [.v (.vec .u32 8)],vi]
 | _=>[]
abbrev NR: ∀ k,bF.V→TupD D (CY k)→bF.V
 | 1,c,t=> {c with h2:=t.1.1,v4:=t.2.1.1,w5:=t.2.2.1.1,k6:=t.2.2.2.1.1,x7:=t.2.2.2.2.1.1,iQ:=t.2.2.2.2.2.1}
 | 2,c,t=> {c with h2:=t.1.1,v4:=t.2.1.1,x7:=t.2.2.1.1,w4:=t.2.2.2.1}
 | _,c,_=>c
abbrev NS: ∀ k,bF.V→TupD D (CY k)
 | 1,c=>((c.h2,()),(c.v4,()),(c.w5,()),(c.k6,()),(c.x7,()),c.iQ,())
 | 2,c=>((c.h2,()),(c.v4,()),(c.x7,()),c.w4,())
 | 0,c=>()
 | _+3,c=>()
abbrev Jr (Q:bF.QT):Nat→List (bF.V→Prop)→bF.V→Prop
 | 1,[S1],c=>bF.B1 S1 Q c
 | 2,[S2],c=>bF.B2 S2 Q c
 | _,_,_=>False
abbrev NT (Q:QT vq):Pts D:=Pts.ja CY NR NS (by intro k b t; match k,t with | 0,t | 1,t | 2,t | _+3,t=>rfl) (fun σ=>Jr (fun r0=>Q (r0,()) (()) σ))
abbrev Te:Ctrs D:=((113,vq)::Jq)
abbrev CZ:Ctr D:= {ps:=[.val (.st 1),rb],rs:=[.val (.st 1)],bk:=[],sg:=false,P:=fun x σ Q=>aL x.1 x.2.1 (fun r0=>Q (r0,()) (()) σ)}
noncomputable def ZG:Code:=Tryz.f98.body.getD .skip
def ZH:Ann:=(sl (.join 3 [1,2,4] (.join 1 [1,2,4,17] lf (.cond lf lf)) (sl (sl (.seq (.block (.loop 2 [2,4,5] (.seq (sl (.cond lf lf)) (.block (.seq (.plan (.take 0 [4,6] (.take 1 [4,6] (.take 2 [4,6] (.take 3 [4,6] (.all (.alt 4 (.take 5 [6] (.all (.alt 6 .done .nil))) .nil))))))) lf))))) (sl s2))))))
abbrev Js:Nat→List Ds
 | 3=>[rb, .blk 165 [.v (.st 1)], .blk 165 [.v (.vec .u32 8), .own (.int .u8), .v (.int .u64)]]
 | 1=>[rb, .blk 165 [.v (.st 1)], .blk 165 [.v (.vec .u32 8), .own (.int .u8), .v (.int .u64)],vb]
 | 2=>[.blk 165 [.v (.st 1)], .blk 165 [.v (.vec .u32 8), .own (.int .u8), .v (.int .u64)], .own (.int .u8)]
 | _=>[]
abbrev Tf: ∀ k,aL.V→TupD D (Js k)→aL.V
 | 3,c,t=> {c with b1:=t.1,s2:=t.2.1.1,v4:=⟨t.2.2.1.1,t.2.2.1.2.1,t.2.2.1.2.2.1⟩}
 | 1,c,t=> {c with b1:=t.1,s2:=t.2.1.1,v4:=⟨t.2.2.1.1,t.2.2.1.2.1,t.2.2.1.2.2.1⟩,ud:=t.2.2.2.1}
 | 2,c,t=> {c with s2:=t.1.1,v4:=⟨t.2.1.1,t.2.1.2.1,t.2.1.2.2.1⟩,iq:=t.2.2.1}
 | _,c,_=>c
abbrev Tg: ∀ k,aL.V→TupD D (Js k)
 | 3,c=>(c.b1,(c.s2,()),(c.v4.h,c.v4.rest,c.v4.n,()),())
 | 1,c=>(c.b1,(c.s2,()),(c.v4.h,c.v4.rest,c.v4.n,()),c.ud,())
 | 2,c=>((c.s2,()),(c.v4.h,c.v4.rest,c.v4.n,()),c.iq,())
 | 0,c=>()
 | _+4,c=>()
abbrev NU (Q:aL.QT):Nat→List (aL.V→Prop)→aL.V→Prop
 | 3,[],c=>aL.K3 Q c
 | 1,[],c=>aL.K1 Q c
 | 2,[S2],c=>aL.B2 S2 Q c
 | _,_,_=>False
abbrev Th (Q:QT CZ):Pts D:=Pts.ja Js Tf Tg (by intro k b t; match k,t with | 0,t | 1,t | 2,t | 3,t | _+4,t=>rfl) (fun σ=>NU (fun r0=>Q (r0,()) (()) σ))
abbrev Ti:Ctrs D:=((98,CZ)::Te)
abbrev C0:Ctr D:= {ps:=[.val (.st 1)],rs:=[.val (.vec .u8 32)],bk:=[],sg:=false,P:=fun x σ Q=>aR x.1 (fun r0=>Q (r0,()) (()) σ)}
noncomputable def ZI:Code:=Tryz.f99.body.getD .skip
def ZJ:Ann:=(sl (sl (.seq (.block (.loop 1 [1,2,3] (.seq (sl (.cond lf lf)) (.block lf)))) (.seq (sl (.block (.loop 2 [1,2,3,21] (sl (.seq (.cond lf lf) (.seq (.block s2) lf)))))) (sl (sl (.seq (sl (.block (.loop 3 [2,5,6,39] (sl (.seq (.cond lf lf) (.seq (.block s2) lf)))))) s2)))))))
abbrev Jt:Nat→List Ds
 | 1=>[.blk 165 [.v (.st 1)], .blk 22 [.v (.vec .u8 32)], .own (.int .u8)]
 | 2=>[.blk 165 [.v (.st 1)], .blk 22 [.v (.vec .u8 32)], .own (.int .u8),vi]
 | 3=>[.blk 22 [.v (.vec .u8 32)], .blk 165 [.v (.st 1)], .blk 22 [.v (.vec .u8 32)],vi]
 | _=>[]
abbrev Tj: ∀ k,aR.V→TupD D (Jt k)→aR.V
 | 1,c,t=> {c with s1:=t.1.1,v2:=t.2.1.1,kZ:=t.2.2.1}
 | 2,c,t=> {c with s1:=t.1.1,v2:=t.2.1.1,kZ:=t.2.2.1,qv:=t.2.2.2.1}
 | 3,c,t=> {c with v2:=t.1.1,nH:=t.2.1.1,d6:=t.2.2.1.1,qw:=t.2.2.2.1}
 | _,c,_=>c
abbrev Tk: ∀ k,aR.V→TupD D (Jt k)
 | 1,c=>((c.s1,()),(c.v2,()),c.kZ,())
 | 2,c=>((c.s1,()),(c.v2,()),c.kZ,c.qv,())
 | 3,c=>((c.v2,()),(c.nH,()),(c.d6,()),c.qw,())
 | 0,c=>()
 | _+4,c=>()
abbrev NV (Q:aR.QT):Nat→List (aR.V→Prop)→aR.V→Prop
 | 1,[S1],c=>aR.B1 S1 Q c
 | 2,[S2],c=>aR.B2 S2 Q c
 | 3,[S3],c=>aR.B3 S3 Q c
 | _,_,_=>False
abbrev Tl (Q:QT C0):Pts D:=Pts.ja Jt Tj Tk (by intro k b t; match k,t with | 0,t | 1,t | 2,t | 3,t | _+4,t=>rfl) (fun σ=>NV (fun r0=>Q (r0,()) (()) σ))
abbrev QH:Ctrs D:=((99,C0)::Ti)
abbrev vr:Ctr D:= {ps:=[.rd (.list (.int .u8))],rs:=[.val (.vec .u8 32)],bk:=[],sg:=false,P:=fun x σ Q=>bR x.1 (fun r0=>Q (r0,()) (()) σ)}
noncomputable def ZK:Code:=Tryz.f84.body.getD .skip
def ZL:Ann:=(sl (sl (.seq (sl (.block (.loop 1 [2,3,7,8,9] (sl (.seq (.cond lf lf) (.seq (.block s2) lf)))))) s2)))
abbrev Ju:Nat→List Ds
 | 1=>[.blk 22 [.v (.vec .u8 32)], .blk 165 [.v (.st 1)], .rd (.list (.int .u8)),vi,vi]
 | _=>[]
abbrev Tm: ∀ k,bR.V→TupD D (Ju k)→bR.V
 | 1,c,t=> {c with v2:=t.1.1,s3:=t.2.1.1,v7:=t.2.2.1,v8:=t.2.2.2.1,v9:=t.2.2.2.2.1}
 | _,c,_=>c
abbrev Tn: ∀ k,bR.V→TupD D (Ju k)
 | 1,c=>((c.v2,()),(c.s3,()),c.v7,c.v8,c.v9,())
 | 0,c=>()
 | _+2,c=>()
abbrev NW (Q:bR.QT):Nat→List (bR.V→Prop)→bR.V→Prop
 | 1,[S1],c=>bR.B1 S1 Q c
 | _,_,_=>False
abbrev To (Q:QT vr):Pts D:=Pts.ja Ju Tm Tn (by intro k b t; match k,t with | 0,t | 1,t | _+2,t=>rfl) (fun σ=>NW (fun r0=>Q (r0,()) (()) σ))
abbrev FJ:Ctr D:= {ps:=[.val .ptr, .val (.list (.int .u8))],rs:=[.val (.vec .u8 32)],bk:=[],sg:=true,P:=fun x o Q=>match o with
 | some σ=>aS x.1 x.2.1 σ (fun r0 σ1=>Q (r0,()) (()) (some σ1))
 | none=>False}
abbrev Tp:Ctrs D:=((64,FJ)::((84,vr)::QH))
abbrev C1:Ctr D:= {ps:=[.val .ptr, .val (.vec .u8 32),vu,vi,vi,rb],rs:=[.val (.list (.int .u8)), .val (.st 2),vi],bk:=[],sg:=true,P:=fun x o Q=>match o with
 | some σ=>bY x.1 x.2.1 x.2.2.1 x.2.2.2.1 x.2.2.2.2.1 x.2.2.2.2.2.1 σ (fun r0 r1 r2 σ1=>Q (r0,r1,r2,()) (()) (some σ1))
 | none=>False}
noncomputable def ZM:Code:=Tryz.f35.body.getD .skip
def ZN:Ann:=(sl (sl (.seq (.join 1 [0,2,3,13,15,31] lf (.cond s2 lf)) s2)))
abbrev Jv:Nat→List Ds
 | 1=>[.val .ptr,vu,vi, .blk 31 [.v (.st 2)], .own (.int .u8),vb]
 | _=>[]
abbrev Tq: ∀ k,bY.V→TupD D (Jv k)→bY.V
 | 1,c,t=> {c with b0:=t.1,fI:=t.2.1,gW:=t.2.2.1,BJ:=t.2.2.2.1.1,GG:=t.2.2.2.2.1,Iq:=t.2.2.2.2.2.1}
 | _,c,_=>c
abbrev Ts: ∀ k,bY.V→TupD D (Jv k)
 | 1,c=>(c.b0,c.fI,c.gW,(c.BJ,()),c.GG,c.Iq,())
 | 0,c=>()
 | _+2,c=>()
abbrev NY (Q:bY.QT):Nat→List (bY.V→St Pt.Obj→Prop)→bY.V→St Pt.Obj→Prop
 | 1,[],c,σ=>bY.K1 Q c σ
 | _,_,_,_=>False
abbrev Tt (Q:QT C1):Pts D:=Pts.mkS Jv Tq Ts (by intro k b t; match k,t with | 0,t | 1,t | _+2,t=>rfl) (NY (fun r0 r1 r2 σ1=>Q (r0,r1,r2,()) (()) (some σ1)))
abbrev Tu:Ctrs D:=((35,C1)::Tp)
abbrev C2:Ctr D:= {ps:=[rb, .blk 48 [.v (.st 0)], .blk 56 [.own (.st 2)], .blk 86 [.v .ptr], .blk 22 [.v (.vec .u8 32)], .blk 23 [.v (.int .u32)], .blk 29 [.own (.st 3)]],rs:=[],bk:=[(1, .blk 48 [.v (.st 0)]),(2, .blk 56 [.own (.st 2)]),(3, .blk 86 [.v .ptr]),(4, .blk 22 [.v (.vec .u8 32)]),(5, .blk 23 [.v (.int .u32)]),(6, .blk 29 [.own (.st 3)])],sg:=true,P:=fun x o Q=>match o with
 | some σ=>gy x.1 x.2.1.1 x.2.2.1.1 x.2.2.2.1.1 x.2.2.2.2.1.1 x.2.2.2.2.2.1.1 x.2.2.2.2.2.2.1.1 σ (fun z1 z5 σ1=>Q (()) (x.2.1,(z1,()),x.2.2.2.1,x.2.2.2.2.1,x.2.2.2.2.2.1,(z5,()),()) (some σ1))
 | none=>False}
noncomputable def ZO:Code:=Tryz.f33.body.getD .skip
def ZP:Ann:=(sl (sl s2))
abbrev Tv (Q:QT C2):Pts D:=Pts.no
abbrev Tw:Ctrs D:=((33,C2)::Tu)
abbrev C4:Ctr D:= {ps:=[.val (.st 0),vi],rs:=[.own (.int .i64)],bk:=[],sg:=false,P:=fun x σ Q=>bq x.1 x.2.1 (fun r0=>Q (r0,()) (()) σ)}
noncomputable def ZQ:Code:=Tryz.f36.body.getD .skip
def ZR:Ann:=(sl (sl (.seq (sl (.cond s2 lf)) (.seq (.plan (.take 0 [] (.take 1 [] (.take 2 [] (.take 3 [] (.take 4 [] (.take 5 [] (.take 6 [] (.take 7 [] (.take 8 [] (.take 9 [] (.take 10 [] (.take 11 [] (.take 12 [] (.take 13 [] (.take 14 [] (.take 15 [] .done))))))))))))))))) (sl (.seq (sl (.block (.loop 1 [2,5,6,7,8] (.seq (sl (.cond lf lf)) (.seq (.block lf) lf))))) s2))))))
abbrev Jw:Nat→List Ds
 | 1=>[.blk 48 [.v (.st 0)],vi,vi, .own (.int .i64),vi]
 | _=>[]
abbrev Tz: ∀ k,bq.V→TupD D (Jw k)→bq.V
 | 1,c,t=> {c with s2:=t.1.1,oV:=t.2.1,dY:=t.2.2.1,l7:=t.2.2.2.1,k8:=t.2.2.2.2.1}
 | _,c,_=>c
abbrev TA: ∀ k,bq.V→TupD D (Jw k)
 | 1,c=>((c.s2,()),c.oV,c.dY,c.l7,c.k8,())
 | 0,c=>()
 | _+2,c=>()
abbrev NZ (Q:bq.QT):Nat→List (bq.V→Prop)→bq.V→Prop
 | 1,[S1],c=>bq.B1 S1 Q c
 | _,_,_=>False
abbrev TB (Q:QT C4):Pts D:=Pts.ja Jw Tz TA (by intro k b t; match k,t with | 0,t | 1,t | _+2,t=>rfl) (fun σ=>NZ (fun r0=>Q (r0,()) (()) σ))
abbrev Jx:Ctrs D:=((36,C4)::Tw)
abbrev vt:Ctr D:= {ps:=[vi],rs:=[vi],bk:=[],sg:=false,P:=fun x σ Q=>jt x.1 (fun r0=>Q (r0,()) (()) σ)}
noncomputable def TC:Code:=Tryz.f100.body.getD .skip
def TD:Ann:=(sl s2)
abbrev N0 (Q:QT vt):Pts D:=Pts.no
abbrev TE:Ctrs D:=((100,vt)::Jx)
abbrev C5:Ctr D:= {ps:=[rb, .val (.int .u64),vi],rs:=[.own (.int .u8)],bk:=[],sg:=false,P:=fun x σ Q=>bw x.1 x.2.1 x.2.2.1 (fun r0=>Q (r0,()) (()) σ)}
noncomputable def ZS:Code:=Tryz.f85.body.getD .skip
def ZT:Ann:=(sl (sl (.seq (sl (.block (.join 7 [1,7] (.block (.join 6 [1,7] (.block (.join 5 [1,7] (.block (.join 4 [1,7] (.block (.join 3 [1,7] (.block (.join 2 [1,7] (.block (.join 1 [1,7] (.block (.seq (.block (.seq (.seq (sl (.cond lf lf)) (.seq (sl (.cond lf lf)) (.seq (sl (.cond lf lf)) (.seq (sl (.cond lf lf)) (.seq (sl (.cond lf lf)) (.seq (sl (.cond lf lf)) (sl (.cond lf lf)))))))) lf)) s2)) s2)) s2)) s2)) s2)) s2)) s2)) s2))) s2)))
abbrev Jy:Nat→List Ds
 | 7=>[.val (.int .u64), .own (.int .u8)]
 | 6=>[.val (.int .u64), .own (.int .u8)]
 | 5=>[.val (.int .u64), .own (.int .u8)]
 | 4=>[.val (.int .u64), .own (.int .u8)]
 | 3=>[.val (.int .u64), .own (.int .u8)]
 | 2=>[.val (.int .u64), .own (.int .u8)]
 | 1=>[.val (.int .u64), .own (.int .u8)]
 | _=>[]
abbrev TF: ∀ k,bw.V→TupD D (Jy k)→bw.V
 | 7,c,t=> {c with n1:=t.1,cR:=t.2.1}
 | 6,c,t=> {c with n1:=t.1,cR:=t.2.1}
 | 5,c,t=> {c with n1:=t.1,cR:=t.2.1}
 | 4,c,t=> {c with n1:=t.1,cR:=t.2.1}
 | 3,c,t=> {c with n1:=t.1,cR:=t.2.1}
 | 2,c,t=> {c with n1:=t.1,cR:=t.2.1}
 | 1,c,t=> {c with n1:=t.1,cR:=t.2.1}
 | _,c,_=>c
abbrev TG: ∀ k,bw.V→TupD D (Jy k)
 | 7,c=>(c.n1,c.cR,())
 | 6,c=>(c.n1,c.cR,())
 | 5,c=>(c.n1,c.cR,())
 | 4,c=>(c.n1,c.cR,())
 | 3,c=>(c.n1,c.cR,())
 | 2,c=>(c.n1,c.cR,())
 | 1,c=>(c.n1,c.cR,())
 | 0,c=>()
 | _+8,c=>()
abbrev N1 (Q:bw.QT):Nat→List (bw.V→Prop)→bw.V→Prop
 | 7,[],c=>bw.K7 Q c
 | 6,[],c=>bw.K6 Q c
 | 5,[],c=>bw.K5 Q c
 | 4,[],c=>bw.K4 Q c
 | 3,[],c=>bw.K3 Q c
 | 2,[],c=>bw.K2 Q c
 | 1,[],c=>bw.K1 Q c
 | _,_,_=>False
abbrev TH (Q:QT C5):Pts D:=Pts.ja Jy TF TG (by intro k b t; match k,t with | 0,t | 1,t | 2,t | 3,t | 4,t | 5,t | 6,t | 7,t | _+8,t=>rfl) (fun σ=>N1 (fun r0=>Q (r0,()) (()) σ))
abbrev TJ:Ctrs D:=((85,C5)::TE)
abbrev C7:Ctr D:= {ps:=[.val (.st 2)],rs:=[.own (.int .u8)],bk:=[],sg:=false,P:=fun x σ Q=>lS x.1 (fun r0=>Q (r0,()) (()) σ)}
noncomputable def ZU:Code:=Tryz.f65.body.getD .skip
def ZV:Ann:=(sl (.seq (.plan (.take 0 [3,7,10] (.take 1 [3,7,10] (.take 2 [3,7,10] (.take 4 [7,10] (.take 5 [7,10] (.take 6 [7,10] (.take 8 [10] (.take 9 [10] (.all (.alt 3 (.all (.alt 7 (.all (.alt 10 (.take 11 [] .done) .nil)) .nil)) .nil))))))))))) lf))
abbrev TK (Q:QT C7):Pts D:=Pts.no
abbrev TL:Ctrs D:=((65,C7)::TJ)
abbrev Da:Ctr D:= {ps:=[rb,vi],rs:=[.own (.int .u8),vi],bk:=[],sg:=false,P:=fun x σ Q=>mU x.1 x.2.1 (fun r0 r1=>Q (r0,r1,()) (()) σ)}
noncomputable def ZW:Code:=Tryz.f66.body.getD .skip
def ZX:Ann:=(sl (.seq (sl (.cond s2 lf)) s2))
abbrev TM (Q:QT Da):Pts D:=Pts.no
abbrev TN:Ctrs D:=((66,Da)::TL)
abbrev Db:Ctr D:= {ps:=[.rd (.st 2)],rs:=[.own (.int .u8),vi],bk:=[],sg:=false,P:=fun x σ Q=>bL x.1 (fun r0 r1=>Q (r0,r1,()) (()) σ)}
noncomputable def ZY:Code:=Tryz.f37.body.getD .skip
def ZZ:Ann:=(sl (.seq (.join 1 [0,14] lf (.cond s2 lf)) (sl (.seq (sl (.block (.loop 2 [4,19,20,21] (sl (.seq (.cond lf lf) (.seq (.block (sl (.seq (.join 3 [4,6,19,20,21,32] lf (.cond s2 lf)) lf))) lf)))))) s2))))
abbrev Jz:Nat→List Ds
 | 1=>[.rd (.st 2),vb]
 | 2=>[.own (.int .u8), .rd (.st 2),vi,vi]
 | 3=>[.own (.int .u8), .blk 31 [.v (.st 2)], .rd (.st 2),vi,vi,vb]
 | _=>[]
abbrev TO: ∀ k,bL.V→TupD D (Jz k)→bL.V
 | 1,c,t=> {c with jH:=t.1,uh:=t.2.1}
 | 2,c,t=> {c with b4:=t.1,ue:=t.2.1,v20:=t.2.2.1,qv:=t.2.2.2.1}
 | 3,c,t=> {c with b4:=t.1,r6:=t.2.1.1,ue:=t.2.2.1,v20:=t.2.2.2.1,qv:=t.2.2.2.2.1,Al:=t.2.2.2.2.2.1}
 | _,c,_=>c
abbrev TP: ∀ k,bL.V→TupD D (Jz k)
 | 1,c=>(c.jH,c.uh,())
 | 2,c=>(c.b4,c.ue,c.v20,c.qv,())
 | 3,c=>(c.b4,(c.r6,()),c.ue,c.v20,c.qv,c.Al,())
 | 0,c=>()
 | _+4,c=>()
abbrev N2 (Q:bL.QT):Nat→List (bL.V→Prop)→bL.V→Prop
 | 1,[],c=>bL.K1 Q c
 | 2,[S2],c=>bL.B2 S2 Q c
 | 3,[S2],c=>bL.K3 S2 Q c
 | _,_,_=>False
abbrev TQ (Q:QT Db):Pts D:=Pts.ja Jz TO TP (by intro k b t; match k,t with | 0,t | 1,t | 2,t | 3,t | _+4,t=>rfl) (fun σ=>N2 (fun r0 r1=>Q (r0,r1,()) (()) σ))
abbrev xZ:Ctrs D:=((37,Db)::TN)
abbrev vv (b:Unit):=((fun x0 _ K=>fA x0 (fun r=>K r ())):(List Int)→Unit→(Bool→Unit→Prop)→Prop)
abbrev mA:Ctr D:= {ps:=[.rd (.list (.int .u8)), .fn 31 []],rs:=[vi],bk:=[],sg:=false,P:=fun x σ Q=>aA (vv ()) x.1 () (fun r0 _=>Q (r0,()) () σ)}
noncomputable def JA:Code:=Tryz.f60.body.getD .skip
def JB:Ann:=(sl (.seq (sl (.block (.loop 1 [0,1,7,8] (sl (.seq (.cond lf lf) (.seq (.block (sl (sl (.cond s2 lf)))) lf)))))) s2))
abbrev s5:Nat→List Ds
 | 1=>[.rd (.list (.int .u8)), .fn 31 [],vi,vi]
 | _=>[]
abbrev FK: ∀ k,aA.V × Unit→TupD D (s5 k)→aA.V × Unit
 | 1,c,t=>({c.1 with s0:=t.1,v7:=t.2.2.1,v8:=t.2.2.2.1},())
 | _,c,_=>c
abbrev FL: ∀ k,aA.V × Unit→TupD D (s5 k)
 | 1,c=>(c.1.s0,(()),c.1.v7,c.1.v8,())
 | 0,c=>()
 | _+2,c=>()
abbrev Dc (Q:aA.QT Unit) (b:Unit):Nat→List (aA.V→Unit→Prop)→aA.V→Unit→Prop
 | 1,[S1],c,z=>aA.B1 (vv b) S1 Q c z
 | _,_,_,_=>False
abbrev FM (Q:QT mA):Pts D:=Pts.mkB s5 FK FL (by intro k b t; match k,t with | 0,t | 1,t | _+2,t=>rfl) (fun b σ=>Dc (fun r0 _=>Q (r0,()) () σ) b)
abbrev x4:Ctrs D:=((60,mA)::xZ)
abbrev Dd (b:Unit):=((fun x0 _ K=>fA x0 (fun r=>K r ())):(List Int)→Unit→(Bool→Unit→Prop)→Prop)
abbrev mB:Ctr D:= {ps:=[.rd (.list (.int .u8)), .fn 31 []],rs:=[vb],bk:=[],sg:=false,P:=fun x σ Q=>cw (Dd ()) x.1 () (fun r0 _=>Q (r0,()) () σ)}
noncomputable def JC:Code:=Tryz.f32.body.getD .skip
def JD:Ann:=(sl s2)
abbrev FN (Q:QT mB):Pts D:=Pts.no
abbrev C9:Ctrs D:=((32,mB)::x4)
abbrev N3:Ctr D:= {ps:=[.val .ptr, .val (.vec .u8 32),vu, .rd (.list (.int .u8))],rs:=[.own (.st 3), .val (.st 2),vi],bk:=[],sg:=true,P:=fun x o Q=>match o with
 | some σ=>bn x.1 x.2.1 x.2.2.1 x.2.2.2.1 σ (fun r0 r1 r2 σ1=>Q (r0,r1,r2,()) (()) (some σ1))
 | none=>False}
noncomputable def c9:Code:=Tryz.f9.body.getD .skip
def A9:Ann:=(sl (sl (sl (.seq (.join 1 [3,4,5,6,9,11,35] lf (.cond s2 lf)) (sl (sl (sl (.seq (sl (.block (.loop 2 [3,9,11,14,15,16,38,39,40,4,5,6] (sl (.seq (.cond lf lf) (.seq (.block s2) lf)))))) (.seq (sl (.block (.loop 3 [9,11,14,15,16,19,4,5,6] (.seq (sl (.cond lf lf)) (.seq (.block (sl (.seq (.plan (.take 0 [11] (.take 1 [11] (.take 2 [11] (.take 3 [11] (.take 4 [11] (.take 5 [11] (.take 6 [11] (.take 7 [11] (.take 8 [11] (.take 9 [11] (.take 10 [11] (.all (.alt 11 (.take 12 [] (.take 13 [] (.take 14 [] (.take 15 [] (.take 16 [] .done))))) .nil)))))))))))))) lf))) lf))))) (.seq (.plan (.take 0 [8] (.take 1 [8] (.take 2 [8] (.take 3 [8] (.take 4 [8] (.take 5 [8] (.take 6 [8] (.take 7 [8] (.all (.alt 8 (.take 9 [] .done) .nil))))))))))) lf))))))))))
abbrev TR:Nat→List Ds
 | 1=>[.rd (.list (.int .u8)), .blk 86 [.v .ptr], .blk 22 [.v (.vec .u8 32)], .blk 23 [.v (.int .u32)], .blk 31 [.v (.st 2)], .blk 48 [.v (.st 0)],vb]
 | 2=>[.rd (.list (.int .u8)), .blk 31 [.v (.st 2)], .blk 48 [.v (.st 0)], .blk 29 [.own (.st 3)], .blk 56 [.own (.st 2)], .al 33 [2,4,9,10,11,3], .rd (.list (.int .u8)),vi,vi, .blk 86 [.v .ptr], .blk 22 [.v (.vec .u8 32)], .blk 23 [.v (.int .u32)]]
 | 3=>[.blk 31 [.v (.st 2)], .blk 48 [.v (.st 0)], .blk 29 [.own (.st 3)], .blk 56 [.own (.st 2)], .al 33 [1,3,6,7,8,2],vi, .blk 86 [.v .ptr], .blk 22 [.v (.vec .u8 32)], .blk 23 [.v (.int .u32)]]
 | _=>[]
abbrev Z0: ∀ k,bn.V→TupD D (TR k)→bn.V
 | 1,c,t=> {c with dU:=t.1,b4:=t.2.1.1,sF:=t.2.2.1.1,ju:=t.2.2.2.1.1,v9:=t.2.2.2.2.1.1,n7:=t.2.2.2.2.2.1.1,fC:=t.2.2.2.2.2.2.1}
 | 2,c,t=> {c with dU:=t.1,v9:=t.2.1.1,n7:=t.2.2.1.1,eU:=t.2.2.2.1.1,dV:=t.2.2.2.2.1.1,uj:=t.2.2.2.2.2.2.1,qw:=t.2.2.2.2.2.2.2.1,Ba:=t.2.2.2.2.2.2.2.2.1,gK:=t.2.2.2.2.2.2.2.2.2.1.1,gL:=t.2.2.2.2.2.2.2.2.2.2.1.1,gM:=t.2.2.2.2.2.2.2.2.2.2.2.1.1}
 | 3,c,t=> {c with v9:=t.1.1,n7:=t.2.1.1,eU:=t.2.2.1.1,dV:=t.2.2.2.1.1,gF:=t.2.2.2.2.2.1,gK:=t.2.2.2.2.2.2.1.1,gL:=t.2.2.2.2.2.2.2.1.1,gM:=t.2.2.2.2.2.2.2.2.1.1}
 | _,c,_=>c
abbrev Z1: ∀ k,bn.V→TupD D (TR k)
 | 1,c=>(c.dU,(c.b4,()),(c.sF,()),(c.ju,()),(c.v9,()),(c.n7,()),c.fC,())
 | 2,c=>(c.dU,(c.v9,()),(c.n7,()),(c.eU,()),(c.dV,()),(),c.uj,c.qw,c.Ba,(c.gK,()),(c.gL,()),(c.gM,()),())
 | 3,c=>((c.v9,()),(c.n7,()),(c.eU,()),(c.dV,()),(),c.gF,(c.gK,()),(c.gL,()),(c.gM,()),())
 | 0,c=>()
 | _+4,c=>()
abbrev TS (Q:bn.QT):Nat→List (bn.V→St Pt.Obj→Prop)→bn.V→St Pt.Obj→Prop
 | 1,[],c,σ=>bn.K1 Q c σ
 | 2,[S2],c,σ=>bn.B2 S2 Q c σ
 | 3,[S3],c,σ=>bn.B3 S3 Q c σ
 | _,_,_,_=>False
abbrev Z2 (Q:QT N3):Pts D:=Pts.mkS TR Z0 Z1 (by intro k b t; match k,t with | 0,t | 1,t | 2,t | 3,t | _+4,t=>rfl) (TS (fun r0 r1 r2 σ1=>Q (r0,r1,r2,()) (()) (some σ1)))
abbrev TT:Ctrs D:=((9,N3)::C9)
abbrev De:Ctr D:= {ps:=[vi],rs:=[.val (.st 4),vi],bk:=[],sg:=false,P:=fun x σ Q=>au x.1 (fun r0 r1=>Q (r0,r1,()) (()) σ)}
noncomputable def Z3:Code:=Tryz.f13.body.getD .skip
def Z4:Ann:=(sl (.seq (.join 1 [0,2,16] lf (.cond s2 lf)) (sl (.seq (sl (.block (.loop 2 [0,2,4,5] (.seq (sl (.cond lf lf)) (.seq (.block s2) lf))))) (sl (.seq (sl (.block (.loop 3 [2,4,6,7,8] (.seq (.join 4 [2,4,6,7,8,41] lf (.cond lf lf)) (.seq (.block (sl (.seq (sl (.block (.loop 5 [2,4,6,7,8,9,10] (.seq (sl (.cond lf lf)) (.seq (.block (sl s2)) lf))))) lf))) lf))))) s2))))))
abbrev JE:Nat→List Ds
 | 1=>[vi, .blk 52 [.v (.int .i64), .own (.int .i64), .own (.int .i64)],vb]
 | 2=>[vi, .blk 52 [.v (.int .i64), .own (.int .i64), .own (.int .i64)], .blk 52 [.v (.int .i64), .own (.int .i64), .own (.int .i64)],vi]
 | 3=>[.blk 52 [.v (.int .i64), .own (.int .i64), .own (.int .i64)], .blk 52 [.v (.int .i64), .own (.int .i64), .own (.int .i64)],vi,vi,vi]
 | 4=>[.blk 52 [.v (.int .i64), .own (.int .i64), .own (.int .i64)], .blk 52 [.v (.int .i64), .own (.int .i64), .own (.int .i64)],vi,vi,vi,vb]
 | 5=>[.blk 52 [.v (.int .i64), .own (.int .i64), .own (.int .i64)], .blk 52 [.v (.int .i64), .own (.int .i64), .own (.int .i64)],vi,vi,vi,vi,vi]
 | _=>[]
abbrev TU: ∀ k,au.V→TupD D (JE k)→au.V
 | 1,c,t=> {c with cI:=t.1,v2:=⟨t.2.1.1,t.2.1.2.1,t.2.1.2.2.1⟩,n8:=t.2.2.1}
 | 2,c,t=> {c with cI:=t.1,v2:=⟨t.2.1.1,t.2.1.2.1,t.2.1.2.2.1⟩,s4:=⟨t.2.2.1.1,t.2.2.1.2.1,t.2.2.1.2.2.1⟩,i5:=t.2.2.2.1}
 | 3,c,t=> {c with v2:=⟨t.1.1,t.1.2.1,t.1.2.2.1⟩,s4:=⟨t.2.1.1,t.2.1.2.1,t.2.1.2.2.1⟩,dY:=t.2.2.1,dP:=t.2.2.2.1,cT:=t.2.2.2.2.1}
 | 4,c,t=> {c with v2:=⟨t.1.1,t.1.2.1,t.1.2.2.1⟩,s4:=⟨t.2.1.1,t.2.1.2.1,t.2.1.2.2.1⟩,dY:=t.2.2.1,dP:=t.2.2.2.1,cT:=t.2.2.2.2.1,Iu:=t.2.2.2.2.2.1}
 | 5,c,t=> {c with v2:=⟨t.1.1,t.1.2.1,t.1.2.2.1⟩,s4:=⟨t.2.1.1,t.2.1.2.1,t.2.1.2.2.1⟩,dY:=t.2.2.1,dP:=t.2.2.2.1,cT:=t.2.2.2.2.1,n9:=t.2.2.2.2.2.1,Bb:=t.2.2.2.2.2.2.1}
 | _,c,_=>c
abbrev TV: ∀ k,au.V→TupD D (JE k)
 | 1,c=>(c.cI,(c.v2.P,c.v2.Level,c.v2.di,()),c.n8,())
 | 2,c=>(c.cI,(c.v2.P,c.v2.Level,c.v2.di,()),(c.s4.P,c.s4.Level,c.s4.di,()),c.i5,())
 | 3,c=>((c.v2.P,c.v2.Level,c.v2.di,()),(c.s4.P,c.s4.Level,c.s4.di,()),c.dY,c.dP,c.cT,())
 | 4,c=>((c.v2.P,c.v2.Level,c.v2.di,()),(c.s4.P,c.s4.Level,c.s4.di,()),c.dY,c.dP,c.cT,c.Iu,())
 | 5,c=>((c.v2.P,c.v2.Level,c.v2.di,()),(c.s4.P,c.s4.Level,c.s4.di,()),c.dY,c.dP,c.cT,c.n9,c.Bb,())
 | 0,c=>()
 | _+6,c=>()
abbrev N4 (Q:au.QT):Nat→List (au.V→Prop)→au.V→Prop
 | 1,[],c=>au.K1 Q c
 | 2,[S2],c=>au.B2 S2 Q c
 | 3,[S3],c=>au.B3 S3 Q c
 | 4,[S3],c=>au.K4 S3 Q c
 | 5,[S5,S3],c=>au.B5 S3 S5 Q c
 | _,_,_=>False
abbrev TW (Q:QT De):Pts D:=Pts.ja JE TU TV (by intro k b t; match k,t with | 0,t | 1,t | 2,t | 3,t | 4,t | 5,t | _+6,t=>rfl) (fun σ=>N4 (fun r0 r1=>Q (r0,r1,()) (()) σ))
abbrev TX:Ctrs D:=((13,De)::TT)
abbrev Df:Ctr D:= {ps:=[.val (.st 4),vi],rs:=[vb],bk:=[],sg:=false,P:=fun x σ Q=>cD x.1 x.2.1 (fun r0=>Q (r0,()) (()) σ)}
noncomputable def Z5:Code:=Tryz.f67.body.getD .skip
def Z6:Ann:=(sl s2)
abbrev TY (Q:QT Df):Pts D:=Pts.no
abbrev TZ:Ctrs D:=((67,Df)::TX)
abbrev Dg:Ctr D:= {ps:=[.val (.st 4),vi],rs:=[.own (.int .i64)],bk:=[],sg:=false,P:=fun x σ Q=>ax x.1 x.2.1 (fun r0=>Q (r0,()) (()) σ)}
noncomputable def Z7:Code:=Tryz.f38.body.getD .skip
def Z8:Ann:=(sl (sl (.seq (.join 1 [1,2,5,18] lf (.cond s2 lf)) (.seq (sl (.block (.loop 2 [1,2,5,6] (.seq (.join 3 [1,2,5,6,45] (.plan (.take 0 [] (.take 1 [] (.take 2 [] (.take 3 [] (.take 4 [] (.take 5 [] (.take 6 [] (.take 7 [] (.take 8 [] (.take 9 [] (.take 10 [] (.take 11 [] (.take 12 [] (.take 13 [] (.take 14 [] (.take 15 [] (.take 16 [] (.take 17 [] (.take 18 [] (.take 19 [] (.take 20 [] (.take 21 [] .done))))))))))))))))))))))) (.cond lf lf)) (.seq (.block lf) lf))))) s2))))
abbrev JF:Nat→List Ds
 | 1=>[vi, .blk 52 [.v (.st 4)], .own (.int .i64),vb]
 | 2=>[vi, .blk 52 [.v (.st 4)], .own (.int .i64),vi]
 | 3=>[vi, .blk 52 [.v (.st 4)], .own (.int .i64),vi,vb]
 | _=>[]
abbrev T5: ∀ k,ax.V→TupD D (JF k)→ax.V
 | 1,c,t=> {c with bT:=t.1,s2:=t.2.1.1,eY:=t.2.2.1,iQ:=t.2.2.2.1}
 | 2,c,t=> {c with bT:=t.1,s2:=t.2.1.1,eY:=t.2.2.1,k6:=t.2.2.2.1}
 | 3,c,t=> {c with bT:=t.1,s2:=t.2.1.1,eY:=t.2.2.1,k6:=t.2.2.2.1,KZ:=t.2.2.2.2.1}
 | _,c,_=>c
abbrev T6: ∀ k,ax.V→TupD D (JF k)
 | 1,c=>(c.bT,(c.s2,()),c.eY,c.iQ,())
 | 2,c=>(c.bT,(c.s2,()),c.eY,c.k6,())
 | 3,c=>(c.bT,(c.s2,()),c.eY,c.k6,c.KZ,())
 | 0,c=>()
 | _+4,c=>()
abbrev N5 (Q:ax.QT):Nat→List (ax.V→Prop)→ax.V→Prop
 | 1,[],c=>ax.K1 Q c
 | 2,[S2],c=>ax.B2 S2 Q c
 | 3,[S2],c=>ax.K3 S2 Q c
 | _,_,_=>False
abbrev T7 (Q:QT Dg):Pts D:=Pts.ja JF T5 T6 (by intro k b t; match k,t with | 0,t | 1,t | 2,t | 3,t | _+4,t=>rfl) (fun σ=>N5 (fun r0=>Q (r0,()) (()) σ))
abbrev T8:Ctrs D:=((38,Dg)::TZ)
abbrev Dh:Ctr D:= {ps:=[.val (.st 5)],rs:=[.own (.int .u8)],bk:=[],sg:=false,P:=fun x σ Q=>bt x.1 (fun r0=>Q (r0,()) (()) σ)}
noncomputable def Z9:Code:=Tryz.f68.body.getD .skip
def A68:Ann:=(sl (sl (.seq (sl (.block (.loop 1 [1,3,4] (.seq (sl (.cond lf lf)) (.seq (.block lf) lf))))) s2)))
abbrev JG:Nat→List Ds
 | 1=>[.blk 36 [.v (.st 5)], .own (.int .u8),vi]
 | _=>[]
abbrev T9: ∀ k,bt.V→TupD D (JG k)→bt.V
 | 1,c,t=> {c with r1:=t.1.1,cr:=t.2.1,i4:=t.2.2.1}
 | _,c,_=>c
abbrev Ua: ∀ k,bt.V→TupD D (JG k)
 | 1,c=>((c.r1,()),c.cr,c.i4,())
 | 0,c=>()
 | _+2,c=>()
abbrev N6 (Q:bt.QT):Nat→List (bt.V→Prop)→bt.V→Prop
 | 1,[S1],c=>bt.B1 S1 Q c
 | _,_,_=>False
abbrev Ub (Q:QT Dh):Pts D:=Pts.ja JG T9 Ua (by intro k b t; match k,t with | 0,t | 1,t | _+2,t=>rfl) (fun σ=>N6 (fun r0=>Q (r0,()) (()) σ))
abbrev Uc:Ctrs D:=((68,Dh)::T8)
abbrev Di:Ctr D:= {ps:=[.rd (.st 5)],rs:=[.own (.int .u8),vi],bk:=[],sg:=false,P:=fun x σ Q=>aD x.1 (fun r0 r1=>Q (r0,r1,()) (()) σ)}
noncomputable def c39:Code:=Tryz.f39.body.getD .skip
def A39:Ann:=(sl (.seq (.join 1 [0,13] lf (.cond s2 lf)) (sl (.seq (sl (.block (.loop 2 [0,4,5] (.seq (sl (.cond lf lf)) (.seq (.block (.seq (.join 3 [0,4,5,37] lf (.cond s2 lf)) lf)) lf))))) (.seq (.block (.loop 4 [4] (.seq (sl (.cond lf lf)) (.block lf)))) s2)))))
abbrev JH:Nat→List Ds
 | 1=>[.rd (.st 5),vb]
 | 2=>[.rd (.st 5), .own (.int .u8),vi]
 | 3=>[.rd (.st 5), .own (.int .u8),vi,vb]
 | 4=>[.own (.int .u8)]
 | _=>[]
abbrev Ud: ∀ k,aD.V→TupD D (JH k)→aD.V
 | 1,c,t=> {c with l0:=t.1,BJ:=t.2.1}
 | 2,c,t=> {c with l0:=t.1,jv:=t.2.1,i5:=t.2.2.1}
 | 3,c,t=> {c with l0:=t.1,jv:=t.2.1,i5:=t.2.2.1,Md:=t.2.2.2.1}
 | 4,c,t=> {c with jv:=t.1}
 | _,c,_=>c
abbrev Ue: ∀ k,aD.V→TupD D (JH k)
 | 1,c=>(c.l0,c.BJ,())
 | 2,c=>(c.l0,c.jv,c.i5,())
 | 3,c=>(c.l0,c.jv,c.i5,c.Md,())
 | 4,c=>(c.jv,())
 | 0,c=>()
 | _+5,c=>()
abbrev N7 (Q:aD.QT):Nat→List (aD.V→Prop)→aD.V→Prop
 | 1,[],c=>aD.K1 Q c
 | 2,[S2],c=>aD.B2 S2 Q c
 | 3,[S2],c=>aD.K3 S2 Q c
 | 4,[S4],c=>aD.B4 S4 Q c
 | _,_,_=>False
abbrev Uf (Q:QT Di):Pts D:=Pts.ja JH Ud Ue (by intro k b t; match k,t with | 0,t | 1,t | 2,t | 3,t | 4,t | _+5,t=>rfl) (fun σ=>N7 (fun r0 r1=>Q (r0,r1,()) (()) σ))
abbrev JI:Ctrs D:=((39,Di)::Uc)
abbrev vA:Ctr D:= {ps:=[rb],rs:=[vu],bk:=[],sg:=false,P:=fun x σ Q=>dG x.1 (fun r0=>Q (r0,()) (()) σ)}
noncomputable def Ug:Code:=Tryz.f115.body.getD .skip
def Uh:Ann:=(sl (.seq (.plan (.take 0 [] (.take 1 [] (.take 2 [] (.take 3 [] (.take 4 [] (.take 5 [] (.take 6 [] (.take 7 [] (.take 8 [] (.take 9 [] (.take 10 [] (.take 11 [] (.take 12 [] (.take 13 [] (.take 14 [] (.take 15 [] (.take 16 [] (.take 17 [] (.take 18 [] (.take 19 [] (.take 20 [] (.take 21 [] (.take 22 [] .done)))))))))))))))))))))))) lf))
abbrev N8 (Q:QT vA):Pts D:=Pts.no
abbrev JJ:Ctrs D:=((115,vA)::JI)
abbrev vB:Ctr D:= {ps:=[],rs:=[.own (.list (.int .i64))],bk:=[],sg:=false,P:=fun x σ Q=>gG (fun r0=>Q (r0,()) (()) σ)}
noncomputable def Ui:Code:=Tryz.f116.body.getD .skip
def Uj:Ann:=(sl s2)
abbrev N9 (Q:QT vB):Pts D:=Pts.no
abbrev JK:Ctrs D:=((116,vB)::JJ)
abbrev vC:Ctr D:= {ps:=[vu,vi],rs:=[vu],bk:=[],sg:=false,P:=fun x σ Q=>aT x.1 x.2.1 (fun r0=>Q (r0,()) (()) σ)}
noncomputable def Uk:Code:=Tryz.f125.body.getD .skip
def Ul:Ann:=(sl (.seq (sl (.block (.loop 1 [0,1,5] (.seq (sl (.cond lf lf)) (.seq (.block lf) lf))))) s2))
abbrev Dj:Nat→List Ds
 | 1=>[vu,vi,vi]
 | _=>[]
abbrev Oa: ∀ k,aT.V→TupD D (Dj k)→aT.V
 | 1,c,t=> {c with x0:=t.1,n1:=t.2.1,i5:=t.2.2.1}
 | _,c,_=>c
abbrev Ob: ∀ k,aT.V→TupD D (Dj k)
 | 1,c=>(c.x0,c.n1,c.i5,())
 | 0,c=>()
 | _+2,c=>()
abbrev JL (Q:aT.QT):Nat→List (aT.V→Prop)→aT.V→Prop
 | 1,[S1],c=>aT.B1 S1 Q c
 | _,_,_=>False
abbrev Oc (Q:QT vC):Pts D:=Pts.ja Dj Oa Ob (by intro k b t; match k,t with | 0,t | 1,t | _+2,t=>rfl) (fun σ=>JL (fun r0=>Q (r0,()) (()) σ))
abbrev JM:Ctrs D:=((125,vC)::JK)
abbrev vD:Ctr D:= {ps:=[.val (.vec .u32 4)],rs:=[.val (.vec .u32 4)],bk:=[],sg:=false,P:=fun x σ Q=>cS x.1 (fun r0=>Q (r0,()) (()) σ)}
noncomputable def Um:Code:=Tryz.f117.body.getD .skip
def Un:Ann:=(sl (.seq (.plan (.take 0 [] (.take 1 [] (.take 2 [] (.take 3 [] (.take 4 [] (.take 5 [] (.take 6 [] (.take 7 [] (.take 8 [] (.take 9 [] (.take 10 [] (.take 11 [] .done))))))))))))) (sl (sl (sl (sl (sl (sl (sl (sl s2))))))))))
abbrev Od (Q:QT vD):Pts D:=Pts.no
abbrev JN:Ctrs D:=((117,vD)::JM)
abbrev vE:Ctr D:= {ps:=[.val (.vec .u8 32), .val (.vec .u8 12),vu],rs:=[.val (.vec .u8 64)],bk:=[],sg:=false,P:=fun x σ Q=>aa x.1 x.2.1 x.2.2.1 (fun r0=>Q (r0,()) (()) σ)}
noncomputable def Uo:Code:=Tryz.f105.body.getD .skip
def Up:Ann:=(sl (sl (.seq (sl (.block (.loop 1 [2,3,4,6,7,8] (.seq (sl (.cond lf lf)) (.seq (.block lf) lf))))) (sl (.seq (sl (.block (.loop 2 [4,6,7,9] (.seq (sl (.cond lf lf)) (.seq (.block lf) lf))))) (sl (.seq (sl (.block (.loop 3 [6,7,10,11] (.seq (sl (.cond lf lf)) (.seq (.block (sl (.block (.loop 4 [6,7,10,11,59,60,61] (sl (.seq (.cond lf lf) (.seq (.block (sl (.join 6 [6,7,10,11,13,14,59,60,61] (.plan (.take 0 [25,27] (.take 1 [25,27] (.take 2 [25,27] (.take 3 [25,27] (.take 4 [25,27] (.take 5 [25,27] (.take 6 [25,27] (.take 7 [25,27] (.take 8 [25,27] (.take 9 [25,27] (.take 10 [25,27] (.take 11 [25,27] (.take 12 [25,27] (.take 13 [25,27] (.take 14 [25,27] (.take 15 [25,27] (.take 16 [25,27] (.take 17 [25,27] (.take 18 [25,27] (.take 19 [25,27] (.take 20 [25,27] (.take 21 [25,27] (.take 22 [25,27] (.take 23 [25,27] (.take 24 [25,27] (.all (.alt 25 (.all (.alt 26 (.all (.alt 27 .done .nil)) .nil)) (.alt 26 (.all (.alt 25 (.all (.alt 27 .done .nil)) .nil)) .nil))))))))))))))))))))))))))))) (sl (.block (.loop 5 [6,7,10,11,13,14,15,59,60,61] (.seq (sl (.cond lf lf)) (.seq (.block (.plan (.take 0 [9] (.take 1 [9] (.take 2 [9] (.take 3 [9] (.take 4 [9] (.take 5 [9] (.take 6 [9] (.take 7 [9] (.take 8 [9] (.all (.alt 9 .done .nil))))))))))))) lf)))))))) lf))))))) lf))))) (sl (.seq (sl (.block (.loop 7 [6,7,10,16,17] (.seq (sl (.cond lf lf)) (.seq (.block (.seq (.plan (.take 0 [] (.take 1 [] (.take 2 [] (.take 3 [] (.take 4 [] (.take 5 [] (.take 6 [] (.take 7 [] (.take 8 [] (.take 9 [] .done))))))))))) (sl (.block (.loop 8 [6,7,10,16,17,18,19] (.seq (sl (.cond lf lf)) (.seq (.block lf) lf))))))) lf))))) s2)))))))))
abbrev Dk:Nat→List Ds
 | 1=>[vu, .blk 22 [.v (.vec .u8 32)], .blk 136 [.v (.vec .u8 12)], .blk 161 [.v (.vec .u8 64)], .own (.int .u32),vi]
 | 2=>[.blk 136 [.v (.vec .u8 12)], .blk 161 [.v (.vec .u8 64)], .own (.int .u32),vi]
 | 3=>[.blk 161 [.v (.vec .u8 64)], .own (.int .u32), .own (.int .u32),vi]
 | 4=>[.blk 161 [.v (.vec .u8 64)], .own (.int .u32), .own (.int .u32),vi, .own (.list (.int .i64)),vi,vi]
 | 6=>[.blk 161 [.v (.vec .u8 64)], .own (.int .u32), .own (.int .u32),vi, .val (.list (.int .i64)), .blk 179 [.v (.vec .u32 4)], .own (.list (.int .i64)),vi,vi]
 | 5=>[.blk 161 [.v (.vec .u8 64)], .own (.int .u32), .own (.int .u32),vi, .val (.list (.int .i64)), .blk 179 [.v (.vec .u32 4)],vi, .own (.list (.int .i64)),vi,vi]
 | 7=>[.blk 161 [.v (.vec .u8 64)], .own (.int .u32), .own (.int .u32), .blk 161 [.v (.vec .u8 64)],vi]
 | 8=>[.blk 161 [.v (.vec .u8 64)], .own (.int .u32), .own (.int .u32), .blk 161 [.v (.vec .u8 64)],vi,vu,vi]
 | _=>[]
abbrev Oe: ∀ k,aa.V→TupD D (Dk k)→aa.V
 | 1,c,t=> {c with aU:=t.1,dn:=t.2.1.1,dR:=t.2.2.1.1,v6:=t.2.2.2.1.1,aH:=t.2.2.2.2.1,i8:=t.2.2.2.2.2.1}
 | 2,c,t=> {c with dR:=t.1.1,v6:=t.2.1.1,aH:=t.2.2.1,i9:=t.2.2.2.1}
 | 3,c,t=> {c with v6:=t.1.1,aH:=t.2.1,mI:=t.2.2.1,dH:=t.2.2.2.1}
 | 4,c,t=> {c with v6:=t.1.1,aH:=t.2.1,mI:=t.2.2.1,dH:=t.2.2.2.1,Bc:=t.2.2.2.2.1,qU:=t.2.2.2.2.2.1,lT:=t.2.2.2.2.2.2.1}
 | 6,c,t=> {c with v6:=t.1.1,aH:=t.2.1,mI:=t.2.2.1,dH:=t.2.2.2.1,En:=t.2.2.2.2.1,GH:=t.2.2.2.2.2.1.1,Bc:=t.2.2.2.2.2.2.1,qU:=t.2.2.2.2.2.2.2.1,lT:=t.2.2.2.2.2.2.2.2.1}
 | 5,c,t=> {c with v6:=t.1.1,aH:=t.2.1,mI:=t.2.2.1,dH:=t.2.2.2.1,En:=t.2.2.2.2.1,GH:=t.2.2.2.2.2.1.1,GI:=t.2.2.2.2.2.2.1,Bc:=t.2.2.2.2.2.2.2.1,qU:=t.2.2.2.2.2.2.2.2.1,lT:=t.2.2.2.2.2.2.2.2.2.1}
 | 7,c,t=> {c with v6:=t.1.1,aH:=t.2.1,mI:=t.2.2.1,jQ:=t.2.2.2.1.1,i17:=t.2.2.2.2.1}
 | 8,c,t=> {c with v6:=t.1.1,aH:=t.2.1,mI:=t.2.2.1,jQ:=t.2.2.2.1.1,i17:=t.2.2.2.2.1,Mf:=t.2.2.2.2.2.1,BK:=t.2.2.2.2.2.2.1}
 | _,c,_=>c
abbrev Of: ∀ k,aa.V→TupD D (Dk k)
 | 1,c=>(c.aU,(c.dn,()),(c.dR,()),(c.v6,()),c.aH,c.i8,())
 | 2,c=>((c.dR,()),(c.v6,()),c.aH,c.i9,())
 | 3,c=>((c.v6,()),c.aH,c.mI,c.dH,())
 | 4,c=>((c.v6,()),c.aH,c.mI,c.dH,c.Bc,c.qU,c.lT,())
 | 6,c=>((c.v6,()),c.aH,c.mI,c.dH,c.En,(c.GH,()),c.Bc,c.qU,c.lT,())
 | 5,c=>((c.v6,()),c.aH,c.mI,c.dH,c.En,(c.GH,()),c.GI,c.Bc,c.qU,c.lT,())
 | 7,c=>((c.v6,()),c.aH,c.mI,(c.jQ,()),c.i17,())
 | 8,c=>((c.v6,()),c.aH,c.mI,(c.jQ,()),c.i17,c.Mf,c.BK,())
 | 0,c=>()
 | _+9,c=>()
abbrev JO (Q:aa.QT):Nat→List (aa.V→Prop)→aa.V→Prop
 | 1,[S1],c=>aa.B1 S1 Q c
 | 2,[S2],c=>aa.B2 S2 Q c
 | 3,[S3],c=>aa.B3 S3 Q c
 | 4,[S4,S3],c=>aa.B4 S3 S4 Q c
 | 6,[S4,S3],c=>aa.K6 S3 S4 Q c
 | 5,[S5,S4,S3],c=>aa.B5 S3 S4 S5 Q c
 | 7,[S7],c=>aa.B7 S7 Q c
 | 8,[S8,S7],c=>aa.B8 S7 S8 Q c
 | _,_,_=>False
abbrev Og (Q:QT vE):Pts D:=Pts.ja Dk Oe Of (by intro k b t; match k,t with | 0,t | 1,t | 2,t | 3,t | 4,t | 5,t | 6,t | 7,t | 8,t | _+9,t=>rfl) (fun σ=>JO (fun r0=>Q (r0,()) (()) σ))
abbrev Uq:Ctrs D:=((105,vE)::JN)
abbrev Dl:Ctr D:= {ps:=[.val (.vec .u8 32), .val (.vec .u8 12),vu,vi],rs:=[.own (.int .u8)],bk:=[],sg:=false,P:=fun x σ Q=>aF x.1 x.2.1 x.2.2.1 x.2.2.2.1 (fun r0=>Q (r0,()) (()) σ)}
noncomputable def c89:Code:=Tryz.f89.body.getD .skip
def A89:Ann:=(sl (.seq (.join 1 [2,3,4,5,16] lf (.cond s2 lf)) (sl (.seq (.block (.loop 2 [2,3,4,5,9] (.seq (sl (.cond lf lf)) (.block (sl s2))))) s2))))
abbrev JP:Nat→List Ds
 | 1=>[vu,vi, .blk 22 [.v (.vec .u8 32)], .blk 136 [.v (.vec .u8 12)],vb]
 | 2=>[vu,vi, .blk 22 [.v (.vec .u8 32)], .blk 136 [.v (.vec .u8 12)], .own (.int .u8)]
 | _=>[]
abbrev Ur: ∀ k,aF.V→TupD D (JP k)→aF.V
 | 1,c,t=> {c with aU:=t.1,fV:=t.2.1,fG:=t.2.2.1.1,eL:=t.2.2.2.1.1,n8:=t.2.2.2.2.1}
 | 2,c,t=> {c with aU:=t.1,fV:=t.2.1,fG:=t.2.2.1.1,eL:=t.2.2.2.1.1,dX:=t.2.2.2.2.1}
 | _,c,_=>c
abbrev Us: ∀ k,aF.V→TupD D (JP k)
 | 1,c=>(c.aU,c.fV,(c.fG,()),(c.eL,()),c.n8,())
 | 2,c=>(c.aU,c.fV,(c.fG,()),(c.eL,()),c.dX,())
 | 0,c=>()
 | _+3,c=>()
abbrev Oh (Q:aF.QT):Nat→List (aF.V→Prop)→aF.V→Prop
 | 1,[],c=>aF.K1 Q c
 | 2,[S2],c=>aF.B2 S2 Q c
 | _,_,_=>False
abbrev Ut (Q:QT Dl):Pts D:=Pts.ja JP Ur Us (by intro k b t; match k,t with | 0,t | 1,t | 2,t | _+3,t=>rfl) (fun σ=>Oh (fun r0=>Q (r0,()) (()) σ))
abbrev Uu:Ctrs D:=((89,Dl)::Uq)
abbrev Dm:Ctr D:= {ps:=[.val (.vec .u8 32), .val (.vec .u8 12),vu,rb],rs:=[.own (.int .u8)],bk:=[],sg:=false,P:=fun x σ Q=>aY x.1 x.2.1 x.2.2.1 x.2.2.2.1 (fun r0=>Q (r0,()) (()) σ)}
noncomputable def c75:Code:=Tryz.f75.body.getD .skip
def A75:Ann:=(sl (sl (sl (.seq (sl (.block (.loop 1 [3,9,10,11] (.seq (sl (.cond lf lf)) (.seq (.block (.plan (.take 0 [12] (.take 1 [12] (.take 2 [12] (.take 3 [12] (.take 4 [12] (.take 5 [12] (.take 6 [12] (.take 7 [12] (.take 8 [12] (.take 9 [12] (.take 10 [12] (.take 11 [12] (.all (.alt 12 .done .nil)))))))))))))))) lf))))) s2))))
abbrev JQ:Nat→List Ds
 | 1=>[rb, .own (.int .u8), .own (.int .u8),vi]
 | _=>[]
abbrev Uv: ∀ k,aY.V→TupD D (JQ k)→aY.V
 | 1,c,t=> {c with b3:=t.1,s9:=t.2.1,lU:=t.2.2.1,i11:=t.2.2.2.1}
 | _,c,_=>c
abbrev Uw: ∀ k,aY.V→TupD D (JQ k)
 | 1,c=>(c.b3,c.s9,c.lU,c.i11,())
 | 0,c=>()
 | _+2,c=>()
abbrev Oi (Q:aY.QT):Nat→List (aY.V→Prop)→aY.V→Prop
 | 1,[S1],c=>aY.B1 S1 Q c
 | _,_,_=>False
abbrev Ux (Q:QT Dm):Pts D:=Pts.ja JQ Uv Uw (by intro k b t; match k,t with | 0,t | 1,t | _+2,t=>rfl) (fun σ=>Oi (fun r0=>Q (r0,()) (()) σ))
abbrev Uy:Ctrs D:=((75,Dm)::Uu)
abbrev Dn:Ctr D:= {ps:=[vu, .val (.int .u64)],rs:=[.val (.vec .u8 12)],bk:=[],sg:=false,P:=fun x σ Q=>aI x.1 x.2.1 (fun r0=>Q (r0,()) (()) σ)}
noncomputable def c76:Code:=Tryz.f76.body.getD .skip
def A76:Ann:=(sl (sl (.seq (sl (.block (.loop 1 [0,1,4,5,6] (.seq (sl (.cond lf lf)) (.seq (.block lf) lf))))) (.seq (sl (.block (.loop 2 [1,4,5,7] (.seq (sl (.cond lf lf)) (.seq (.block lf) lf))))) s2))))
abbrev JR:Nat→List Ds
 | 1=>[vu, .val (.int .u64), .blk 136 [.v (.vec .u8 12)], .blk 136 [.v (.vec .u8 12)],vi]
 | 2=>[.val (.int .u64), .blk 136 [.v (.vec .u8 12)], .blk 136 [.v (.vec .u8 12)],vi]
 | _=>[]
abbrev Uz: ∀ k,aI.V→TupD D (JR k)→aI.V
 | 1,c,t=> {c with eE:=t.1,dJ:=t.2.1,v4:=t.2.2.1.1,eY:=t.2.2.2.1.1,i6:=t.2.2.2.2.1}
 | 2,c,t=> {c with dJ:=t.1,v4:=t.2.1.1,eY:=t.2.2.1.1,i7:=t.2.2.2.1}
 | _,c,_=>c
abbrev UA: ∀ k,aI.V→TupD D (JR k)
 | 1,c=>(c.eE,c.dJ,(c.v4,()),(c.eY,()),c.i6,())
 | 2,c=>(c.dJ,(c.v4,()),(c.eY,()),c.i7,())
 | 0,c=>()
 | _+3,c=>()
abbrev Oj (Q:aI.QT):Nat→List (aI.V→Prop)→aI.V→Prop
 | 1,[S1],c=>aI.B1 S1 Q c
 | 2,[S2],c=>aI.B2 S2 Q c
 | _,_,_=>False
abbrev UB (Q:QT Dn):Pts D:=Pts.ja JR Uz UA (by intro k b t; match k,t with | 0,t | 1,t | 2,t | _+3,t=>rfl) (fun σ=>Oj (fun r0=>Q (r0,()) (()) σ))
abbrev UC:Ctrs D:=((76,Dn)::Uy)
abbrev Dp:Ctr D:= {ps:=[.val (.vec .u8 32),vu,vi,rb],rs:=[.own (.int .u8),vi],bk:=[],sg:=false,P:=fun x σ Q=>aZ x.1 x.2.1 x.2.2.1 x.2.2.2.1 (fun r0 r1=>Q (r0,r1,()) (()) σ)}
noncomputable def c69:Code:=Tryz.f69.body.getD .skip
def A69:Ann:=(sl (.seq (.join 1 [1,2,3,4,16] lf (.cond s2 lf)) (.seq (.plan (.take 0 [6] (.take 1 [4,6] (.take 2 [4,6] (.take 3 [4,6] (.take 5 [6] (.all (.alt 4 (.all (.alt 6 (.take 7 [] (.take 8 [] .done)) .nil)) .nil)))))))) lf)))
abbrev JS:Nat→List Ds
 | 1=>[vu,vi,rb, .blk 22 [.v (.vec .u8 32)],vb]
 | _=>[]
abbrev UD: ∀ k,aZ.V→TupD D (JS k)→aZ.V
 | 1,c,t=> {c with bu:=t.1,dS:=t.2.1,fH:=t.2.2.1,fG:=t.2.2.2.1.1,n8:=t.2.2.2.2.1}
 | _,c,_=>c
abbrev UE: ∀ k,aZ.V→TupD D (JS k)
 | 1,c=>(c.bu,c.dS,c.fH,(c.fG,()),c.n8,())
 | 0,c=>()
 | _+2,c=>()
abbrev Ok (Q:aZ.QT):Nat→List (aZ.V→Prop)→aZ.V→Prop
 | 1,[],c=>aZ.K1 Q c
 | _,_,_=>False
abbrev UF (Q:QT Dp):Pts D:=Pts.ja JS UD UE (by intro k b t; match k,t with | 0,t | 1,t | _+2,t=>rfl) (fun σ=>Ok (fun r0 r1=>Q (r0,r1,()) (()) σ))
abbrev JT:Ctrs D:=((69,Dp)::UC)
abbrev vF:Ctr D:= {ps:=[vi],rs:=[.own (.int .u64)],bk:=[],sg:=false,P:=fun x σ Q=>an x.1 (fun r0=>Q (r0,()) (()) σ)}
noncomputable def UG:Code:=Tryz.f101.body.getD .skip
def UH:Ann:=(sl (sl (.seq (sl (.block (.loop 1 [0,3,4] (.seq (sl (.cond lf lf)) (.join 4 [0,3,4] (.block (sl (.seq (sl (.block (.loop 2 [0,3,4,5,6] (.seq (sl (.cond lf lf)) (.join 3 [0,3,4,5,6] (.block lf) lf))))) (sl (.cond lf lf))))) lf))))) s2)))
abbrev Dq:Nat→List Ds
 | 1=>[vi, .own (.int .u64), .val (.int .u64)]
 | 4=>[vi, .own (.int .u64), .val (.int .u64)]
 | 2=>[vi, .own (.int .u64), .val (.int .u64),vb,vi]
 | 3=>[vi, .own (.int .u64), .val (.int .u64),vb,vi]
 | _=>[]
abbrev Ol: ∀ k,an.V→TupD D (Dq k)→an.V
 | 1,c,t=> {c with n0:=t.1,cr:=t.2.1,p4:=t.2.2.1}
 | 4,c,t=> {c with n0:=t.1,cr:=t.2.1,p4:=t.2.2.1}
 | 2,c,t=> {c with n0:=t.1,cr:=t.2.1,p4:=t.2.2.1,Eo:=t.2.2.2.1,i6:=t.2.2.2.2.1}
 | 3,c,t=> {c with n0:=t.1,cr:=t.2.1,p4:=t.2.2.1,Eo:=t.2.2.2.1,i6:=t.2.2.2.2.1}
 | _,c,_=>c
abbrev Om: ∀ k,an.V→TupD D (Dq k)
 | 1,c=>(c.n0,c.cr,c.p4,())
 | 4,c=>(c.n0,c.cr,c.p4,())
 | 2,c=>(c.n0,c.cr,c.p4,c.Eo,c.i6,())
 | 3,c=>(c.n0,c.cr,c.p4,c.Eo,c.i6,())
 | 0,c=>()
 | _+5,c=>()
abbrev JU (Q:an.QT):Nat→List (an.V→Prop)→an.V→Prop
 | 1,[S1],c=>an.B1 S1 Q c
 | 4,[S1],c=>an.K4 S1 Q c
 | 2,[S2,S1],c=>an.B2 S1 S2 Q c
 | 3,[S2,S1],c=>an.K3 S1 S2 Q c
 | _,_,_=>False
abbrev On (Q:QT vF):Pts D:=Pts.ja Dq Ol Om (by intro k b t; match k,t with | 0,t | 1,t | 2,t | 3,t | 4,t | _+5,t=>rfl) (fun σ=>JU (fun r0=>Q (r0,()) (()) σ))
abbrev JV:Ctrs D:=((101,vF)::JT)
abbrev vG:Ctr D:= {ps:=[.val (.int .u64), .val (.int .u64)],rs:=[.val (.int .u64), .val (.int .u64)],bk:=[],sg:=false,P:=fun x σ Q=>cJ x.1 x.2.1 (fun r0 r1=>Q (r0,r1,()) (()) σ)}
noncomputable def UI:Code:=Tryz.f114.body.getD .skip
def UJ:Ann:=(sl (sl (sl (sl (sl s2)))))
abbrev Oo (Q:QT vG):Pts D:=Pts.no
abbrev JW:Ctrs D:=((114,vG)::JV)
abbrev vH:Ctr D:= {ps:=[.val (.int .u64)],rs:=[vu],bk:=[],sg:=false,P:=fun x σ Q=>aC x.1 (fun r0=>Q (r0,()) (()) σ)}
noncomputable def UK:Code:=Tryz.f102.body.getD .skip
def UL:Ann:=(sl (sl (.seq (sl (.block (.loop 1 [0,3,4] (.seq (sl (.cond lf lf)) (.join 4 [0,3,4] (.block (sl (sl (sl (sl (sl (sl (.join 3 [0,3,4,5,9,12,13] (sl (.cond lf lf)) (sl (.join 2 [0,3,4,5,67] lf (.cond lf lf))))))))))) lf))))) s2)))
abbrev Dr:Nat→List Ds
 | 1=>[.val (.int .u64), .val (.int .u64),vi]
 | 4=>[.val (.int .u64), .val (.int .u64),vi]
 | 3=>[.val (.int .u64), .val (.int .u64),vi, .val (.int .u64), .val (.int .u64), .val (.int .u64), .val (.int .u64)]
 | 2=>[.val (.int .u64), .val (.int .u64),vi, .val (.int .u64),vb]
 | _=>[]
abbrev Oq: ∀ k,aC.V→TupD D (Dr k)→aC.V
 | 1,c,t=> {c with p0:=t.1,r3:=t.2.1,k4:=t.2.2.1}
 | 4,c,t=> {c with p0:=t.1,r3:=t.2.1,k4:=t.2.2.1}
 | 3,c,t=> {c with p0:=t.1,r3:=t.2.1,k4:=t.2.2.1,x5:=t.2.2.2.1,K0:=t.2.2.2.2.1,oW:=t.2.2.2.2.2.1,qV:=t.2.2.2.2.2.2.1}
 | 2,c,t=> {c with p0:=t.1,r3:=t.2.1,k4:=t.2.2.1,x5:=t.2.2.2.1,xg:=t.2.2.2.2.1}
 | _,c,_=>c
abbrev Ot: ∀ k,aC.V→TupD D (Dr k)
 | 1,c=>(c.p0,c.r3,c.k4,())
 | 4,c=>(c.p0,c.r3,c.k4,())
 | 3,c=>(c.p0,c.r3,c.k4,c.x5,c.K0,c.oW,c.qV,())
 | 2,c=>(c.p0,c.r3,c.k4,c.x5,c.xg,())
 | 0,c=>()
 | _+5,c=>()
abbrev JX (Q:aC.QT):Nat→List (aC.V→Prop)→aC.V→Prop
 | 1,[S1],c=>aC.B1 S1 Q c
 | 4,[S1],c=>aC.K4 S1 Q c
 | 3,[S1],c=>aC.K3 S1 Q c
 | 2,[S1],c=>aC.K2 S1 Q c
 | _,_,_=>False
abbrev Ou (Q:QT vH):Pts D:=Pts.ja Dr Oq Ot (by intro k b t; match k,t with | 0,t | 1,t | 2,t | 3,t | 4,t | _+5,t=>rfl) (fun σ=>JX (fun r0=>Q (r0,()) (()) σ))
abbrev JY:Ctrs D:=((102,vH)::JW)
abbrev vI:Ctr D:= {ps:=[.val (.int .u64)],rs:=[vu],bk:=[],sg:=false,P:=fun x σ Q=>az x.1 (fun r0=>Q (r0,()) (()) σ)}
noncomputable def UM:Code:=Tryz.f103.body.getD .skip
def UN:Ann:=(sl (sl (.seq (sl (.block (.loop 1 [0,3,4] (.seq (sl (.cond lf lf)) (.join 3 [0,3,4] (.block (sl (sl (.join 2 [0,3,4,5,33] lf (.cond lf lf))))) lf))))) s2)))
abbrev Dt:Nat→List Ds
 | 1=>[.val (.int .u64), .val (.int .u64),vi]
 | 3=>[.val (.int .u64), .val (.int .u64),vi]
 | 2=>[.val (.int .u64), .val (.int .u64),vi, .val (.int .u64),vb]
 | _=>[]
abbrev Ov: ∀ k,az.V→TupD D (Dt k)→az.V
 | 1,c,t=> {c with p0:=t.1,r3:=t.2.1,k4:=t.2.2.1}
 | 3,c,t=> {c with p0:=t.1,r3:=t.2.1,k4:=t.2.2.1}
 | 2,c,t=> {c with p0:=t.1,r3:=t.2.1,k4:=t.2.2.1,x5:=t.2.2.2.1,La:=t.2.2.2.2.1}
 | _,c,_=>c
abbrev Ow: ∀ k,az.V→TupD D (Dt k)
 | 1,c=>(c.p0,c.r3,c.k4,())
 | 3,c=>(c.p0,c.r3,c.k4,())
 | 2,c=>(c.p0,c.r3,c.k4,c.x5,c.La,())
 | 0,c=>()
 | _+4,c=>()
abbrev JZ (Q:az.QT):Nat→List (az.V→Prop)→az.V→Prop
 | 1,[S1],c=>az.B1 S1 Q c
 | 3,[S1],c=>az.K3 S1 Q c
 | 2,[S1],c=>az.K2 S1 Q c
 | _,_,_=>False
abbrev Ox (Q:QT vI):Pts D:=Pts.ja Dt Ov Ow (by intro k b t; match k,t with | 0,t | 1,t | 2,t | 3,t | _+4,t=>rfl) (fun σ=>JZ (fun r0=>Q (r0,()) (()) σ))
abbrev UO:Ctrs D:=((103,vI)::JY)
abbrev Du:Ctr D:= {ps:=[],rs:=[.own (.int .u32), .own (.int .u32)],bk:=[],sg:=false,P:=fun x σ Q=>aM (fun r0 r1=>Q (r0,r1,()) (()) σ)}
noncomputable def c86:Code:=Tryz.f86.body.getD .skip
def A86:Ann:=(sl (sl (sl (.seq (sl (.block (.loop 1 [2,3,4,5] (.seq (sl (.cond lf lf)) (.seq (.block lf) lf))))) (.seq (sl (.block (.loop 2 [2,3,4,6] (.seq (sl (.cond lf lf)) (.seq (.block lf) lf))))) s2)))))
abbrev J0:Nat→List Ds
 | 1=>[.own (.int .u64), .own (.int .u32), .own (.int .u32),vi]
 | 2=>[.own (.int .u64), .own (.int .u32), .own (.int .u32),vi]
 | _=>[]
abbrev UP: ∀ k,aM.V→TupD D (J0 k)→aM.V
 | 1,c,t=> {c with l2:=t.1,k3:=t.2.1,gX:=t.2.2.1,t5:=t.2.2.2.1}
 | 2,c,t=> {c with l2:=t.1,k3:=t.2.1,gX:=t.2.2.1,t6:=t.2.2.2.1}
 | _,c,_=>c
abbrev UQ: ∀ k,aM.V→TupD D (J0 k)
 | 1,c=>(c.l2,c.k3,c.gX,c.t5,())
 | 2,c=>(c.l2,c.k3,c.gX,c.t6,())
 | 0,c=>()
 | _+3,c=>()
abbrev Oy (Q:aM.QT):Nat→List (aM.V→Prop)→aM.V→Prop
 | 1,[S1],c=>aM.B1 S1 Q c
 | 2,[S2],c=>aM.B2 S2 Q c
 | _,_,_=>False
abbrev UR (Q:QT Du):Pts D:=Pts.ja J0 UP UQ (by intro k b t; match k,t with | 0,t | 1,t | 2,t | _+3,t=>rfl) (fun σ=>Oy (fun r0 r1=>Q (r0,r1,()) (()) σ))
abbrev US:Ctrs D:=((86,Du)::UO)
abbrev Dv:Ctr D:= {ps:=[rb],rs:=[.own (.int .u8)],bk:=[],sg:=false,P:=fun x σ Q=>aN x.1 (fun r0=>Q (r0,()) (()) σ)}
noncomputable def c87:Code:=Tryz.f87.body.getD .skip
def A87:Ann:=(sl (sl (.seq (.block (.loop 1 [0,3] (.seq (sl (.cond lf lf)) (.block lf)))) (sl (.seq (sl (.block (.loop 2 [3,4,5] (.seq (sl (.cond lf lf)) (.seq (.block lf) lf))))) s2)))))
abbrev J1:Nat→List Ds
 | 1=>[rb, .own (.int .u8)]
 | 2=>[.own (.int .u8), .val (.int .u64),vi]
 | _=>[]
abbrev UT: ∀ k,aN.V→TupD D (J1 k)→aN.V
 | 1,c,t=> {c with b0:=t.1,cr:=t.2.1}
 | 2,c,t=> {c with cr:=t.1,n4:=t.2.1,i5:=t.2.2.1}
 | _,c,_=>c
abbrev UU: ∀ k,aN.V→TupD D (J1 k)
 | 1,c=>(c.b0,c.cr,())
 | 2,c=>(c.cr,c.n4,c.i5,())
 | 0,c=>()
 | _+3,c=>()
abbrev Oz (Q:aN.QT):Nat→List (aN.V→Prop)→aN.V→Prop
 | 1,[S1],c=>aN.B1 S1 Q c
 | 2,[S2],c=>aN.B2 S2 Q c
 | _,_,_=>False
abbrev UW (Q:QT Dv):Pts D:=Pts.ja J1 UT UU (by intro k b t; match k,t with | 0,t | 1,t | 2,t | _+3,t=>rfl) (fun σ=>Oz (fun r0=>Q (r0,()) (()) σ))
abbrev J4:Ctrs D:=((87,Dv)::US)
abbrev vJ:Ctr D:= {ps:=[vu,vi],rs:=[vu],bk:=[],sg:=false,P:=fun x σ Q=>aG x.1 x.2.1 (fun r0=>Q (r0,()) (()) σ)}
noncomputable def UX:Code:=Tryz.f104.body.getD .skip
def UY:Ann:=(sl (sl (.seq (sl (.block (.loop 1 [0,1,5] (.seq (sl (.cond lf lf)) (.seq (.block lf) lf))))) s2)))
abbrev Dw:Nat→List Ds
 | 1=>[vu,vi,vi]
 | _=>[]
abbrev OA: ∀ k,aG.V→TupD D (Dw k)→aG.V
 | 1,c,t=> {c with x0:=t.1,n1:=t.2.1,i5:=t.2.2.1}
 | _,c,_=>c
abbrev OC: ∀ k,aG.V→TupD D (Dw k)
 | 1,c=>(c.x0,c.n1,c.i5,())
 | 0,c=>()
 | _+2,c=>()
abbrev J5 (Q:aG.QT):Nat→List (aG.V→Prop)→aG.V→Prop
 | 1,[S1],c=>aG.B1 S1 Q c
 | _,_,_=>False
abbrev OD (Q:QT vJ):Pts D:=Pts.ja Dw OA OC (by intro k b t; match k,t with | 0,t | 1,t | _+2,t=>rfl) (fun σ=>J5 (fun r0=>Q (r0,()) (()) σ))
abbrev UZ:Ctrs D:=((104,vJ)::J4)
abbrev Dx:Ctr D:= {ps:=[.rd (.int .u32), .rd (.int .u32),rb],rs:=[.own (.int .u32)],bk:=[],sg:=false,P:=fun x σ Q=>aq x.1 x.2.1 x.2.2.1 (fun r0=>Q (r0,()) (()) σ)}
noncomputable def c88:Code:=Tryz.f88.body.getD .skip
def A88:Ann:=(sl (sl (.seq (sl (.block (.loop 1 [0,1,2,7,8] (.seq (sl (.cond lf lf)) (.join 2 [0,1,2,7,8] (.block (.seq (sl (.cond (.seq (.plan (.take 0 [35] (.take 1 [34,35] (.take 2 [34,35] (.take 3 [34,35] (.take 4 [34,35] (.take 5 [34,35] (.take 6 [34,35] (.take 7 [34,35] (.take 8 [34,35] (.take 9 [34,35] (.take 10 [34,35] (.take 11 [34,35] (.take 12 [34,35] (.take 13 [34,35] (.take 14 [34,35] (.take 15 [34,35] (.take 16 [34,35] (.take 17 [34,35] (.take 18 [34,35] (.take 19 [34,35] (.take 20 [34,35] (.take 21 [34,35] (.take 22 [34,35] (.take 23 [34,35] (.take 24 [34,35] (.take 25 [34,35] (.take 26 [34,35] (.take 27 [34,35] (.take 28 [34,35] (.take 29 [34,35] (.take 30 [34,35] (.take 31 [34,35] (.take 32 [34,35] (.take 33 [34,35] (.all (.alt 34 (.all (.alt 35 (.take 36 [] .done) .nil)) .nil))))))))))))))))))))))))))))))))))))) lf) lf)) (.seq (.plan (.take 0 [] (.take 1 [] (.take 2 [] (.take 3 [] (.take 4 [] (.take 5 [] (.take 6 [] (.take 7 [] (.take 8 [] (.take 9 [] (.take 10 [] (.take 11 [] .done))))))))))))) (sl (sl (.plan (.take 0 [17] (.take 1 [16,17] (.take 2 [16,17] (.take 3 [16,17] (.take 4 [16,17] (.take 5 [16,17] (.take 6 [16,17] (.take 7 [16,17] (.take 8 [16,17] (.take 9 [16,17] (.take 10 [16,17] (.take 11 [16,17] (.take 12 [16,17] (.take 13 [16,17] (.take 14 [16,17] (.take 15 [16,17] (.all (.alt 16 (.all (.alt 17 (.take 18 [] .done) .nil)) .nil)))))))))))))))))))))))) lf))))) (sl (.seq (sl (.block (.loop 3 [0,1,7,13,14] (.seq (sl (.cond lf lf)) (.seq (.block (.seq (.plan (.take 0 [] (.take 1 [] (.take 2 [] (.take 3 [] (.take 4 [] (.take 5 [] (.take 6 [] (.take 7 [] .done))))))))) (.seq (.plan (.take 0 [] (.take 1 [] (.take 2 [] (.take 3 [4,6,9] (.take 5 [6,9] (.take 8 [9] (.take 12 [] (.take 13 [] (.take 14 [] (.take 15 [] (.take 16 [] (.take 17 [] (.take 18 [] (.take 19 [] (.take 20 [] (.take 21 [] (.take 22 [] (.take 23 [] (.take 25 [] (.take 26 [] (.take 27 [] (.take 28 [] (.take 30 [] (.take 31 [] (.take 32 [] (.take 33 [] (.all (.alt 4 (.all (.alt 6 (.take 7 [] (.all (.alt 9 (.take 10 [] (.take 11 [] (.take 24 [] (.take 29 [] (.take 34 [] (.take 35 [] .done)))))) .nil))) .nil)) .nil))))))))))))))))))))))))))))) (.seq (.plan (.take 0 [1,3,6] (.take 2 [3,6] (.take 5 [6] (.take 8 [] (.take 9 [] (.take 10 [] (.take 11 [] (.take 12 [] (.take 13 [] (.take 14 [] (.take 15 [] (.take 16 [] (.take 17 [] (.take 18 [] (.take 19 [] (.take 20 [] (.take 21 [] (.take 22 [] (.take 23 [] (.take 24 [] (.take 25 [] (.take 26 [] (.all (.alt 1 (.all (.alt 3 (.take 4 [] (.all (.alt 6 (.take 7 [] (.take 27 [] (.take 28 [] .done))) .nil))) .nil)) .nil))))))))))))))))))))))))) (.plan (.take 0 [26] (.take 1 [26] (.take 2 [26] (.take 3 [26] (.take 4 [26] (.take 5 [26] (.take 6 [26] (.take 7 [26] (.take 8 [26] (.take 9 [26] (.take 10 [26] (.take 11 [26] (.take 12 [26] (.take 13 [26] (.take 14 [26] (.take 15 [26] (.take 16 [26] (.take 17 [26] (.take 18 [26] (.take 19 [26] (.take 20 [26] (.take 21 [26] (.take 22 [26] (.take 23 [26] (.take 24 [26] (.take 25 [26] (.all (.alt 26 (.take 27 [] .done) .nil))))))))))))))))))))))))))))))))) lf))))) (sl (.seq (sl (.block (.loop 4 [1,13,19,20] (.seq (sl (.cond lf lf)) (.seq (.block (.plan (.take 0 [11] (.take 1 [10,11] (.take 2 [10,11] (.take 3 [10,11] (.take 4 [10,11] (.take 5 [10,11] (.take 6 [10,11] (.take 7 [10,11] (.take 8 [10,11] (.take 9 [10,11] (.all (.alt 10 (.all (.alt 11 (.take 12 [] .done) .nil)) .nil)))))))))))))) lf))))) s2)))))))
abbrev J6:Nat→List Ds
 | 1=>[.rd (.int .u32), .rd (.int .u32),rb, .own (.int .u32),vi]
 | 2=>[.rd (.int .u32), .rd (.int .u32),rb, .own (.int .u32),vi]
 | 3=>[.rd (.int .u32), .rd (.int .u32), .own (.int .u32), .own (.int .u32),vi]
 | 4=>[.rd (.int .u32), .own (.int .u32), .own (.int .u32),vi]
 | _=>[]
abbrev U0: ∀ k,aq.V→TupD D (J6 k)→aq.V
 | 1,c,t=> {c with k0:=t.1,s1:=t.2.1,b2:=t.2.2.1,w7:=t.2.2.2.1,t8:=t.2.2.2.2.1}
 | 2,c,t=> {c with k0:=t.1,s1:=t.2.1,b2:=t.2.2.1,w7:=t.2.2.2.1,t8:=t.2.2.2.2.1}
 | 3,c,t=> {c with k0:=t.1,s1:=t.2.1,w7:=t.2.2.1,nI:=t.2.2.2.1,t14:=t.2.2.2.2.1}
 | 4,c,t=> {c with s1:=t.1,nI:=t.2.1,lV:=t.2.2.1,i20:=t.2.2.2.1}
 | _,c,_=>c
abbrev U1: ∀ k,aq.V→TupD D (J6 k)
 | 1,c=>(c.k0,c.s1,c.b2,c.w7,c.t8,())
 | 2,c=>(c.k0,c.s1,c.b2,c.w7,c.t8,())
 | 3,c=>(c.k0,c.s1,c.w7,c.nI,c.t14,())
 | 4,c=>(c.s1,c.nI,c.lV,c.i20,())
 | 0,c=>()
 | _+5,c=>()
abbrev OE (Q:aq.QT):Nat→List (aq.V→Prop)→aq.V→Prop
 | 1,[S1],c=>aq.B1 S1 Q c
 | 2,[S1],c=>aq.K2 S1 Q c
 | 3,[S3],c=>aq.B3 S3 Q c
 | 4,[S4],c=>aq.B4 S4 Q c
 | _,_,_=>False
abbrev U2 (Q:QT Dx):Pts D:=Pts.ja J6 U0 U1 (by intro k b t; match k,t with | 0,t | 1,t | 2,t | 3,t | 4,t | _+5,t=>rfl) (fun σ=>OE (fun r0=>Q (r0,()) (()) σ))
abbrev U3:Ctrs D:=((88,Dx)::UZ)
abbrev Dy:Ctr D:= {ps:=[rb],rs:=[.val (.vec .u8 32)],bk:=[],sg:=false,P:=fun x σ Q=>aO x.1 (fun r0=>Q (r0,()) (()) σ)}
noncomputable def c70:Code:=Tryz.f70.body.getD .skip
def A70:Ann:=(sl (sl (sl (.seq (sl (.block (.loop 1 [2,3,4,5,6] (.seq (sl (.cond lf lf)) (.seq (.block lf) lf))))) (sl (.seq (sl (.block (.loop 2 [2,4,7,8] (.seq (sl (.cond lf lf)) (.seq (.block lf) lf))))) s2))))))
abbrev J7:Nat→List Ds
 | 1=>[.blk 22 [.v (.vec .u8 32)], .own (.int .u32), .own (.int .u32), .own (.int .u8),vi]
 | 2=>[.blk 22 [.v (.vec .u8 32)], .own (.int .u32), .blk 22 [.v (.vec .u8 32)],vi]
 | _=>[]
abbrev U4: ∀ k,aO.V→TupD D (J7 k)→aO.V
 | 1,c,t=> {c with v2:=t.1.1,k3:=t.2.1,s4:=t.2.2.1,p5:=t.2.2.2.1,i6:=t.2.2.2.2.1}
 | 2,c,t=> {c with v2:=t.1.1,s4:=t.2.1,cR:=t.2.2.1.1,i8:=t.2.2.2.1}
 | _,c,_=>c
abbrev U5: ∀ k,aO.V→TupD D (J7 k)
 | 1,c=>((c.v2,()),c.k3,c.s4,c.p5,c.i6,())
 | 2,c=>((c.v2,()),c.s4,(c.cR,()),c.i8,())
 | 0,c=>()
 | _+3,c=>()
abbrev OF (Q:aO.QT):Nat→List (aO.V→Prop)→aO.V→Prop
 | 1,[S1],c=>aO.B1 S1 Q c
 | 2,[S2],c=>aO.B2 S2 Q c
 | _,_,_=>False
abbrev U6 (Q:QT Dy):Pts D:=Pts.ja J7 U4 U5 (by intro k b t; match k,t with | 0,t | 1,t | 2,t | _+3,t=>rfl) (fun σ=>OF (fun r0=>Q (r0,()) (()) σ))
abbrev U7:Ctrs D:=((70,Dy)::U3)
abbrev Dz:Ctr D:= {ps:=[.val (.vec .u8 32),vu,vi,vi,rb],rs:=[.own (.int .u8), .val (.st 5),vi],bk:=[],sg:=false,P:=fun x σ Q=>aK x.1 x.2.1 x.2.2.1 x.2.2.2.1 x.2.2.2.2.1 (fun r0 r1 r2=>Q (r0,r1,r2,()) (()) σ)}
noncomputable def c40:Code:=Tryz.f40.body.getD .skip
def A40:Ann:=(sl (sl (.seq (.join 1 [1,2,11,13,32] lf (.cond s2 lf)) s2)))
abbrev J8:Nat→List Ds
 | 1=>[vu,vi, .blk 36 [.v (.st 5)], .own (.int .u8),vb]
 | _=>[]
abbrev U8: ∀ k,aK.V→TupD D (J8 k)→aK.V
 | 1,c,t=> {c with bu:=t.1,cg:=t.2.1,v11:=t.2.2.1.1,Iy:=t.2.2.2.1,Al:=t.2.2.2.2.1}
 | _,c,_=>c
abbrev U9: ∀ k,aK.V→TupD D (J8 k)
 | 1,c=>(c.bu,c.cg,(c.v11,()),c.Iy,c.Al,())
 | 0,c=>()
 | _+2,c=>()
abbrev OG (Q:aK.QT):Nat→List (aK.V→Prop)→aK.V→Prop
 | 1,[],c=>aK.K1 Q c
 | _,_,_=>False
abbrev Va (Q:QT Dz):Pts D:=Pts.ja J8 U8 U9 (by intro k b t; match k,t with | 0,t | 1,t | _+2,t=>rfl) (fun σ=>OG (fun r0 r1 r2=>Q (r0,r1,r2,()) (()) σ))
abbrev Vb:Ctrs D:=((40,Dz)::U7)
abbrev DA:Ctr D:= {ps:=[.val (.st 4),vi,vi],rs:=[vi],bk:=[],sg:=false,P:=fun x σ Q=>ay x.1 x.2.1 x.2.2.1 (fun r0=>Q (r0,()) (()) σ)}
noncomputable def c41:Code:=Tryz.f41.body.getD .skip
def A41:Ann:=(sl (.seq (.join 1 [1,2,18] lf (.cond s2 lf)) s2))
abbrev J9:Nat→List Ds
 | 1=>[vi,vi,vb]
 | _=>[]
abbrev Vc: ∀ k,ay.V→TupD D (J9 k)→ay.V
 | 1,c,t=> {c with bT:=t.1,cg:=t.2.1,iQ:=t.2.2.1}
 | _,c,_=>c
abbrev Vd: ∀ k,ay.V→TupD D (J9 k)
 | 1,c=>(c.bT,c.cg,c.iQ,())
 | 0,c=>()
 | _+2,c=>()
abbrev OH (Q:ay.QT):Nat→List (ay.V→Prop)→ay.V→Prop
 | 1,[],c=>ay.K1 Q c
 | _,_,_=>False
abbrev Ve (Q:QT DA):Pts D:=Pts.ja J9 Vc Vd (by intro k b t; match k,t with | 0,t | 1,t | _+2,t=>rfl) (fun σ=>OH (fun r0=>Q (r0,()) (()) σ))
abbrev Vf:Ctrs D:=((41,DA)::Vb)
abbrev DB:Ctr D:= {ps:=[.val (.vec .u8 32),vu, .rd (.list (.int .u8))],rs:=[.own (.st 6), .val (.st 5),vi],bk:=[],sg:=false,P:=fun x σ Q=>ak x.1 x.2.1 x.2.2.1 (fun r0 r1 r2=>Q (r0,r1,r2,()) (()) σ)}
noncomputable def c10:Code:=Tryz.f10.body.getD .skip
def A10:Ann:=(sl (sl (.seq (sl (.cond s2 lf)) (sl (sl (.seq (sl (.block (.loop 1 [1,2,3,7,9,11,12,13] (.seq (sl (.cond lf lf)) (.seq (.block (sl (.join 3 [1,2,3,7,9,11,12,13,14] (sl (.cond lf (sl (.plan (.take 0 [11] (.take 1 [11] (.take 2 [11] (.take 3 [11] (.take 4 [11] (.take 5 [11] (.take 6 [11] (.take 7 [11] (.take 8 [11] (.take 9 [11] (.take 10 [11] (.all (.alt 11 (.take 12 [] (.take 13 [] (.take 14 [] (.take 15 [] .done)))) .nil))))))))))))))))) (.join 2 [1,2,3,7,9,11,12,13,16,17,18] (.plan (.take 0 [6,13] (.take 1 [6,13] (.take 2 [4,6,13] (.take 3 [4,6,13] (.take 5 [6,13] (.all (.alt 4 (.all (.alt 6 (.take 7 [13] (.take 8 [13] (.take 9 [13] (.take 10 [] (.all (.alt 11 (.take 12 [13] (.all (.alt 13 (.take 14 [] .done) .nil))) .nil)))))) (.alt 11 (.all (.alt 6 (.take 7 [13] (.take 8 [13] (.take 9 [13] (.take 10 [] (.take 12 [13] (.all (.alt 13 (.take 14 [] .done) .nil))))))) .nil)) .nil))) (.alt 11 (.all (.alt 4 (.all (.alt 6 (.take 7 [13] (.take 8 [13] (.take 9 [13] (.take 10 [] (.take 12 [13] (.all (.alt 13 (.take 14 [] .done) .nil))))))) .nil)) .nil)) .nil))))))))) (.seq (sl (.cond s2 lf)) s2))))) lf))))) (.seq (.plan (.take 0 [8] (.take 1 [8] (.take 2 [8] (.take 3 [8] (.take 4 [8] (.take 5 [8] (.take 6 [8] (.take 7 [8] (.all (.alt 8 (.take 9 [] .done) .nil))))))))))) lf)))))))
abbrev Ka:Nat→List Ds
 | 1=>[vu, .rd (.list (.int .u8)), .blk 22 [.v (.vec .u8 32)], .blk 36 [.v (.st 5)], .blk 52 [.v (.st 4)], .own (.st 6), .own (.st 5),vi]
 | 3=>[vu, .rd (.list (.int .u8)), .blk 22 [.v (.vec .u8 32)], .blk 36 [.v (.st 5)], .blk 52 [.v (.st 4)], .own (.st 6), .own (.st 5),vi, .val (.list (.int .u8))]
 | 2=>[vu, .rd (.list (.int .u8)), .blk 22 [.v (.vec .u8 32)], .blk 36 [.v (.st 5)], .blk 52 [.v (.st 4)], .own (.st 6), .own (.st 5),vi, .own (.int .u8), .blk 36 [.v (.st 5)],vi]
 | _=>[]
abbrev Vg: ∀ k,ak.V→TupD D (Ka k)→ak.V
 | 1,c,t=> {c with bu:=t.1,dO:=t.2.1,dn:=t.2.2.1.1,v7:=t.2.2.2.1.1,s9:=t.2.2.2.2.1.1,fJ:=t.2.2.2.2.2.1,dz:=t.2.2.2.2.2.2.1,i13:=t.2.2.2.2.2.2.2.1}
 | 3,c,t=> {c with bu:=t.1,dO:=t.2.1,dn:=t.2.2.1.1,v7:=t.2.2.2.1.1,s9:=t.2.2.2.2.1.1,fJ:=t.2.2.2.2.2.1,dz:=t.2.2.2.2.2.2.1,i13:=t.2.2.2.2.2.2.2.1,fX:=t.2.2.2.2.2.2.2.2.1}
 | 2,c,t=> {c with bu:=t.1,dO:=t.2.1,dn:=t.2.2.1.1,v7:=t.2.2.2.1.1,s9:=t.2.2.2.2.1.1,fJ:=t.2.2.2.2.2.1,dz:=t.2.2.2.2.2.2.1,i13:=t.2.2.2.2.2.2.2.1,BN:=t.2.2.2.2.2.2.2.2.1,yS:=t.2.2.2.2.2.2.2.2.2.1.1,f18:=t.2.2.2.2.2.2.2.2.2.2.1}
 | _,c,_=>c
abbrev Vh: ∀ k,ak.V→TupD D (Ka k)
 | 1,c=>(c.bu,c.dO,(c.dn,()),(c.v7,()),(c.s9,()),c.fJ,c.dz,c.i13,())
 | 3,c=>(c.bu,c.dO,(c.dn,()),(c.v7,()),(c.s9,()),c.fJ,c.dz,c.i13,c.fX,())
 | 2,c=>(c.bu,c.dO,(c.dn,()),(c.v7,()),(c.s9,()),c.fJ,c.dz,c.i13,c.BN,(c.yS,()),c.f18,())
 | 0,c=>()
 | _+4,c=>()
abbrev OI (Q:ak.QT):Nat→List (ak.V→Prop)→ak.V→Prop
 | 1,[S1],c=>ak.B1 S1 Q c
 | 3,[S1],c=>ak.K3 S1 Q c
 | 2,[S1],c=>ak.K2 S1 Q c
 | _,_,_=>False
abbrev Vi (Q:QT DB):Pts D:=Pts.ja Ka Vg Vh (by intro k b t; match k,t with | 0,t | 1,t | 2,t | 3,t | _+4,t=>rfl) (fun σ=>OI (fun r0 r1 r2=>Q (r0,r1,r2,()) (()) σ))
abbrev QI:Ctrs D:=((10,DB)::Vf)
abbrev AP:Ctr D:= {ps:=[rb,rb],rs:=[vb],bk:=[],sg:=false,P:=fun x σ Q=>bf x.1 x.2.1 (fun r0=>Q (r0,()) (()) σ)}
noncomputable def c11:Code:=Tryz.f11.body.getD .skip
def A11:Ann:=(sl (.seq (sl (.cond s2 lf)) (.seq (sl (.block (.loop 1 [0,1,5] (.seq (sl (.cond lf lf)) (.seq (.block (.seq (.plan (.take 0 [] (.take 1 [] (.take 2 [] (.take 3 [] (.take 4 [] (.take 5 [] (.take 6 [] (.take 7 [] (.take 8 [] .done)))))))))) (.cond s2 lf))) lf))))) s2)))
abbrev Kc:Nat→List Ds
 | 1=>[rb,rb,vi]
 | _=>[]
abbrev Vj: ∀ k,bf.V→TupD D (Kc k)→bf.V
 | 1,c,t=> {c with a0:=t.1,b1:=t.2.1,i5:=t.2.2.1}
 | _,c,_=>c
abbrev Vk: ∀ k,bf.V→TupD D (Kc k)
 | 1,c=>(c.a0,c.b1,c.i5,())
 | 0,c=>()
 | _+2,c=>()
abbrev OJ (Q:bf.QT):Nat→List (bf.V→Prop)→bf.V→Prop
 | 1,[S1],c=>bf.B1 S1 Q c
 | _,_,_=>False
abbrev Vl (Q:QT AP):Pts D:=Pts.ja Kc Vj Vk (by intro k b t; match k,t with | 0,t | 1,t | _+2,t=>rfl) (fun σ=>OJ (fun r0=>Q (r0,()) (()) σ))
abbrev QJ:Ctr D:= {ps:=[],rs:=[vb],bk:=[],sg:=false,P:=fun x σ Q=>dr (fun r0=>Q (r0,()) (()) σ)}
abbrev C3:Ctrs D:=((7,QJ)::((11,AP)::QI))
abbrev OK:Ctr D:= {ps:=[.val (.vec .u8 32),vu, .val (.list (.list (.int .u8)))],rs:=[vb],bk:=[],sg:=true,P:=fun x o Q=>match o with
 | some σ=>af x.1 x.2.1 x.2.2.1 σ (fun r0 σ1=>Q (r0,()) (()) (some σ1))
 | none=>False}
noncomputable def c3:Code:=Tryz.f3.body.getD .skip
def A3:Ann:=(sl (.seq (sl (.cond s2 lf)) (.seq (sl (.block (.loop 1 [1,3,22,23,24] (sl (.seq (.cond lf lf) (.seq (.block (sl (sl (sl (.seq (.join 2 [1,3,9,12,22,23,24,58] lf (.cond s2 lf)) (sl (.block (.loop 3 [1,3,9,12,22,23,24,60,61] (sl (.seq (.cond lf lf) (.seq (.block (sl (.join 4 [1,3,9,12,22,23,24,60,61,88] (.plan (.take 0 [22] (.take 1 [22] (.take 2 [22] (.take 3 [22] (.take 4 [22] (.take 5 [22] (.take 6 [22] (.take 7 [22] (.take 8 [22] (.take 9 [22] (.take 10 [22] (.take 11 [22] (.take 12 [22] (.take 13 [22] (.take 14 [22] (.take 15 [22] (.take 16 [22] (.take 17 [22] (.take 18 [22] (.take 19 [22] (.take 20 [22] (.take 21 [22] (.all (.alt 22 (.take 23 [] (.take 24 [] .done)) .nil))))))))))))))))))))))))) (.cond s2 lf)))) lf))))))))))) lf)))))) s2)))
abbrev Vm:Nat→List Ds
 | 1=>[vu, .blk 22 [.v (.vec .u8 32)], .own (.list (.list (.int .u8))),vi,vi]
 | 2=>[vu, .blk 22 [.v (.vec .u8 32)], .own (.st 3), .own (.st 6), .own (.list (.list (.int .u8))),vi,vi,vb]
 | 3=>[vu, .blk 22 [.v (.vec .u8 32)], .own (.st 3), .own (.st 6), .own (.list (.list (.int .u8))),vi,vi,vi,vi]
 | 4=>[vu, .blk 22 [.v (.vec .u8 32)], .own (.st 3), .own (.st 6), .own (.list (.list (.int .u8))),vi,vi,vi,vi,vb]
 | _=>[]
abbrev up3: ∀ k,af.V→TupD D (Vm k)→af.V
 | 1,c,t=> {c with bu:=t.1,dn:=t.2.1.1,fU:=t.2.2.1,jI:=t.2.2.2.1,kJ:=t.2.2.2.2.1}
 | 2,c,t=> {c with bu:=t.1,dn:=t.2.1.1,a9:=t.2.2.1,iA:=t.2.2.2.1,fU:=t.2.2.2.2.1,jI:=t.2.2.2.2.2.1,kJ:=t.2.2.2.2.2.2.1,Ld:=t.2.2.2.2.2.2.2.1}
 | 3,c,t=> {c with bu:=t.1,dn:=t.2.1.1,a9:=t.2.2.1,iA:=t.2.2.2.1,fU:=t.2.2.2.2.1,jI:=t.2.2.2.2.2.1,kJ:=t.2.2.2.2.2.2.1,qU:=t.2.2.2.2.2.2.2.1,lT:=t.2.2.2.2.2.2.2.2.1}
 | 4,c,t=> {c with bu:=t.1,dn:=t.2.1.1,a9:=t.2.2.1,iA:=t.2.2.2.1,fU:=t.2.2.2.2.1,jI:=t.2.2.2.2.2.1,kJ:=t.2.2.2.2.2.2.1,qU:=t.2.2.2.2.2.2.2.1,lT:=t.2.2.2.2.2.2.2.2.1,MW:=t.2.2.2.2.2.2.2.2.2.1}
 | _,c,_=>c
abbrev ls3: ∀ k,af.V→TupD D (Vm k)
 | 1,c=>(c.bu,(c.dn,()),c.fU,c.jI,c.kJ,())
 | 2,c=>(c.bu,(c.dn,()),c.a9,c.iA,c.fU,c.jI,c.kJ,c.Ld,())
 | 3,c=>(c.bu,(c.dn,()),c.a9,c.iA,c.fU,c.jI,c.kJ,c.qU,c.lT,())
 | 4,c=>(c.bu,(c.dn,()),c.a9,c.iA,c.fU,c.jI,c.kJ,c.qU,c.lT,c.MW,())
 | 0,c=>()
 | _+5,c=>()
abbrev Vn (Q:af.QT):Nat→List (af.V→St Pt.Obj→Prop)→af.V→St Pt.Obj→Prop
 | 1,[S1],c,σ=>af.B1 S1 Q c σ
 | 2,[S1],c,σ=>af.K2 S1 Q c σ
 | 3,[S3,S1],c,σ=>af.B3 S1 S3 Q c σ
 | 4,[S3,S1],c,σ=>af.K4 S1 S3 Q c σ
 | _,_,_,_=>False
abbrev pt3 (Q:QT OK):Pts D:=Pts.mkS Vm up3 ls3 (by intro k b t; match k,t with | 0,t | 1,t | 2,t | 3,t | 4,t | _+5,t=>rfl) (Vn (fun r0 σ1=>Q (r0,()) (()) (some σ1)))
end Go.Proofs.YtkgbogibfogjgaaGreatDoor.Ek
