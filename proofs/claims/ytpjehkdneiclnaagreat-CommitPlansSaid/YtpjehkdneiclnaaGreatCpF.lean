import Derived.Test.YtpjehkdneiclnaaGreatCpB
import Derived.Test.YtpjehkdneiclnaaGreatCpE
import Derived.Test.YtpjehkdneiclnaaGreatProg
set_option linter.unusedVariables false
set_option linter.unusedSimpArgs false
set_option maxHeartbeats 4000000
set_option maxRecDepth 100000
namespace Go.Pt
open Go Go.Wc Go.Pu
variable {ρ:Ids} {h:Hp} {A:List At}
structure bE where
  cE:List Int
  deriving DecidableEq
structure aL where
  P:Int
  Level:List Int
  fM:List Int
  deriving DecidableEq
structure ax where
  Place:Int
  bO:Int
  bD:Vector Int 32
  deriving DecidableEq
structure aq where
  Item:Int
  Refs:List ax
  deriving DecidableEq
def fq : Rp ax where
  n:=34
  P:=fun h M vs x=>vs=([.int .i64 x.Place, .int .u32 x.bO]:List Value)++lumpV .u8 32 x.bD.toList
  len:=by
    rintro _ _ _ x rfl
    simp [cJ]
  one:=by
    rintro _ _ _ x rfl
    repeat (first | exact dD rfl | exact dD (dn _ _ _) | refine tC ?_ ?_)
  mono:=by
    rintro _ _ _ _ _ x hL rfl
    exact rfl
def ee : Rp aq where
  n:=2
  P:=fun h M vs x=> ∃ (a0:Option Addr) (c0:Nat),vs=[.int .i64 x.Item, .slice a0 x.Refs.length c0]∧SlE fq h M a0 c0 x.Refs
  len:=by
    rintro _ _ _ x ⟨a0,c0,rfl,h0⟩
    rfl
  one:=by
    rintro _ _ _ x ⟨a0,c0,rfl,h0⟩
    exact dD rfl
  mono:=by
    rintro _ _ _ _ _ x hL ⟨a0,c0,rfl,h0⟩
    exact ⟨a0,c0,rfl,h0.mono hL⟩
structure an where
  dx:Int
  Bytes:List Int
  deriving DecidableEq
def ef : Rp an where
  n:=2
  P:=fun h M vs x=> ∃ (a0:Option Addr) (c0:Nat),vs=[.int .i64 x.dx, .slice a0 x.Bytes.length c0]∧SlE (rI .u8) h M a0 c0 x.Bytes
  len:=by
    rintro _ _ _ x ⟨a0,c0,rfl,h0⟩
    rfl
  one:=by
    rintro _ _ _ x ⟨a0,c0,rfl,h0⟩
    exact dD rfl
  mono:=by
    rintro _ _ _ _ _ x hL ⟨a0,c0,rfl,h0⟩
    exact ⟨a0,c0,rfl,h0.mono hL⟩
structure bf where
  dx:Int
  Bytes:List Int
  deriving DecidableEq
def eA : Rp bf where
  n:=2
  P:=fun h M vs x=> ∃ (a0:Option Addr) (c0:Nat),vs=[.int .i64 x.dx, .slice a0 x.Bytes.length c0]∧SlE (rI .u8) h M a0 c0 x.Bytes
  len:=by
    rintro _ _ _ x ⟨a0,c0,rfl,h0⟩
    rfl
  one:=by
    rintro _ _ _ x ⟨a0,c0,rfl,h0⟩
    exact dD rfl
  mono:=by
    rintro _ _ _ _ _ x hL ⟨a0,c0,rfl,h0⟩
    exact ⟨a0,c0,rfl,h0.mono hL⟩
theorem uy {h:Hp} {A:List At} {vs:List Value} {x:bf} {G:Prop} (I:Inv h (repA eA vs x::A)) (k: ∀ a0 c0,vs=[.int .i64 x.dx, .slice a0 x.Bytes.length c0]→Inv h (roS (rI .u8) a0 x.Bytes.length c0 x.Bytes::A)→G):G:=by
  obtain ⟨F,M,⟨hF,a0,c0,e,h0⟩,hFM,hn,hlt,HH⟩:=I.turn
  exact k a0 c0 e (HH h [roS (rI .u8) a0 x.Bytes.length c0 x.Bytes] [[]] (Keep.refl _ _) (by simp) (by simp) fun M' hL _ _=>⟨⟨rfl,rfl,h0.mono hL⟩,trivial⟩)
theorem sV {h:Hp} {A:List At} {a':At} {a:Option Addr} {nl c:Nat} {l:List bf} {i:Int} {K':bf→Prop} {K:Addr→Prop} (hX:Rd eA a' a nl c l) (I:Inv h (a'::A)) (H:ixP l i K')
    (k: ∀ p x a0 c0,EAdr a 2 i p→(0≤i∧i<l.length)→hcell h (p.add 0)=some (.int .i64 x.dx)→hcell h (p.add 1)=some (.slice a0 x.Bytes.length c0)→Inv h (roS (rI .u8) a0 x.Bytes.length c0 x.Bytes::a'::A)→K' x→K p):ixW a nl i 2 K:=
  GW hX I (by decide) H fun p vs x he _ hc I hx=>uy I fun a0 c0 e I=>k p x a0 c0 he (oc H) (hc 0 _ (by subst e; rfl)) (hc 1 _ (by subst e; rfl)) I hx
structure aF where
  Place:Int
  bO:Int
  bD:Vector Int 32
  deriving DecidableEq
def er : Rp aF where
  n:=34
  P:=fun h M vs x=>vs=([.int .i64 x.Place, .int .u32 x.bO]:List Value)++lumpV .u8 32 x.bD.toList
  len:=by
    rintro _ _ _ x rfl
    simp [cJ]
  one:=by
    rintro _ _ _ x rfl
    repeat (first | exact dD rfl | exact dD (dn _ _ _) | refine tC ?_ ?_)
  mono:=by
    rintro _ _ _ _ _ x hL rfl
    exact rfl
theorem En {h:Hp} {A:List At} {vs:List Value} {x:aF} {G:Prop} (I:Inv h (repA er vs x::A)) (k:vs=([.int .i64 x.Place, .int .u32 x.bO]:List Value)++lumpV .u8 32 x.bD.toList→Inv h (A)→G):G:=by
  obtain ⟨F,M,⟨hF,e⟩,hFM,hn,hlt,HH⟩:=I.turn
  exact k e (HH h [] [] (Keep.refl _ _) (by simp) (by simp) fun M' hL _ _=>trivial)
theorem uz {h:Hp} {A:List At} {a':At} {a:Option Addr} {nl c:Nat} {l:List aF} {i:Int} {K':aF→Prop} {K:Addr→Prop} (hX:Rd er a' a nl c l) (I:Inv h (a'::A)) (H:ixP l i K')
    (k: ∀ p x,EAdr a 34 i p→(0≤i∧i<l.length)→hcell h (p.add 0)=some (.int .i64 x.Place)→hcell h (p.add 1)=some (.int .u32 x.bO)→lfact .u8 32 x.bD.toList (p.add 2) h→Inv h (a'::A)→K' x→K p):ixW a nl i 34 K:=
  GW hX I (by decide) H fun p vs x he _ hc I hx=>En I fun e I=>k p x he (oc H) (hc 0 _ (by subst e; rfl)) (hc 1 _ (by subst e; rfl)) (GX hc 2 (by subst e; exact GY _ _ (by simp [cJ]))) I hx
theorem uA {h:Hp} {A:List At} {a':At} {a:Option Addr} {nl c:Nat} {l:List aF} {i:Int} {p:Addr} {x:aF} (hX:Rd er a' a nl c l) (I:Inv h (a'::A)) (he:EAdr a 34 i p) (hb:0≤i∧i<l.length) (hg:l[i.toNat]? =some x):hcell h (p.add 0)=some (.int .i64 x.Place)∧hcell h (p.add 1)=some (.int .u32 x.bO)∧lfact .u8 32 x.bD.toList (p.add 2) h:=by
  have key:ixW a nl i 34 (fun q=>q=p→hcell h (p.add 0)=some (.int .i64 x.Place)∧hcell h (p.add 1)=some (.int .u32 x.bO)∧lfact .u8 32 x.bD.toList (p.add 2) h):=uz (K':=fun y=>y=x) hX I ⟨hb.1,x,hg,rfl⟩ fun q y _ _ f0 f1 f2 _ e hq=>by
    subst e hq; exact ⟨f0,f1,f2⟩
  obtain ⟨b,e1,_,e3⟩:=key
  obtain ⟨b2,e4,e5⟩:=he
  rw [e1] at e4; cases e4
  exact e3 e5.symm
theorem wK {h:Hp} {A:List At} (x:aF) (I:Inv h A):Inv h (repA er (([.int .i64 x.Place, .int .u32 x.bO]:List Value)++lumpV .u8 32 x.bD.toList) x::A):=I.addP fun M _=>⟨rfl,rfl⟩
structure aO where
  Item:Int
  Refs:List aF
  deriving DecidableEq
def dY : Rp aO where
  n:=2
  P:=fun h M vs x=> ∃ (a0:Option Addr) (c0:Nat),vs=[.int .i64 x.Item, .slice a0 x.Refs.length c0]∧SlE er h M a0 c0 x.Refs
  len:=by
    rintro _ _ _ x ⟨a0,c0,rfl,h0⟩
    rfl
  one:=by
    rintro _ _ _ x ⟨a0,c0,rfl,h0⟩
    exact dD rfl
  mono:=by
    rintro _ _ _ _ _ x hL ⟨a0,c0,rfl,h0⟩
    exact ⟨a0,c0,rfl,h0.mono hL⟩
theorem xO {h:Hp} {A:List At} {a0:Option Addr} {n0 c0:Nat} (x:aO) (I:Inv h (roS er a0 n0 c0 x.Refs::A)):Inv h (repA dY ([.int .i64 x.Item, .slice a0 n0 c0]) x::A):=by
  refine I.conv fun F M ⟨hF,e0,h0⟩=>⟨hF,a0,c0,by rw [e0],h0⟩
structure cO where
  h:Vector Int 8
  rest:List Int
  n:Int
  deriving DecidableEq
structure eM where
  texts:List (List Int)
  deriving DecidableEq
structure cv where
  Block:Int
  Bytes:List Int
  deriving DecidableEq
structure aD where
  book:Option Addr
  key:Vector Int 32
  fu:Int
  shape:bE
  root:aF
  nodes:Option (List (Int × List aF))
  dL:List cv
def eU : Rp cv where
  n:=2
  P:=fun h M vs x=> ∃ (a0:Option Addr) (c0:Nat),vs=[.int .i64 x.Block, .slice a0 x.Bytes.length c0]∧SlE (rI .u8) h M a0 c0 x.Bytes
  len:=by
    rintro _ _ _ x ⟨a0,c0,rfl,h0⟩
    rfl
  one:=by
    rintro _ _ _ x ⟨a0,c0,rfl,h0⟩
    exact dD rfl
  mono:=by
    rintro _ _ _ _ _ x hL ⟨a0,c0,rfl,h0⟩
    exact ⟨a0,c0,rfl,h0.mono hL⟩
theorem oP {h:Hp} {A:List At} {a0:Option Addr} {n0 c0:Nat} (x:cv) (I:Inv h (roS (rI .u8) a0 n0 c0 x.Bytes::A)):Inv h (repA eU ([.int .i64 x.Block, .slice a0 n0 c0]) x::A):=by
  refine I.conv fun F M ⟨hF,e0,h0⟩=>⟨hF,a0,c0,by rw [e0],h0⟩
structure cN where
  Block:Int
  Bytes:List Int
  deriving DecidableEq
def jw : Rp cN where
  n:=2
  P:=fun h M vs x=> ∃ (a0:Option Addr) (c0:Nat),vs=[.int .i64 x.Block, .slice a0 x.Bytes.length c0]∧SlE (rI .u8) h M a0 c0 x.Bytes
  len:=by
    rintro _ _ _ x ⟨a0,c0,rfl,h0⟩
    rfl
  one:=by
    rintro _ _ _ x ⟨a0,c0,rfl,h0⟩
    exact dD rfl
  mono:=by
    rintro _ _ _ _ _ x hL ⟨a0,c0,rfl,h0⟩
    exact ⟨a0,c0,rfl,h0.mono hL⟩
structure bS where
  fL:List cN
  fC:List aq
  cH:ax
  nZ:Int
  deriving DecidableEq
structure dr where
  me:Int
  Key:Vector Int 32
  bO:Int
  cH:ax
  deriving DecidableEq
def mC : Rp bE where
  n:=1
  P:=fun h M vs x=> ∃ (a0:Option Addr) (c0:Nat),vs=[.slice a0 x.cE.length c0]∧SlE (rI .i64) h M a0 c0 x.cE
  len:=by
    rintro _ _ _ x ⟨a0,c0,rfl,h0⟩
    rfl
  one:=by
    rintro _ _ _ x ⟨a0,c0,rfl,h0⟩
    exact dD rfl
  mono:=by
    rintro _ _ _ _ _ x hL ⟨a0,c0,rfl,h0⟩
    exact ⟨a0,c0,rfl,h0.mono hL⟩
theorem qj {h:Hp} {A:List At} {vs:List Value} {x:bE} {G:Prop} (I:Inv h (repA mC vs x::A)) (k: ∀ a0 c0,vs=[.slice a0 x.cE.length c0]→Inv h (roS (rI .i64) a0 x.cE.length c0 x.cE::A)→G):G:=by
  obtain ⟨F,M,⟨hF,a0,c0,e,h0⟩,hFM,hn,hlt,HH⟩:=I.turn
  exact k a0 c0 e (HH h [roS (rI .i64) a0 x.cE.length c0 x.cE] [[]] (Keep.refl _ _) (by simp) (by simp) fun M' hL _ _=>⟨⟨rfl,rfl,h0.mono hL⟩,trivial⟩)
def kF : Rp aL where
  n:=3
  P:=fun h M vs x=> ∃ (a0:Option Addr) (c0:Nat),∃ (a1:Option Addr) (c1:Nat),vs=[.int .i64 x.P, .slice a0 x.Level.length c0, .slice a1 x.fM.length c1]∧SlE (rI .i64) h M a0 c0 x.Level∧SlE (rI .i64) h M a1 c1 x.fM
  len:=by
    rintro _ _ _ x ⟨a0,c0,a1,c1,rfl,h0,h1⟩
    rfl
  one:=by
    rintro _ _ _ x ⟨a0,c0,a1,c1,rfl,h0,h1⟩
    exact dD rfl
  mono:=by
    rintro _ _ _ _ _ x hL ⟨a0,c0,a1,c1,rfl,h0,h1⟩
    exact ⟨a0,c0,a1,c1,rfl,h0.mono hL,h1.mono hL⟩
def sE : Rp cO where
  n:=10
  P:=fun h M vs x=> ∃ (a0:Option Addr) (c0:Nat),vs=lumpV .u32 8 x.h.toList++([.slice a0 x.rest.length c0, .int .u64 x.n]:List Value)∧SlE (rI .u8) h M a0 c0 x.rest
  len:=by
    rintro _ _ _ x ⟨a0,c0,rfl,h0⟩
    simp [cJ]
  one:=by
    rintro _ _ _ x ⟨a0,c0,rfl,h0⟩
    repeat (first | exact dD rfl | exact dD (dn _ _ _) | refine tC ?_ ?_)
  mono:=by
    rintro _ _ _ _ _ x hL ⟨a0,c0,rfl,h0⟩
    exact ⟨a0,c0,rfl,h0.mono hL⟩
def kU : Rp bS where
  n:=37
  P:=fun h M vs x=> ∃ (a0:Option Addr) (c0:Nat),∃ (a1:Option Addr) (c1:Nat),vs=([.slice a0 x.fL.length c0, .slice a1 x.fC.length c1, .int .i64 x.cH.Place, .int .u32 x.cH.bO]:List Value)++lumpV .u8 32 x.cH.bD.toList++([.int .i64 x.nZ]:List Value)∧SlE jw h M a0 c0 x.fL∧SlE ee h M a1 c1 x.fC
  len:=by
    rintro _ _ _ x ⟨a0,c0,a1,c1,rfl,h0,h1⟩
    simp [cJ]
  one:=by
    rintro _ _ _ x ⟨a0,c0,a1,c1,rfl,h0,h1⟩
    repeat (first | exact dD rfl | exact dD (dn _ _ _) | refine tC ?_ ?_)
  mono:=by
    rintro _ _ _ _ _ x hL ⟨a0,c0,a1,c1,rfl,h0,h1⟩
    exact ⟨a0,c0,a1,c1,rfl,h0.mono hL,h1.mono hL⟩
def gP : Rp dr where
  n:=68
  P:=fun h M vs x=>vs=([.int .u8 x.me]:List Value)++lumpV .u8 32 x.Key.toList++([.int .u32 x.bO, .int .i64 x.cH.Place, .int .u32 x.cH.bO]:List Value)++lumpV .u8 32 x.cH.bD.toList
  len:=by
    rintro _ _ _ x rfl
    simp [cJ]
  one:=by
    rintro _ _ _ x rfl
    repeat (first | exact dD rfl | exact dD (dn _ _ _) | refine tC ?_ ?_)
  mono:=by
    rintro _ _ _ _ _ x hL rfl
    exact rfl
def sF : Rp eM where
  n:=1
  P:=fun h M vs x=> ∃ (a0:Option Addr) (c0:Nat),vs=[.slice a0 x.texts.length c0]∧SlE (rS (rI .u8)) h M a0 c0 x.texts
  len:=by
    rintro _ _ _ x ⟨a0,c0,rfl,h0⟩
    rfl
  one:=by
    rintro _ _ _ x ⟨a0,c0,rfl,h0⟩
    exact dD rfl
  mono:=by
    rintro _ _ _ _ _ x hL ⟨a0,c0,rfl,h0⟩
    exact ⟨a0,c0,rfl,h0.mono hL⟩
inductive Obj where
  | eM (x:Pt.eM)
  | aD (x:Pt.aD)
def nC (ρ:Ids) (x:eM) (p:Addr):At:=exA fun a1:Option Addr=>exA fun c1:Nat=>bigA [blk p (ρ.T 39) [.one (.slice a1 x.texts.length c1)],ownS (rS (rI .u8)) a1 x.texts.length c1 x.texts]
theorem qA {ρ:Ids} {x:eM} {p:Addr} {h:Hp} {A:List At} (I:Inv h (nC ρ x p::A)): ∃ a1:Option Addr,∃ c1:Nat,Inv h (blk p (ρ.T 39) [.one (.slice a1 x.texts.length c1)]::ownS (rS (rI .u8)) a1 x.texts.length c1 x.texts::A):=by
  unfold nC at I
  obtain ⟨a1,I⟩:=I.exE
  obtain ⟨c1,I⟩:=I.exE
  exact ⟨a1,c1,I.bigE⟩
abbrev qB (σ:St Obj) (p:Addr) (K:eM→Prop):Prop:= ∃ x,σ p=some (.eM x)∧K x
def jW (ρ:Ids) (x:aD) (p:Addr):At:=exA fun a4:Option Addr=>exA fun c4:Nat=>exA fun m8:Option Nat=>exA fun o8:Option (Array MapEntry × Nat)=>exA fun a9:Option Addr=>exA fun c9:Nat=>bigA [blk p (ρ.T 20) [.one (.pointer x.book), .vec .u8 32 x.key, .one (.int .u32 x.fu), .one (.slice a4 x.shape.cE.length c4), .one (.int .i64 x.root.Place), .one (.int .u32 x.root.bO), .vec .u8 32 x.root.bD, .one (.map m8), .one (.slice a9 x.dL.length c9)],roS (rI .i64) a4 x.shape.cE.length c4 x.shape.cE,mapO (kI .i64) er m8 o8 x.nodes,ownS eU a9 x.dL.length c9 x.dL]
theorem fG {ρ:Ids} {x:aD} {p:Addr} {h:Hp} {A:List At} (I:Inv h (jW ρ x p::A)): ∃ a4:Option Addr,∃ c4:Nat,∃ m8:Option Nat,∃ o8:Option (Array MapEntry × Nat),∃ a9:Option Addr,∃ c9:Nat,Inv h (blk p (ρ.T 20) [.one (.pointer x.book), .vec .u8 32 x.key, .one (.int .u32 x.fu), .one (.slice a4 x.shape.cE.length c4), .one (.int .i64 x.root.Place), .one (.int .u32 x.root.bO), .vec .u8 32 x.root.bD, .one (.map m8), .one (.slice a9 x.dL.length c9)]::roS (rI .i64) a4 x.shape.cE.length c4 x.shape.cE::mapO (kI .i64) er m8 o8 x.nodes::ownS eU a9 x.dL.length c9 x.dL::A):=by
  unfold jW at I
  obtain ⟨a4,I⟩:=I.exE
  obtain ⟨c4,I⟩:=I.exE
  obtain ⟨m8,I⟩:=I.exE
  obtain ⟨o8,I⟩:=I.exE
  obtain ⟨a9,I⟩:=I.exE
  obtain ⟨c9,I⟩:=I.exE
  exact ⟨a4,c4,m8,o8,a9,c9,I.bigE⟩
abbrev fH (σ:St Obj) (p:Addr) (K:aD→Prop):Prop:= ∃ x,σ p=some (.aD x)∧K x
def obA (ρ:Ids):Obj→Addr→At
  | .eM x,p=>nC ρ x p
  | .aD x,p=>jW ρ x p
theorem qC {ρ:Ids} (x:eM) {p:Addr} {h:Hp} {A:List At} {a1:Option Addr} {c1:Nat} {n1:Nat} (I:Inv h (blk p (ρ.T 39) [.one (.slice a1 n1 c1)]::ownS (rS (rI .u8)) a1 n1 c1 x.texts::A)):Inv h (obA ρ (.eM x) p::A):=by
  obtain rfl:=gp I.aX
  exact (Inv.bigI (As:=[blk p (ρ.T 39) [.one (.slice a1 x.texts.length c1)],ownS (rS (rI .u8)) a1 x.texts.length c1 x.texts]) I).conv fun F M H=>⟨a1,c1,H⟩
theorem ei {ρ:Ids} (x:aD) {p:Addr} {h:Hp} {A:List At} {a4:Option Addr} {c4:Nat} {m8:Option Nat} {o8:Option (Array MapEntry × Nat)} {a9:Option Addr} {c9:Nat} {n4:Nat} {n9:Nat} (I:Inv h (blk p (ρ.T 20) [.one (.pointer x.book), .vec .u8 32 x.key, .one (.int .u32 x.fu), .one (.slice a4 n4 c4), .one (.int .i64 x.root.Place), .one (.int .u32 x.root.bO), .vec .u8 32 x.root.bD, .one (.map m8), .one (.slice a9 n9 c9)]::roS (rI .i64) a4 n4 c4 x.shape.cE::mapO (kI .i64) er m8 o8 x.nodes::ownS eU a9 n9 c9 x.dL::A)):Inv h (obA ρ (.aD x) p::A):=by
  obtain rfl:=kQ I.aX
  obtain rfl:=gp I.cI
  exact (Inv.bigI (As:=[blk p (ρ.T 20) [.one (.pointer x.book), .vec .u8 32 x.key, .one (.int .u32 x.fu), .one (.slice a4 x.shape.cE.length c4), .one (.int .i64 x.root.Place), .one (.int .u32 x.root.bO), .vec .u8 32 x.root.bD, .one (.map m8), .one (.slice a9 x.dL.length c9)],roS (rI .i64) a4 x.shape.cE.length c4 x.shape.cE,mapO (kI .i64) er m8 o8 x.nodes,ownS eU a9 x.dL.length c9 x.dL]) I).conv fun F M H=>⟨a4,c4,m8,o8,a9,c9,H⟩
instance obHeads (ρ:Ids):Heads (obA ρ) where
  head:=by
    intro o p h F M H
    cases o with
    | eM x =>
      obtain ⟨_,_,Fs,e,H⟩:=H
      match Fs,e,H with
      | [F0,F1],e,H=>exact zw e H.1
    | aD x =>
      obtain ⟨_,_,_,_,_,_,Fs,e,H⟩:=H
      match Fs,e,H with
      | [F0,F1,F2,F3],e,H=>exact zw e H.1
namespace cD
structure V where
  fm:Int
  v2:bE
  v12:Bool
  l4:List Int
  jj:Int
  v23:Bool
def v0:V:=⟨0,(⟨[]⟩:bE),false,[],0,false⟩
abbrev QT:=bE→Int→Prop
def K3 (S2:V→Prop) (Q:QT) (c:V):Prop:=
  br c.v23
  ((SlOk c.l4 (0:Int) (c.l4.length:Int))∧
  ((c.l4.length:Int)=(c.l4.length:Int))∧
  ixP c.l4 (IntKind.wrap .i64 ((c.l4.length:Int) - (1:Int))) fun oZ=>
  (Bnd ((sub c.l4 (0:Int) (c.l4.length:Int)).length+([(IntKind.wrap .i64 (oZ+(IntKind.wrap .i64 (Int.tdiv (IntKind.wrap .i64 ((IntKind.wrap .i64 (c.jj+(6:Int))) - (1:Int))) (6:Int)))))]).length))∧
  S2 {c with l4:=((sub c.l4 (0:Int) (c.l4.length:Int))++[(IntKind.wrap .i64 (oZ+(IntKind.wrap .i64 (Int.tdiv (IntKind.wrap .i64 ((IntKind.wrap .i64 (c.jj+(6:Int))) - (1:Int))) (6:Int)))))]),jj:=(IntKind.wrap .i64 (Int.tdiv (IntKind.wrap .i64 ((IntKind.wrap .i64 (c.jj+(6:Int))) - (1:Int))) (6:Int)))})
  (Q (⟨c.l4⟩:bE) (0:Int))
def B2 (S2:V→Prop) (Q:QT) (c:V):Prop:=
  br (decide (c.jj>(1:Int)))
  (K3 S2 Q {c with v23:=true})
  (K3 S2 Q {c with v23:=((c.l4.length:Int)==(2:Int))})
def L2 (Q:QT) (c:V):Prop:=Lf (fun S=>B2 S Q) c
theorem cM {Q:QT} {c:V} (H:B2 (L2 Q) Q c):L2 Q c:=Lf.fold H
def K1 (Q:QT) (c:V):Prop:=
  br c.v12
  (Q (⟨([]:List Int)⟩:bE) (1:Int))
  (L2 Q {c with l4:=[(0:Int),c.fm],jj:=c.fm})
end cD
def cD (fm:Int) (Q:cD.QT):Prop:=
  br (decide (fm<(1:Int)))
  (cD.K1 Q {cD.v0 with fm:=fm,v2:=(⟨([]:List Int)⟩:bE),v12:=true})
  (cD.K1 Q {cD.v0 with fm:=fm,v2:=(⟨([]:List Int)⟩:bE),v12:=(decide (fm>(216:Int)))})
namespace aQ
structure V where
  fm:Int
  v2:aL
  ej:Bool
  s4:aL
  i5:Int
  gW:Int
  gJ:Int
  fI:Int
  NW:Bool
  n9:Int
  Fw:Int
def v0:V:=⟨0,(⟨(0:Int),[],[]⟩:aL),false,(⟨(0:Int),[],[]⟩:aL),0,0,0,0,false,0,0⟩
abbrev QT:=aL→Int→Prop
def B5 (S3:V→Prop) (S5:V→Prop) (Q:QT) (c:V):Prop:=
  br (decide (c.Fw<c.gJ))
  ((Bnd (c.s4.Level.length+([c.fI]).length))∧
  (Bnd (c.s4.fM.length+([(IntKind.wrap .i64 (c.gW+c.Fw))]).length))∧
  S5 {c with s4:=(⟨c.s4.P,(c.s4.Level++[c.fI]),(c.s4.fM++[(IntKind.wrap .i64 (c.gW+c.Fw))])⟩:aL),n9:=(IntKind.wrap .i64 (c.n9+(1:Int))),Fw:=(IntKind.wrap .i64 (c.Fw+(6:Int)))})
  (S3 {c with gW:=(IntKind.wrap .i64 (c.gW+c.gJ)),gJ:=c.n9,fI:=(IntKind.wrap .i64 (c.fI+(1:Int)))})
def L5 (S3:V→Prop) (Q:QT) (c:V):Prop:=Lf (fun S=>B5 S3 S Q) c
def K4 (S3:V→Prop) (Q:QT) (c:V):Prop:=
  br c.NW
  (L5 S3 Q {c with n9:=(0:Int),Fw:=(0:Int)})
  (Q c.s4 (0:Int))
def B3 (S3:V→Prop) (Q:QT) (c:V):Prop:=
  br (c.fI==(1:Int))
  (K4 S3 Q {c with NW:=true})
  (K4 S3 Q {c with NW:=(decide (c.gJ>(1:Int)))})
def L3 (Q:QT) (c:V):Prop:=Lf (fun S=>B3 S Q) c
theorem ff {Q:QT} {c:V} (H:B3 (L3 Q) Q c):L3 Q c:=Lf.fold H
def B2 (S2:V→Prop) (Q:QT) (c:V):Prop:=
  br (decide (c.i5<c.fm))
  ((Bnd (c.s4.Level.length+([(0:Int)]).length))∧
  (Bnd (c.s4.fM.length+([(-1:Int)]).length))∧
  S2 {c with s4:=(⟨c.s4.P,(c.s4.Level++[(0:Int)]),(c.s4.fM++[(-1:Int)])⟩:aL),i5:=(IntKind.wrap .i64 (c.i5+(1:Int)))})
  (L3 Q {c with gW:=(0:Int),gJ:=c.fm,fI:=(1:Int)})
def L2 (Q:QT) (c:V):Prop:=Lf (fun S=>B2 S Q) c
def K1 (Q:QT) (c:V):Prop:=
  br c.ej
  (Q (⟨(0:Int),([]:List Int),([]:List Int)⟩:aL) (1:Int))
  (L2 Q {c with s4:=(⟨c.fm,([]:List Int),([]:List Int)⟩:aL),i5:=(0:Int)})
end aQ
def aQ (fm:Int) (Q:aQ.QT):Prop:=
  br (decide (fm<(1:Int)))
  (aQ.K1 Q {aQ.v0 with fm:=fm,v2:=(⟨(0:Int),([]:List Int),([]:List Int)⟩:aL),ej:=true})
  (aQ.K1 Q {aQ.v0 with fm:=fm,v2:=(⟨(0:Int),([]:List Int),([]:List Int)⟩:aL),ej:=(decide (fm>(216:Int)))})
namespace bq
structure V where
  l0:List aq
  c1:List an
  ej:Bool
  kD:List aq
  jO:Int
  fF:Int
  v28:List an
  KV:Int
  v30:Int
def v0:V:=⟨[],[],false,[],0,0,[],0,0⟩
abbrev QT:=Bool→Prop
def B3 (S3:V→Prop) (Q:QT) (c:V):Prop:=
  br (decide (c.v30<c.KV))
  (ixP c.v28 c.v30 fun xP=>
  br (decide ((xP.Bytes.length:Int)>(600:Int)))
  (Q true)
  (S3 {c with v30:=(IntKind.wrap .i64 (c.v30+(1:Int)))}))
  (Q false)
def L3 (Q:QT) (c:V):Prop:=Lf (fun S=>B3 S Q) c
theorem ff {Q:QT} {c:V} (H:B3 (L3 Q) Q c):L3 Q c:=Lf.fold H
def B2 (S2:V→Prop) (Q:QT) (c:V):Prop:=
  br (decide (c.fF<c.jO))
  (ixP c.kD c.fF fun Eo=>
  br (decide ((Eo.Refs.length:Int)>(20:Int)))
  (Q true)
  (S2 {c with fF:=(IntKind.wrap .i64 (c.fF+(1:Int)))}))
  (L3 Q {c with v28:=c.c1,KV:=(c.c1.length:Int),v30:=(0:Int)})
def L2 (Q:QT) (c:V):Prop:=Lf (fun S=>B2 S Q) c
theorem cM {Q:QT} {c:V} (H:B2 (L2 Q) Q c):L2 Q c:=Lf.fold H
def K1 (Q:QT) (c:V):Prop:=
  br c.ej
  (Q true)
  (L2 Q {c with kD:=c.l0,jO:=(c.l0.length:Int),fF:=(0:Int)})
end bq
def bq (l0:List aq) (c1:List an) (Q:bq.QT):Prop:=
  br (decide ((l0.length:Int)>(60:Int)))
  (bq.K1 Q {bq.v0 with l0:=l0,c1:=c1,ej:=true})
  (bq.K1 Q {bq.v0 with l0:=l0,c1:=c1,ej:=(decide ((c1.length:Int)>(20:Int)))})
def gM (s0:bE) (Q:Int→Prop):Prop:=
  Q (if (0:Int)>(IntKind.wrap .i64 ((s0.cE.length:Int) - (1:Int))) then (0:Int) else (IntKind.wrap .i64 ((s0.cE.length:Int) - (1:Int))))
namespace b9
structure V where
  bA:Int
  s2:bE
  v9:Int
  v10:Int
def v0:V:=⟨0,(⟨[]⟩:bE),0,0⟩
abbrev QT:=Int→Prop
def B1 (S1:V→Prop) (Q:QT) (c:V):Prop:=
  br (decide (c.v10<c.v9))
  (ixP c.s2.cE (IntKind.wrap .i64 (c.v10+(1:Int))) fun wg=>
  br (decide (c.bA<wg))
  (Q c.v10)
  (S1 {c with v10:=(IntKind.wrap .i64 (c.v10+(1:Int)))}))
  (Q (-1:Int))
def L1 (Q:QT) (c:V):Prop:=Lf (fun S=>B1 S Q) c
end b9
def b9 (s0:bE) (bA:Int) (Q:b9.QT):Prop:=
  br (decide (bA<(0:Int)))
  (Q (-1:Int))
  (gM s0 fun tD=>
  b9.L1 Q {b9.v0 with bA:=bA,s2:=s0,v9:=tD,v10:=(0:Int)})
def iA (s0:bE) (Q:Int→Prop):Prop:=
  br ((s0.cE.length:Int)==(0:Int))
  (Q (0:Int))
  (ixP s0.cE (IntKind.wrap .i64 ((s0.cE.length:Int) - (1:Int))) fun Fy=>
  Q Fy)
def jg (s0:bE) (Q:Int→Prop):Prop:=
  iA s0 fun tD=>
  Q (IntKind.wrap .i64 (tD+(-1:Int)))
namespace aR
structure V where
  bA:Int
  s2:bE
  rE:Int
  fF:Bool
def v0:V:=⟨0,(⟨[]⟩:bE),0,false⟩
abbrev QT:=Int→Int→Bool→Prop
def K1 (Q:QT) (c:V):Prop:=
  br c.fF
  (Q (0:Int) (0:Int) false)
  (ixP c.s2.cE c.rE fun rF=>
  ixP c.s2.cE (IntKind.wrap .i64 (c.rE+(1:Int))) fun Bu=>
  Q (IntKind.wrap .i64 (Bu+(IntKind.wrap .i64 (Int.tdiv (IntKind.wrap .i64 (c.bA - rF)) (6:Int))))) (Int.tmod (IntKind.wrap .i64 (c.bA - rF)) (6:Int)) true)
end aR
def aR (s0:bE) (bA:Int) (Q:aR.QT):Prop:=
  b9 s0 bA fun tD=>
  br (decide (tD<(0:Int)))
  (aR.K1 Q {aR.v0 with bA:=bA,s2:=s0,rE:=tD,fF:=true})
  (jg s0 fun Ep=>
  aR.K1 Q {aR.v0 with bA:=bA,s2:=s0,rE:=tD,fF:=(bA==Ep)})
namespace aY
structure V where
  s2:bE
  l5:List Int
  p6:Int
  FN:Bool
def v0:V:=⟨(⟨[]⟩:bE),[],0,false⟩
abbrev QT:=(List Int)→Prop
def B1 (S1:V→Prop) (Q:QT) (c:V):Prop:=
  br c.FN
  ((Bnd (c.l5.length+([c.p6]).length))∧
  aR c.s2 c.p6 fun qD pe Bv=>
  S1 {c with l5:=(c.l5++[c.p6]),p6:=qD,FN:=Bv})
  (Q c.l5)
def L1 (Q:QT) (c:V):Prop:=Lf (fun S=>B1 S Q) c
theorem bY {Q:QT} {c:V} (H:B1 (L1 Q) Q c):L1 Q c:=Lf.fold H
end aY
def aY (s0:bE) (gI:Int) (Q:aY.QT):Prop:=
  b9 s0 gI fun tD=>
  br (tD !=(0:Int))
  (Q ([]:List Int))
  (aR s0 gI fun Lj GZ Bw=>
  aY.L1 Q {aY.v0 with s2:=s0,l5:=[gI],p6:=Lj,FN:=Bw})
namespace bU
structure V where
  s2:bE
  eS:Option (List (Int × Bool))
  v11:List Int
  v12:Int
  gF:Int
  fF:List Int
  v20:Int
  v21:Int
def v0:V:=⟨(⟨[]⟩:bE),none,[],0,0,[],0,0⟩
abbrev QT:=(List Int)→Prop
def K3 (S1:V→Prop) (S2:V→Prop) (Q:QT) (c:V):Prop:=
  S2 {c with v21:=(IntKind.wrap .i64 (c.v21+(1:Int)))}
def B2 (S1:V→Prop) (S2:V→Prop) (Q:QT) (c:V):Prop:=
  br (decide (c.v21<c.v20))
  (ixP c.fF c.v21 fun sW=>
  br (decide (c.v21>(0:Int)))
  (muP c.eS sW true fun Pq=>
  K3 S1 S2 Q {c with eS:=Pq})
  (K3 S1 S2 Q c))
  (S1 {c with gF:=(IntKind.wrap .i64 (c.gF+(1:Int)))})
def L2 (S1:V→Prop) (Q:QT) (c:V):Prop:=Lf (fun S=>B2 S1 S Q) c
def B1 (S1:V→Prop) (Q:QT) (c:V):Prop:=
  br (decide (c.gF<c.v12))
  (ixP c.v11 c.gF fun zx=>
  aY c.s2 zx fun mO=>
  L2 S1 Q {c with fF:=mO,v20:=(mO.length:Int),v21:=(0:Int)})
  (sortKP c.eS fun Pr=>
  Q Pr)
def L1 (Q:QT) (c:V):Prop:=Lf (fun S=>B1 S Q) c
theorem bY {Q:QT} {c:V} (H:B1 (L1 Q) Q c):L1 Q c:=Lf.fold H
end bU
def bU (s0:bE) (eo:List Int) (Q:bU.QT):Prop:=
  bU.L1 Q {bU.v0 with s2:=s0,eS:=(some []:Option (List (Int × Bool))),v11:=eo,v12:=(eo.length:Int),gF:=(0:Int)}
namespace bW
structure V where
  l3:List Int
  v6:List bf
  v7:Int
  v8:Int
def v0:V:=⟨[],[],0,0⟩
abbrev QT:=(List Int)→Prop
def B1 (S1:V→Prop) (Q:QT) (c:V):Prop:=
  br (decide (c.v8<c.v7))
  (ixP c.v6 c.v8 fun eN=>
  (Bnd (c.l3.length+([eN.dx]).length))∧
  S1 {c with l3:=(c.l3++[eN.dx]),v8:=(IntKind.wrap .i64 (c.v8+(1:Int)))})
  (Q c.l3)
def L1 (Q:QT) (c:V):Prop:=Lf (fun S=>B1 S Q) c
end bW
def bW (gh:List bf) (Q:bW.QT):Prop:=
  bW.L1 Q {bW.v0 with l3:=([]:List Int),v6:=gh,v7:=(gh.length:Int),v8:=(0:Int)}
def cz (s0:List aF) (Q:List aF→Prop):Prop:=cloneP s0 Q
namespace av
structure V where
  s0:List aO
  v7:Int
  v8:Int
def v0:V:=⟨[],0,0⟩
abbrev QT (Z:Type):=Int→Z→Prop
def B1 {Z:Type} (φ:aO→Z→(Bool→Z→Prop)→Prop) (S1:V→Z→Prop) (Q:QT Z) (c:V) (z:Z):Prop:=
  br (decide (c.v8<c.v7))
  (ixP c.s0 c.v8 fun eN=>
  φ eN z fun adB TW=>
  br adB
  (Q c.v8 TW)
  (S1 {c with v8:=(IntKind.wrap .i64 (c.v8+(1:Int)))} TW))
  (Q (-1:Int) z)
def L1 {Z:Type} (φ:aO→Z→(Bool→Z→Prop)→Prop) (Q:QT Z) (c:V) (z:Z):Prop:=
  Lf (fun S (v:V × Z)=>B1 φ (fun c z=>S (c,z)) Q v.1 v.2) (c,z)
theorem bY {Z:Type} (φ:aO→Z→(Bool→Z→Prop)→Prop) {Q:QT Z} {c:V} {z:Z} (H:B1 φ (L1 φ Q) Q c z):L1 φ Q c z:=Lf.fold H
end av
def av {Z:Type} (φ:aO→Z→(Bool→Z→Prop)→Prop) (s0:List aO) (z:Z) (Q:av.QT Z):Prop:=
  av.L1 φ Q {av.v0 with s0:=s0,v7:=(s0.length:Int),v8:=(0:Int)} z
def iw (n0:aO) (v1:Int) (Q:Bool→Prop):Prop:=
  Q (n0.Item==v1)
def eX (jJ:List aO) (bA:Int) (Q:(List aF)→Bool→Prop):Prop:=
  av (fun x0 _ K=>iw x0 bA (fun r=>K r ())) jJ () fun qE z_7=>
  br (decide (qE<(0:Int)))
  (Q ([]:List aF) false)
  (ixP jJ qE fun wg=>
  cz wg.Refs fun Er=>
  Q Er true)
def iB (s0:bE) (Q:Int→Prop):Prop:=
  br ((s0.cE.length:Int)==(0:Int))
  (Q (0:Int))
  (ixP s0.cE (1:Int) fun Fy=>
  Q Fy)
def dV (r0:aF) (Q:Bool→Prop):Prop:=
  br (r0.Place==(0:Int))
  (Q true)
  (Q (r0.Place==(1:Int)))
def gN (r0:aF) (Q:Bool→Prop):Prop:=
  dV r0 fun G0=>
  Q (!G0)
namespace cx
structure V where
  s2:bE
  uv:Int
  gW:Int
  l7:List Int
  k8:Int
def v0:V:=⟨(⟨[]⟩:bE),0,0,[],0⟩
abbrev QT:=(List Int)→Prop
def B1 (S1:V→Prop) (Q:QT) (c:V):Prop:=
  ixP c.s2.cE c.uv fun wj=>
  br (decide (c.k8<(if wj<(IntKind.wrap .i64 (c.gW+(6:Int))) then wj else (IntKind.wrap .i64 (c.gW+(6:Int))))))
  ((Bnd (c.l7.length+([c.k8]).length))∧
  S1 {c with l7:=(c.l7++[c.k8]),k8:=(IntKind.wrap .i64 (c.k8+(1:Int)))})
  (Q c.l7)
def L1 (Q:QT) (c:V):Prop:=Lf (fun S=>B1 S Q) c
end cx
def cx (s0:bE) (bA:Int) (Q:cx.QT):Prop:=
  b9 s0 bA fun tD=>
  br (decide (tD<(1:Int)))
  (Q ([]:List Int))
  (ixP s0.cE (IntKind.wrap .i64 (tD - (1:Int))) fun Eo=>
  ixP s0.cE tD fun zx=>
  cx.L1 Q {cx.v0 with s2:=s0,uv:=tD,gW:=(IntKind.wrap .i64 (Eo+(IntKind.wrap .i64 ((6:Int)*(IntKind.wrap .i64 (bA - zx)))))),l7:=([]:List Int),k8:=(IntKind.wrap .i64 (Eo+(IntKind.wrap .i64 ((6:Int)*(IntKind.wrap .i64 (bA - zx))))))})
namespace aA
structure V where
  s0:List aF
  v7:Int
  v8:Int
def v0:V:=⟨[],0,0⟩
abbrev QT (Z:Type):=Int→Z→Prop
def B1 {Z:Type} (φ:aF→Z→(Bool→Z→Prop)→Prop) (S1:V→Z→Prop) (Q:QT Z) (c:V) (z:Z):Prop:=
  br (decide (c.v8<c.v7))
  (ixP c.s0 c.v8 fun eN=>
  φ eN z fun Ll TX=>
  br Ll
  (Q c.v8 TX)
  (S1 {c with v8:=(IntKind.wrap .i64 (c.v8+(1:Int)))} TX))
  (Q (-1:Int) z)
def L1 {Z:Type} (φ:aF→Z→(Bool→Z→Prop)→Prop) (Q:QT Z) (c:V) (z:Z):Prop:=
  Lf (fun S (v:V × Z)=>B1 φ (fun c z=>S (c,z)) Q v.1 v.2) (c,z)
theorem bY {Z:Type} (φ:aF→Z→(Bool→Z→Prop)→Prop) {Q:QT Z} {c:V} {z:Z} (H:B1 φ (L1 φ Q) Q c z):L1 φ Q c z:=Lf.fold H
end aA
def aA {Z:Type} (φ:aF→Z→(Bool→Z→Prop)→Prop) (s0:List aF) (z:Z) (Q:aA.QT Z):Prop:=
  aA.L1 φ Q {aA.v0 with s0:=s0,v7:=(s0.length:Int),v8:=(0:Int)} z
def dK {Z:Type} (φ:aF→Z→(Bool→Z→Prop)→Prop) (s0:List aF) (z:Z) (Q:Bool→Z→Prop):Prop:=
  aA φ s0 z fun G0 z_4=>
  Q (decide (G0≥(0:Int))) z_4
namespace bJ
structure V where
  eO:List aO
  dN:List bf
  s3:bE
  mg:Int
  nw:List bf
  ej:Int
  kD:Int
  c9:bf
  v37:Bool
  nS:List Int
  yH:Int
  v46:Int
  nA:Bool
def v0:V:=⟨[],[],(⟨[]⟩:bE),0,[],0,0,(⟨(0:Int),[]⟩:bf),false,[],0,0,false⟩
abbrev QT:=Bool→Prop
def K2 (S1:V→Prop) (Q:QT) (c:V):Prop:=
  br c.v37
  (Q false)
  (S1 {c with mg:=c.c9.dx,kD:=(IntKind.wrap .i64 (c.kD+(1:Int)))})
def K4 (S3:V→Prop) (Q:QT) (c:V):Prop:=
  br c.nA
  (Q false)
  (S3 {c with v46:=(IntKind.wrap .i64 (c.v46+(1:Int)))})
def B3 (S3:V→Prop) (Q:QT) (c:V):Prop:=
  br (decide (c.v46<c.yH))
  (ixP c.nS c.v46 fun Bx=>
  eX c.eO Bx fun Es adC=>
  br (!adC)
  (K4 S3 Q {c with nA:=true})
  (cx c.s3 Bx fun adD=>
  br ((Es.length:Int) !=(adD.length:Int))
  (K4 S3 Q {c with nA:=true})
  (dK (fun x0 _ K=>gN x0 (fun r=>K r ())) Es () fun adE alu=>
  K4 S3 Q {c with nA:=adE})))
  (Q true)
def L3 (Q:QT) (c:V):Prop:=Lf (fun S=>B3 S Q) c
theorem ff {Q:QT} {c:V} (H:B3 (L3 Q) Q c):L3 Q c:=Lf.fold H
def B1 (S1:V→Prop) (Q:QT) (c:V):Prop:=
  br (decide (c.kD<c.ej))
  (ixP c.nw c.kD fun od=>
  br (decide (od.dx≤c.mg))
  (K2 S1 Q {c with c9:=od,v37:=true})
  (iB c.s3 fun Pv=>
  br (decide (od.dx≥Pv))
  (K2 S1 Q {c with c9:=od,v37:=true})
  (K2 S1 Q {c with c9:=od,v37:=((od.Bytes.length:Int) !=(256:Int))})))
  (bW c.dN fun pe=>
  bU c.s3 pe fun Lm=>
  L3 Q {c with nS:=Lm,yH:=(Lm.length:Int),v46:=(0:Int)})
def L1 (Q:QT) (c:V):Prop:=Lf (fun S=>B1 S Q) c
theorem bY {Q:QT} {c:V} (H:B1 (L1 Q) Q c):L1 Q c:=Lf.fold H
end bJ
def bJ (s0:bE) (eO:List aO) (dN:List bf) (Q:bJ.QT):Prop:=
  bJ.L1 Q {bJ.v0 with eO:=eO,dN:=dN,s3:=s0,mg:=(-1:Int),nw:=dN,ej:=(dN.length:Int),kD:=(0:Int)}
namespace aS
structure V where
  bA:Int
  dg:Int
  jO:Bool
def v0:V:=⟨0,0,false⟩
abbrev QT:=Int→Prop
def K1 (Q:QT) (c:V):Prop:=
  br c.jO
  (Q (-1:Int))
  (Q (IntKind.wrap .i64 ((IntKind.wrap .i64 ((2:Int)+(IntKind.wrap .i64 ((2:Int)*c.bA))))+c.dg)))
end aS
def aS (s0:bE) (bA:Int) (dg:Int) (Q:aS.QT):Prop:=
  b9 s0 bA fun tD=>
  br (decide (tD<(0:Int)))
  (aS.K1 Q {aS.v0 with bA:=bA,dg:=dg,jO:=true})
  (br (decide (dg<(0:Int)))
  (aS.K1 Q {aS.v0 with bA:=bA,dg:=dg,jO:=true})
  (aS.K1 Q {aS.v0 with bA:=bA,dg:=dg,jO:=(decide (dg>(1:Int)))}))
def iH (b0:List Int) (Q:Int→Prop):Prop:=
  ixP b0 (0:Int) fun Pw=>
  ixP b0 (1:Int) fun G1=>
  ixP b0 (2:Int) fun sX=>
  ixP b0 (3:Int) fun xP=>
  Q (IntKind.wrap .u32 (((BitVec.ofInt (IntKind.bits .u32) (IntKind.wrap .u32 (((BitVec.ofInt (IntKind.bits .u32) (IntKind.wrap .u32 (((BitVec.ofInt (IntKind.bits .u32) (IntKind.wrap .u32 Pw) ||| (BitVec.ofInt (IntKind.bits .u32) (IntKind.wrap .u32 ((IntKind.wrap .u32 G1)*2 ^ (min (Int.toNat (8:Int)) (IntKind.bits .u32)))))).toNat:Int))) ||| (BitVec.ofInt (IntKind.bits .u32) (IntKind.wrap .u32 ((IntKind.wrap .u32 sX)*2 ^ (min (Int.toNat (16:Int)) (IntKind.bits .u32)))))).toNat:Int))) ||| (BitVec.ofInt (IntKind.bits .u32) (IntKind.wrap .u32 ((IntKind.wrap .u32 xP)*2 ^ (min (Int.toNat (24:Int)) (IntKind.bits .u32)))))).toNat:Int)))
namespace aT
structure V where
  bM:Int
  qo:Vector Int 32
  gC:Vector Int 12
  v6:Vector Int 16
  w7:Vector Int 16
  v11:Int
  v24:Int
def v0:V:=⟨0,Vector.replicate 32 0,Vector.replicate 12 0,Vector.replicate 16 0,Vector.replicate 16 0,0,0⟩
abbrev QT:=(Vector Int 16)→Prop
def B2 (S2:V→Prop) (Q:QT) (c:V):Prop:=
  br (decide (c.v24<(3:Int)))
  ((SlOk c.gC.toList (IntKind.wrap .i64 ((4:Int)*c.v24)) ((12:Nat):Int))∧
  iH (subA 12 c.gC.toList (IntKind.wrap .i64 ((4:Int)*c.v24)) ((12:Nat):Int)) fun ke=>
  ixP c.w7.toList (IntKind.wrap .i64 ((13:Int)+c.v24)) fun By=>
  S2 {c with w7:=(c.w7.setIfInBounds (Int.toNat (IntKind.wrap .i64 ((13:Int)+c.v24))) ke),v24:=(IntKind.wrap .i64 (c.v24+(1:Int)))})
  (Q c.w7)
def L2 (Q:QT) (c:V):Prop:=Lf (fun S=>B2 S Q) c
theorem cM {Q:QT} {c:V} (H:B2 (L2 Q) Q c):L2 Q c:=Lf.fold H
def B1 (S1:V→Prop) (Q:QT) (c:V):Prop:=
  br (decide (c.v11<(8:Int)))
  ((SlOk c.qo.toList (IntKind.wrap .i64 ((4:Int)*c.v11)) ((32:Nat):Int))∧
  iH (subA 32 c.qo.toList (IntKind.wrap .i64 ((4:Int)*c.v11)) ((32:Nat):Int)) fun Px=>
  ixP c.w7.toList (IntKind.wrap .i64 ((4:Int)+c.v11)) fun Et=>
  S1 {c with w7:=(c.w7.setIfInBounds (Int.toNat (IntKind.wrap .i64 ((4:Int)+c.v11))) Px),v11:=(IntKind.wrap .i64 (c.v11+(1:Int)))})
  (ixP c.w7.toList (12:Int) fun TY=>
  L2 Q {c with w7:=(c.w7.setIfInBounds (Int.toNat (12:Int)) c.bM),v24:=(0:Int)})
def L1 (Q:QT) (c:V):Prop:=Lf (fun S=>B1 S Q) c
theorem bY {Q:QT} {c:V} (H:B1 (L1 Q) Q c):L1 Q c:=Lf.fold H
end aT
def aT (iK:Vector Int 32) (fS:Vector Int 12) (bM:Int) (Q:aT.QT):Prop:=
  aT.L1 Q {aT.v0 with bM:=bM,qo:=iK,gC:=fS,v6:=(Vector.replicate 16 (0:Int)),w7:= #v[(1634760805:Int),(857760878:Int),(2036477234:Int),(1797285236:Int),(0:Int),(0:Int),(0:Int),(0:Int),(0:Int),(0:Int),(0:Int),(0:Int),(0:Int),(0:Int),(0:Int),(0:Int)],v11:=(0:Int)}
def dU (x0:Int) (k1:Int) (Q:Int→Prop):Prop:=
  mP (IntKind.wrap .u64 (((BitVec.ofInt (IntKind.bits .u64) (IntKind.wrap .u64 k1) &&& (BitVec.ofInt (IntKind.bits .u64) (31:Int))).toNat:Int))) fun _=>
  mP (IntKind.wrap .u64 ((32:Int) - (IntKind.wrap .u64 (((BitVec.ofInt (IntKind.bits .u64) (IntKind.wrap .u64 k1) &&& (BitVec.ofInt (IntKind.bits .u64) (31:Int))).toNat:Int))))) fun _=>
  Q (IntKind.wrap .u32 (((BitVec.ofInt (IntKind.bits .u32) (IntKind.wrap .u32 (x0*2 ^ (min (Int.toNat (IntKind.wrap .u64 (((BitVec.ofInt (IntKind.bits .u64) (IntKind.wrap .u64 k1) &&& (BitVec.ofInt (IntKind.bits .u64) (31:Int))).toNat:Int)))) (IntKind.bits .u32)))) ||| (BitVec.ofInt (IntKind.bits .u32) (Int.fdiv x0 (2 ^ (min (Int.toNat (IntKind.wrap .u64 ((32:Int) - (IntKind.wrap .u64 (((BitVec.ofInt (IntKind.bits .u64) (IntKind.wrap .u64 k1) &&& (BitVec.ofInt (IntKind.bits .u64) (31:Int))).toNat:Int)))))) (IntKind.bits .u32)))))).toNat:Int)))
def dP (x0:Int) (y1:Int) (z2:Int) (by3:Int) (v4:Vector Int 4) (Q:(Vector Int 4)→Prop):Prop:=
  ixP v4.toList x0 fun yI=>
  ixP v4.toList y1 fun wg=>
  ixP v4.toList x0 fun qF=>
  ixP (v4.setIfInBounds (Int.toNat x0) (IntKind.wrap .u32 (yI+wg))).toList z2 fun oZ=>
  ixP (v4.setIfInBounds (Int.toNat x0) (IntKind.wrap .u32 (yI+wg))).toList x0 fun Bz=>
  dU (IntKind.wrap .u32 (((BitVec.ofInt (IntKind.bits .u32) oZ ^^^ (BitVec.ofInt (IntKind.bits .u32) Bz)).toNat:Int))) by3 fun wk=>
  ixP (v4.setIfInBounds (Int.toNat x0) (IntKind.wrap .u32 (yI+wg))).toList z2 fun Eu=>
  Q ((v4.setIfInBounds (Int.toNat x0) (IntKind.wrap .u32 (yI+wg))).setIfInBounds (Int.toNat z2) wk)
def dG (w0:Vector Int 4) (Q:(Vector Int 4)→Prop):Prop:=
  dP (0:Int) (1:Int) (3:Int) (16:Int) w0 fun tD=>
  dP (2:Int) (3:Int) (1:Int) (12:Int) tD fun qE=>
  dP (0:Int) (1:Int) (3:Int) (8:Int) qE fun qi=>
  dP (2:Int) (3:Int) (1:Int) (7:Int) qi fun Ep=>
  Q Ep
namespace bz
structure V where
  v4:Vector Int 16
  a0:Int
  b1:Int
  c2:Int
  d3:Int
  q9:Vector Int 4
  v23:Vector Int 4
def v0:V:=⟨Vector.replicate 16 0,0,0,0,0,Vector.replicate 4 0,Vector.replicate 4 0⟩
abbrev QT:=(Vector Int 16)→Prop
def K1 (Q:QT) (c:V):Prop:=
  ixP c.q9.toList (0:Int) fun oe=>
  ixP c.q9.toList (1:Int) fun wm=>
  ixP c.q9.toList (2:Int) fun uB=>
  ixP c.q9.toList (3:Int) fun zy=>
  ixP c.v4.toList c.a0 fun xQ=>
  ixP (c.v4.setIfInBounds (Int.toNat c.a0) oe).toList c.b1 fun Py=>
  ixP ((c.v4.setIfInBounds (Int.toNat c.a0) oe).setIfInBounds (Int.toNat c.b1) wm).toList c.c2 fun adF=>
  ixP (((c.v4.setIfInBounds (Int.toNat c.a0) oe).setIfInBounds (Int.toNat c.b1) wm).setIfInBounds (Int.toNat c.c2) uB).toList c.d3 fun BA=>
  Q ((((c.v4.setIfInBounds (Int.toNat c.a0) oe).setIfInBounds (Int.toNat c.b1) wm).setIfInBounds (Int.toNat c.c2) uB).setIfInBounds (Int.toNat c.d3) zy)
def K3 (Q:QT) (c:V):Prop:=
  K1 Q {c with q9:=c.v23}
def K2 (Q:QT) (c:V):Prop:=
  K3 Q {c with q9:=(Vector.replicate 4 (0:Int))}
end bz
def bz (a0:Int) (b1:Int) (c2:Int) (d3:Int) (v4:Vector Int 16) (Q:bz.QT):Prop:=
  ixP v4.toList a0 fun yI=>
  ixP v4.toList b1 fun wg=>
  ixP v4.toList c2 fun qF=>
  ixP v4.toList d3 fun jx=>
  (dG (#v[yI,wg,qF,jx]) fun Pz=>
  bz.K2 Q {bz.v0 with v4:=v4,a0:=a0,b1:=b1,c2:=c2,d3:=d3,v23:=Pz})∧
  (dG (#v[yI,wg,qF,jx]) fun qD=>
  bz.K3 Q {bz.v0 with v4:=v4,a0:=a0,b1:=b1,c2:=c2,d3:=d3,q9:=(Vector.replicate 4 (0:Int)),v23:=qD})
namespace ay
structure V where
  v6:Vector Int 64
  bw:Vector Int 16
  w8:Vector Int 16
  v20:Int
  l9:Int
  jB:Int
  pJ:Vector Int 64
  l6:Int
def v0:V:=⟨Vector.replicate 64 0,Vector.replicate 16 0,Vector.replicate 16 0,0,0,0,Vector.replicate 64 0,0⟩
abbrev QT:=(Vector Int 64)→Prop
def B3 (S1:V→Prop) (S3:V→Prop) (Q:QT) (c:V):Prop:=
  br (decide (c.jB<(4:Int)))
  (bz c.jB (IntKind.wrap .i64 ((4:Int)+(Int.tmod (IntKind.wrap .i64 (c.jB+(1:Int))) (4:Int)))) (IntKind.wrap .i64 ((8:Int)+(Int.tmod (IntKind.wrap .i64 (c.jB+(2:Int))) (4:Int)))) (IntKind.wrap .i64 ((12:Int)+(Int.tmod (IntKind.wrap .i64 (c.jB+(3:Int))) (4:Int)))) c.w8 fun BB=>
  S3 {c with w8:=BB,jB:=(IntKind.wrap .i64 (c.jB+(1:Int)))})
  (S1 {c with v20:=(IntKind.wrap .i64 (c.v20+(1:Int)))})
def L3 (S1:V→Prop) (Q:QT) (c:V):Prop:=Lf (fun S=>B3 S1 S Q) c
theorem ff (S1:V→Prop) {Q:QT} {c:V} (H:B3 S1 (L3 S1 Q) Q c):L3 S1 Q c:=Lf.fold H
def B2 (S1:V→Prop) (S2:V→Prop) (Q:QT) (c:V):Prop:=
  br (decide (c.l9<(4:Int)))
  (bz c.l9 (IntKind.wrap .i64 ((4:Int)+c.l9)) (IntKind.wrap .i64 ((8:Int)+c.l9)) (IntKind.wrap .i64 ((12:Int)+c.l9)) c.w8 fun mO=>
  S2 {c with w8:=mO,l9:=(IntKind.wrap .i64 (c.l9+(1:Int)))})
  (L3 S1 Q {c with jB:=(0:Int)})
def L2 (S1:V→Prop) (Q:QT) (c:V):Prop:=Lf (fun S=>B2 S1 S Q) c
theorem cM (S1:V→Prop) {Q:QT} {c:V} (H:B2 S1 (L2 S1 Q) Q c):L2 S1 Q c:=Lf.fold H
def B4 (S4:V→Prop) (Q:QT) (c:V):Prop:=
  br (decide (c.l6<(64:Int)))
  (ixP c.w8.toList (IntKind.wrap .i64 (Int.tdiv c.l6 (4:Int))) fun sY=>
  ixP c.bw.toList (IntKind.wrap .i64 (Int.tdiv c.l6 (4:Int))) fun sW=>
  (0≤(IntKind.wrap .i64 ((8:Int)*(Int.tmod c.l6 (4:Int)))))∧
  ixP c.pJ.toList c.l6 fun TZ=>
  S4 {c with pJ:=(c.pJ.setIfInBounds (Int.toNat c.l6) (IntKind.wrap .u8 (Int.fdiv (IntKind.wrap .u32 (sY+sW)) (2 ^ (min (Int.toNat (IntKind.wrap .i64 ((8:Int)*(Int.tmod c.l6 (4:Int))))) (IntKind.bits .u32)))))),l6:=(IntKind.wrap .i64 (c.l6+(1:Int)))})
  (Q c.pJ)
def L4 (Q:QT) (c:V):Prop:=Lf (fun S=>B4 S Q) c
theorem kg {Q:QT} {c:V} (H:B4 (L4 Q) Q c):L4 Q c:=Lf.fold H
def B1 (S1:V→Prop) (Q:QT) (c:V):Prop:=
  br (decide (c.v20<(10:Int)))
  (L2 S1 Q {c with l9:=(0:Int)})
  (L4 Q {c with pJ:=(Vector.replicate 64 (0:Int)),l6:=(0:Int)})
def L1 (Q:QT) (c:V):Prop:=Lf (fun S=>B1 S Q) c
theorem bY {Q:QT} {c:V} (H:B1 (L1 Q) Q c):L1 Q c:=Lf.fold H
end ay
def ay (iK:Vector Int 32) (fS:Vector Int 12) (bM:Int) (Q:ay.QT):Prop:=
  aT iK fS bM fun qi=>
  ay.L1 Q {ay.v0 with v6:=(Vector.replicate 64 (0:Int)),bw:=qi,w8:=qi,v20:=(0:Int)}
namespace bI
structure V where
  bM:Int
  jS:Vector Int 32
  iI:Vector Int 12
  gE:List Int
  iJ:Int
  RV:Vector Int 64
  Rl:Int
  jB:Int
def v0:V:=⟨0,Vector.replicate 32 0,Vector.replicate 12 0,[],0,Vector.replicate 64 0,0,0⟩
abbrev QT:=(List Int)→Prop
def B2 (S1:V→Prop) (S2:V→Prop) (Q:QT) (c:V):Prop:=
  br (decide (c.jB<c.Rl))
  (ixP c.gE (IntKind.wrap .i64 (c.iJ+c.jB)) fun TY=>
  ixP c.RV.toList c.jB fun oe=>
  ixP c.gE (IntKind.wrap .i64 (c.iJ+c.jB)) fun Ln=>
  S2 {c with gE:=(c.gE.set (Int.toNat (IntKind.wrap .i64 (c.iJ+c.jB))) (IntKind.wrap .u8 (((BitVec.ofInt (IntKind.bits .u8) TY ^^^ (BitVec.ofInt (IntKind.bits .u8) oe)).toNat:Int)))),jB:=(IntKind.wrap .i64 (c.jB+(1:Int)))})
  (S1 {c with bM:=(IntKind.wrap .u32 (c.bM+(1:Int))),iJ:=(IntKind.wrap .i64 (c.iJ+(64:Int)))})
def L2 (S1:V→Prop) (Q:QT) (c:V):Prop:=Lf (fun S=>B2 S1 S Q) c
theorem cM (S1:V→Prop) {Q:QT} {c:V} (H:B2 S1 (L2 S1 Q) Q c):L2 S1 Q c:=Lf.fold H
def B1 (S1:V→Prop) (Q:QT) (c:V):Prop:=
  br (decide (c.iJ<(if (1048576:Int)<(c.gE.length:Int) then (1048576:Int) else (c.gE.length:Int))))
  (ay c.jS c.iI c.bM fun GZ=>
  (SlOk c.gE c.iJ (if (c.gE.length:Int)<(IntKind.wrap .i64 (c.iJ+(64:Int))) then (c.gE.length:Int) else (IntKind.wrap .i64 (c.iJ+(64:Int)))))∧
  L2 S1 Q {c with RV:=GZ,Rl:=((sub c.gE c.iJ (if (c.gE.length:Int)<(IntKind.wrap .i64 (c.iJ+(64:Int))) then (c.gE.length:Int) else (IntKind.wrap .i64 (c.iJ+(64:Int))))).length:Int),jB:=(0:Int)})
  (Q c.gE)
def L1 (Q:QT) (c:V):Prop:=Lf (fun S=>B1 S Q) c
theorem bY {Q:QT} {c:V} (H:B1 (L1 Q) Q c):L1 Q c:=Lf.fold H
end bI
def bI (iK:Vector Int 32) (fS:Vector Int 12) (bM:Int) (b3:List Int) (Q:bI.QT):Prop:=
  (Bnd (([]:List Int).length+b3.length))∧
  bI.L1 Q {bI.v0 with bM:=bM,jS:=iK,iI:=fS,gE:=(([]:List Int)++b3),iJ:=(0:Int)}
namespace bX
structure V where
  iz:Int
  gu:Int
  v4:Vector Int 12
  n5:Vector Int 12
  v7:Int
def v0:V:=⟨0,0,Vector.replicate 12 0,Vector.replicate 12 0,0⟩
abbrev QT:=(Vector Int 12)→Prop
def K2 (S1:V→Prop) (Q:QT) (c:V):Prop:=
  S1 {c with v7:=(IntKind.wrap .i64 (c.v7+(1:Int)))}
def B1 (S1:V→Prop) (Q:QT) (c:V):Prop:=
  br (decide (c.v7<(12:Int)))
  (br (decide (c.v7<(4:Int)))
  (mP (IntKind.wrap .i64 ((8:Int)*c.v7)) fun _=>
  ixP c.n5.toList c.v7 fun G1=>
  K2 S1 Q {c with n5:=(c.n5.setIfInBounds (Int.toNat c.v7) (IntKind.wrap .u8 (Int.fdiv c.iz (2 ^ (min (Int.toNat (IntKind.wrap .i64 ((8:Int)*c.v7))) (IntKind.bits .u32))))))})
  (mP (IntKind.wrap .i64 ((8:Int)*(IntKind.wrap .i64 (c.v7 - (4:Int))))) fun _=>
  ixP c.n5.toList c.v7 fun qF=>
  K2 S1 Q {c with n5:=(c.n5.setIfInBounds (Int.toNat c.v7) (IntKind.wrap .u8 (Int.fdiv c.gu (2 ^ (min (Int.toNat (IntKind.wrap .i64 ((8:Int)*(IntKind.wrap .i64 (c.v7 - (4:Int)))))) (IntKind.bits .u64))))))}))
  (Q c.n5)
def L1 (Q:QT) (c:V):Prop:=Lf (fun S=>B1 S Q) c
theorem bY {Q:QT} {c:V} (H:B1 (L1 Q) Q c):L1 Q c:=Lf.fold H
end bX
def bX (iz:Int) (gu:Int) (Q:bX.QT):Prop:=
  bX.L1 Q {bX.v0 with iz:=iz,gu:=gu,v4:=(Vector.replicate 12 (0:Int)),n5:=(Vector.replicate 12 (0:Int)),v7:=(0:Int)}
namespace dF
structure V where
  cT:Int
  gO:Int
  jU:List Int
  jS:Vector Int 32
  ej:Bool
def v0:V:=⟨0,0,[],Vector.replicate 32 0,false⟩
abbrev QT:=(List Int)→Int→Prop
def K1 (Q:QT) (c:V):Prop:=
  br c.ej
  (Q ([]:List Int) (1:Int))
  (bX c.cT (IntKind.wrap .u64 c.gO) fun qi=>
  bI c.jS qi (0:Int) c.jU fun Ep=>
  Q Ep (0:Int))
end dF
def dF (iK:Vector Int 32) (cT:Int) (gO:Int) (jU:List Int) (Q:dF.QT):Prop:=
  br ((jU.length:Int) !=(256:Int))
  (dF.K1 Q {dF.v0 with cT:=cT,gO:=gO,jU:=jU,jS:=iK,ej:=true})
  (dF.K1 Q {dF.v0 with cT:=cT,gO:=gO,jU:=jU,jS:=iK,ej:=(decide (gO<(0:Int)))})
def lg (n0:Int) (Q:Bool→Prop):Prop:=
  br (n0==(0:Int))
  (Q true)
  (Q (n0==(1:Int)))
def fA (s0:List Int) (Q:List Int→Prop):Prop:=cloneP s0 Q
def tw (Q:cO→Prop):Prop:=
  Q (⟨(Vector.replicate 8 (0:Int)),([]:List Int),(0:Int)⟩:cO)
def wI (Q:(Vector Int 8)→Prop):Prop:=
  Q (#v[(1779033703:Int),(3144134277:Int),(1013904242:Int),(2773480762:Int),(1359893119:Int),(2600822924:Int),(528734635:Int),(1541459225:Int)])
def gn (x0:Int) (n1:Int) (Q:Int→Prop):Prop:=
  dU x0 (IntKind.wrap .i64 (0 - (Int.tmod n1 (32:Int)))) fun MX=>
  Q MX
namespace cX
structure V where
  w3:Int
  v6:List Int
  v7:Int
  v8:Int
def v0:V:=⟨0,[],0,0⟩
abbrev QT:=Int→Prop
def B1 (S1:V→Prop) (Q:QT) (c:V):Prop:=
  br (decide (c.v8<c.v7))
  (ixP c.v6 c.v8 fun yI=>
  S1 {c with w3:=(IntKind.wrap .u32 (((BitVec.ofInt (IntKind.bits .u32) (IntKind.wrap .u32 (c.w3*2 ^ (min (Int.toNat (8:Int)) (IntKind.bits .u32)))) ||| (BitVec.ofInt (IntKind.bits .u32) (IntKind.wrap .u32 yI))).toNat:Int))),v8:=(IntKind.wrap .i64 (c.v8+(1:Int)))})
  (Q c.w3)
def L1 (Q:QT) (c:V):Prop:=Lf (fun S=>B1 S Q) c
theorem bY {Q:QT} {c:V} (H:B1 (L1 Q) Q c):L1 Q c:=Lf.fold H
end cX
def cX (b0:List Int) (Q:cX.QT):Prop:=
  cX.L1 Q {cX.v0 with w3:=(0:Int),v6:=b0,v7:=(b0.length:Int),v8:=(0:Int)}
namespace cu
structure V where
  b0:List Int
  v2:Vector Int 64
  w3:Vector Int 64
  v9:Int
def v0:V:=⟨[],Vector.replicate 64 0,Vector.replicate 64 0,0⟩
abbrev QT:=(Vector Int 64)→Prop
def K2 (S1:V→Prop) (Q:QT) (c:V):Prop:=
  S1 {c with v9:=(IntKind.wrap .i64 (c.v9+(1:Int)))}
def B1 (S1:V→Prop) (Q:QT) (c:V):Prop:=
  br (decide (c.v9<(64:Int)))
  (br (decide (c.v9<(16:Int)))
  ((SlOk c.b0 (IntKind.wrap .i64 ((4:Int)*c.v9)) (IntKind.wrap .i64 ((IntKind.wrap .i64 ((4:Int)*c.v9))+(4:Int))))∧
  cX (sub c.b0 (IntKind.wrap .i64 ((4:Int)*c.v9)) (IntKind.wrap .i64 ((IntKind.wrap .i64 ((4:Int)*c.v9))+(4:Int)))) fun sZ=>
  ixP c.w3.toList c.v9 fun sX=>
  K2 S1 Q {c with w3:=(c.w3.setIfInBounds (Int.toNat c.v9) sZ)})
  (ixP c.w3.toList (IntKind.wrap .i64 (c.v9 - (15:Int))) fun jx=>
  ixP c.w3.toList (IntKind.wrap .i64 (c.v9 - (2:Int))) fun mQ=>
  gn jx (7:Int) fun Ew=>
  gn jx (18:Int) fun wk=>
  gn mQ (17:Int) fun Ey=>
  gn mQ (19:Int) fun Lm=>
  ixP c.w3.toList (IntKind.wrap .i64 (c.v9 - (7:Int))) fun s5=>
  ixP c.w3.toList (IntKind.wrap .i64 (c.v9 - (16:Int))) fun zz=>
  ixP c.w3.toList c.v9 fun T5=>
  K2 S1 Q {c with w3:=(c.w3.setIfInBounds (Int.toNat c.v9) (IntKind.wrap .u32 ((IntKind.wrap .u32 ((IntKind.wrap .u32 ((IntKind.wrap .u32 (((BitVec.ofInt (IntKind.bits .u32) (IntKind.wrap .u32 (((BitVec.ofInt (IntKind.bits .u32) Ey ^^^ (BitVec.ofInt (IntKind.bits .u32) Lm)).toNat:Int))) ^^^ (BitVec.ofInt (IntKind.bits .u32) (Int.fdiv mQ (2 ^ (min (Int.toNat (10:Int)) (IntKind.bits .u32)))))).toNat:Int)))+s5))+(IntKind.wrap .u32 (((BitVec.ofInt (IntKind.bits .u32) (IntKind.wrap .u32 (((BitVec.ofInt (IntKind.bits .u32) Ew ^^^ (BitVec.ofInt (IntKind.bits .u32) wk)).toNat:Int))) ^^^ (BitVec.ofInt (IntKind.bits .u32) (Int.fdiv jx (2 ^ (min (Int.toNat (3:Int)) (IntKind.bits .u32)))))).toNat:Int)))))+zz)))}))
  (Q c.w3)
def L1 (Q:QT) (c:V):Prop:=Lf (fun S=>B1 S Q) c
theorem bY {Q:QT} {c:V} (H:B1 (L1 Q) Q c):L1 Q c:=Lf.fold H
end cu
def cu (b0:List Int) (Q:cu.QT):Prop:=
  cu.L1 Q {cu.v0 with b0:=b0,v2:=(Vector.replicate 64 (0:Int)),w3:=(Vector.replicate 64 (0:Int)),v9:=(0:Int)}
def pG (Q:(Vector Int 64)→Prop):Prop:=
  Q (#v[(1116352408:Int),(1899447441:Int),(3049323471:Int),(3921009573:Int),(961987163:Int),(1508970993:Int),(2453635748:Int),(2870763221:Int),(3624381080:Int),(310598401:Int),(607225278:Int),(1426881987:Int),(1925078388:Int),(2162078206:Int),(2614888103:Int),(3248222580:Int),(3835390401:Int),(4022224774:Int),(264347078:Int),(604807628:Int),(770255983:Int),(1249150122:Int),(1555081692:Int),(1996064986:Int),(2554220882:Int),(2821834349:Int),(2952996808:Int),(3210313671:Int),(3336571891:Int),(3584528711:Int),(113926993:Int),(338241895:Int),(666307205:Int),(773529912:Int),(1294757372:Int),(1396182291:Int),(1695183700:Int),(1986661051:Int),(2177026350:Int),(2456956037:Int),(2730485921:Int),(2820302411:Int),(3259730800:Int),(3345764771:Int),(3516065817:Int),(3600352804:Int),(4094571909:Int),(275423344:Int),(430227734:Int),(506948616:Int),(659060556:Int),(883997877:Int),(958139571:Int),(1322822218:Int),(1537002063:Int),(1747873779:Int),(1955562222:Int),(2024104815:Int),(2227730452:Int),(2361852424:Int),(2428436474:Int),(2756734187:Int),(3204031479:Int),(3329325298:Int)])
namespace cq
structure V where
  h2:Vector Int 8
  v4:Vector Int 8
  w5:Vector Int 64
  k6:Vector Int 64
  x7:Vector Int 8
  jO:Int
  zk:Int
def v0:V:=⟨Vector.replicate 8 0,Vector.replicate 8 0,Vector.replicate 64 0,Vector.replicate 64 0,Vector.replicate 8 0,0,0⟩
abbrev QT:=(Vector Int 8)→Prop
def B2 (S2:V→Prop) (Q:QT) (c:V):Prop:=
  br (decide (c.zk<(8:Int)))
  (ixP c.h2.toList c.zk fun T6=>
  ixP c.x7.toList c.zk fun G2=>
  ixP c.h2.toList c.zk fun age=>
  S2 {c with h2:=(c.h2.setIfInBounds (Int.toNat c.zk) (IntKind.wrap .u32 (T6+G2))),zk:=(IntKind.wrap .i64 (c.zk+(1:Int)))})
  (Q c.h2)
def L2 (Q:QT) (c:V):Prop:=Lf (fun S=>B2 S Q) c
theorem cM {Q:QT} {c:V} (H:B2 (L2 Q) Q c):L2 Q c:=Lf.fold H
def B1 (S1:V→Prop) (Q:QT) (c:V):Prop:=
  br (decide (c.jO<(64:Int)))
  (ixP c.x7.toList (0:Int) fun jx=>
  ixP c.x7.toList (4:Int) fun mQ=>
  ixP c.x7.toList (7:Int) fun oe=>
  ixP c.x7.toList (5:Int) fun wm=>
  ixP c.x7.toList (6:Int) fun uB=>
  ixP c.k6.toList c.jO fun zy=>
  ixP c.w5.toList c.jO fun xQ=>
  gn mQ (6:Int) fun Lo=>
  gn mQ (11:Int) fun og=>
  gn mQ (25:Int) fun Lq=>
  ixP c.x7.toList (1:Int) fun G3=>
  ixP c.x7.toList (2:Int) fun PA=>
  ixP c.x7.toList (1:Int) fun BA=>
  ixP c.x7.toList (2:Int) fun PD=>
  gn jx (2:Int) fun lX=>
  gn jx (13:Int) fun G4=>
  gn jx (22:Int) fun PE=>
  (SlOk c.x7.toList (1:Int) ((8:Nat):Int))∧
  (SlOk c.x7.toList (0:Int) (7:Int))∧
  ixP (cpV c.x7 (Int.toNat (1:Int)) (sub c.x7.toList (0:Int) (7:Int))).toList (0:Int) fun T7=>
  ixP ((cpV c.x7 (Int.toNat (1:Int)) (sub c.x7.toList (0:Int) (7:Int))).setIfInBounds (Int.toNat (0:Int)) (IntKind.wrap .u32 ((IntKind.wrap .u32 ((IntKind.wrap .u32 ((IntKind.wrap .u32 ((IntKind.wrap .u32 (oe+(IntKind.wrap .u32 (((BitVec.ofInt (IntKind.bits .u32) (IntKind.wrap .u32 (((BitVec.ofInt (IntKind.bits .u32) Lo ^^^ (BitVec.ofInt (IntKind.bits .u32) og)).toNat:Int))) ^^^ (BitVec.ofInt (IntKind.bits .u32) Lq)).toNat:Int)))))+(IntKind.wrap .u32 (((BitVec.ofInt (IntKind.bits .u32) (IntKind.wrap .u32 (((BitVec.ofInt (IntKind.bits .u32) mQ &&& (BitVec.ofInt (IntKind.bits .u32) wm)).toNat:Int))) ^^^ (BitVec.ofInt (IntKind.bits .u32) (IntKind.wrap .u32 (((BitVec.ofInt (IntKind.bits .u32) (IntKind.wrap .u32 ((BitVec.ofInt (IntKind.bits .u32) (if IntKind.signed .u32 then -1 else IntKind.max .u32) ^^^ BitVec.ofInt (IntKind.bits .u32) mQ).toNat:Int)) &&& (BitVec.ofInt (IntKind.bits .u32) uB)).toNat:Int))))).toNat:Int)))))+zy))+xQ))+(IntKind.wrap .u32 ((IntKind.wrap .u32 (((BitVec.ofInt (IntKind.bits .u32) (IntKind.wrap .u32 (((BitVec.ofInt (IntKind.bits .u32) lX ^^^ (BitVec.ofInt (IntKind.bits .u32) G4)).toNat:Int))) ^^^ (BitVec.ofInt (IntKind.bits .u32) PE)).toNat:Int)))+(IntKind.wrap .u32 (((BitVec.ofInt (IntKind.bits .u32) (IntKind.wrap .u32 (((BitVec.ofInt (IntKind.bits .u32) (IntKind.wrap .u32 (((BitVec.ofInt (IntKind.bits .u32) jx &&& (BitVec.ofInt (IntKind.bits .u32) G3)).toNat:Int))) ^^^ (BitVec.ofInt (IntKind.bits .u32) (IntKind.wrap .u32 (((BitVec.ofInt (IntKind.bits .u32) jx &&& (BitVec.ofInt (IntKind.bits .u32) PA)).toNat:Int))))).toNat:Int))) ^^^ (BitVec.ofInt (IntKind.bits .u32) (IntKind.wrap .u32 (((BitVec.ofInt (IntKind.bits .u32) BA &&& (BitVec.ofInt (IntKind.bits .u32) PD)).toNat:Int))))).toNat:Int)))))))).toList (4:Int) fun wL=>
  ixP ((cpV c.x7 (Int.toNat (1:Int)) (sub c.x7.toList (0:Int) (7:Int))).setIfInBounds (Int.toNat (0:Int)) (IntKind.wrap .u32 ((IntKind.wrap .u32 ((IntKind.wrap .u32 ((IntKind.wrap .u32 ((IntKind.wrap .u32 (oe+(IntKind.wrap .u32 (((BitVec.ofInt (IntKind.bits .u32) (IntKind.wrap .u32 (((BitVec.ofInt (IntKind.bits .u32) Lo ^^^ (BitVec.ofInt (IntKind.bits .u32) og)).toNat:Int))) ^^^ (BitVec.ofInt (IntKind.bits .u32) Lq)).toNat:Int)))))+(IntKind.wrap .u32 (((BitVec.ofInt (IntKind.bits .u32) (IntKind.wrap .u32 (((BitVec.ofInt (IntKind.bits .u32) mQ &&& (BitVec.ofInt (IntKind.bits .u32) wm)).toNat:Int))) ^^^ (BitVec.ofInt (IntKind.bits .u32) (IntKind.wrap .u32 (((BitVec.ofInt (IntKind.bits .u32) (IntKind.wrap .u32 ((BitVec.ofInt (IntKind.bits .u32) (if IntKind.signed .u32 then -1 else IntKind.max .u32) ^^^ BitVec.ofInt (IntKind.bits .u32) mQ).toNat:Int)) &&& (BitVec.ofInt (IntKind.bits .u32) uB)).toNat:Int))))).toNat:Int)))))+zy))+xQ))+(IntKind.wrap .u32 ((IntKind.wrap .u32 (((BitVec.ofInt (IntKind.bits .u32) (IntKind.wrap .u32 (((BitVec.ofInt (IntKind.bits .u32) lX ^^^ (BitVec.ofInt (IntKind.bits .u32) G4)).toNat:Int))) ^^^ (BitVec.ofInt (IntKind.bits .u32) PE)).toNat:Int)))+(IntKind.wrap .u32 (((BitVec.ofInt (IntKind.bits .u32) (IntKind.wrap .u32 (((BitVec.ofInt (IntKind.bits .u32) (IntKind.wrap .u32 (((BitVec.ofInt (IntKind.bits .u32) jx &&& (BitVec.ofInt (IntKind.bits .u32) G3)).toNat:Int))) ^^^ (BitVec.ofInt (IntKind.bits .u32) (IntKind.wrap .u32 (((BitVec.ofInt (IntKind.bits .u32) jx &&& (BitVec.ofInt (IntKind.bits .u32) PA)).toNat:Int))))).toNat:Int))) ^^^ (BitVec.ofInt (IntKind.bits .u32) (IntKind.wrap .u32 (((BitVec.ofInt (IntKind.bits .u32) BA &&& (BitVec.ofInt (IntKind.bits .u32) PD)).toNat:Int))))).toNat:Int)))))))).toList (4:Int) fun CV=>
  S1 {c with x7:=(((cpV c.x7 (Int.toNat (1:Int)) (sub c.x7.toList (0:Int) (7:Int))).setIfInBounds (Int.toNat (0:Int)) (IntKind.wrap .u32 ((IntKind.wrap .u32 ((IntKind.wrap .u32 ((IntKind.wrap .u32 ((IntKind.wrap .u32 (oe+(IntKind.wrap .u32 (((BitVec.ofInt (IntKind.bits .u32) (IntKind.wrap .u32 (((BitVec.ofInt (IntKind.bits .u32) Lo ^^^ (BitVec.ofInt (IntKind.bits .u32) og)).toNat:Int))) ^^^ (BitVec.ofInt (IntKind.bits .u32) Lq)).toNat:Int)))))+(IntKind.wrap .u32 (((BitVec.ofInt (IntKind.bits .u32) (IntKind.wrap .u32 (((BitVec.ofInt (IntKind.bits .u32) mQ &&& (BitVec.ofInt (IntKind.bits .u32) wm)).toNat:Int))) ^^^ (BitVec.ofInt (IntKind.bits .u32) (IntKind.wrap .u32 (((BitVec.ofInt (IntKind.bits .u32) (IntKind.wrap .u32 ((BitVec.ofInt (IntKind.bits .u32) (if IntKind.signed .u32 then -1 else IntKind.max .u32) ^^^ BitVec.ofInt (IntKind.bits .u32) mQ).toNat:Int)) &&& (BitVec.ofInt (IntKind.bits .u32) uB)).toNat:Int))))).toNat:Int)))))+zy))+xQ))+(IntKind.wrap .u32 ((IntKind.wrap .u32 (((BitVec.ofInt (IntKind.bits .u32) (IntKind.wrap .u32 (((BitVec.ofInt (IntKind.bits .u32) lX ^^^ (BitVec.ofInt (IntKind.bits .u32) G4)).toNat:Int))) ^^^ (BitVec.ofInt (IntKind.bits .u32) PE)).toNat:Int)))+(IntKind.wrap .u32 (((BitVec.ofInt (IntKind.bits .u32) (IntKind.wrap .u32 (((BitVec.ofInt (IntKind.bits .u32) (IntKind.wrap .u32 (((BitVec.ofInt (IntKind.bits .u32) jx &&& (BitVec.ofInt (IntKind.bits .u32) G3)).toNat:Int))) ^^^ (BitVec.ofInt (IntKind.bits .u32) (IntKind.wrap .u32 (((BitVec.ofInt (IntKind.bits .u32) jx &&& (BitVec.ofInt (IntKind.bits .u32) PA)).toNat:Int))))).toNat:Int))) ^^^ (BitVec.ofInt (IntKind.bits .u32) (IntKind.wrap .u32 (((BitVec.ofInt (IntKind.bits .u32) BA &&& (BitVec.ofInt (IntKind.bits .u32) PD)).toNat:Int))))).toNat:Int)))))))).setIfInBounds (Int.toNat (4:Int)) (IntKind.wrap .u32 (wL+(IntKind.wrap .u32 ((IntKind.wrap .u32 ((IntKind.wrap .u32 ((IntKind.wrap .u32 (oe+(IntKind.wrap .u32 (((BitVec.ofInt (IntKind.bits .u32) (IntKind.wrap .u32 (((BitVec.ofInt (IntKind.bits .u32) Lo ^^^ (BitVec.ofInt (IntKind.bits .u32) og)).toNat:Int))) ^^^ (BitVec.ofInt (IntKind.bits .u32) Lq)).toNat:Int)))))+(IntKind.wrap .u32 (((BitVec.ofInt (IntKind.bits .u32) (IntKind.wrap .u32 (((BitVec.ofInt (IntKind.bits .u32) mQ &&& (BitVec.ofInt (IntKind.bits .u32) wm)).toNat:Int))) ^^^ (BitVec.ofInt (IntKind.bits .u32) (IntKind.wrap .u32 (((BitVec.ofInt (IntKind.bits .u32) (IntKind.wrap .u32 ((BitVec.ofInt (IntKind.bits .u32) (if IntKind.signed .u32 then -1 else IntKind.max .u32) ^^^ BitVec.ofInt (IntKind.bits .u32) mQ).toNat:Int)) &&& (BitVec.ofInt (IntKind.bits .u32) uB)).toNat:Int))))).toNat:Int)))))+zy))+xQ))))),jO:=(IntKind.wrap .i64 (c.jO+(1:Int)))})
  (L2 Q {c with zk:=(0:Int)})
def L1 (Q:QT) (c:V):Prop:=Lf (fun S=>B1 S Q) c
theorem bY {Q:QT} {c:V} (H:B1 (L1 Q) Q c):L1 Q c:=Lf.fold H
end cq
def cq (h0:Vector Int 8) (b1:List Int) (Q:cq.QT):Prop:=
  cu b1 fun qE=>
  pG fun qi=>
  cq.L1 Q {cq.v0 with h2:=h0,v4:=(Vector.replicate 8 (0:Int)),w5:=qE,k6:=qi,x7:=h0,jO:=(0:Int)}
namespace aJ
structure V where
  b1:List Int
  s2:cO
  v4:cO
  kD:Bool
  jH:List Int
def v0:V:=⟨[],(⟨(Vector.replicate 8 (0:Int)),[],(0:Int)⟩:cO),(⟨(Vector.replicate 8 (0:Int)),[],(0:Int)⟩:cO),false,[]⟩
abbrev QT:=cO→Prop
def B2 (S2:V→Prop) (Q:QT) (c:V):Prop:=
  br (decide ((c.jH.length:Int)≥(64:Int)))
  ((SlOk c.jH (0:Int) (64:Int))∧
  cq c.s2.h (sub c.jH (0:Int) (64:Int)) fun qD=>
  (SlOk c.jH (64:Int) (c.jH.length:Int))∧
  S2 {c with s2:=(⟨qD,c.s2.rest,c.s2.n⟩:cO),jH:=(sub c.jH (64:Int) (c.jH.length:Int))})
  (Q (⟨c.s2.h,c.jH,c.s2.n⟩:cO))
def L2 (Q:QT) (c:V):Prop:=Lf (fun S=>B2 S Q) c
theorem cM {Q:QT} {c:V} (H:B2 (L2 Q) Q c):L2 Q c:=Lf.fold H
def K3 (Q:QT) (c:V):Prop:=
  (Bnd (([]:List Int).length+c.s2.rest.length))∧
  (Bnd ((([]:List Int)++c.s2.rest).length+c.b1.length))∧
  L2 Q {c with s2:=(⟨c.s2.h,c.s2.rest,(IntKind.wrap .u64 (c.s2.n+(IntKind.wrap .u64 (c.b1.length:Int))))⟩:cO),jH:=((([]:List Int)++c.s2.rest)++c.b1)}
def K1 (Q:QT) (c:V):Prop:=
  br c.kD
  (wI fun Ez=>
  K3 Q {c with s2:=(⟨Ez,c.s2.rest,c.s2.n⟩:cO)})
  (K3 Q c)
end aJ
def aJ (s0:cO) (b1:List Int) (Q:aJ.QT):Prop:=
  br (decide (s0.n<(64:Int)))
  (aJ.K1 Q {aJ.v0 with b1:=b1,s2:=s0,v4:=(⟨(Vector.replicate 8 (0:Int)),([]:List Int),(0:Int)⟩:cO),kD:=((s0.rest.length:Int)==(IntKind.wrap .i64 s0.n))})
  (aJ.K1 Q {aJ.v0 with b1:=b1,s2:=s0,v4:=(⟨(Vector.replicate 8 (0:Int)),([]:List Int),(0:Int)⟩:cO),kD:=false})
namespace aI
structure V where
  s1:cO
  v2:Vector Int 32
  lq:List Int
  v21:Int
  sD:cO
  d6:Vector Int 32
  zl:Int
def v0:V:=⟨(⟨(Vector.replicate 8 (0:Int)),[],(0:Int)⟩:cO),Vector.replicate 32 0,[],0,(⟨(Vector.replicate 8 (0:Int)),[],(0:Int)⟩:cO),Vector.replicate 32 0,0⟩
abbrev QT:=(Vector Int 32)→Prop
def B3 (S3:V→Prop) (Q:QT) (c:V):Prop:=
  br (decide (c.zl<(32:Int)))
  (ixP c.sD.h.toList (IntKind.wrap .i64 (Int.tdiv c.zl (4:Int))) fun adG=>
  mP (IntKind.wrap .i64 ((24:Int) - (IntKind.wrap .i64 ((8:Int)*(Int.tmod c.zl (4:Int)))))) fun _=>
  ixP c.d6.toList c.zl fun alw=>
  S3 {c with d6:=(c.d6.setIfInBounds (Int.toNat c.zl) (IntKind.wrap .u8 (Int.fdiv adG (2 ^ (min (Int.toNat (IntKind.wrap .i64 ((24:Int) - (IntKind.wrap .i64 ((8:Int)*(Int.tmod c.zl (4:Int))))))) (IntKind.bits .u32)))))),zl:=(IntKind.wrap .i64 (c.zl+(1:Int)))})
  (Q c.d6)
def L3 (Q:QT) (c:V):Prop:=Lf (fun S=>B3 S Q) c
theorem ff {Q:QT} {c:V} (H:B3 (L3 Q) Q c):L3 Q c:=Lf.fold H
def B2 (S2:V→Prop) (Q:QT) (c:V):Prop:=
  br (decide (c.v21<(8:Int)))
  (mP (IntKind.wrap .i64 ((8:Int)*(IntKind.wrap .i64 ((7:Int) - c.v21)))) fun _=>
  (Bnd (c.lq.length+([(IntKind.wrap .u8 (Int.fdiv (IntKind.wrap .u64 ((8:Int)*c.s1.n)) (2 ^ (min (Int.toNat (IntKind.wrap .i64 ((8:Int)*(IntKind.wrap .i64 ((7:Int) - c.v21))))) (IntKind.bits .u64)))))]).length))∧
  S2 {c with lq:=(c.lq++[(IntKind.wrap .u8 (Int.fdiv (IntKind.wrap .u64 ((8:Int)*c.s1.n)) (2 ^ (min (Int.toNat (IntKind.wrap .i64 ((8:Int)*(IntKind.wrap .i64 ((7:Int) - c.v21))))) (IntKind.bits .u64)))))]),v21:=(IntKind.wrap .i64 (c.v21+(1:Int)))})
  (aJ c.s1 c.lq fun rG=>
  L3 Q {c with sD:=rG,d6:=(Vector.replicate 32 (0:Int)),zl:=(0:Int)})
def L2 (Q:QT) (c:V):Prop:=Lf (fun S=>B2 S Q) c
theorem cM {Q:QT} {c:V} (H:B2 (L2 Q) Q c):L2 Q c:=Lf.fold H
def B1 (S1:V→Prop) (Q:QT) (c:V):Prop:=
  br ((Int.tmod (IntKind.wrap .i64 ((IntKind.wrap .i64 ((c.s1.rest.length:Int)+(c.lq.length:Int)))+(8:Int))) (64:Int)) !=(0:Int))
  ((Bnd (c.lq.length+([(0:Int)]).length))∧
  S1 {c with lq:=(c.lq++[(0:Int)])})
  (L2 Q {c with v21:=(0:Int)})
def L1 (Q:QT) (c:V):Prop:=Lf (fun S=>B1 S Q) c
theorem bY {Q:QT} {c:V} (H:B1 (L1 Q) Q c):L1 Q c:=Lf.fold H
end aI
def aI (s0:cO) (Q:aI.QT):Prop:=
  aI.L1 Q {aI.v0 with s1:=s0,v2:=(Vector.replicate 32 (0:Int)),lq:=[(128:Int)]}
namespace cZ
structure V where
  v2:Vector Int 32
  s3:cO
  v7:List (List Int)
  v8:Int
  v9:Int
def v0:V:=⟨Vector.replicate 32 0,(⟨(Vector.replicate 8 (0:Int)),[],(0:Int)⟩:cO),[],0,0⟩
abbrev QT:=(Vector Int 32)→Prop
def B1 (S1:V→Prop) (Q:QT) (c:V):Prop:=
  br (decide (c.v9<c.v8))
  (ixP c.v7 c.v9 fun qF=>
  aJ c.s3 qF fun BB=>
  S1 {c with s3:=BB,v9:=(IntKind.wrap .i64 (c.v9+(1:Int)))})
  (aI c.s3 fun pe=>
  Q pe)
def L1 (Q:QT) (c:V):Prop:=Lf (fun S=>B1 S Q) c
theorem bY {Q:QT} {c:V} (H:B1 (L1 Q) Q c):L1 Q c:=Lf.fold H
end cZ
def cZ (jN:List (List Int)) (Q:cZ.QT):Prop:=
  tw fun Ki=>
  cZ.L1 Q {cZ.v0 with v2:=(Vector.replicate 32 (0:Int)),s3:=Ki,v7:=jN,v8:=(jN.length:Int),v9:=(0:Int)}
namespace bB
structure V where
  b0:Option Addr
  eG:List Int
  v4:Vector Int 32
  kO:Bool
def v0:V:=⟨none,[],Vector.replicate 32 0,false⟩
abbrev QT:=(Vector Int 32)→St Obj→Prop
def K2 (Q:QT) (c:V) (σ:St Obj):Prop:=
  cZ ([c.eG]) fun xR=>
  Q xR σ
def K1 (Q:QT) (c:V) (σ:St Obj):Prop:=
  br c.kO
  (nilW c.b0 fun BC=>
  qB σ BC fun oZ=>
  fA c.eG fun BD=>
  (Bnd (oZ.texts.length+([BD]).length))∧
  K2 Q c (sset σ BC (.eM (⟨(oZ.texts++[BD])⟩:eM))))
  (K2 Q c σ)
end bB
def bB (b0:Option Addr) (eG:List Int) (σ:St Obj) (Q:bB.QT):Prop:=
  br (!(Option.isNone b0))
  (nilW b0 fun tE=>
  qB σ tE fun Eo=>
  ∀ G5:Bool,G5=(decide ((Eo.texts.length:Int)<(100000:Int)))→
  bB.K1 Q {bB.v0 with b0:=b0,eG:=eG,v4:=(Vector.replicate 32 (0:Int)),kO:=G5} σ)
  (bB.K1 Q {bB.v0 with b0:=b0,eG:=eG,v4:=(Vector.replicate 32 (0:Int)),kO:=false} σ)
namespace cw
structure V where
  b0:Option Addr
  cU:Int
  eY:Int
  gF:aF
  Kh:List Int
  v31:Bool
def v0:V:=⟨none,0,0,(⟨(0:Int),(0:Int),(Vector.replicate 32 (0:Int))⟩:aF),[],false⟩
abbrev QT:=(List Int)→aF→Int→St Obj→Prop
def K1 (Q:QT) (c:V) (σ:St Obj):Prop:=
  br c.v31
  (Q ([]:List Int) (⟨(0:Int),(0:Int),(Vector.replicate 32 (0:Int))⟩:aF) (1:Int) σ)
  (bB c.b0 c.Kh σ fun uC σ_20=>
  Q c.Kh (⟨c.eY,c.cU,uC⟩:aF) (0:Int) σ_20)
end cw
def cw (b0:Option Addr) (mR:Vector Int 32) (cU:Int) (eY:Int) (jk:Int) (kR:List Int) (σ:St Obj) (Q:cw.QT):Prop:=
  dF mR cU jk kR fun qi G6=>
  br (G6 !=(0:Int))
  (cw.K1 Q {cw.v0 with b0:=b0,cU:=cU,eY:=eY,gF:=(⟨(0:Int),(0:Int),(Vector.replicate 32 (0:Int))⟩:aF),Kh:=qi,v31:=true} σ)
  (lg eY fun sZ=>
  cw.K1 Q {cw.v0 with b0:=b0,cU:=cU,eY:=eY,gF:=(⟨(0:Int),(0:Int),(Vector.replicate 32 (0:Int))⟩:aF),Kh:=qi,v31:=(!sZ)} σ)
def cB (p0:Option Addr) (bA:Int) (gY:List Int) (σ:St Obj) (Q:St Obj→Prop):Prop:=
  nilW p0 fun mS=>
  fH σ mS fun eN=>
  aR eN.shape bA fun uC mO Lr=>
  br Lr
  (lkOP eN.nodes uC fun zA=>
  ixP zA mO fun wo=>
  aS eN.shape bA (IntKind.wrap .i64 ((1:Int) - wo.Place)) fun ke=>
  (cw eN.book eN.key eN.fu (IntKind.wrap .i64 ((1:Int) - wo.Place)) ke gY (sdel σ mS) fun rG pn adH σ_46=>
  (Bnd (eN.dL.length+([(⟨ke,rG⟩:cv)]).length))∧
  ∀ _:σ_46 mS=none,
  Q (sset σ_46 mS (.aD (⟨eN.book,eN.key,eN.fu,eN.shape,eN.root,(eN.nodes.map (Pu.upd · uC (zA.set (Int.toNat mO) pn))),(eN.dL++[(⟨ke,rG⟩:cv)])⟩:aD))))∧
  (cw eN.book eN.key eN.fu (IntKind.wrap .i64 ((1:Int) - wo.Place)) ke gY (sdel σ mS) fun og s6 adI σ_69=>
  (Bnd (eN.dL.length+([(⟨ke,og⟩:cv)]).length))∧
  ∀ _:σ_69 mS=none,
  Q (sset σ_69 mS (.aD (⟨eN.book,eN.key,eN.fu,eN.shape,eN.root,(eN.nodes.map (Pu.upd · uC (zA.set (Int.toNat mO) s6))),(eN.dL++[(⟨ke,og⟩:cv)])⟩:aD)))))
  (aS eN.shape bA (IntKind.wrap .i64 ((1:Int) - eN.root.Place)) fun kf=>
  (cw eN.book eN.key eN.fu (IntKind.wrap .i64 ((1:Int) - eN.root.Place)) kf gY σ fun s7 lX G4 σ_92=>
  fH σ_92 mS fun gw=>
  (Bnd (gw.dL.length+([(⟨kf,s7⟩:cv)]).length))∧
  Q (sset σ_92 mS (.aD (⟨gw.book,gw.key,gw.fu,gw.shape,lX,gw.nodes,(gw.dL++[(⟨kf,s7⟩:cv)])⟩:aD))))∧
  (cw eN.book eN.key eN.fu (IntKind.wrap .i64 ((1:Int) - eN.root.Place)) kf gY σ fun pH kW T8 σ_126=>
  fH σ_126 mS fun fN=>
  (Bnd (fN.dL.length+([(⟨kf,pH⟩:cv)]).length))∧
  Q (sset σ_126 mS (.aD (⟨fN.book,fN.key,fN.fu,fN.shape,kW,fN.nodes,(fN.dL++[(⟨kf,pH⟩:cv)])⟩:aD)))))
def kr (CW:Int) (Q:Int→Prop):Prop:=
  Q (if (8:Int)<(if (1:Int)>CW then (1:Int) else CW) then (8:Int) else (if (1:Int)>CW then (1:Int) else CW))
namespace bR
structure V where
  n1:Int
  fh:List Int
def v0:V:=⟨0,[]⟩
abbrev QT:=(List Int)→Prop
def K7 (Q:QT) (c:V):Prop:=
  (Bnd (c.fh.length+([(IntKind.wrap .u8 c.n1)]).length))∧
  Q (c.fh++[(IntKind.wrap .u8 c.n1)])
def K6 (Q:QT) (c:V):Prop:=
  (Bnd (c.fh.length+([(IntKind.wrap .u8 c.n1)]).length))∧
  K7 Q {c with n1:=(Int.fdiv c.n1 (2 ^ (min (Int.toNat (8:Int)) (IntKind.bits .u64)))),fh:=(c.fh++[(IntKind.wrap .u8 c.n1)])}
def K5 (Q:QT) (c:V):Prop:=
  (Bnd (c.fh.length+([(IntKind.wrap .u8 c.n1)]).length))∧
  K6 Q {c with n1:=(Int.fdiv c.n1 (2 ^ (min (Int.toNat (8:Int)) (IntKind.bits .u64)))),fh:=(c.fh++[(IntKind.wrap .u8 c.n1)])}
def K4 (Q:QT) (c:V):Prop:=
  (Bnd (c.fh.length+([(IntKind.wrap .u8 c.n1)]).length))∧
  K5 Q {c with n1:=(Int.fdiv c.n1 (2 ^ (min (Int.toNat (8:Int)) (IntKind.bits .u64)))),fh:=(c.fh++[(IntKind.wrap .u8 c.n1)])}
def K3 (Q:QT) (c:V):Prop:=
  (Bnd (c.fh.length+([(IntKind.wrap .u8 c.n1)]).length))∧
  K4 Q {c with n1:=(Int.fdiv c.n1 (2 ^ (min (Int.toNat (8:Int)) (IntKind.bits .u64)))),fh:=(c.fh++[(IntKind.wrap .u8 c.n1)])}
def K2 (Q:QT) (c:V):Prop:=
  (Bnd (c.fh.length+([(IntKind.wrap .u8 c.n1)]).length))∧
  K3 Q {c with n1:=(Int.fdiv c.n1 (2 ^ (min (Int.toNat (8:Int)) (IntKind.bits .u64)))),fh:=(c.fh++[(IntKind.wrap .u8 c.n1)])}
def K1 (Q:QT) (c:V):Prop:=
  (Bnd (c.fh.length+([(IntKind.wrap .u8 c.n1)]).length))∧
  K2 Q {c with n1:=(Int.fdiv c.n1 (2 ^ (min (Int.toNat (8:Int)) (IntKind.bits .u64)))),fh:=(c.fh++[(IntKind.wrap .u8 c.n1)])}
end bR
def bR (b0:List Int) (n1:Int) (T9:Int) (Q:bR.QT):Prop:=
  fA b0 fun zB=>
  kr T9 fun qE=>
  br (qE==(8:Int))
  ((Bnd (zB.length+([(IntKind.wrap .u8 n1)]).length))∧
  bR.K1 Q {bR.v0 with n1:=(Int.fdiv n1 (2 ^ (min (Int.toNat (8:Int)) (IntKind.bits .u64)))),fh:=(zB++[(IntKind.wrap .u8 n1)])})
  (br (qE==(7:Int))
  (bR.K1 Q {bR.v0 with n1:=n1,fh:=zB})
  (br (qE==(6:Int))
  (bR.K2 Q {bR.v0 with n1:=n1,fh:=zB})
  (br (qE==(5:Int))
  (bR.K3 Q {bR.v0 with n1:=n1,fh:=zB})
  (br (qE==(4:Int))
  (bR.K4 Q {bR.v0 with n1:=n1,fh:=zB})
  (br (qE==(3:Int))
  (bR.K5 Q {bR.v0 with n1:=n1,fh:=zB})
  (br (qE==(2:Int))
  (bR.K6 Q {bR.v0 with n1:=n1,fh:=zB})
  (bR.K7 Q {bR.v0 with n1:=n1,fh:=zB})))))))
def mI (r0:aF) (Q:(List Int)→Prop):Prop:=
  bR ([]:List Int) (IntKind.wrap .u64 r0.Place) (1:Int) fun Ki=>
  bR Ki (IntKind.wrap .u64 r0.bO) (4:Int) fun Ep=>
  (Bnd (Ep.length+r0.bD.toList.length))∧
  Q (Ep++r0.bD.toList)
def mJ (b0:List Int) (CX:Int) (Q:(List Int)→Int→Prop):Prop:=
  br (decide ((b0.length:Int)>CX))
  (Q ([]:List Int) (1:Int))
  (fA b0 fun G0=>
  (0≤(IntKind.wrap .i64 (CX - (b0.length:Int))))∧(Bnd (G0.length+Int.toNat (IntKind.wrap .i64 (CX - (b0.length:Int)))))∧
  Q (G0++List.replicate (Int.toNat (IntKind.wrap .i64 (CX - (b0.length:Int)))) (0:Int)) (0:Int))
namespace cn
structure V where
  gV:List aF
  kO:Bool
  b4:List Int
  fF:List aF
  v20:Int
  v21:Int
  r6:aF
  Bh:Bool
def v0:V:=⟨[],false,[],[],0,0,(⟨(0:Int),(0:Int),(Vector.replicate 32 (0:Int))⟩:aF),false⟩
abbrev QT:=(List Int)→Int→Prop
def K3 (S2:V→Prop) (Q:QT) (c:V):Prop:=
  br c.Bh
  (Q ([]:List Int) (1:Int))
  (mI c.r6 fun pe=>
  (Bnd (c.b4.length+pe.length))∧
  S2 {c with b4:=(c.b4++pe),v21:=(IntKind.wrap .i64 (c.v21+(1:Int)))})
def B2 (S2:V→Prop) (Q:QT) (c:V):Prop:=
  br (decide (c.v21<c.v20))
  (ixP c.fF c.v21 fun od=>
  br (od.Place !=(0:Int))
  (K3 S2 Q {c with r6:=od,Bh:=(od.Place !=(1:Int))})
  (K3 S2 Q {c with r6:=od,Bh:=false}))
  (mJ c.b4 (256:Int) fun Lr BB=>
  Q Lr BB)
def L2 (Q:QT) (c:V):Prop:=Lf (fun S=>B2 S Q) c
theorem cM {Q:QT} {c:V} (H:B2 (L2 Q) Q c):L2 Q c:=Lf.fold H
def K1 (Q:QT) (c:V):Prop:=
  br c.kO
  (Q ([]:List Int) (1:Int))
  (L2 Q {c with b4:=[(IntKind.wrap .u8 (c.gV.length:Int))],fF:=c.gV,v20:=(c.gV.length:Int),v21:=(0:Int)})
end cn
def cn (gV:List aF) (Q:cn.QT):Prop:=
  br (decide ((gV.length:Int)<(1:Int)))
  (cn.K1 Q {cn.v0 with gV:=gV,kO:=true})
  (cn.K1 Q {cn.v0 with gV:=gV,kO:=(decide ((gV.length:Int)>(6:Int)))})
namespace aE
structure V where
  b0:Option Addr
  cU:Int
  cP:List aO
  bT:List bf
  rK:Vector Int 32
  xS:bE
  gQ:aF
  ej:aF
  G7:Bool
  mD:Addr
  cL:List Int
  pL:List Int
  v53:Int
  rC:Int
  v70:List bf
  nA:Int
  v72:Int
  dz:List aO
  pM:List Int
  vY:Int
  v85:Int
def v0:V:=⟨none,0,[],[],Vector.replicate 32 0,(⟨[]⟩:bE),(⟨(0:Int),(0:Int),(Vector.replicate 32 (0:Int))⟩:aF),(⟨(0:Int),(0:Int),(Vector.replicate 32 (0:Int))⟩:aF),false,⟨0,0,none⟩,[],[],0,0,[],0,0,[],[],0,0⟩
abbrev QT:=(List cv)→(List aO)→aF→Int→St Obj→Prop
def B4 (S4:V→St Obj→Prop) (Q:QT) (c:V) (σ:St Obj):Prop:=
  br (decide (c.v85<c.vY))
  (ixP c.pM c.v85 fun jC=>
  fH σ c.mD fun iC=>
  lkOP iC.nodes jC fun uD=>
  cz uD fun uE=>
  (Bnd (c.dz.length+([(⟨jC,uE⟩:aO)]).length))∧
  lkOP (iC.nodes.map (Pu.upd · jC uD)) jC fun wM=>
  cn wM fun uF G8=>
  cB (some c.mD) jC uF (sset σ c.mD (.aD (⟨iC.book,iC.key,iC.fu,iC.shape,iC.root,((iC.nodes.map (Pu.upd · jC uD)).map (Pu.upd · jC wM)),iC.dL⟩:aD))) fun σ_166=>
  S4 {c with dz:=(c.dz++[(⟨jC,uE⟩:aO)]),v85:=(IntKind.wrap .i64 (c.v85+(1:Int)))} σ_166)
  (fH σ c.mD fun mT=>
  Q mT.dL c.dz mT.root (0:Int) (sdel σ c.mD))
def L4 (Q:QT) (c:V) (σ:St Obj):Prop:=
  Lf (fun S (v:V × St Obj)=>B4 (fun c σ=>S (c,σ)) Q v.1 v.2) (c,σ)
theorem kg {Q:QT} {c:V} {σ:St Obj} (H:B4 (L4 Q) Q c σ):L4 Q c σ:=Lf.fold H
def B3 (S3:V→St Obj→Prop) (Q:QT) (c:V) (σ:St Obj):Prop:=
  br (decide (c.v72<c.nA))
  (ixP c.v70 c.v72 fun gw=>
  cB (some c.mD) gw.dx gw.Bytes σ fun σ_106=>
  S3 {c with v72:=(IntKind.wrap .i64 (c.v72+(1:Int)))} σ_106)
  (L4 Q {c with dz:=([]:List aO),pM:=c.cL,vY:=(c.cL.length:Int),v85:=(0:Int)} σ)
def L3 (Q:QT) (c:V) (σ:St Obj):Prop:=
  Lf (fun S (v:V × St Obj)=>B3 (fun c σ=>S (c,σ)) Q v.1 v.2) (c,σ)
theorem ff {Q:QT} {c:V} {σ:St Obj} (H:B3 (L3 Q) Q c σ):L3 Q c σ:=Lf.fold H
def B2 (S2:V→St Obj→Prop) (Q:QT) (c:V) (σ:St Obj):Prop:=
  br (decide (c.rC<c.v53))
  (ixP c.pL c.rC fun G9=>
  fH σ c.mD fun mU=>
  eX c.cP G9 fun Ua adJ=>
  muP mU.nodes G9 Ua fun Ls=>
  S2 {c with rC:=(IntKind.wrap .i64 (c.rC+(1:Int)))} (sset σ c.mD (.aD (⟨mU.book,mU.key,mU.fu,mU.shape,mU.root,Ls,mU.dL⟩:aD))))
  (L3 Q {c with v70:=c.bT,nA:=(c.bT.length:Int),v72:=(0:Int)} σ)
def L2 (Q:QT) (c:V) (σ:St Obj):Prop:=
  Lf (fun S (v:V × St Obj)=>B2 (fun c σ=>S (c,σ)) Q v.1 v.2) (c,σ)
theorem cM {Q:QT} {c:V} {σ:St Obj} (H:B2 (L2 Q) Q c σ):L2 Q c σ:=Lf.fold H
def K1 (Q:QT) (c:V) (σ:St Obj):Prop:=
  br c.G7
  (Q ([]:List cv) ([]:List aO) (⟨(0:Int),(0:Int),(Vector.replicate 32 (0:Int))⟩:aF) (1:Int) σ)
  (∀ zC:Addr,
  bW c.bT fun PF=>
  bU c.xS PF fun xT=>
  ∀ _:σ zC=none,
  L2 Q {c with mD:=zC,cL:=xT,pL:=xT,v53:=(xT.length:Int),rC:=(0:Int)} (sset σ zC (.aD (⟨c.b0,c.rK,c.cU,c.xS,c.gQ,(some []:Option (List (Int × List aF))),([]:List cv)⟩:aD))))
end aE
def aE (b0:Option Addr) (mR:Vector Int 32) (cU:Int) (s3:bE) (mh:aF) (cP:List aO) (bT:List bf) (σ:St Obj) (Q:aE.QT):Prop:=
  bJ s3 cP bT fun GZ=>
  br (!GZ)
  (aE.K1 Q {aE.v0 with b0:=b0,cU:=cU,cP:=cP,bT:=bT,rK:=mR,xS:=s3,gQ:=mh,ej:=(⟨(0:Int),(0:Int),(Vector.replicate 32 (0:Int))⟩:aF),G7:=true} σ)
  (dV mh fun Er=>
  aE.K1 Q {aE.v0 with b0:=b0,cU:=cU,cP:=cP,bT:=bT,rK:=mR,xS:=s3,gQ:=mh,ej:=(⟨(0:Int),(0:Int),(Vector.replicate 32 (0:Int))⟩:aF),G7:=(!Er)} σ)
namespace au
structure V where
  s1:bE
  l3:List cv
  n4:List aO
  r5:aF
  e6:Int
  v12:Vector Int 32
  kO:aF
  ej:List aF
  jO:List aO
  fF:List Int
  v21:List bf
  v23:List cv
  v24:List aO
  v25:aF
  v26:Int
  v20:bf
  kD:aO
  nw:aF
def v0:V:=⟨(⟨[]⟩:bE),[],[],(⟨(0:Int),(0:Int),(Vector.replicate 32 (0:Int))⟩:aF),0,Vector.replicate 32 0,(⟨(0:Int),(0:Int),(Vector.replicate 32 (0:Int))⟩:aF),[],[],[],[],[],[],(⟨(0:Int),(0:Int),(Vector.replicate 32 (0:Int))⟩:aF),0,(⟨(0:Int),[]⟩:bf),(⟨(0:Int),[]⟩:aO),(⟨(0:Int),(0:Int),(Vector.replicate 32 (0:Int))⟩:aF)⟩
abbrev QT:=Bool→St Obj→Prop
def K1 (Q:QT) (c:V) (σ:St Obj):Prop:=
  br (c.e6==(0:Int))
  (br ((c.l3.length:Int)==(2:Int))
  (ixP c.l3 (0:Int) fun Bz=>
  br (Bz.Block==(2:Int))
  (ixP c.l3 (1:Int) fun s5=>
  br (s5.Block==(5:Int))
  (br (c.r5.Place==(1:Int))
  (br (c.r5.bO==(2:Int))
  (br ((c.n4.length:Int)==(1:Int))
  (bU c.s1 ([(0:Int)]) fun xR=>
  Q ((xR.length:Int)==(1:Int)) σ)
  (Q false σ))
  (Q false σ))
  (Q false σ))
  (Q false σ))
  (Q false σ))
  (Q false σ))
  (Q false σ)
def K7 (Q:QT) (b c:V) (σ:St Obj):Prop:=
  K1 Q {b with s1:=c.s1,l3:=c.l3,n4:=c.n4,r5:=c.r5,e6:=c.v26} σ
def K6 (Q:QT) (b c:V) (σ:St Obj):Prop:=
  K7 Q b {c with l3:=c.v23,n4:=c.v24,r5:=c.v25} σ
def K8 (Q:QT) (b c:V) (σ:St Obj):Prop:=
  aE none c.v12 (2:Int) c.s1 c.kO c.jO c.v21 σ fun Ub Uc Ud Ue σ_158=>
  K7 Q b {c with l3:=Ub,n4:=Uc,r5:=Ud,v26:=Ue} σ_158
def K5 (Q:QT) (b c:V) (σ:St Obj):Prop:=
  (aE none c.v12 (2:Int) c.s1 c.kO c.jO c.v21 σ fun He Hg Hh Hi σ_118=>
  K6 Q b {c with r5:=(⟨(0:Int),(0:Int),(Vector.replicate 32 (0:Int))⟩:aF),v23:=He,v24:=Hg,v25:=Hh,v26:=Hi} σ_118)∧
  (K8 Q b {c with r5:=(⟨(0:Int),(0:Int),(Vector.replicate 32 (0:Int))⟩:aF)} σ)
def K9 (Q:QT) (b c:V) (σ:St Obj):Prop:=
  K8 Q b {c with v21:=[c.v20]} σ
def K4 (Q:QT) (b c:V) (σ:St Obj):Prop:=
  (K5 Q b {c with v21:=[(⟨(0:Int),c.fF⟩:bf)]} σ)∧
  (K9 Q b {c with r5:=(⟨(0:Int),(0:Int),(Vector.replicate 32 (0:Int))⟩:aF),v20:=(⟨(0:Int),c.fF⟩:bf)} σ)
def K11 (Q:QT) (b c:V) (σ:St Obj):Prop:=
  K8 Q b {c with v21:=[(⟨(0:Int),c.fF⟩:bf)]} σ
def KO (Q:QT) (b c:V) (σ:St Obj):Prop:=
  K11 Q b {c with fF:=(List.replicate (Int.toNat (256:Int)) (0:Int))} σ
def K3 (Q:QT) (b c:V) (σ:St Obj):Prop:=
  (K4 Q b {c with fF:=(List.replicate (Int.toNat (256:Int)) (0:Int))} σ)∧
  (KO Q b {c with r5:=(⟨(0:Int),(0:Int),(Vector.replicate 32 (0:Int))⟩:aF)} σ)
def Yd (Q:QT) (b c:V) (σ:St Obj):Prop:=
  (K5 Q b {c with v21:=[c.v20]} σ)∧
  (K9 Q b {c with r5:=(⟨(0:Int),(0:Int),(Vector.replicate 32 (0:Int))⟩:aF)} σ)
def Rk (Q:QT) (b c:V) (σ:St Obj):Prop:=
  K8 Q b {c with jO:=[c.kD]} σ
def Ye (Q:QT) (b c:V) (σ:St Obj):Prop:=
  (K5 Q b {c with jO:=[c.kD]} σ)∧
  (Rk Q b {c with r5:=(⟨(0:Int),(0:Int),(Vector.replicate 32 (0:Int))⟩:aF)} σ)
def Yf (Q:QT) (b c:V) (σ:St Obj):Prop:=
  (K9 Q b {c with jO:=[c.kD]} σ)∧
  (Rk Q b {c with v21:=[c.v20]} σ)
def K12 (Q:QT) (b c:V) (σ:St Obj):Prop:=
  (Yd Q b {c with jO:=[c.kD],v20:=(⟨(0:Int),c.fF⟩:bf)} σ)∧
  ((Ye Q b {c with v21:=[(⟨(0:Int),c.fF⟩:bf)]} σ)∧
  (Yf Q b {c with r5:=(⟨(0:Int),(0:Int),(Vector.replicate 32 (0:Int))⟩:aF),v20:=(⟨(0:Int),c.fF⟩:bf)} σ))
def Yh (Q:QT) (b c:V) (σ:St Obj):Prop:=
  (K9 Q b {c with jO:=[c.kD],v20:=(⟨(0:Int),c.fF⟩:bf)} σ)∧
  (Rk Q b {c with v21:=[(⟨(0:Int),c.fF⟩:bf)]} σ)
def K17 (Q:QT) (b c:V) (σ:St Obj):Prop:=
  (KO Q b {c with jO:=[c.kD]} σ)∧
  (Yh Q b {c with fF:=(List.replicate (Int.toNat (256:Int)) (0:Int))} σ)
def K2 (Q:QT) (b c:V) (σ:St Obj):Prop:=
  (K3 Q b {c with jO:=[(⟨(1:Int),c.ej⟩:aO)]} σ)∧
  ((K12 Q b {c with kD:=(⟨(1:Int),c.ej⟩:aO),fF:=(List.replicate (Int.toNat (256:Int)) (0:Int))} σ)∧
  (K17 Q b {c with r5:=(⟨(0:Int),(0:Int),(Vector.replicate 32 (0:Int))⟩:aF),kD:=(⟨(1:Int),c.ej⟩:aO)} σ))
def K20 (Q:QT) (b c:V) (σ:St Obj):Prop:=
  (Yd Q b {c with jO:=[(⟨(1:Int),c.ej⟩:aO)]} σ)∧
  ((Ye Q b {c with kD:=(⟨(1:Int),c.ej⟩:aO),v21:=[c.v20]} σ)∧
  (Yf Q b {c with r5:=(⟨(0:Int),(0:Int),(Vector.replicate 32 (0:Int))⟩:aF),kD:=(⟨(1:Int),c.ej⟩:aO)} σ))
def K22 (Q:QT) (b c:V) (σ:St Obj):Prop:=
  (K5 Q b {c with jO:=[(⟨(1:Int),c.ej⟩:aO)]} σ)∧
  (Rk Q b {c with r5:=(⟨(0:Int),(0:Int),(Vector.replicate 32 (0:Int))⟩:aF),kD:=(⟨(1:Int),c.ej⟩:aO)} σ)
def K24 (Q:QT) (b c:V) (σ:St Obj):Prop:=
  K8 Q b {c with jO:=[(⟨(1:Int),c.ej⟩:aO)]} σ
def Xo (Q:QT) (b c:V) (σ:St Obj):Prop:=
  K24 Q b {c with ej:=[c.nw]} σ
def K21 (Q:QT) (b c:V) (σ:St Obj):Prop:=
  (K22 Q b {c with ej:=[c.nw]} σ)∧
  (Xo Q b {c with r5:=(⟨(0:Int),(0:Int),(Vector.replicate 32 (0:Int))⟩:aF)} σ)
def Yg (Q:QT) (b c:V) (σ:St Obj):Prop:=
  (K9 Q b {c with jO:=[(⟨(1:Int),c.ej⟩:aO)]} σ)∧
  (Rk Q b {c with kD:=(⟨(1:Int),c.ej⟩:aO),v21:=[c.v20]} σ)
def K25 (Q:QT) (b c:V) (σ:St Obj):Prop:=
  (Yg Q b {c with ej:=[c.nw]} σ)∧
  (Xo Q b {c with v21:=[c.v20]} σ)
def K19 (Q:QT) (b c:V) (σ:St Obj):Prop:=
  (K20 Q b {c with ej:=[c.nw],v20:=(⟨(0:Int),c.fF⟩:bf)} σ)∧
  ((K21 Q b {c with v21:=[(⟨(0:Int),c.fF⟩:bf)]} σ)∧
  (K25 Q b {c with r5:=(⟨(0:Int),(0:Int),(Vector.replicate 32 (0:Int))⟩:aF),v20:=(⟨(0:Int),c.fF⟩:bf)} σ))
def K28 (Q:QT) (b c:V) (σ:St Obj):Prop:=
  (KO Q b {c with jO:=[(⟨(1:Int),c.ej⟩:aO)]} σ)∧
  (Yh Q b {c with kD:=(⟨(1:Int),c.ej⟩:aO),fF:=(List.replicate (Int.toNat (256:Int)) (0:Int))} σ)
def K29 (Q:QT) (b c:V) (σ:St Obj):Prop:=
  (Yg Q b {c with ej:=[c.nw],v20:=(⟨(0:Int),c.fF⟩:bf)} σ)∧
  (Xo Q b {c with v21:=[(⟨(0:Int),c.fF⟩:bf)]} σ)
def K27 (Q:QT) (b c:V) (σ:St Obj):Prop:=
  (K28 Q b {c with ej:=[c.nw]} σ)∧
  (K29 Q b {c with fF:=(List.replicate (Int.toNat (256:Int)) (0:Int))} σ)
end au
def au (σ:St Obj) (Q:au.QT):Prop:=
  cD (1:Int) fun zB tD=>
  (au.K2 Q au.v0 {au.v0 with s1:=zB,v12:=(Vector.replicate 32 (0:Int)),kO:=(⟨(0:Int),(0:Int),(Vector.replicate 32 (0:Int))⟩:aF),ej:=[(⟨(1:Int),(0:Int),(Vector.replicate 32 (0:Int))⟩:aF)]} σ)∧
  ((au.K19 Q au.v0 {au.v0 with s1:=zB,v12:=(Vector.replicate 32 (0:Int)),kO:=(⟨(0:Int),(0:Int),(Vector.replicate 32 (0:Int))⟩:aF),nw:=(⟨(1:Int),(0:Int),(Vector.replicate 32 (0:Int))⟩:aF),fF:=(List.replicate (Int.toNat (256:Int)) (0:Int))} σ)∧
  (au.K27 Q au.v0 {au.v0 with s1:=zB,r5:=(⟨(0:Int),(0:Int),(Vector.replicate 32 (0:Int))⟩:aF),v12:=(Vector.replicate 32 (0:Int)),kO:=(⟨(0:Int),(0:Int),(Vector.replicate 32 (0:Int))⟩:aF),nw:=(⟨(1:Int),(0:Int),(Vector.replicate 32 (0:Int))⟩:aF)} σ))
namespace cg
structure V where
  di:List an
  v7:List an
  v8:Int
  v9:Int
def v0:V:=⟨[],[],0,0⟩
abbrev QT:=(List an)→Prop
def B1 (S1:V→Prop) (Q:QT) (c:V):Prop:=
  br (decide (c.v9<c.v8))
  (ixP c.v7 c.v9 fun eN=>
  (Bnd (c.di.length+([(⟨eN.dx,(cpL (List.replicate (Int.toNat (256:Int)) (0:Int)) eN.Bytes)⟩:an)]).length))∧
  S1 {c with di:=(c.di++[(⟨eN.dx,(cpL (List.replicate (Int.toNat (256:Int)) (0:Int)) eN.Bytes)⟩:an)]),v9:=(IntKind.wrap .i64 (c.v9+(1:Int)))})
  (Q c.di)
def L1 (Q:QT) (c:V):Prop:=Lf (fun S=>B1 S Q) c
end cg
def cg (l0:List an) (Q:cg.QT):Prop:=
  cg.L1 Q {cg.v0 with di:=([]:List an),v7:=l0,v8:=(l0.length:Int),v9:=(0:Int)}
namespace aV
structure V where
  di:List aO
  v9:List aq
  v10:Int
  v11:Int
  x6:aO
  fF:List ax
  v20:Int
  v21:Int
def v0:V:=⟨[],[],0,0,(⟨(0:Int),[]⟩:aO),[],0,0⟩
abbrev QT:=(List aO)→Prop
def B2 (S1:V→Prop) (S2:V→Prop) (Q:QT) (c:V):Prop:=
  br (decide (c.v21<c.v20))
  (ixP c.fF c.v21 fun mE=>
  (Bnd (c.x6.Refs.length+([(⟨mE.Place,mE.bO,mE.bD⟩:aF)]).length))∧
  S2 {c with x6:=(⟨c.x6.Item,(c.x6.Refs++[(⟨mE.Place,mE.bO,mE.bD⟩:aF)])⟩:aO),v21:=(IntKind.wrap .i64 (c.v21+(1:Int)))})
  ((Bnd (c.di.length+([c.x6]).length))∧
  S1 {c with di:=(c.di++[c.x6]),v11:=(IntKind.wrap .i64 (c.v11+(1:Int)))})
def L2 (S1:V→Prop) (Q:QT) (c:V):Prop:=Lf (fun S=>B2 S1 S Q) c
def B1 (S1:V→Prop) (Q:QT) (c:V):Prop:=
  br (decide (c.v11<c.v10))
  (ixP c.v9 c.v11 fun eN=>
  L2 S1 Q {c with x6:=(⟨eN.Item,([]:List aF)⟩:aO),fF:=eN.Refs,v20:=(eN.Refs.length:Int),v21:=(0:Int)})
  (Q c.di)
def L1 (Q:QT) (c:V):Prop:=Lf (fun S=>B1 S Q) c
theorem bY {Q:QT} {c:V} (H:B1 (L1 Q) Q c):L1 Q c:=Lf.fold H
end aV
def aV (l0:List aq) (Q:aV.QT):Prop:=
  aV.L1 Q {aV.v0 with di:=([]:List aO),v9:=l0,v10:=(l0.length:Int),v11:=(0:Int)}
namespace bC
structure V where
  di:List bf
  v6:List an
  v7:Int
  v8:Int
def v0:V:=⟨[],[],0,0⟩
abbrev QT:=(List bf)→Prop
def B1 (S1:V→Prop) (Q:QT) (c:V):Prop:=
  br (decide (c.v8<c.v7))
  (ixP c.v6 c.v8 fun eN=>
  (Bnd (c.di.length+([(⟨eN.dx,eN.Bytes⟩:bf)]).length))∧
  S1 {c with di:=(c.di++[(⟨eN.dx,eN.Bytes⟩:bf)]),v8:=(IntKind.wrap .i64 (c.v8+(1:Int)))})
  (Q c.di)
def L1 (Q:QT) (c:V):Prop:=Lf (fun S=>B1 S Q) c
end bC
def bC (l0:List an) (Q:bC.QT):Prop:=
  bC.L1 Q {bC.v0 with di:=([]:List bf),v6:=l0,v7:=(l0.length:Int),v8:=(0:Int)}
def fW (r0:ax) (Q:Bool→Prop):Prop:=
  br (r0.Place==(0:Int))
  (Q true)
  (Q (r0.Place==(1:Int)))
namespace cm
structure V where
  l0:List Int
  n1:Int
  i5:Int
def v0:V:=⟨[],0,0⟩
abbrev QT:=Bool→Prop
def B1 (S1:V→Prop) (Q:QT) (c:V):Prop:=
  br (decide (c.i5<(c.l0.length:Int)))
  (ixP c.l0 c.i5 fun yI=>
  br (yI==c.n1)
  (Q true)
  (S1 {c with i5:=(IntKind.wrap .i64 (c.i5+(1:Int)))}))
  (Q false)
def L1 (Q:QT) (c:V):Prop:=Lf (fun S=>B1 S Q) c
end cm
def cm (l0:List Int) (n1:Int) (Q:cm.QT):Prop:=
  cm.L1 Q {cm.v0 with l0:=l0,n1:=n1,i5:=(0:Int)}
def eT (s0:aL) (bA:Int) (Q:Bool→Prop):Prop:=
  br (decide (bA≥(0:Int)))
  (Q (decide (bA<(s0.Level.length:Int))))
  (Q false)
namespace aH
structure V where
  bA:Int
  s2:aL
  eD:List Int
  jO:Bool
  k6:Int
  yH:Bool
def v0:V:=⟨0,(⟨(0:Int),[],[]⟩:aL),[],false,0,false⟩
abbrev QT:=(List Int)→Prop
def K3 (S2:V→Prop) (Q:QT) (c:V):Prop:=
  br c.yH
  ((Bnd (c.eD.length+([c.k6]).length))∧
  S2 {c with eD:=(c.eD++[c.k6]),k6:=(IntKind.wrap .i64 (c.k6+(1:Int)))})
  (Q c.eD)
def B2 (S2:V→Prop) (Q:QT) (c:V):Prop:=
  br (decide ((c.eD.length:Int)<(6:Int)))
  (br (decide (c.k6<c.bA))
  (ixP c.s2.Level c.k6 fun s5=>
  ixP c.s2.Level c.bA fun zz=>
  K3 S2 Q {c with yH:=(s5==(IntKind.wrap .i64 (zz - (1:Int))))})
  (K3 S2 Q {c with yH:=false}))
  (K3 S2 Q {c with yH:=false})
def L2 (Q:QT) (c:V):Prop:=Lf (fun S=>B2 S Q) c
theorem cM {Q:QT} {c:V} (H:B2 (L2 Q) Q c):L2 Q c:=Lf.fold H
def K1 (Q:QT) (c:V):Prop:=
  br c.jO
  (Q ([]:List Int))
  (ixP c.s2.fM c.bA fun mE=>
  L2 Q {c with k6:=mE})
end aH
def aH (s0:aL) (bA:Int) (Q:aH.QT):Prop:=
  eT s0 bA fun qi=>
  br (!qi)
  (aH.K1 Q {aH.v0 with bA:=bA,s2:=s0,eD:=([]:List Int),jO:=true})
  (ixP s0.fM bA fun od=>
  aH.K1 Q {aH.v0 with bA:=bA,s2:=s0,eD:=([]:List Int),jO:=(decide (od<(0:Int)))})
namespace aB
structure V where
  bA:Int
  s2:aL
  p7:Int
  l8:List Int
  i9:Int
def v0:V:=⟨0,(⟨(0:Int),[],[]⟩:aL),0,[],0⟩
abbrev QT:=Int→Int→Bool→Prop
def B2 (S1:V→Prop) (S2:V→Prop) (Q:QT) (c:V):Prop:=
  br (decide (c.i9<(c.l8.length:Int)))
  (ixP c.l8 c.i9 fun oZ=>
  br (oZ==c.bA)
  (Q c.p7 c.i9 true)
  (S2 {c with i9:=(IntKind.wrap .i64 (c.i9+(1:Int)))}))
  (S1 {c with p7:=(IntKind.wrap .i64 (c.p7+(1:Int)))})
def L2 (S1:V→Prop) (Q:QT) (c:V):Prop:=Lf (fun S=>B2 S1 S Q) c
def B1 (S1:V→Prop) (Q:QT) (c:V):Prop:=
  br (decide (c.p7<(c.s2.Level.length:Int)))
  (aH c.s2 c.p7 fun sZ=>
  L2 S1 Q {c with l8:=sZ,i9:=(0:Int)})
  (Q (0:Int) (0:Int) false)
def L1 (Q:QT) (c:V):Prop:=Lf (fun S=>B1 S Q) c
theorem bY {Q:QT} {c:V} (H:B1 (L1 Q) Q c):L1 Q c:=Lf.fold H
end aB
def aB (s0:aL) (bA:Int) (Q:aB.QT):Prop:=
  aB.L1 Q {aB.v0 with bA:=bA,s2:=s0,p7:=(0:Int)}
namespace aM
structure V where
  gI:Int
  s2:aL
  kD:Bool
  eD:List Int
  n6:Int
def v0:V:=⟨0,(⟨(0:Int),[],[]⟩:aL),false,[],0⟩
abbrev QT:=(List Int)→Prop
def B2 (S2:V→Prop) (Q:QT) (c:V):Prop:=
  br (decide (c.n6<(10:Int)))
  (ixP c.eD (IntKind.wrap .i64 ((c.eD.length:Int) - (1:Int))) fun wj=>
  aB c.s2 wj fun Ew wk Ey=>
  br (!Ey)
  (Q c.eD)
  ((Bnd (c.eD.length+([Ew]).length))∧
  S2 {c with eD:=(c.eD++[Ew]),n6:=(IntKind.wrap .i64 (c.n6+(1:Int)))}))
  (Q c.eD)
def L2 (Q:QT) (c:V):Prop:=Lf (fun S=>B2 S Q) c
theorem cM {Q:QT} {c:V} (H:B2 (L2 Q) Q c):L2 Q c:=Lf.fold H
def K1 (Q:QT) (c:V):Prop:=
  br c.kD
  (Q ([]:List Int))
  (L2 Q {c with eD:=[c.gI],n6:=(0:Int)})
end aM
def aM (s0:aL) (gI:Int) (Q:aM.QT):Prop:=
  br (decide (gI<(0:Int)))
  (aM.K1 Q {aM.v0 with gI:=gI,s2:=s0,kD:=true})
  (aM.K1 Q {aM.v0 with gI:=gI,s2:=s0,kD:=(decide (gI≥s0.P))})
namespace bp
structure V where
  eo:List Int
  s2:aL
  eD:List Int
  kE:Int
  i7:Int
def v0:V:=⟨[],(⟨(0:Int),[],[]⟩:aL),[],0,0⟩
abbrev QT:=(List Int)→Prop
def K3 (S1:V→Prop) (Q:QT) (c:V):Prop:=
  S1 {c with kE:=(IntKind.wrap .i64 (c.kE+(1:Int)))}
def B2 (S1:V→Prop) (S2:V→Prop) (Q:QT) (c:V):Prop:=
  br (decide (c.i7<(c.eo.length:Int)))
  (ixP c.eo c.i7 fun jx=>
  aM c.s2 jx fun qD=>
  cm qD c.kE fun wk=>
  br wk
  ((Bnd (c.eD.length+([c.kE]).length))∧
  K3 S1 Q {c with eD:=(c.eD++[c.kE])})
  (S2 {c with i7:=(IntKind.wrap .i64 (c.i7+(1:Int)))}))
  (K3 S1 Q c)
def L2 (S1:V→Prop) (Q:QT) (c:V):Prop:=Lf (fun S=>B2 S1 S Q) c
def B1 (S1:V→Prop) (Q:QT) (c:V):Prop:=
  br (decide (c.kE<(c.s2.Level.length:Int)))
  (L2 S1 Q {c with i7:=(0:Int)})
  (Q c.eD)
def L1 (Q:QT) (c:V):Prop:=Lf (fun S=>B1 S Q) c
theorem bY {Q:QT} {c:V} (H:B1 (L1 Q) Q c):L1 Q c:=Lf.fold H
end bp
def bp (s0:aL) (eo:List Int) (Q:bp.QT):Prop:=
  bp.L1 Q {bp.v0 with eo:=eo,s2:=s0,eD:=([]:List Int),kE:=s0.P}
namespace bL
structure V where
  l0:List an
  di:List Int
  i4:Int
def v0:V:=⟨[],[],0⟩
abbrev QT:=(List Int)→Prop
def B1 (S1:V→Prop) (Q:QT) (c:V):Prop:=
  br (decide (c.i4<(c.l0.length:Int)))
  (ixP c.l0 c.i4 fun eN=>
  (Bnd (c.di.length+([eN.dx]).length))∧
  S1 {c with di:=(c.di++[eN.dx]),i4:=(IntKind.wrap .i64 (c.i4+(1:Int)))})
  (Q c.di)
def L1 (Q:QT) (c:V):Prop:=Lf (fun S=>B1 S Q) c
end bL
def bL (l0:List an) (Q:bL.QT):Prop:=
  bL.L1 Q {bL.v0 with l0:=l0,di:=([]:List Int),i4:=(0:Int)}
namespace bQ
structure V where
  l0:List aq
  bA:Int
  i6:Int
def v0:V:=⟨[],0,0⟩
abbrev QT:=(List ax)→Bool→Prop
def B1 (S1:V→Prop) (Q:QT) (c:V):Prop:=
  br (decide (c.i6<(c.l0.length:Int)))
  (ixP c.l0 c.i6 fun yI=>
  br (yI.Item==c.bA)
  (ixP c.l0 c.i6 fun rF=>
  Q rF.Refs true)
  (S1 {c with i6:=(IntKind.wrap .i64 (c.i6+(1:Int)))}))
  (Q ([]:List ax) false)
def L1 (Q:QT) (c:V):Prop:=Lf (fun S=>B1 S Q) c
theorem bY {Q:QT} {c:V} (H:B1 (L1 Q) Q c):L1 Q c:=Lf.fold H
end bQ
def bQ (l0:List aq) (bA:Int) (Q:bQ.QT):Prop:=
  bQ.L1 Q {bQ.v0 with l0:=l0,bA:=bA,i6:=(0:Int)}
namespace az
structure V where
  l1:List aq
  c2:List an
  s3:aL
  i7:Int
  nR:Bool
  eP:List Int
  i9:Int
  ga:List ax
  Bt:Bool
  xN:Int
def v0:V:=⟨[],[],(⟨(0:Int),[],[]⟩:aL),0,false,[],0,[],false,0⟩
abbrev QT:=Bool→Prop
def K2 (S1:V→Prop) (Q:QT) (c:V):Prop:=
  br c.nR
  (Q false)
  (S1 {c with i7:=(IntKind.wrap .i64 (c.i7+(1:Int)))})
def B5 (S3:V→Prop) (S5:V→Prop) (Q:QT) (c:V):Prop:=
  br (decide (c.xN<(c.ga.length:Int)))
  (ixP c.ga c.xN fun Uf=>
  fW Uf fun Ug=>
  br (!Ug)
  (Q false)
  (S5 {c with xN:=(IntKind.wrap .i64 (c.xN+(1:Int)))}))
  (S3 {c with i9:=(IntKind.wrap .i64 (c.i9+(1:Int)))})
def L5 (S3:V→Prop) (Q:QT) (c:V):Prop:=Lf (fun S=>B5 S3 S Q) c
theorem nV (S3:V→Prop) {Q:QT} {c:V} (H:B5 S3 (L5 S3 Q) Q c):L5 S3 Q c:=Lf.fold H
def K4 (S3:V→Prop) (Q:QT) (c:V):Prop:=
  br c.Bt
  (Q false)
  (L5 S3 Q {c with xN:=(0:Int)})
def B3 (S3:V→Prop) (Q:QT) (c:V):Prop:=
  br (decide (c.i9<(c.eP.length:Int)))
  (ixP c.eP c.i9 fun Uh=>
  bQ c.l1 Uh fun Hj Ui=>
  br (!Ui)
  (K4 S3 Q {c with ga:=Hj,Bt:=true})
  (ixP c.eP c.i9 fun Hl=>
  aH c.s3 Hl fun Ho=>
  K4 S3 Q {c with ga:=Hj,Bt:=((Hj.length:Int) !=(Ho.length:Int))}))
  (Q true)
def L3 (Q:QT) (c:V):Prop:=Lf (fun S=>B3 S Q) c
theorem ff {Q:QT} {c:V} (H:B3 (L3 Q) Q c):L3 Q c:=Lf.fold H
def B1 (S1:V→Prop) (Q:QT) (c:V):Prop:=
  br (decide (c.i7<(c.c2.length:Int)))
  (ixP c.c2 c.i7 fun sX=>
  br (decide (sX.dx<(0:Int)))
  (K2 S1 Q {c with nR:=true})
  (ixP c.c2 c.i7 fun mE=>
  br (decide (mE.dx≥c.s3.P))
  (K2 S1 Q {c with nR:=true})
  (br (decide (c.i7>(0:Int)))
  (ixP c.c2 (IntKind.wrap .i64 (c.i7 - (1:Int))) fun sW=>
  ixP c.c2 c.i7 fun uB=>
  br (decide (sW.dx≥uB.dx))
  (K2 S1 Q {c with nR:=true})
  (ixP c.c2 c.i7 fun Hq=>
  K2 S1 Q {c with nR:=((Hq.Bytes.length:Int) !=(256:Int))}))
  (ixP c.c2 c.i7 fun xU=>
  K2 S1 Q {c with nR:=((xU.Bytes.length:Int) !=(256:Int))}))))
  (bL c.c2 fun adK=>
  bp c.s3 adK fun kf=>
  L3 Q {c with eP:=kf,i9:=(0:Int)})
def L1 (Q:QT) (c:V):Prop:=Lf (fun S=>B1 S Q) c
theorem bY {Q:QT} {c:V} (H:B1 (L1 Q) Q c):L1 Q c:=Lf.fold H
end az
def az (s0:aL) (l1:List aq) (c2:List an) (Q:az.QT):Prop:=
  az.L1 Q {az.v0 with l1:=l1,c2:=c2,s3:=s0,i7:=(0:Int)}
namespace cy
structure V where
  r1:ax
  di:List Int
  i4:Int
def v0:V:=⟨(⟨(0:Int),(0:Int),(Vector.replicate 32 (0:Int))⟩:ax),[],0⟩
abbrev QT:=(List Int)→Prop
def B1 (S1:V→Prop) (Q:QT) (c:V):Prop:=
  br (decide (c.i4<(4:Int)))
  (mP (IntKind.wrap .i64 ((8:Int)*c.i4)) fun _=>
  (Bnd (c.di.length+([(IntKind.wrap .u8 (Int.fdiv c.r1.bO (2 ^ (min (Int.toNat (IntKind.wrap .i64 ((8:Int)*c.i4))) (IntKind.bits .u32)))))]).length))∧
  S1 {c with di:=(c.di++[(IntKind.wrap .u8 (Int.fdiv c.r1.bO (2 ^ (min (Int.toNat (IntKind.wrap .i64 ((8:Int)*c.i4))) (IntKind.bits .u32)))))]),i4:=(IntKind.wrap .i64 (c.i4+(1:Int)))})
  ((Bnd (c.di.length+c.r1.bD.toList.length))∧
  Q (c.di++c.r1.bD.toList))
def L1 (Q:QT) (c:V):Prop:=Lf (fun S=>B1 S Q) c
theorem bY {Q:QT} {c:V} (H:B1 (L1 Q) Q c):L1 Q c:=Lf.fold H
end cy
def cy (r0:ax) (Q:cy.QT):Prop:=
  cy.L1 Q {cy.v0 with r1:=r0,di:=[(IntKind.wrap .u8 r0.Place)],i4:=(0:Int)}
namespace aZ
structure V where
  l0:List ax
  gF:Bool
  nB:List Int
  i5:Int
  v37:Bool
def v0:V:=⟨[],false,[],0,false⟩
abbrev QT:=(List Int)→Int→Prop
def K3 (S2:V→Prop) (Q:QT) (c:V):Prop:=
  br c.v37
  (Q ([]:List Int) (1:Int))
  (ixP c.l0 c.i5 fun sY=>
  cy sY fun EA=>
  (Bnd (c.nB.length+EA.length))∧
  S2 {c with nB:=(c.nB++EA),i5:=(IntKind.wrap .i64 (c.i5+(1:Int)))})
def B4 (S4:V→Prop) (Q:QT) (c:V):Prop:=
  br (decide ((c.nB.length:Int)<(256:Int)))
  ((Bnd (c.nB.length+([(0:Int)]).length))∧
  S4 {c with nB:=(c.nB++[(0:Int)])})
  (Q c.nB (0:Int))
def L4 (Q:QT) (c:V):Prop:=Lf (fun S=>B4 S Q) c
theorem kg {Q:QT} {c:V} (H:B4 (L4 Q) Q c):L4 Q c:=Lf.fold H
def B2 (S2:V→Prop) (Q:QT) (c:V):Prop:=
  br (decide (c.i5<(c.l0.length:Int)))
  (ixP c.l0 c.i5 fun od=>
  br (decide (od.Place<(0:Int)))
  (K3 S2 Q {c with v37:=true})
  (ixP c.l0 c.i5 fun Et=>
  K3 S2 Q {c with v37:=(decide (Et.Place>(1:Int)))}))
  (L4 Q c)
def L2 (Q:QT) (c:V):Prop:=Lf (fun S=>B2 S Q) c
theorem cM {Q:QT} {c:V} (H:B2 (L2 Q) Q c):L2 Q c:=Lf.fold H
def K1 (Q:QT) (c:V):Prop:=
  br c.gF
  (Q ([]:List Int) (1:Int))
  (L2 Q {c with nB:=[(IntKind.wrap .u8 (c.l0.length:Int))],i5:=(0:Int)})
end aZ
def aZ (l0:List ax) (Q:aZ.QT):Prop:=
  br (decide ((l0.length:Int)<(1:Int)))
  (aZ.K1 Q {aZ.v0 with l0:=l0,gF:=true})
  (aZ.K1 Q {aZ.v0 with l0:=l0,gF:=(decide ((l0.length:Int)>(6:Int)))})
namespace bg
structure V where
  bA:Int
  dg:Int
  jO:Bool
def v0:V:=⟨0,0,false⟩
abbrev QT:=Int→Prop
def K1 (Q:QT) (c:V):Prop:=
  br c.jO
  (Q (-1:Int))
  (Q (IntKind.wrap .i64 ((IntKind.wrap .i64 ((2:Int)+(IntKind.wrap .i64 ((2:Int)*c.bA))))+c.dg)))
end bg
def bg (s0:aL) (bA:Int) (dg:Int) (Q:bg.QT):Prop:=
  eT s0 bA fun qi=>
  br (!qi)
  (bg.K1 Q {bg.v0 with bA:=bA,dg:=dg,jO:=true})
  (br (decide (dg<(0:Int)))
  (bg.K1 Q {bg.v0 with bA:=bA,dg:=dg,jO:=true})
  (bg.K1 Q {bg.v0 with bA:=bA,dg:=dg,jO:=(decide (dg>(1:Int)))}))
def gj (b0:List Int) (Q:Int→Prop):Prop:=
  ixP b0 (0:Int) fun Pw=>
  ixP b0 (1:Int) fun G1=>
  ixP b0 (2:Int) fun sX=>
  ixP b0 (3:Int) fun xP=>
  Q (IntKind.wrap .u32 ((IntKind.wrap .u32 ((IntKind.wrap .u32 ((IntKind.wrap .u32 Pw)+(IntKind.wrap .u32 ((256:Int)*(IntKind.wrap .u32 G1)))))+(IntKind.wrap .u32 ((65536:Int)*(IntKind.wrap .u32 sX)))))+(IntKind.wrap .u32 ((16777216:Int)*(IntKind.wrap .u32 xP)))))
def kT (Q:(List (List Int))→Prop):Prop:=
  Q ([[(0:Int),(4:Int),(8:Int),(12:Int)],[(1:Int),(5:Int),(9:Int),(13:Int)],[(2:Int),(6:Int),(10:Int),(14:Int)],[(3:Int),(7:Int),(11:Int),(15:Int)],[(0:Int),(5:Int),(10:Int),(15:Int)],[(1:Int),(6:Int),(11:Int),(12:Int)],[(2:Int),(7:Int),(8:Int),(13:Int)],[(3:Int),(4:Int),(9:Int),(14:Int)]])
namespace bK
structure V where
  x0:Int
  n1:Int
  i5:Int
def v0:V:=⟨0,0,0⟩
abbrev QT:=Int→Prop
def B1 (S1:V→Prop) (Q:QT) (c:V):Prop:=
  br (decide (c.i5<c.n1))
  (S1 {c with x0:=(IntKind.wrap .u32 ((IntKind.wrap .u32 (c.x0*(2:Int)))+(IntKind.wrap .u32 (Int.tdiv c.x0 (2147483648:Int))))),i5:=(IntKind.wrap .i64 (c.i5+(1:Int)))})
  (Q c.x0)
def L1 (Q:QT) (c:V):Prop:=Lf (fun S=>B1 S Q) c
theorem bY {Q:QT} {c:V} (H:B1 (L1 Q) Q c):L1 Q c:=Lf.fold H
end bK
def bK (x0:Int) (n1:Int) (Q:bK.QT):Prop:=
  bK.L1 Q {bK.v0 with x0:=x0,n1:=n1,i5:=(0:Int)}
def fB (w0:Vector Int 4) (Q:(Vector Int 4)→Prop):Prop:=
  ixP w0.toList (0:Int) fun zD=>
  ixP w0.toList (1:Int) fun rF=>
  ixP w0.toList (2:Int) fun Bu=>
  ixP w0.toList (3:Int) fun wj=>
  bK (IntKind.wrap .u32 (((BitVec.ofInt (IntKind.bits .u32) wj ^^^ (BitVec.ofInt (IntKind.bits .u32) (IntKind.wrap .u32 (zD+rF)))).toNat:Int))) (16:Int) fun qD=>
  bK (IntKind.wrap .u32 (((BitVec.ofInt (IntKind.bits .u32) rF ^^^ (BitVec.ofInt (IntKind.bits .u32) (IntKind.wrap .u32 (Bu+qD)))).toNat:Int))) (12:Int) fun pe=>
  bK (IntKind.wrap .u32 (((BitVec.ofInt (IntKind.bits .u32) qD ^^^ (BitVec.ofInt (IntKind.bits .u32) (IntKind.wrap .u32 ((IntKind.wrap .u32 (zD+rF))+pe)))).toNat:Int))) (8:Int) fun Bv=>
  bK (IntKind.wrap .u32 (((BitVec.ofInt (IntKind.bits .u32) pe ^^^ (BitVec.ofInt (IntKind.bits .u32) (IntKind.wrap .u32 ((IntKind.wrap .u32 (Bu+qD))+Bv)))).toNat:Int))) (7:Int) fun Ew=>
  Q (#v[(IntKind.wrap .u32 ((IntKind.wrap .u32 (zD+rF))+pe)),Ew,(IntKind.wrap .u32 ((IntKind.wrap .u32 (Bu+qD))+Bv)),Bv])
namespace af
structure V where
  bM:Int
  qo:Vector Int 32
  gC:Vector Int 12
  v6:Vector Int 64
  bw:List Int
  i8:Int
  i9:Int
  rA:List Int
  gl:Int
  v59:List (List Int)
  Fv:Int
  nR:Int
  Ke:List Int
  MU:Vector Int 4
  MV:Int
  nU:Vector Int 64
  i17:Int
  RU:Int
  FE:Int
  Xp:Vector Int 4
def v0:V:=⟨0,Vector.replicate 32 0,Vector.replicate 12 0,Vector.replicate 64 0,[],0,0,[],0,[],0,0,[],Vector.replicate 4 0,0,Vector.replicate 64 0,0,0,0,Vector.replicate 4 0⟩
abbrev QT:=(Vector Int 64)→Prop
def B5 (S3:V→Prop) (S4:V→Prop) (S5:V→Prop) (Q:QT) (c:V):Prop:=
  br (decide (c.MV<(4:Int)))
  (ixP c.Ke c.MV fun CY=>
  ixP c.MU.toList c.MV fun Uj=>
  ixP c.rA CY fun MY=>
  S5 {c with rA:=(c.rA.set (Int.toNat CY) Uj),MV:=(IntKind.wrap .i64 (c.MV+(1:Int)))})
  (S4 {c with nR:=(IntKind.wrap .i64 (c.nR+(1:Int)))})
def L5 (S3:V→Prop) (S4:V→Prop) (Q:QT) (c:V):Prop:=Lf (fun S=>B5 S3 S4 S Q) c
theorem nV (S3:V→Prop) (S4:V→Prop) {Q:QT} {c:V} (H:B5 S3 S4 (L5 S3 S4 Q) Q c):L5 S3 S4 Q c:=Lf.fold H
def K6 (S3:V→Prop) (S4:V→Prop) (Q:QT) (c:V):Prop:=
  L5 S3 S4 Q {c with MV:=(0:Int)}
def KO (S3:V→Prop) (S4:V→Prop) (Q:QT) (b c:V):Prop:=
  K6 S3 S4 Q {b with v6:=c.v6,bw:=c.bw,rA:=c.rA,gl:=c.gl,Ke:=c.Ke,MU:=c.Xp,v59:=c.v59,Fv:=c.Fv,nR:=c.nR}
def K9 (S3:V→Prop) (S4:V→Prop) (Q:QT) (b c:V):Prop:=
  KO S3 S4 Q b {c with MU:=(Vector.replicate 4 (0:Int))}
def B4 (S3:V→Prop) (S4:V→Prop) (Q:QT) (c:V):Prop:=
  br (decide (c.nR<c.Fv))
  (ixP c.v59 c.nR fun zE=>
  ixP zE (0:Int) fun adL=>
  ixP c.rA adL fun Uk=>
  ixP zE (1:Int) fun adM=>
  ixP c.rA adM fun Ul=>
  ixP zE (2:Int) fun Um=>
  ixP c.rA Um fun MZ=>
  ixP zE (3:Int) fun Hl=>
  ixP c.rA Hl fun M3=>
  (fB (#v[Uk,Ul,MZ,M3]) fun Un=>
  K9 S3 S4 Q c {c with Ke:=zE,Xp:=Un})∧
  (fB (#v[Uk,Ul,MZ,M3]) fun CZ=>
  KO S3 S4 Q c {c with Ke:=zE,MU:=(Vector.replicate 4 (0:Int)),Xp:=CZ}))
  (S3 {c with gl:=(IntKind.wrap .i64 (c.gl+(1:Int)))})
def L4 (S3:V→Prop) (Q:QT) (c:V):Prop:=Lf (fun S=>B4 S3 S Q) c
theorem kg (S3:V→Prop) {Q:QT} {c:V} (H:B4 S3 (L4 S3 Q) Q c):L4 S3 Q c:=Lf.fold H
def B8 (S7:V→Prop) (S8:V→Prop) (Q:QT) (c:V):Prop:=
  br (decide (c.FE<(4:Int)))
  (mP (IntKind.wrap .i64 ((8:Int)*c.FE)) fun _=>
  ixP c.nU.toList (IntKind.wrap .i64 ((IntKind.wrap .i64 ((4:Int)*c.i17))+c.FE)) fun agh=>
  S8 {c with nU:=(c.nU.setIfInBounds (Int.toNat (IntKind.wrap .i64 ((IntKind.wrap .i64 ((4:Int)*c.i17))+c.FE))) (IntKind.wrap .u8 (Int.fdiv c.RU (2 ^ (min (Int.toNat (IntKind.wrap .i64 ((8:Int)*c.FE))) (IntKind.bits .u32)))))),FE:=(IntKind.wrap .i64 (c.FE+(1:Int)))})
  (S7 {c with i17:=(IntKind.wrap .i64 (c.i17+(1:Int)))})
def L8 (S7:V→Prop) (Q:QT) (c:V):Prop:=Lf (fun S=>B8 S7 S Q) c
theorem MQ (S7:V→Prop) {Q:QT} {c:V} (H:B8 S7 (L8 S7 Q) Q c):L8 S7 Q c:=Lf.fold H
def B7 (S7:V→Prop) (Q:QT) (c:V):Prop:=
  br (decide (c.i17<(16:Int)))
  (ixP c.rA c.i17 fun Uo=>
  ixP c.bw c.i17 fun Up=>
  L8 S7 Q {c with RU:=(IntKind.wrap .u32 (Uo+Up)),FE:=(0:Int)})
  (Q c.nU)
def L7 (Q:QT) (c:V):Prop:=Lf (fun S=>B7 S Q) c
theorem MP {Q:QT} {c:V} (H:B7 (L7 Q) Q c):L7 Q c:=Lf.fold H
def B3 (S3:V→Prop) (Q:QT) (c:V):Prop:=
  br (decide (c.gl<(10:Int)))
  (kT fun og=>
  L4 S3 Q {c with v59:=og,Fv:=(og.length:Int),nR:=(0:Int)})
  (L7 Q {c with nU:=(Vector.replicate 64 (0:Int)),i17:=(0:Int)})
def L3 (Q:QT) (c:V):Prop:=Lf (fun S=>B3 S Q) c
theorem ff {Q:QT} {c:V} (H:B3 (L3 Q) Q c):L3 Q c:=Lf.fold H
def B2 (S2:V→Prop) (Q:QT) (c:V):Prop:=
  br (decide (c.i9<(3:Int)))
  ((SlOk c.gC.toList (IntKind.wrap .i64 ((4:Int)*c.i9)) (IntKind.wrap .i64 ((IntKind.wrap .i64 ((4:Int)*c.i9))+(4:Int))))∧
  gj (subA 12 c.gC.toList (IntKind.wrap .i64 ((4:Int)*c.i9)) (IntKind.wrap .i64 ((IntKind.wrap .i64 ((4:Int)*c.i9))+(4:Int)))) fun Uq=>
  (Bnd (c.bw.length+([Uq]).length))∧
  S2 {c with bw:=(c.bw++[Uq]),i9:=(IntKind.wrap .i64 (c.i9+(1:Int)))})
  ((Bnd (([]:List Int).length+c.bw.length))∧
  L3 Q {c with rA:=(([]:List Int)++c.bw),gl:=(0:Int)})
def L2 (Q:QT) (c:V):Prop:=Lf (fun S=>B2 S Q) c
theorem cM {Q:QT} {c:V} (H:B2 (L2 Q) Q c):L2 Q c:=Lf.fold H
def B1 (S1:V→Prop) (Q:QT) (c:V):Prop:=
  br (decide (c.i8<(8:Int)))
  ((SlOk c.qo.toList (IntKind.wrap .i64 ((4:Int)*c.i8)) (IntKind.wrap .i64 ((IntKind.wrap .i64 ((4:Int)*c.i8))+(4:Int))))∧
  gj (subA 32 c.qo.toList (IntKind.wrap .i64 ((4:Int)*c.i8)) (IntKind.wrap .i64 ((IntKind.wrap .i64 ((4:Int)*c.i8))+(4:Int)))) fun Lt=>
  (Bnd (c.bw.length+([Lt]).length))∧
  S1 {c with bw:=(c.bw++[Lt]),i8:=(IntKind.wrap .i64 (c.i8+(1:Int)))})
  ((Bnd (c.bw.length+([c.bM]).length))∧
  L2 Q {c with bw:=(c.bw++[c.bM]),i9:=(0:Int)})
def L1 (Q:QT) (c:V):Prop:=Lf (fun S=>B1 S Q) c
theorem bY {Q:QT} {c:V} (H:B1 (L1 Q) Q c):L1 Q c:=Lf.fold H
end af
def af (iK:Vector Int 32) (fS:Vector Int 12) (bM:Int) (Q:af.QT):Prop:=
  af.L1 Q {af.v0 with bM:=bM,qo:=iK,gC:=fS,v6:=(Vector.replicate 64 (0:Int)),bw:=[(1634760805:Int),(857760878:Int),(2036477234:Int),(1797285236:Int)],i8:=(0:Int)}
namespace bt
structure V where
  bM:Int
  ki:Int
  jS:Vector Int 32
  iI:Vector Int 12
  ej:Bool
  gE:List Int
def v0:V:=⟨0,0,Vector.replicate 32 0,Vector.replicate 12 0,false,[]⟩
abbrev QT:=(List Int)→Prop
def B2 (S2:V→Prop) (Q:QT) (c:V):Prop:=
  br (decide ((c.gE.length:Int)<c.ki))
  (af c.jS c.iI c.bM fun sZ=>
  (Bnd (c.gE.length+sZ.toList.length))∧
  S2 {c with bM:=(IntKind.wrap .u32 (c.bM+(1:Int))),gE:=(c.gE++sZ.toList)})
  ((SlOk c.gE (0:Int) c.ki)∧
  Q (sub c.gE (0:Int) c.ki))
def L2 (Q:QT) (c:V):Prop:=Lf (fun S=>B2 S Q) c
theorem cM {Q:QT} {c:V} (H:B2 (L2 Q) Q c):L2 Q c:=Lf.fold H
def K1 (Q:QT) (c:V):Prop:=
  br c.ej
  (Q ([]:List Int))
  (L2 Q {c with gE:=([]:List Int)})
end bt
def bt (iK:Vector Int 32) (fS:Vector Int 12) (bM:Int) (ki:Int) (Q:bt.QT):Prop:=
  br (decide (ki<(0:Int)))
  (bt.K1 Q {bt.v0 with bM:=bM,ki:=ki,jS:=iK,iI:=fS,ej:=true})
  (bt.K1 Q {bt.v0 with bM:=bM,ki:=ki,jS:=iK,iI:=fS,ej:=(decide (ki>(1048576:Int)))})
namespace bV
structure V where
  b3:List Int
  s9:List Int
  qt:List Int
  i11:Int
def v0:V:=⟨[],[],[],0⟩
abbrev QT:=(List Int)→Prop
def B1 (S1:V→Prop) (Q:QT) (c:V):Prop:=
  br (decide (c.i11<(c.s9.length:Int)))
  (ixP c.b3 c.i11 fun Ur=>
  ixP c.s9 c.i11 fun uG=>
  ixP c.qt c.i11 fun wo=>
  S1 {c with qt:=(c.qt.set (Int.toNat c.i11) (IntKind.wrap .u8 (((BitVec.ofInt (IntKind.bits .u8) Ur ^^^ (BitVec.ofInt (IntKind.bits .u8) uG)).toNat:Int)))),i11:=(IntKind.wrap .i64 (c.i11+(1:Int)))})
  (Q c.qt)
def L1 (Q:QT) (c:V):Prop:=Lf (fun S=>B1 S Q) c
theorem bY {Q:QT} {c:V} (H:B1 (L1 Q) Q c):L1 Q c:=Lf.fold H
end bV
def bV (iK:Vector Int 32) (fS:Vector Int 12) (bM:Int) (b3:List Int) (Q:bV.QT):Prop:=
  bt iK fS bM (if (1048576:Int)<(b3.length:Int) then (1048576:Int) else (b3.length:Int)) fun qE=>
  (Bnd (([]:List Int).length+b3.length))∧
  bV.L1 Q {bV.v0 with b3:=b3,s9:=qE,qt:=(([]:List Int)++b3),i11:=(0:Int)}
namespace bx
structure V where
  iz:Int
  gu:Int
  v4:Vector Int 12
  eD:Vector Int 12
  i6:Int
  i7:Int
def v0:V:=⟨0,0,Vector.replicate 12 0,Vector.replicate 12 0,0,0⟩
abbrev QT:=(Vector Int 12)→Prop
def B2 (S2:V→Prop) (Q:QT) (c:V):Prop:=
  br (decide (c.i7<(8:Int)))
  (mP (IntKind.wrap .i64 ((8:Int)*c.i7)) fun _=>
  ixP c.eD.toList (IntKind.wrap .i64 ((4:Int)+c.i7)) fun Ur=>
  S2 {c with eD:=(c.eD.setIfInBounds (Int.toNat (IntKind.wrap .i64 ((4:Int)+c.i7))) (IntKind.wrap .u8 (Int.fdiv c.gu (2 ^ (min (Int.toNat (IntKind.wrap .i64 ((8:Int)*c.i7))) (IntKind.bits .u64)))))),i7:=(IntKind.wrap .i64 (c.i7+(1:Int)))})
  (Q c.eD)
def L2 (Q:QT) (c:V):Prop:=Lf (fun S=>B2 S Q) c
theorem cM {Q:QT} {c:V} (H:B2 (L2 Q) Q c):L2 Q c:=Lf.fold H
def B1 (S1:V→Prop) (Q:QT) (c:V):Prop:=
  br (decide (c.i6<(4:Int)))
  (mP (IntKind.wrap .i64 ((8:Int)*c.i6)) fun _=>
  ixP c.eD.toList c.i6 fun G1=>
  S1 {c with eD:=(c.eD.setIfInBounds (Int.toNat c.i6) (IntKind.wrap .u8 (Int.fdiv c.iz (2 ^ (min (Int.toNat (IntKind.wrap .i64 ((8:Int)*c.i6))) (IntKind.bits .u32)))))),i6:=(IntKind.wrap .i64 (c.i6+(1:Int)))})
  (L2 Q {c with i7:=(0:Int)})
def L1 (Q:QT) (c:V):Prop:=Lf (fun S=>B1 S Q) c
theorem bY {Q:QT} {c:V} (H:B1 (L1 Q) Q c):L1 Q c:=Lf.fold H
end bx
def bx (iz:Int) (gu:Int) (Q:bx.QT):Prop:=
  bx.L1 Q {bx.v0 with iz:=iz,gu:=gu,v4:=(Vector.replicate 12 (0:Int)),eD:=(Vector.replicate 12 (0:Int)),i6:=(0:Int)}
namespace cr
structure V where
  cT:Int
  gO:Int
  jU:List Int
  jS:Vector Int 32
  ej:Bool
def v0:V:=⟨0,0,[],Vector.replicate 32 0,false⟩
abbrev QT:=(List Int)→Int→Prop
def K1 (Q:QT) (c:V):Prop:=
  br c.ej
  (Q ([]:List Int) (1:Int))
  (bx c.cT (IntKind.wrap .u64 c.gO) fun qi=>
  bV c.jS qi (0:Int) c.jU fun Ep=>
  Q Ep (0:Int))
end cr
def cr (iK:Vector Int 32) (cT:Int) (gO:Int) (jU:List Int) (Q:cr.QT):Prop:=
  br ((jU.length:Int) !=(256:Int))
  (cr.K1 Q {cr.v0 with cT:=cT,gO:=gO,jU:=jU,jS:=iK,ej:=true})
  (cr.K1 Q {cr.v0 with cT:=cT,gO:=gO,jU:=jU,jS:=iK,ej:=(decide (gO<(0:Int)))})
namespace aG
structure V where
  n0:Int
  di:List Int
  p4:Int
  Fx:Bool
  i6:Int
def v0:V:=⟨0,[],0,false,0⟩
abbrev QT:=(List Int)→Prop
def K3 (S1:V→Prop) (S2:V→Prop) (Q:QT) (c:V):Prop:=
  S2 {c with i6:=(IntKind.wrap .i64 (c.i6+(1:Int)))}
def K4 (S1:V→Prop) (Q:QT) (c:V):Prop:=
  S1 {c with p4:=(IntKind.wrap .u64 (c.p4+(1:Int)))}
def B2 (S1:V→Prop) (S2:V→Prop) (Q:QT) (c:V):Prop:=
  br (decide (c.i6<(c.di.length:Int)))
  (br c.Fx
  (ixP c.di c.i6 fun Fy=>
  nzW Fy fun _=>
  K3 S1 S2 Q {c with Fx:=((Int.tmod c.p4 Fy) !=(0:Int))})
  (K3 S1 S2 Q {c with Fx:=false}))
  (br c.Fx
  ((Bnd (c.di.length+([c.p4]).length))∧
  K4 S1 Q {c with di:=(c.di++[c.p4])})
  (K4 S1 Q c))
def L2 (S1:V→Prop) (Q:QT) (c:V):Prop:=Lf (fun S=>B2 S1 S Q) c
theorem cM (S1:V→Prop) {Q:QT} {c:V} (H:B2 S1 (L2 S1 Q) Q c):L2 S1 Q c:=Lf.fold H
def B1 (S1:V→Prop) (Q:QT) (c:V):Prop:=
  br (decide ((c.di.length:Int)<c.n0))
  (L2 S1 Q {c with Fx:=true,i6:=(0:Int)})
  (Q c.di)
def L1 (Q:QT) (c:V):Prop:=Lf (fun S=>B1 S Q) c
theorem bY {Q:QT} {c:V} (H:B1 (L1 Q) Q c):L1 Q c:=Lf.fold H
end aG
def aG (n0:Int) (Q:aG.QT):Prop:=
  aG.L1 Q {aG.v0 with n0:=n0,di:=([]:List Int),p4:=(2:Int)}
def fo (a0:Int) (b1:Int) (Q:Int→Int→Prop):Prop:=
  Q (IntKind.wrap .u64 ((IntKind.wrap .u64 ((IntKind.wrap .u64 ((IntKind.wrap .u64 (Int.tdiv a0 (4294967296:Int)))*(IntKind.wrap .u64 (Int.tdiv b1 (4294967296:Int)))))+(IntKind.wrap .u64 (Int.tdiv (IntKind.wrap .u64 ((IntKind.wrap .u64 ((IntKind.wrap .u64 (Int.tdiv a0 (4294967296:Int)))*(Int.tmod b1 (4294967296:Int))))+(IntKind.wrap .u64 (Int.tdiv (IntKind.wrap .u64 ((Int.tmod a0 (4294967296:Int))*(Int.tmod b1 (4294967296:Int)))) (4294967296:Int))))) (4294967296:Int)))))+(IntKind.wrap .u64 (Int.tdiv (IntKind.wrap .u64 ((IntKind.wrap .u64 ((Int.tmod a0 (4294967296:Int))*(IntKind.wrap .u64 (Int.tdiv b1 (4294967296:Int)))))+(Int.tmod (IntKind.wrap .u64 ((IntKind.wrap .u64 ((IntKind.wrap .u64 (Int.tdiv a0 (4294967296:Int)))*(Int.tmod b1 (4294967296:Int))))+(IntKind.wrap .u64 (Int.tdiv (IntKind.wrap .u64 ((Int.tmod a0 (4294967296:Int))*(Int.tmod b1 (4294967296:Int)))) (4294967296:Int))))) (4294967296:Int)))) (4294967296:Int))))) (IntKind.wrap .u64 ((IntKind.wrap .u64 ((IntKind.wrap .u64 ((IntKind.wrap .u64 ((Int.tmod a0 (4294967296:Int))*(IntKind.wrap .u64 (Int.tdiv b1 (4294967296:Int)))))+(Int.tmod (IntKind.wrap .u64 ((IntKind.wrap .u64 ((IntKind.wrap .u64 (Int.tdiv a0 (4294967296:Int)))*(Int.tmod b1 (4294967296:Int))))+(IntKind.wrap .u64 (Int.tdiv (IntKind.wrap .u64 ((Int.tmod a0 (4294967296:Int))*(Int.tmod b1 (4294967296:Int)))) (4294967296:Int))))) (4294967296:Int))))*(4294967296:Int)))+(Int.tmod (IntKind.wrap .u64 ((Int.tmod a0 (4294967296:Int))*(Int.tmod b1 (4294967296:Int)))) (4294967296:Int))))
namespace aW
structure V where
  p0:Int
  r3:Int
  k4:Int
  x5:Int
  MW:Bool
  Rm:Int
  uw:Int
  wJ:Int
def v0:V:=⟨0,0,0,0,false,0,0,0⟩
abbrev QT:=Int→Prop
def K4 (S1:V→Prop) (Q:QT) (c:V):Prop:=
  S1 {c with k4:=(IntKind.wrap .i64 (c.k4 - (1:Int)))}
def K2 (S1:V→Prop) (Q:QT) (c:V):Prop:=
  br c.MW
  (K4 S1 Q {c with r3:=c.x5})
  (K4 S1 Q c)
def K3 (S1:V→Prop) (Q:QT) (c:V):Prop:=
  br (c.wJ==(0:Int))
  (br (decide (c.uw<(IntKind.wrap .u64 (c.p0*(4294967296:Int)))))
  (K2 S1 Q {c with MW:=true})
  (br (c.uw==(IntKind.wrap .u64 (c.p0*(4294967296:Int))))
  (K2 S1 Q {c with MW:=(c.Rm==(0:Int))})
  (K2 S1 Q {c with MW:=false})))
  (K2 S1 Q {c with MW:=false})
def B1 (S1:V→Prop) (Q:QT) (c:V):Prop:=
  br (decide (c.k4≥(0:Int)))
  (mP c.k4 fun _=>
  fo (IntKind.wrap .u64 (c.r3+(IntKind.wrap .u64 ((1:Int)*2 ^ (min (Int.toNat c.k4) (IntKind.bits .u64)))))) (IntKind.wrap .u64 (c.r3+(IntKind.wrap .u64 ((1:Int)*2 ^ (min (Int.toNat c.k4) (IntKind.bits .u64)))))) fun MX zB=>
  fo zB (IntKind.wrap .u64 (c.r3+(IntKind.wrap .u64 ((1:Int)*2 ^ (min (Int.toNat c.k4) (IntKind.bits .u64)))))) fun G0 Ki=>
  fo MX (IntKind.wrap .u64 (c.r3+(IntKind.wrap .u64 ((1:Int)*2 ^ (min (Int.toNat c.k4) (IntKind.bits .u64)))))) fun tD qE=>
  br (decide ((IntKind.wrap .u64 (G0+qE))<G0))
  (K3 S1 Q {c with x5:=(IntKind.wrap .u64 (c.r3+(IntKind.wrap .u64 ((1:Int)*2 ^ (min (Int.toNat c.k4) (IntKind.bits .u64)))))),Rm:=Ki,uw:=(IntKind.wrap .u64 (G0+qE)),wJ:=(IntKind.wrap .u64 (tD+(1:Int)))})
  (K3 S1 Q {c with x5:=(IntKind.wrap .u64 (c.r3+(IntKind.wrap .u64 ((1:Int)*2 ^ (min (Int.toNat c.k4) (IntKind.bits .u64)))))),Rm:=Ki,uw:=(IntKind.wrap .u64 (G0+qE)),wJ:=tD}))
  (Q (IntKind.wrap .u32 (Int.tmod c.r3 (4294967296:Int))))
def L1 (Q:QT) (c:V):Prop:=Lf (fun S=>B1 S Q) c
theorem bY {Q:QT} {c:V} (H:B1 (L1 Q) Q c):L1 Q c:=Lf.fold H
end aW
def aW (p0:Int) (Q:aW.QT):Prop:=
  aW.L1 Q {aW.v0 with p0:=p0,r3:=(0:Int),k4:=(34:Int)}
namespace aU
structure V where
  p0:Int
  r3:Int
  k4:Int
  x5:Int
  v33:Bool
def v0:V:=⟨0,0,0,0,false⟩
abbrev QT:=Int→Prop
def K3 (S1:V→Prop) (Q:QT) (c:V):Prop:=
  S1 {c with k4:=(IntKind.wrap .i64 (c.k4 - (1:Int)))}
def K2 (S1:V→Prop) (Q:QT) (c:V):Prop:=
  br c.v33
  (K3 S1 Q {c with r3:=c.x5})
  (K3 S1 Q c)
def B1 (S1:V→Prop) (Q:QT) (c:V):Prop:=
  br (decide (c.k4≥(0:Int)))
  (mP c.k4 fun _=>
  fo (IntKind.wrap .u64 (c.r3+(IntKind.wrap .u64 ((1:Int)*2 ^ (min (Int.toNat c.k4) (IntKind.bits .u64)))))) (IntKind.wrap .u64 (c.r3+(IntKind.wrap .u64 ((1:Int)*2 ^ (min (Int.toNat c.k4) (IntKind.bits .u64)))))) fun MX zB=>
  br (decide (MX<c.p0))
  (K2 S1 Q {c with x5:=(IntKind.wrap .u64 (c.r3+(IntKind.wrap .u64 ((1:Int)*2 ^ (min (Int.toNat c.k4) (IntKind.bits .u64)))))),v33:=true})
  (br (MX==c.p0)
  (K2 S1 Q {c with x5:=(IntKind.wrap .u64 (c.r3+(IntKind.wrap .u64 ((1:Int)*2 ^ (min (Int.toNat c.k4) (IntKind.bits .u64)))))),v33:=(zB==(0:Int))})
  (K2 S1 Q {c with x5:=(IntKind.wrap .u64 (c.r3+(IntKind.wrap .u64 ((1:Int)*2 ^ (min (Int.toNat c.k4) (IntKind.bits .u64)))))),v33:=false})))
  (Q (IntKind.wrap .u32 (Int.tmod c.r3 (4294967296:Int))))
def L1 (Q:QT) (c:V):Prop:=Lf (fun S=>B1 S Q) c
theorem bY {Q:QT} {c:V} (H:B1 (L1 Q) Q c):L1 Q c:=Lf.fold H
end aU
def aU (p0:Int) (Q:aU.QT):Prop:=
  aU.L1 Q {aU.v0 with p0:=p0,r3:=(0:Int),k4:=(35:Int)}
namespace bF
structure V where
  l2:List Int
  k3:List Int
  lP:List Int
  t5:Int
  t6:Int
def v0:V:=⟨[],[],[],0,0⟩
abbrev QT:=(List Int)→(List Int)→Prop
def B2 (S2:V→Prop) (Q:QT) (c:V):Prop:=
  br (decide (c.t6<(8:Int)))
  (ixP c.l2 c.t6 fun Bz=>
  aU Bz fun Ey=>
  (Bnd (c.lP.length+([Ey]).length))∧
  S2 {c with lP:=(c.lP++[Ey]),t6:=(IntKind.wrap .i64 (c.t6+(1:Int)))})
  (Q c.k3 c.lP)
def L2 (Q:QT) (c:V):Prop:=Lf (fun S=>B2 S Q) c
theorem cM {Q:QT} {c:V} (H:B2 (L2 Q) Q c):L2 Q c:=Lf.fold H
def B1 (S1:V→Prop) (Q:QT) (c:V):Prop:=
  br (decide (c.t5<(64:Int)))
  (ixP c.l2 c.t5 fun adN=>
  aW adN fun Ez=>
  (Bnd (c.k3.length+([Ez]).length))∧
  S1 {c with k3:=(c.k3++[Ez]),t5:=(IntKind.wrap .i64 (c.t5+(1:Int)))})
  (L2 Q {c with t6:=(0:Int)})
def L1 (Q:QT) (c:V):Prop:=Lf (fun S=>B1 S Q) c
theorem bY {Q:QT} {c:V} (H:B1 (L1 Q) Q c):L1 Q c:=Lf.fold H
end bF
def bF (Q:bF.QT):Prop:=
  aG (64:Int) fun MX=>
  bF.L1 Q {bF.v0 with l2:=MX,k3:=([]:List Int),lP:=([]:List Int),t5:=(0:Int)}
namespace bG
structure V where
  b0:List Int
  di:List Int
  n4:Int
  i5:Int
def v0:V:=⟨[],[],0,0⟩
abbrev QT:=(List Int)→Prop
def B2 (S2:V→Prop) (Q:QT) (c:V):Prop:=
  br (decide (c.i5≥(0:Int)))
  (mP c.i5 fun _=>
  (Bnd (c.di.length+([(IntKind.wrap .u8 (Int.fdiv c.n4 (2 ^ (min (Int.toNat c.i5) (IntKind.bits .u64)))))]).length))∧
  S2 {c with di:=(c.di++[(IntKind.wrap .u8 (Int.fdiv c.n4 (2 ^ (min (Int.toNat c.i5) (IntKind.bits .u64)))))]),i5:=(IntKind.wrap .i64 (c.i5 - (8:Int)))})
  (Q c.di)
def L2 (Q:QT) (c:V):Prop:=Lf (fun S=>B2 S Q) c
theorem cM {Q:QT} {c:V} (H:B2 (L2 Q) Q c):L2 Q c:=Lf.fold H
def B1 (S1:V→Prop) (Q:QT) (c:V):Prop:=
  br ((Int.tmod (c.di.length:Int) (64:Int)) !=(56:Int))
  ((Bnd (c.di.length+([(0:Int)]).length))∧
  S1 {c with di:=(c.di++[(0:Int)])})
  (L2 Q {c with n4:=(IntKind.wrap .u64 ((IntKind.wrap .u64 (c.b0.length:Int))*(8:Int))),i5:=(56:Int)})
def L1 (Q:QT) (c:V):Prop:=Lf (fun S=>B1 S Q) c
theorem bY {Q:QT} {c:V} (H:B1 (L1 Q) Q c):L1 Q c:=Lf.fold H
end bG
def bG (b0:List Int) (Q:bG.QT):Prop:=
  (Bnd (([]:List Int).length+b0.length))∧
  (Bnd ((([]:List Int)++b0).length+([(128:Int)]).length))∧
  bG.L1 Q {bG.v0 with b0:=b0,di:=((([]:List Int)++b0)++[(128:Int)])}
namespace bu
structure V where
  x0:Int
  n1:Int
  i5:Int
def v0:V:=⟨0,0,0⟩
abbrev QT:=Int→Prop
def B1 (S1:V→Prop) (Q:QT) (c:V):Prop:=
  br (decide (c.i5<c.n1))
  (S1 {c with x0:=(IntKind.wrap .u32 ((IntKind.wrap .u32 (Int.tdiv c.x0 (2:Int)))+(IntKind.wrap .u32 ((Int.tmod c.x0 (2:Int))*(2147483648:Int))))),i5:=(IntKind.wrap .i64 (c.i5+(1:Int)))})
  (Q c.x0)
def L1 (Q:QT) (c:V):Prop:=Lf (fun S=>B1 S Q) c
theorem bY {Q:QT} {c:V} (H:B1 (L1 Q) Q c):L1 Q c:=Lf.fold H
end bu
def bu (x0:Int) (n1:Int) (Q:bu.QT):Prop:=
  bu.L1 Q {bu.v0 with x0:=x0,n1:=(Int.tmod (IntKind.wrap .i64 ((Int.tmod n1 (32:Int))+(32:Int))) (32:Int)),i5:=(0:Int)}
namespace aK
structure V where
  k0:List Int
  s1:List Int
  b2:List Int
  w7:List Int
  t8:Int
  nP:List Int
  t14:Int
  qz:List Int
  i20:Int
def v0:V:=⟨[],[],[],[],0,[],0,[],0⟩
abbrev QT:=(List Int)→Prop
def K2 (S1:V→Prop) (Q:QT) (c:V):Prop:=
  S1 {c with t8:=(IntKind.wrap .i64 (c.t8+(1:Int)))}
def B4 (S4:V→Prop) (Q:QT) (c:V):Prop:=
  br (decide (c.i20<(8:Int)))
  (ixP c.nP c.i20 fun M4=>
  ixP c.s1 c.i20 fun M5=>
  (Bnd (c.qz.length+([(IntKind.wrap .u32 (M4+M5))]).length))∧
  S4 {c with qz:=(c.qz++[(IntKind.wrap .u32 (M4+M5))]),i20:=(IntKind.wrap .i64 (c.i20+(1:Int)))})
  (Q c.qz)
def L4 (Q:QT) (c:V):Prop:=Lf (fun S=>B4 S Q) c
theorem kg {Q:QT} {c:V} (H:B4 (L4 Q) Q c):L4 Q c:=Lf.fold H
def B3 (S3:V→Prop) (Q:QT) (c:V):Prop:=
  br (decide (c.t14<(64:Int)))
  (ixP c.nP (0:Int) fun Hu=>
  ixP c.nP (4:Int) fun BE=>
  ixP c.nP (7:Int) fun M6=>
  ixP c.nP (5:Int) fun wL=>
  ixP c.nP (6:Int) fun CV=>
  ixP c.k0 c.t14 fun M7=>
  ixP c.w7 c.t14 fun M8=>
  bu BE (6:Int) fun C0=>
  bu BE (11:Int) fun CZ=>
  bu BE (25:Int) fun M9=>
  ixP c.nP (1:Int) fun Us=>
  ixP c.nP (2:Int) fun CY=>
  ixP c.nP (1:Int) fun Ut=>
  ixP c.nP (2:Int) fun MY=>
  bu Hu (2:Int) fun Uu=>
  bu Hu (13:Int) fun uF=>
  bu Hu (22:Int) fun Uv=>
  ixP c.nP (0:Int) fun Uw=>
  ixP c.nP (1:Int) fun mT=>
  ixP c.nP (2:Int) fun Ux=>
  ixP c.nP (3:Int) fun Uy=>
  ixP c.nP (4:Int) fun Uz=>
  ixP c.nP (5:Int) fun UA=>
  ixP c.nP (6:Int) fun UB=>
  S3 {c with nP:=[(IntKind.wrap .u32 ((IntKind.wrap .u32 ((IntKind.wrap .u32 ((IntKind.wrap .u32 ((IntKind.wrap .u32 (M6+(IntKind.wrap .u32 (((BitVec.ofInt (IntKind.bits .u32) (IntKind.wrap .u32 (((BitVec.ofInt (IntKind.bits .u32) C0 ^^^ (BitVec.ofInt (IntKind.bits .u32) CZ)).toNat:Int))) ^^^ (BitVec.ofInt (IntKind.bits .u32) M9)).toNat:Int)))))+(IntKind.wrap .u32 (((BitVec.ofInt (IntKind.bits .u32) (IntKind.wrap .u32 (((BitVec.ofInt (IntKind.bits .u32) BE &&& (BitVec.ofInt (IntKind.bits .u32) wL)).toNat:Int))) ^^^ (BitVec.ofInt (IntKind.bits .u32) (IntKind.wrap .u32 (((BitVec.ofInt (IntKind.bits .u32) (IntKind.wrap .u32 ((4294967295:Int) - BE)) &&& (BitVec.ofInt (IntKind.bits .u32) CV)).toNat:Int))))).toNat:Int)))))+M7))+M8))+(IntKind.wrap .u32 ((IntKind.wrap .u32 (((BitVec.ofInt (IntKind.bits .u32) (IntKind.wrap .u32 (((BitVec.ofInt (IntKind.bits .u32) Uu ^^^ (BitVec.ofInt (IntKind.bits .u32) uF)).toNat:Int))) ^^^ (BitVec.ofInt (IntKind.bits .u32) Uv)).toNat:Int)))+(IntKind.wrap .u32 (((BitVec.ofInt (IntKind.bits .u32) (IntKind.wrap .u32 (((BitVec.ofInt (IntKind.bits .u32) (IntKind.wrap .u32 (((BitVec.ofInt (IntKind.bits .u32) Hu &&& (BitVec.ofInt (IntKind.bits .u32) Us)).toNat:Int))) ^^^ (BitVec.ofInt (IntKind.bits .u32) (IntKind.wrap .u32 (((BitVec.ofInt (IntKind.bits .u32) Hu &&& (BitVec.ofInt (IntKind.bits .u32) CY)).toNat:Int))))).toNat:Int))) ^^^ (BitVec.ofInt (IntKind.bits .u32) (IntKind.wrap .u32 (((BitVec.ofInt (IntKind.bits .u32) Ut &&& (BitVec.ofInt (IntKind.bits .u32) MY)).toNat:Int))))).toNat:Int))))))),Uw,mT,Ux,(IntKind.wrap .u32 (Uy+(IntKind.wrap .u32 ((IntKind.wrap .u32 ((IntKind.wrap .u32 ((IntKind.wrap .u32 (M6+(IntKind.wrap .u32 (((BitVec.ofInt (IntKind.bits .u32) (IntKind.wrap .u32 (((BitVec.ofInt (IntKind.bits .u32) C0 ^^^ (BitVec.ofInt (IntKind.bits .u32) CZ)).toNat:Int))) ^^^ (BitVec.ofInt (IntKind.bits .u32) M9)).toNat:Int)))))+(IntKind.wrap .u32 (((BitVec.ofInt (IntKind.bits .u32) (IntKind.wrap .u32 (((BitVec.ofInt (IntKind.bits .u32) BE &&& (BitVec.ofInt (IntKind.bits .u32) wL)).toNat:Int))) ^^^ (BitVec.ofInt (IntKind.bits .u32) (IntKind.wrap .u32 (((BitVec.ofInt (IntKind.bits .u32) (IntKind.wrap .u32 ((4294967295:Int) - BE)) &&& (BitVec.ofInt (IntKind.bits .u32) CV)).toNat:Int))))).toNat:Int)))))+M7))+M8)))),Uz,UA,UB],t14:=(IntKind.wrap .i64 (c.t14+(1:Int)))})
  (L4 Q {c with qz:=([]:List Int),i20:=(0:Int)})
def L3 (Q:QT) (c:V):Prop:=Lf (fun S=>B3 S Q) c
theorem ff {Q:QT} {c:V} (H:B3 (L3 Q) Q c):L3 Q c:=Lf.fold H
def B1 (S1:V→Prop) (Q:QT) (c:V):Prop:=
  br (decide (c.t8<(64:Int)))
  (br (decide (c.t8<(16:Int)))
  (ixP c.b2 (IntKind.wrap .i64 ((4:Int)*c.t8)) fun wg=>
  ixP c.b2 (IntKind.wrap .i64 ((IntKind.wrap .i64 ((4:Int)*c.t8))+(1:Int))) fun qF=>
  ixP c.b2 (IntKind.wrap .i64 ((IntKind.wrap .i64 ((4:Int)*c.t8))+(2:Int))) fun jx=>
  ixP c.b2 (IntKind.wrap .i64 ((IntKind.wrap .i64 ((4:Int)*c.t8))+(3:Int))) fun mQ=>
  (Bnd (c.w7.length+([(IntKind.wrap .u32 ((IntKind.wrap .u32 ((IntKind.wrap .u32 ((IntKind.wrap .u32 ((IntKind.wrap .u32 wg)*(16777216:Int)))+(IntKind.wrap .u32 ((IntKind.wrap .u32 qF)*(65536:Int)))))+(IntKind.wrap .u32 ((IntKind.wrap .u32 jx)*(256:Int)))))+(IntKind.wrap .u32 mQ)))]).length))∧
  K2 S1 Q {c with w7:=(c.w7++[(IntKind.wrap .u32 ((IntKind.wrap .u32 ((IntKind.wrap .u32 ((IntKind.wrap .u32 ((IntKind.wrap .u32 wg)*(16777216:Int)))+(IntKind.wrap .u32 ((IntKind.wrap .u32 qF)*(65536:Int)))))+(IntKind.wrap .u32 ((IntKind.wrap .u32 jx)*(256:Int)))))+(IntKind.wrap .u32 mQ)))])})
  (ixP c.w7 (IntKind.wrap .i64 (c.t8 - (15:Int))) fun By=>
  ixP c.w7 (IntKind.wrap .i64 (c.t8 - (2:Int))) fun Lu=>
  bu By (7:Int) fun Lw=>
  bu By (18:Int) fun Lx=>
  bu Lu (17:Int) fun UC=>
  bu Lu (19:Int) fun UD=>
  ixP c.w7 (IntKind.wrap .i64 (c.t8 - (7:Int))) fun xQ=>
  ixP c.w7 (IntKind.wrap .i64 (c.t8 - (16:Int))) fun UE=>
  (Bnd (c.w7.length+([(IntKind.wrap .u32 ((IntKind.wrap .u32 ((IntKind.wrap .u32 ((IntKind.wrap .u32 (((BitVec.ofInt (IntKind.bits .u32) (IntKind.wrap .u32 (((BitVec.ofInt (IntKind.bits .u32) UC ^^^ (BitVec.ofInt (IntKind.bits .u32) UD)).toNat:Int))) ^^^ (BitVec.ofInt (IntKind.bits .u32) (IntKind.wrap .u32 (Int.tdiv Lu (1024:Int))))).toNat:Int)))+xQ))+(IntKind.wrap .u32 (((BitVec.ofInt (IntKind.bits .u32) (IntKind.wrap .u32 (((BitVec.ofInt (IntKind.bits .u32) Lw ^^^ (BitVec.ofInt (IntKind.bits .u32) Lx)).toNat:Int))) ^^^ (BitVec.ofInt (IntKind.bits .u32) (IntKind.wrap .u32 (Int.tdiv By (8:Int))))).toNat:Int)))))+UE))]).length))∧
  K2 S1 Q {c with w7:=(c.w7++[(IntKind.wrap .u32 ((IntKind.wrap .u32 ((IntKind.wrap .u32 ((IntKind.wrap .u32 (((BitVec.ofInt (IntKind.bits .u32) (IntKind.wrap .u32 (((BitVec.ofInt (IntKind.bits .u32) UC ^^^ (BitVec.ofInt (IntKind.bits .u32) UD)).toNat:Int))) ^^^ (BitVec.ofInt (IntKind.bits .u32) (IntKind.wrap .u32 (Int.tdiv Lu (1024:Int))))).toNat:Int)))+xQ))+(IntKind.wrap .u32 (((BitVec.ofInt (IntKind.bits .u32) (IntKind.wrap .u32 (((BitVec.ofInt (IntKind.bits .u32) Lw ^^^ (BitVec.ofInt (IntKind.bits .u32) Lx)).toNat:Int))) ^^^ (BitVec.ofInt (IntKind.bits .u32) (IntKind.wrap .u32 (Int.tdiv By (8:Int))))).toNat:Int)))))+UE))])}))
  ((Bnd (([]:List Int).length+c.s1.length))∧
  L3 Q {c with nP:=(([]:List Int)++c.s1),t14:=(0:Int)})
def L1 (Q:QT) (c:V):Prop:=Lf (fun S=>B1 S Q) c
theorem bY {Q:QT} {c:V} (H:B1 (L1 Q) Q c):L1 Q c:=Lf.fold H
end aK
def aK (k0:List Int) (s1:List Int) (b2:List Int) (Q:aK.QT):Prop:=
  aK.L1 Q {aK.v0 with k0:=k0,s1:=s1,b2:=b2,w7:=([]:List Int),t8:=(0:Int)}
namespace bH
structure V where
  v2:Vector Int 32
  k3:List Int
  s4:List Int
  p5:List Int
  i6:Int
  fh:Vector Int 32
  i8:Int
def v0:V:=⟨Vector.replicate 32 0,[],[],[],0,Vector.replicate 32 0,0⟩
abbrev QT:=(Vector Int 32)→Prop
def B2 (S2:V→Prop) (Q:QT) (c:V):Prop:=
  br (decide (c.i8<(32:Int)))
  (ixP c.s4 (IntKind.wrap .i64 (Int.tdiv c.i8 (4:Int))) fun Eu=>
  mP (IntKind.wrap .i64 ((24:Int) - (IntKind.wrap .i64 ((8:Int)*(Int.tmod c.i8 (4:Int)))))) fun _=>
  ixP c.fh.toList c.i8 fun TZ=>
  S2 {c with fh:=(c.fh.setIfInBounds (Int.toNat c.i8) (IntKind.wrap .u8 (Int.fdiv Eu (2 ^ (min (Int.toNat (IntKind.wrap .i64 ((24:Int) - (IntKind.wrap .i64 ((8:Int)*(Int.tmod c.i8 (4:Int))))))) (IntKind.bits .u32)))))),i8:=(IntKind.wrap .i64 (c.i8+(1:Int)))})
  (Q c.fh)
def L2 (Q:QT) (c:V):Prop:=Lf (fun S=>B2 S Q) c
theorem cM {Q:QT} {c:V} (H:B2 (L2 Q) Q c):L2 Q c:=Lf.fold H
def B1 (S1:V→Prop) (Q:QT) (c:V):Prop:=
  br (decide (c.i6<(c.p5.length:Int)))
  ((SlOk c.p5 c.i6 (IntKind.wrap .i64 (c.i6+(64:Int))))∧
  aK c.k3 c.s4 (sub c.p5 c.i6 (IntKind.wrap .i64 (c.i6+(64:Int)))) fun Pv=>
  S1 {c with s4:=Pv,i6:=(IntKind.wrap .i64 (c.i6+(64:Int)))})
  (L2 Q {c with fh:=(Vector.replicate 32 (0:Int)),i8:=(0:Int)})
def L1 (Q:QT) (c:V):Prop:=Lf (fun S=>B1 S Q) c
theorem bY {Q:QT} {c:V} (H:B1 (L1 Q) Q c):L1 Q c:=Lf.fold H
end bH
def bH (b0:List Int) (Q:bH.QT):Prop:=
  bF fun Ki qi=>
  bG b0 fun sZ=>
  bH.L1 Q {bH.v0 with v2:=(Vector.replicate 32 (0:Int)),k3:=Ki,s4:=qi,p5:=sZ,i6:=(0:Int)}
namespace cj
structure V where
  cT:Int
  dg:Int
  v11:ax
  O9:List Int
  Bh:Bool
def v0:V:=⟨0,0,(⟨(0:Int),(0:Int),(Vector.replicate 32 (0:Int))⟩:ax),[],false⟩
abbrev QT:=(List Int)→ax→Int→Prop
def K1 (Q:QT) (c:V):Prop:=
  br c.Bh
  (Q ([]:List Int) (⟨(0:Int),(0:Int),(Vector.replicate 32 (0:Int))⟩:ax) (1:Int))
  (bH c.O9 fun Bw=>
  Q c.O9 (⟨c.dg,c.cT,Bw⟩:ax) (0:Int))
end cj
def cj (iK:Vector Int 32) (cT:Int) (dg:Int) (PG:Int) (UF:List Int) (Q:cj.QT):Prop:=
  cr iK cT PG UF fun qE Lz=>
  br (Lz !=(0:Int))
  (cj.K1 Q {cj.v0 with cT:=cT,dg:=dg,v11:=(⟨(0:Int),(0:Int),(Vector.replicate 32 (0:Int))⟩:ax),O9:=qE,Bh:=true})
  (br (decide (dg<(0:Int)))
  (cj.K1 Q {cj.v0 with cT:=cT,dg:=dg,v11:=(⟨(0:Int),(0:Int),(Vector.replicate 32 (0:Int))⟩:ax),O9:=qE,Bh:=true})
  (cj.K1 Q {cj.v0 with cT:=cT,dg:=dg,v11:=(⟨(0:Int),(0:Int),(Vector.replicate 32 (0:Int))⟩:ax),O9:=qE,Bh:=(decide (dg>(1:Int)))}))
namespace ai
structure V where
  cT:Int
  l4:List aq
  c5:List an
  lu:Vector Int 32
  s8:aL
  gX:ax
  v12:bS
  nS:Bool
  cQ:bS
  gv:List Int
  dW:List ax
  dB:List Bool
  dw:Int
  jv:List Int
  i19:Int
  jV:List ax
  mB:List Int
  CU:Int
  ux:ax
def v0:V:=⟨0,[],[],Vector.replicate 32 0,(⟨(0:Int),[],[]⟩:aL),(⟨(0:Int),(0:Int),(Vector.replicate 32 (0:Int))⟩:ax),(⟨[],[],(⟨(0:Int),(0:Int),(Vector.replicate 32 (0:Int))⟩:ax),(0:Int)⟩:bS),false,(⟨[],[],(⟨(0:Int),(0:Int),(Vector.replicate 32 (0:Int))⟩:ax),(0:Int)⟩:bS),[],[],[],0,[],0,[],[],0,(⟨(0:Int),(0:Int),(Vector.replicate 32 (0:Int))⟩:ax)⟩
abbrev QT:=bS→Prop
def K4 (S2:V→Prop) (S3:V→Prop) (Q:QT) (c:V):Prop:=
  S3 {c with i19:=(IntKind.wrap .i64 (c.i19+(1:Int)))}
def K9 (S2:V→Prop) (Q:QT) (c:V):Prop:=
  S2 {c with dw:=(IntKind.wrap .i64 (c.dw+(1:Int)))}
def K7 (S2:V→Prop) (Q:QT) (c:V):Prop:=
  bg c.s8 c.dw (IntKind.wrap .i64 ((1:Int) - c.ux.Place)) fun C1=>
  cj c.lu c.cT (IntKind.wrap .i64 ((1:Int) - c.ux.Place)) C1 c.jv fun Hv Hw agi=>
  (Bnd (c.cQ.fL.length+([(⟨C1,Hv⟩:cN)]).length))∧
  ixP c.dW c.dw fun agj=>
  ixP c.dB c.dw fun agk=>
  br (c.dw==(IntKind.wrap .i64 ((c.s8.Level.length:Int) - (1:Int))))
  (K9 S2 Q {c with cQ:=(⟨(c.cQ.fL++[(⟨C1,Hv⟩:cN)]),c.cQ.fC,Hw,c.cQ.nZ⟩:bS),dW:=(c.dW.set (Int.toNat c.dw) Hw),dB:=(c.dB.set (Int.toNat c.dw) true)})
  (K9 S2 Q {c with cQ:=(⟨(c.cQ.fL++[(⟨C1,Hv⟩:cN)]),c.cQ.fC,c.cQ.cH,c.cQ.nZ⟩:bS),dW:=(c.dW.set (Int.toNat c.dw) Hw),dB:=(c.dB.set (Int.toNat c.dw) true)})
def K8 (S2:V→Prop) (Q:QT) (c:V):Prop:=
  aB c.s8 c.dw fun UG UH UI=>
  br UI
  (bQ c.l4 UG fun UJ agl=>
  ixP UJ UH fun UK=>
  K7 S2 Q {c with ux:=UK})
  (K7 S2 Q {c with ux:=c.gX})
def B3 (S2:V→Prop) (S3:V→Prop) (Q:QT) (c:V):Prop:=
  br (decide (c.i19<(c.c5.length:Int)))
  (ixP c.c5 c.i19 fun UL=>
  br (UL.dx==c.dw)
  (ixP c.c5 c.i19 fun G2=>
  K4 S2 S3 Q {c with jv:=G2.Bytes})
  (K4 S2 S3 Q c))
  (K8 S2 Q c)
def L3 (S2:V→Prop) (Q:QT) (c:V):Prop:=Lf (fun S=>B3 S2 S Q) c
theorem ff (S2:V→Prop) {Q:QT} {c:V} (H:B3 S2 (L3 S2 Q) Q c):L3 S2 Q c:=Lf.fold H
def K6 (S2:V→Prop) (S5:V→Prop) (Q:QT) (c:V):Prop:=
  S5 {c with CU:=(IntKind.wrap .i64 (c.CU+(1:Int)))}
def B5 (S2:V→Prop) (S5:V→Prop) (Q:QT) (c:V):Prop:=
  br (decide (c.CU<(c.mB.length:Int)))
  (ixP c.mB c.CU fun UM=>
  ixP c.dB UM fun UN=>
  br UN
  (ixP c.mB c.CU fun UO=>
  ixP c.dW UO fun UP=>
  ixP c.jV c.CU fun agm=>
  K6 S2 S5 Q {c with jV:=(c.jV.set (Int.toNat c.CU) UP)})
  (K6 S2 S5 Q c))
  ((Bnd (c.cQ.fC.length+([(⟨c.dw,c.jV⟩:aq)]).length))∧
  aZ c.jV fun UQ agn=>
  K8 S2 Q {c with cQ:=(⟨c.cQ.fL,(c.cQ.fC++[(⟨c.dw,c.jV⟩:aq)]),c.cQ.cH,c.cQ.nZ⟩:bS),jv:=UQ})
def L5 (S2:V→Prop) (Q:QT) (c:V):Prop:=Lf (fun S=>B5 S2 S Q) c
theorem nV (S2:V→Prop) {Q:QT} {c:V} (H:B5 S2 (L5 S2 Q) Q c):L5 S2 Q c:=Lf.fold H
def B2 (S2:V→Prop) (Q:QT) (c:V):Prop:=
  br (decide (c.dw<(c.s8.Level.length:Int)))
  (bL c.c5 fun Hx=>
  cm Hx c.dw fun LA=>
  br LA
  (L3 S2 Q {c with jv:=([]:List Int),i19:=(0:Int)})
  (cm c.gv c.dw fun adO=>
  br adO
  (bQ c.l4 c.dw fun kf alx=>
  (Bnd (([]:List ax).length+kf.length))∧
  aH c.s8 c.dw fun adP=>
  L5 S2 Q {c with jV:=(([]:List ax)++kf),mB:=adP,CU:=(0:Int)})
  (K9 S2 Q c)))
  (Q c.cQ)
def L2 (Q:QT) (c:V):Prop:=Lf (fun S=>B2 S Q) c
theorem cM {Q:QT} {c:V} (H:B2 (L2 Q) Q c):L2 Q c:=Lf.fold H
def K1 (Q:QT) (c:V):Prop:=
  br c.nS
  (Q (⟨([]:List cN),([]:List aq),(⟨(0:Int),(0:Int),(Vector.replicate 32 (0:Int))⟩:ax),(1:Int)⟩:bS))
  (bL c.c5 fun ke=>
  bp c.s8 ke fun adQ=>
  mkW (c.s8.Level.length:Int) fun _=>
  mkW (c.s8.Level.length:Int) fun _=>
  L2 Q {c with cQ:=(⟨([]:List cN),([]:List aq),c.gX,(0:Int)⟩:bS),gv:=adQ,dW:=(List.replicate (Int.toNat (c.s8.Level.length:Int)) (⟨(0:Int),(0:Int),(Vector.replicate 32 (0:Int))⟩:ax)),dB:=(List.replicate (Int.toNat (c.s8.Level.length:Int)) false),dw:=(0:Int)})
end ai
def ai (iK:Vector Int 32) (cT:Int) (s2:aL) (Hy:ax) (l4:List aq) (c5:List an) (Q:ai.QT):Prop:=
  az s2 l4 c5 fun Bw=>
  br (!Bw)
  (ai.K1 Q {ai.v0 with cT:=cT,l4:=l4,c5:=c5,lu:=iK,s8:=s2,gX:=Hy,v12:=(⟨([]:List cN),([]:List aq),(⟨(0:Int),(0:Int),(Vector.replicate 32 (0:Int))⟩:ax),(0:Int)⟩:bS),nS:=true})
  (fW Hy fun mO=>
  ai.K1 Q {ai.v0 with cT:=cT,l4:=l4,c5:=c5,lu:=iK,s8:=s2,gX:=Hy,v12:=(⟨([]:List cN),([]:List aq),(⟨(0:Int),(0:Int),(Vector.replicate 32 (0:Int))⟩:ax),(0:Int)⟩:bS),nS:=(!mO)})
namespace bZ
structure V where
  a0:List Int
  b1:List Int
  i5:Int
def v0:V:=⟨[],[],0⟩
abbrev QT:=Bool→Prop
def B1 (S1:V→Prop) (Q:QT) (c:V):Prop:=
  br (decide (c.i5<(c.a0.length:Int)))
  (ixP c.a0 c.i5 fun eN=>
  ixP c.b1 c.i5 fun od=>
  br (eN !=od)
  (Q false)
  (S1 {c with i5:=(IntKind.wrap .i64 (c.i5+(1:Int)))}))
  (Q true)
def L1 (Q:QT) (c:V):Prop:=Lf (fun S=>B1 S Q) c
end bZ
def bZ (a0:List Int) (b1:List Int) (Q:bZ.QT):Prop:=
  br ((a0.length:Int) !=(b1.length:Int))
  (Q false)
  (bZ.L1 Q {bZ.v0 with a0:=a0,b1:=b1,i5:=(0:Int)})
namespace bP
structure V where
  a0:List cv
  b3:bS
  gF:Int
  kO:Int
  GR:Bool
def v0:V:=⟨[],(⟨[],[],(⟨(0:Int),(0:Int),(Vector.replicate 32 (0:Int))⟩:ax),(0:Int)⟩:bS),0,0,false⟩
abbrev QT:=Bool→Prop
def K2 (S1:V→Prop) (Q:QT) (c:V):Prop:=
  br c.GR
  (Q false)
  (S1 {c with kO:=(IntKind.wrap .i64 (c.kO+(1:Int)))})
def B1 (S1:V→Prop) (Q:QT) (c:V):Prop:=
  br (decide (c.kO<c.gF))
  (ixP c.a0 c.kO fun rF=>
  ixP c.b3.fL c.kO fun jx=>
  br (rF.Block !=jx.Block)
  (K2 S1 Q {c with GR:=true})
  (ixP c.a0 c.kO fun Hz=>
  ixP c.b3.fL c.kO fun By=>
  bZ Hz.Bytes By.Bytes fun PI=>
  K2 S1 Q {c with GR:=(!PI)}))
  (Q true)
def L1 (Q:QT) (c:V):Prop:=Lf (fun S=>B1 S Q) c
theorem bY {Q:QT} {c:V} (H:B1 (L1 Q) Q c):L1 Q c:=Lf.fold H
end bP
def bP (a0:List cv) (b1:bS) (Q:bP.QT):Prop:=
  br ((a0.length:Int) !=(b1.fL.length:Int))
  (Q false)
  (bP.L1 Q {bP.v0 with a0:=a0,b3:=b1,gF:=(a0.length:Int),kO:=(0:Int)})
namespace bn
structure V where
  a0:List aO
  b1:List aq
  kO:Int
  nw:Int
  i5:Int
  GR:Bool
  RX:List aF
  v49:Int
  uu:Int
def v0:V:=⟨[],[],0,0,0,false,[],0,0⟩
abbrev QT:=Bool→Prop
def B3 (S1:V→Prop) (S3:V→Prop) (Q:QT) (c:V):Prop:=
  br (decide (c.uu<c.v49))
  (ixP c.RX c.uu fun Hq=>
  ixP c.b1 c.i5 fun G3=>
  ixP G3.Refs c.uu fun HD=>
  br (!((Hq.Place==HD.Place) && ((Hq.bO==HD.bO) && ((Hq.bD.toList==HD.bD.toList) && true))))
  (Q false)
  (S3 {c with uu:=(IntKind.wrap .i64 (c.uu+(1:Int)))}))
  (S1 {c with nw:=(IntKind.wrap .i64 (c.nw+(1:Int)))})
def L3 (S1:V→Prop) (Q:QT) (c:V):Prop:=Lf (fun S=>B3 S1 S Q) c
theorem ff (S1:V→Prop) {Q:QT} {c:V} (H:B3 S1 (L3 S1 Q) Q c):L3 S1 Q c:=Lf.fold H
def K2 (S1:V→Prop) (Q:QT) (c:V):Prop:=
  br c.GR
  (Q false)
  (ixP c.a0 c.i5 fun zz=>
  L3 S1 Q {c with RX:=zz.Refs,v49:=(zz.Refs.length:Int),uu:=(0:Int)})
def B1 (S1:V→Prop) (Q:QT) (c:V):Prop:=
  br (decide (c.nw<c.kO))
  (ixP c.a0 c.nw fun eN=>
  ixP c.b1 c.nw fun sX=>
  br (eN.Item !=sX.Item)
  (K2 S1 Q {c with i5:=c.nw,GR:=true})
  (ixP c.a0 c.nw fun uG=>
  ixP c.b1 c.nw fun Hz=>
  K2 S1 Q {c with i5:=c.nw,GR:=((uG.Refs.length:Int) !=(Hz.Refs.length:Int))}))
  (Q true)
def L1 (Q:QT) (c:V):Prop:=Lf (fun S=>B1 S Q) c
theorem bY {Q:QT} {c:V} (H:B1 (L1 Q) Q c):L1 Q c:=Lf.fold H
end bn
def bn (a0:List aO) (b1:List aq) (Q:bn.QT):Prop:=
  br ((a0.length:Int) !=(b1.length:Int))
  (Q false)
  (bn.L1 Q {bn.v0 with a0:=a0,b1:=b1,kO:=(a0.length:Int),nw:=(0:Int)})
namespace aj
structure V where
  l1:List aq
  c2:List an
  a3:dr
  s8:bE
  e9:Int
  tv:aL
  v40:Bool
  v49:List (List an)
  uu:Int
  v51:Int
  y7:Bool
  nP:List an
  Kf:List cv
  Kg:List aO
  Ei:aF
  f17:Int
  Xy:List cv
  v69:List aO
  v70:aF
  nA:Int
def v0:V:=⟨[],[],(⟨(0:Int),(Vector.replicate 32 (0:Int)),(0:Int),(⟨(0:Int),(0:Int),(Vector.replicate 32 (0:Int))⟩:ax)⟩:dr),(⟨[]⟩:bE),0,(⟨(0:Int),[],[]⟩:aL),false,[],0,0,false,[],[],[],(⟨(0:Int),(0:Int),(Vector.replicate 32 (0:Int))⟩:aF),0,[],[],(⟨(0:Int),(0:Int),(Vector.replicate 32 (0:Int))⟩:aF),0⟩
abbrev QT:=Bool→St Obj→Prop
def K3 (S2:V→St Obj→Prop) (Q:QT) (c:V) (σ:St Obj):Prop:=
  br c.y7
  (Q false σ)
  (S2 {c with v51:=(IntKind.wrap .i64 (c.v51+(1:Int)))} σ)
def K4 (S2:V→St Obj→Prop) (Q:QT) (c:V) (σ:St Obj):Prop:=
  ai c.a3.Key c.a3.bO c.tv c.a3.cH c.l1 c.nP fun wN=>
  br (c.f17 !=wN.nZ)
  (K3 S2 Q {c with y7:=true} σ)
  (br (!((c.Ei.Place==wN.cH.Place) && ((c.Ei.bO==wN.cH.bO) && ((c.Ei.bD.toList==wN.cH.bD.toList) && true))))
  (K3 S2 Q {c with y7:=true} σ)
  (bP c.Kf wN fun UR=>
  br (!UR)
  (K3 S2 Q {c with y7:=true} σ)
  (bn c.Kg wN.fC fun US=>
  K3 S2 Q {c with y7:=(!US)} σ)))
def K6 (S2:V→St Obj→Prop) (Q:QT) (b c:V) (σ:St Obj):Prop:=
  K4 S2 Q {b with l1:=c.l1,a3:=c.a3,s8:=c.s8,tv:=c.tv,nP:=c.nP,Kf:=c.Kf,Kg:=c.Kg,Ei:=c.Ei,f17:=c.nA,v49:=c.v49,uu:=c.uu,v51:=c.v51} σ
def K5 (S2:V→St Obj→Prop) (Q:QT) (b c:V) (σ:St Obj):Prop:=
  K6 S2 Q b {c with Kf:=c.Xy,Kg:=c.v69,Ei:=c.v70} σ
def B2 (S2:V→St Obj→Prop) (Q:QT) (c:V) (σ:St Obj):Prop:=
  br (decide (c.v51<c.uu))
  (ixP c.v49 c.v51 fun xU=>
  (aV c.l1 fun Hx=>
  (bC xU fun LA=>
  (aE none c.a3.Key c.a3.bO c.s8 (⟨c.a3.cH.Place,c.a3.cH.bO,c.a3.cH.bD⟩:aF) Hx LA σ fun s7 lX adR adS σ_96=>
  K5 S2 Q c {c with nP:=xU,Ei:=(⟨(0:Int),(0:Int),(Vector.replicate 32 (0:Int))⟩:aF),Xy:=s7,v69:=lX,v70:=adR,nA:=adS} σ_96)∧
  (aE none c.a3.Key c.a3.bO c.s8 (⟨c.a3.cH.Place,c.a3.cH.bO,c.a3.cH.bD⟩:aF) Hx LA σ fun He Hg Hh Hi σ_118=>
  K6 S2 Q c {c with nP:=xU,Kf:=He,Kg:=Hg,Ei:=Hh,nA:=Hi} σ_118))∧
  (bC xU fun Ho=>
  aE none c.a3.Key c.a3.bO c.s8 (⟨c.a3.cH.Place,c.a3.cH.bO,c.a3.cH.bD⟩:aF) Hx Ho σ fun C0 UT UU UW σ_142=>
  K6 S2 Q c {c with nP:=xU,Kf:=C0,Kg:=UT,Ei:=UU,nA:=UW} σ_142))∧
  (aV c.l1 fun UX=>
  bC xU fun UY=>
  aE none c.a3.Key c.a3.bO c.s8 (⟨c.a3.cH.Place,c.a3.cH.bO,c.a3.cH.bD⟩:aF) UX UY σ fun uF G8 UZ U0 σ_170=>
  K6 S2 Q c {c with nP:=xU,Kf:=uF,Kg:=G8,Ei:=UZ,nA:=U0} σ_170))
  (au σ fun U1 σ_176=>
  Q U1 σ_176)
def L2 (Q:QT) (c:V) (σ:St Obj):Prop:=
  Lf (fun S (v:V × St Obj)=>B2 (fun c σ=>S (c,σ)) Q v.1 v.2) (c,σ)
theorem cM {Q:QT} {c:V} {σ:St Obj} (H:B2 (L2 Q) Q c σ):L2 Q c σ:=Lf.fold H
def K1 (Q:QT) (c:V) (σ:St Obj):Prop:=
  br c.v40
  (br (c.e9==(0:Int))
  (au σ fun PJ σ_42=>
  Q PJ σ_42)
  (Q false σ))
  (cg c.c2 fun pn=>
  L2 Q {c with v49:=[c.c2,pn],uu:=(2:Int),v51:=(0:Int)} σ)
end aj
def aj (a0:dr) (l1:List aq) (c2:List an) (σ:St Obj) (Q:aj.QT):Prop:=
  cD (IntKind.wrap .i64 ((Int.tmod (IntKind.wrap .i64 a0.me) (14:Int))+(1:Int))) fun qE Lz=>
  aQ (IntKind.wrap .i64 ((Int.tmod (IntKind.wrap .i64 a0.me) (14:Int))+(1:Int))) fun Lj Er=>
  bq l1 c2 fun Lt=>
  br Lt
  (aj.K1 Q {aj.v0 with l1:=l1,c2:=c2,a3:=a0,s8:=qE,e9:=Lz,tv:=Lj,v40:=true} σ)
  (aj.K1 Q {aj.v0 with l1:=l1,c2:=c2,a3:=a0,s8:=qE,e9:=Lz,tv:=Lj,v40:=(Lz !=(0:Int))} σ)
end Go.Pt
namespace Go.Proofs.YtpjehkdneiclnaaGreat.Ek
open Go Go.Wc Go.Pu Go.Ex Go.Proofs.YtpjehkdneiclnaaGreat Go.Pt
def τ:Tys:=[
(0,⟨.other,1,0,(.tuple [].toArray),[.any],true⟩),
(3,⟨.int .i64,1,8,(.int .i64 (0:Int)),[.int .i64],true⟩),
(4,⟨.bool,1,1,(.bool false),[.bool],true⟩),
(5,⟨.int .u8,1,1,(.int .u8 (0:Int)),[.int .u8],true⟩),
(22,⟨.arr 32 5,32,32,(.agg (lumpV .u8 32 (List.replicate 32 0)).toArray),[.lump .u8 32],true⟩),
(23,⟨.int .u32,1,4,(.int .u32 (0:Int)),[.int .u32],true⟩),
(25,⟨.struct [(3,0),(23,1),(22,2)],34,48,(.agg (([(.int .i64 (0:Int)),(.int .u32 (0:Int))]:List Value)++lumpV .u8 32 (List.replicate 32 0)).toArray),[.int .i64, .int .u32, .lump .u8 32],true⟩),
(27,⟨.struct [(5,0),(22,1),(23,33),(25,34)],68,88,(.agg (([(.int .u8 (0:Int))]:List Value)++lumpV .u8 32 (List.replicate 32 0)++([(.int .u32 (0:Int)),(.int .i64 (0:Int)),(.int .u32 (0:Int))]:List Value)++lumpV .u8 32 (List.replicate 32 0)).toArray),[.int .u8, .lump .u8 32, .int .u32, .int .i64, .int .u32, .lump .u8 32],true⟩),
(28,⟨.slice 61,1,24,(.slice none 0 0),[.sl],true⟩),
(29,⟨.slice 64,1,24,(.slice none 0 0),[.sl],true⟩),
(30,⟨.slice 3,1,24,(.slice none 0 0),[.sl],true⟩),
(32,⟨.struct [(30,0)],1,24,(.agg [(.slice none 0 0)].toArray),[.sl],true⟩),
(37,⟨.struct [(3,0),(30,1),(30,2)],3,56,(.agg [(.int .i64 (0:Int)),(.slice none 0 0),(.slice none 0 0)].toArray),[.int .i64, .sl, .sl],true⟩),
(43,⟨.slice 29,1,24,(.slice none 0 0),[.sl],true⟩),
(44,⟨.slice 70,1,24,(.slice none 0 0),[.sl],true⟩),
(45,⟨.slice 67,1,24,(.slice none 0 0),[.sl],true⟩),
(46,⟨.struct [(3,0),(23,1),(22,2)],34,48,(.agg (([(.int .i64 (0:Int)),(.int .u32 (0:Int))]:List Value)++lumpV .u8 32 (List.replicate 32 0)).toArray),[.int .i64, .int .u32, .lump .u8 32],true⟩),
(50,⟨.slice 68,1,24,(.slice none 0 0),[.sl],true⟩),
(52,⟨.slice 102,1,24,(.slice none 0 0),[.sl],true⟩),
(54,⟨.struct [(52,0),(28,1),(25,2),(3,36)],37,104,(.agg (([(.slice none 0 0),(.slice none 0 0),(.int .i64 (0:Int)),(.int .u32 (0:Int))]:List Value)++lumpV .u8 32 (List.replicate 32 0)++([(.int .i64 (0:Int))]:List Value)).toArray),[.sl, .sl, .int .i64, .int .u32, .lump .u8 32, .int .i64],true⟩),
(59,⟨.slice 25,1,24,(.slice none 0 0),[.sl],true⟩),
(61,⟨.struct [(3,0),(59,1)],2,32,(.agg [(.int .i64 (0:Int)),(.slice none 0 0)].toArray),[.int .i64, .sl],true⟩),
(62,⟨.slice 5,1,24,(.slice none 0 0),[.sl],true⟩),
(64,⟨.struct [(3,0),(62,1)],2,32,(.agg [(.int .i64 (0:Int)),(.slice none 0 0)].toArray),[.int .i64, .sl],true⟩),
(65,⟨.slice 46,1,24,(.slice none 0 0),[.sl],true⟩),
(67,⟨.struct [(3,0),(65,1)],2,32,(.agg [(.int .i64 (0:Int)),(.slice none 0 0)].toArray),[.int .i64, .sl],true⟩),
(68,⟨.struct [(3,0),(62,1)],2,32,(.agg [(.int .i64 (0:Int)),(.slice none 0 0)].toArray),[.int .i64, .sl],true⟩),
(70,⟨.struct [(3,0),(62,1)],2,32,(.agg [(.int .i64 (0:Int)),(.slice none 0 0)].toArray),[.int .i64, .sl],true⟩),
(72,⟨.ptr 142,1,8,(.pointer none),[.ptr],true⟩),
(76,⟨.map 3 65,1,8,(.map none),[.map],true⟩),
(78,⟨.struct [(72,0),(22,1),(23,33),(32,34),(46,35),(76,69),(44,70)],71,152,(.agg (([(.pointer none)]:List Value)++lumpV .u8 32 (List.replicate 32 0)++([(.int .u32 (0:Int)),(.slice none 0 0),(.int .i64 (0:Int)),(.int .u32 (0:Int))]:List Value)++lumpV .u8 32 (List.replicate 32 0)++([(.map none),(.slice none 0 0)]:List Value)).toArray),[.ptr, .lump .u8 32, .int .u32, .sl, .int .i64, .int .u32, .lump .u8 32, .map, .sl],true⟩),
(90,⟨.slice 4,1,24,(.slice none 0 0),[.sl],true⟩),
(102,⟨.struct [(3,0),(62,1)],2,32,(.agg [(.int .i64 (0:Int)),(.slice none 0 0)].toArray),[.int .i64, .sl],true⟩),
(104,⟨.map 3 4,1,8,(.map none),[.map],true⟩),
(127,⟨.int .u64,1,8,(.int .u64 (0:Int)),[.int .u64],true⟩),
(130,⟨.arr 12 5,12,12,(.agg (lumpV .u8 12 (List.replicate 12 0)).toArray),[.lump .u8 12],true⟩),
(132,⟨.slice 23,1,24,(.slice none 0 0),[.sl],true⟩),
(139,⟨.int .u64,1,8,(.int .u64 (0:Int)),[.int .u64],true⟩),
(140,⟨.slice 62,1,24,(.slice none 0 0),[.sl],true⟩),
(142,⟨.struct [(140,0)],1,24,(.agg [(.slice none 0 0)].toArray),[.sl],true⟩),
(145,⟨.slice 127,1,24,(.slice none 0 0),[.sl],true⟩),
(160,⟨.arr 64 5,64,64,(.agg (lumpV .u8 64 (List.replicate 64 0)).toArray),[.lump .u8 64],true⟩),
(162,⟨.arr 8 23,8,32,(.agg (lumpV .u32 8 (List.replicate 8 0)).toArray),[.lump .u32 8],true⟩),
(164,⟨.struct [(162,0),(62,8),(127,9)],10,64,(.agg (lumpV .u32 8 (List.replicate 8 0)++([(.slice none 0 0),(.int .u64 (0:Int))]:List Value)).toArray),[.lump .u32 8, .sl, .int .u64],true⟩),
(176,⟨.arr 16 23,16,64,(.agg (lumpV .u32 16 (List.replicate 16 0)).toArray),[.lump .u32 16],true⟩),
(178,⟨.arr 4 23,4,16,(.agg (lumpV .u32 4 (List.replicate 4 0)).toArray),[.lump .u32 4],true⟩),
(184,⟨.slice 30,1,24,(.slice none 0 0),[.sl],true⟩),
(189,⟨.arr 64 23,64,256,(.agg (lumpV .u32 64 (List.replicate 64 0)).toArray),[.lump .u32 64],true⟩)]
theorem agree:Agree Tryz.prog τ:=zF _ _ (by kernel_rfl) (by kernel_rfl)
theorem mixed:Tryz.prog.follows .mixedOrders=true:=by kernel_rfl
def ρ:Ids:=ids [(0,3),(1,5),(11,32),(12,37),(13,64),(14,67),(15,61),(16,46),(17,68),(18,104),(19,22),(20,78),(21,70),(22,130),(23,160),(24,176),(25,178),(26,62),(27,164),(28,162),(29,189),(30,25),(31,27),(32,29),(33,54),(34,4),(35,102),(36,23),(37,30),(38,127),(39,142)] [(9,64),(25,56),(28,34),(47,78),(67,63),(68,48),(74,4),(75,5),(76,6),(77,7),(78,15),(79,25),(80,74),(81,10),(82,19),(83,28),(84,14),(85,11),(86,16),(87,23),(88,8),(89,9),(90,35),(91,37),(92,36),(93,57),(94,54),(95,44),(96,70),(97,59),(98,17),(99,18),(100,20),(101,21),(102,22),(103,43),(104,42),(105,38),(106,39),(107,40),(108,41),(109,58),(110,45),(111,46),(112,60),(113,61),(114,62),(115,76),(116,75),(117,95),(118,107),(119,108),(120,116),(121,109),(122,117),(123,118),(124,77),(125,96),(126,97),(127,98),(128,110),(129,111),(130,119),(131,120),(132,121),(133,123),(134,47),(135,49),(136,27),(137,31),(138,29),(139,50),(140,26),(141,24),(142,12),(143,13),(144,30),(145,32),(146,33),(147,51),(148,52),(149,53),(150,66),(151,65),(152,79),(153,99),(154,112),(155,113),(156,114),(157,122),(158,67),(159,68),(160,69),(161,80),(162,81),(163,82),(164,100),(165,83)]
def X:Nat→Type
  | 0=>bE
  | 1=>aL
  | 2=>ax
  | 3=>aq
  | 4=>an
  | 5=>bf
  | 6=>aF
  | 7=>aO
  | 8=>cO
  | 9=>cv
  | 10=>cN
  | 11=>bS
  | 12=>dr
  | 13=>eM
  | _=>Unit
def lv:Nat→List Ty
  | 0=>[(.list (.int .i64))]
  | 1=>[(.int .i64),(.list (.int .i64)),(.list (.int .i64))]
  | 2=>[(.int .i64),(.int .u32),(.vec .u8 32)]
  | 3=>[(.int .i64),(.list (.st 2))]
  | 4=>[(.int .i64),(.list (.int .u8))]
  | 5=>[(.int .i64),(.list (.int .u8))]
  | 6=>[(.int .i64),(.int .u32),(.vec .u8 32)]
  | 7=>[(.int .i64),(.list (.st 6))]
  | 8=>[(.vec .u32 8),(.list (.int .u8)),(.int .u64)]
  | 9=>[(.int .i64),(.list (.int .u8))]
  | 10=>[(.int .i64),(.list (.int .u8))]
  | 11=>[(.list (.st 10)),(.list (.st 3)),(.int .i64),(.int .u32),(.vec .u8 32),(.int .i64)]
  | 12=>[(.int .u8),(.vec .u8 32),(.int .u32),(.int .i64),(.int .u32),(.vec .u8 32)]
  | 13=>[(.list (.list (.int .u8)))]
  | _=>[]
def Rt: ∀ i,Rp (X i)
  | 0=>mC
  | 1=>kF
  | 2=>fq
  | 3=>ee
  | 4=>ef
  | 5=>eA
  | 6=>er
  | 7=>dY
  | 8=>sE
  | 9=>eU
  | 10=>jw
  | 11=>kU
  | 12=>gP
  | 13=>sF
  | _+14=>rJ Unit
abbrev T0:Tab:=⟨X,Rt⟩
def gt: ∀ i,X i→Tup T0 (lv i)
  | 0=>fun (x:bE)=>(x.cE,())
  | 1=>fun (x:aL)=>(x.P,x.Level,x.fM,())
  | 2=>fun (x:ax)=>(x.Place,x.bO,x.bD,())
  | 3=>fun (x:aq)=>(x.Item,x.Refs,())
  | 4=>fun (x:an)=>(x.dx,x.Bytes,())
  | 5=>fun (x:bf)=>(x.dx,x.Bytes,())
  | 6=>fun (x:aF)=>(x.Place,x.bO,x.bD,())
  | 7=>fun (x:aO)=>(x.Item,x.Refs,())
  | 8=>fun (x:cO)=>(x.h,x.rest,x.n,())
  | 9=>fun (x:cv)=>(x.Block,x.Bytes,())
  | 10=>fun (x:cN)=>(x.Block,x.Bytes,())
  | 11=>fun (x:bS)=>(x.fL,x.fC,x.cH.Place,x.cH.bO,x.cH.bD,x.nZ,())
  | 12=>fun (x:dr)=>(x.me,x.Key,x.bO,x.cH.Place,x.cH.bO,x.cH.bD,())
  | 13=>fun (x:eM)=>(x.texts,())
  | _+14=>fun _=>()
def pu: ∀ i,Tup T0 (lv i)→X i
  | 0=>fun x=>(⟨x.1⟩:bE)
  | 1=>fun x=>(⟨x.1,x.2.1,x.2.2.1⟩:aL)
  | 2=>fun x=>(⟨x.1,x.2.1,x.2.2.1⟩:ax)
  | 3=>fun x=>(⟨x.1,x.2.1⟩:aq)
  | 4=>fun x=>(⟨x.1,x.2.1⟩:an)
  | 5=>fun x=>(⟨x.1,x.2.1⟩:bf)
  | 6=>fun x=>(⟨x.1,x.2.1,x.2.2.1⟩:aF)
  | 7=>fun x=>(⟨x.1,x.2.1⟩:aO)
  | 8=>fun x=>(⟨x.1,x.2.1,x.2.2.1⟩:cO)
  | 9=>fun x=>(⟨x.1,x.2.1⟩:cv)
  | 10=>fun x=>(⟨x.1,x.2.1⟩:cN)
  | 11=>fun x=>(⟨x.1,x.2.1,⟨x.2.2.1,x.2.2.2.1,x.2.2.2.2.1⟩,x.2.2.2.2.2.1⟩:bS)
  | 12=>fun x=>(⟨x.1,x.2.1,x.2.2.1,⟨x.2.2.2.1,x.2.2.2.2.1,x.2.2.2.2.2.1⟩⟩:dr)
  | 13=>fun x=>(⟨x.1⟩:eM)
  | _+14=>fun _=>()
theorem adT: ∀ h M vs (x:bE),mC.P h M vs x↔TupP T0 h M (lv 0) vs (gt 0 x):=by
  intro h M vs x; constructor
  · rintro ⟨a0, c0, rfl, h0⟩
    exact ⟨([.slice a0 x.cE.length c0]:List Value),[],by simp,⟨a0,c0,rfl,h0⟩,rfl⟩
  · rintro ⟨_, _, rfl, ⟨a0, c0, rfl, h0⟩, rfl⟩
    exact ⟨a0,c0,(by simp [gt] <;> (repeat (first | rfl | refine ⟨rfl, ?_⟩))),h0⟩
theorem adU: ∀ h M vs (x:aL),kF.P h M vs x↔TupP T0 h M (lv 1) vs (gt 1 x):=by
  intro h M vs x; constructor
  · rintro ⟨a1, c1, a2, c2, rfl, h1, h2⟩
    exact ⟨([.int .i64 x.P]:List Value),([.slice a1 x.Level.length c1]++([.slice a2 x.fM.length c2]++[])),by simp,rfl,([.slice a1 x.Level.length c1]:List Value),([.slice a2 x.fM.length c2]++[]),rfl,⟨a1,c1,rfl,h1⟩,([.slice a2 x.fM.length c2]:List Value),[],rfl,⟨a2,c2,rfl,h2⟩,rfl⟩
  · rintro ⟨_, _, rfl, rfl, _, _, rfl, ⟨a1, c1, rfl, h1⟩, _, _, rfl, ⟨a2, c2, rfl, h2⟩, rfl⟩
    exact ⟨a1,c1,a2,c2,(by simp [gt] <;> (repeat (first | rfl | refine ⟨rfl, ?_⟩))),h1,h2⟩
theorem adV: ∀ h M vs (x:ax),fq.P h M vs x↔TupP T0 h M (lv 2) vs (gt 2 x):=by
  intro h M vs x; constructor
  · rintro rfl
    exact ⟨([.int .i64 x.Place]:List Value),([.int .u32 x.bO]++((lumpV .u8 32 x.bD.toList)++[])),by simp,rfl,([.int .u32 x.bO]:List Value),((lumpV .u8 32 x.bD.toList)++[]),rfl,rfl,((lumpV .u8 32 x.bD.toList):List Value),[],rfl,rfl,rfl⟩
  · rintro ⟨_, _, rfl, rfl, _, _, rfl, rfl, _, _, rfl, rfl, rfl⟩
    exact (by show _=_; simp [gt])
theorem adW: ∀ h M vs (x:aq),ee.P h M vs x↔TupP T0 h M (lv 3) vs (gt 3 x):=by
  intro h M vs x; constructor
  · rintro ⟨a1, c1, rfl, h1⟩
    exact ⟨([.int .i64 x.Item]:List Value),([.slice a1 x.Refs.length c1]++[]),by simp,rfl,([.slice a1 x.Refs.length c1]:List Value),[],rfl,⟨a1,c1,rfl,h1⟩,rfl⟩
  · rintro ⟨_, _, rfl, rfl, _, _, rfl, ⟨a1, c1, rfl, h1⟩, rfl⟩
    exact ⟨a1,c1,(by simp [gt] <;> (repeat (first | rfl | refine ⟨rfl, ?_⟩))),h1⟩
theorem adX: ∀ h M vs (x:an),ef.P h M vs x↔TupP T0 h M (lv 4) vs (gt 4 x):=by
  intro h M vs x; constructor
  · rintro ⟨a1, c1, rfl, h1⟩
    exact ⟨([.int .i64 x.dx]:List Value),([.slice a1 x.Bytes.length c1]++[]),by simp,rfl,([.slice a1 x.Bytes.length c1]:List Value),[],rfl,⟨a1,c1,rfl,h1⟩,rfl⟩
  · rintro ⟨_, _, rfl, rfl, _, _, rfl, ⟨a1, c1, rfl, h1⟩, rfl⟩
    exact ⟨a1,c1,(by simp [gt] <;> (repeat (first | rfl | refine ⟨rfl, ?_⟩))),h1⟩
theorem adY: ∀ h M vs (x:bf),eA.P h M vs x↔TupP T0 h M (lv 5) vs (gt 5 x):=by
  intro h M vs x; constructor
  · rintro ⟨a1, c1, rfl, h1⟩
    exact ⟨([.int .i64 x.dx]:List Value),([.slice a1 x.Bytes.length c1]++[]),by simp,rfl,([.slice a1 x.Bytes.length c1]:List Value),[],rfl,⟨a1,c1,rfl,h1⟩,rfl⟩
  · rintro ⟨_, _, rfl, rfl, _, _, rfl, ⟨a1, c1, rfl, h1⟩, rfl⟩
    exact ⟨a1,c1,(by simp [gt] <;> (repeat (first | rfl | refine ⟨rfl, ?_⟩))),h1⟩
theorem adZ: ∀ h M vs (x:aF),er.P h M vs x↔TupP T0 h M (lv 6) vs (gt 6 x):=by
  intro h M vs x; constructor
  · rintro rfl
    exact ⟨([.int .i64 x.Place]:List Value),([.int .u32 x.bO]++((lumpV .u8 32 x.bD.toList)++[])),by simp,rfl,([.int .u32 x.bO]:List Value),((lumpV .u8 32 x.bD.toList)++[]),rfl,rfl,((lumpV .u8 32 x.bD.toList):List Value),[],rfl,rfl,rfl⟩
  · rintro ⟨_, _, rfl, rfl, _, _, rfl, rfl, _, _, rfl, rfl, rfl⟩
    exact (by show _=_; simp [gt])
theorem ad0: ∀ h M vs (x:aO),dY.P h M vs x↔TupP T0 h M (lv 7) vs (gt 7 x):=by
  intro h M vs x; constructor
  · rintro ⟨a1, c1, rfl, h1⟩
    exact ⟨([.int .i64 x.Item]:List Value),([.slice a1 x.Refs.length c1]++[]),by simp,rfl,([.slice a1 x.Refs.length c1]:List Value),[],rfl,⟨a1,c1,rfl,h1⟩,rfl⟩
  · rintro ⟨_, _, rfl, rfl, _, _, rfl, ⟨a1, c1, rfl, h1⟩, rfl⟩
    exact ⟨a1,c1,(by simp [gt] <;> (repeat (first | rfl | refine ⟨rfl, ?_⟩))),h1⟩
theorem ad1: ∀ h M vs (x:cO),sE.P h M vs x↔TupP T0 h M (lv 8) vs (gt 8 x):=by
  intro h M vs x; constructor
  · rintro ⟨a1, c1, rfl, h1⟩
    exact ⟨((lumpV .u32 8 x.h.toList):List Value),([.slice a1 x.rest.length c1]++([.int .u64 x.n]++[])),by simp,rfl,([.slice a1 x.rest.length c1]:List Value),([.int .u64 x.n]++[]),rfl,⟨a1,c1,rfl,h1⟩,([.int .u64 x.n]:List Value),[],rfl,rfl,rfl⟩
  · rintro ⟨_, _, rfl, rfl, _, _, rfl, ⟨a1, c1, rfl, h1⟩, _, _, rfl, rfl, rfl⟩
    exact ⟨a1,c1,(by simp [gt] <;> (repeat (first | rfl | refine ⟨rfl, ?_⟩))),h1⟩
theorem ad2: ∀ h M vs (x:cv),eU.P h M vs x↔TupP T0 h M (lv 9) vs (gt 9 x):=by
  intro h M vs x; constructor
  · rintro ⟨a1, c1, rfl, h1⟩
    exact ⟨([.int .i64 x.Block]:List Value),([.slice a1 x.Bytes.length c1]++[]),by simp,rfl,([.slice a1 x.Bytes.length c1]:List Value),[],rfl,⟨a1,c1,rfl,h1⟩,rfl⟩
  · rintro ⟨_, _, rfl, rfl, _, _, rfl, ⟨a1, c1, rfl, h1⟩, rfl⟩
    exact ⟨a1,c1,(by simp [gt] <;> (repeat (first | rfl | refine ⟨rfl, ?_⟩))),h1⟩
theorem U2: ∀ h M vs (x:cN),jw.P h M vs x↔TupP T0 h M (lv 10) vs (gt 10 x):=by
  intro h M vs x; constructor
  · rintro ⟨a1, c1, rfl, h1⟩
    exact ⟨([.int .i64 x.Block]:List Value),([.slice a1 x.Bytes.length c1]++[]),by simp,rfl,([.slice a1 x.Bytes.length c1]:List Value),[],rfl,⟨a1,c1,rfl,h1⟩,rfl⟩
  · rintro ⟨_, _, rfl, rfl, _, _, rfl, ⟨a1, c1, rfl, h1⟩, rfl⟩
    exact ⟨a1,c1,(by simp [gt] <;> (repeat (first | rfl | refine ⟨rfl, ?_⟩))),h1⟩
theorem U3: ∀ h M vs (x:bS),kU.P h M vs x↔TupP T0 h M (lv 11) vs (gt 11 x):=by
  intro h M vs x; constructor
  · rintro ⟨a0, c0, a1, c1, rfl, h0, h1⟩
    exact ⟨([.slice a0 x.fL.length c0]:List Value),([.slice a1 x.fC.length c1]++([.int .i64 x.cH.Place]++([.int .u32 x.cH.bO]++((lumpV .u8 32 x.cH.bD.toList)++([.int .i64 x.nZ]++[]))))),by simp,⟨a0,c0,rfl,h0⟩,([.slice a1 x.fC.length c1]:List Value),([.int .i64 x.cH.Place]++([.int .u32 x.cH.bO]++((lumpV .u8 32 x.cH.bD.toList)++([.int .i64 x.nZ]++[])))),rfl,⟨a1,c1,rfl,h1⟩,([.int .i64 x.cH.Place]:List Value),([.int .u32 x.cH.bO]++((lumpV .u8 32 x.cH.bD.toList)++([.int .i64 x.nZ]++[]))),rfl,rfl,([.int .u32 x.cH.bO]:List Value),((lumpV .u8 32 x.cH.bD.toList)++([.int .i64 x.nZ]++[])),rfl,rfl,((lumpV .u8 32 x.cH.bD.toList):List Value),([.int .i64 x.nZ]++[]),rfl,rfl,([.int .i64 x.nZ]:List Value),[],rfl,rfl,rfl⟩
  · rintro ⟨_, _, rfl, ⟨a0, c0, rfl, h0⟩, _, _, rfl, ⟨a1, c1, rfl, h1⟩, _, _, rfl, rfl, _, _, rfl, rfl, _, _, rfl, rfl, _, _, rfl, rfl, rfl⟩
    exact ⟨a0,c0,a1,c1,(by simp [gt] <;> (repeat (first | rfl | refine ⟨rfl, ?_⟩))),h0,h1⟩
theorem U4: ∀ h M vs (x:dr),gP.P h M vs x↔TupP T0 h M (lv 12) vs (gt 12 x):=by
  intro h M vs x; constructor
  · rintro rfl
    exact ⟨([.int .u8 x.me]:List Value),((lumpV .u8 32 x.Key.toList)++([.int .u32 x.bO]++([.int .i64 x.cH.Place]++([.int .u32 x.cH.bO]++((lumpV .u8 32 x.cH.bD.toList)++[]))))),by simp,rfl,((lumpV .u8 32 x.Key.toList):List Value),([.int .u32 x.bO]++([.int .i64 x.cH.Place]++([.int .u32 x.cH.bO]++((lumpV .u8 32 x.cH.bD.toList)++[])))),rfl,rfl,([.int .u32 x.bO]:List Value),([.int .i64 x.cH.Place]++([.int .u32 x.cH.bO]++((lumpV .u8 32 x.cH.bD.toList)++[]))),rfl,rfl,([.int .i64 x.cH.Place]:List Value),([.int .u32 x.cH.bO]++((lumpV .u8 32 x.cH.bD.toList)++[])),rfl,rfl,([.int .u32 x.cH.bO]:List Value),((lumpV .u8 32 x.cH.bD.toList)++[]),rfl,rfl,((lumpV .u8 32 x.cH.bD.toList):List Value),[],rfl,rfl,rfl⟩
  · rintro ⟨_, _, rfl, rfl, _, _, rfl, rfl, _, _, rfl, rfl, _, _, rfl, rfl, _, _, rfl, rfl, _, _, rfl, rfl, rfl⟩
    exact (by show _=_; simp [gt])
theorem U5: ∀ h M vs (x:eM),sF.P h M vs x↔TupP T0 h M (lv 13) vs (gt 13 x):=by
  intro h M vs x; constructor
  · rintro ⟨a0, c0, rfl, h0⟩
    exact ⟨([.slice a0 x.texts.length c0]:List Value),[],by simp,⟨a0,c0,rfl,h0⟩,rfl⟩
  · rintro ⟨_, _, rfl, ⟨a0, c0, rfl, h0⟩, rfl⟩
    exact ⟨a0,c0,(by simp [gt] <;> (repeat (first | rfl | refine ⟨rfl, ?_⟩))),h0⟩
def D:Tabs:= {X:=X,R:=Rt,leaves:=lv,flat:=(fun i=>match i with
  | 0=>rfl
  | 1=>rfl
  | 2=>rfl
  | 3=>rfl
  | 4=>rfl
  | 5=>rfl
  | 6=>rfl
  | 7=>rfl
  | 8=>rfl
  | 9=>rfl
  | 10=>rfl
  | 11=>rfl
  | 12=>rfl
  | 13=>rfl
  | _+14=>rfl),get:=gt,put:=pu,C2:=(by intro i; match i with
  | 0=>exact fun _=>rfl
  | 1=>exact fun _=>rfl
  | 2=>exact fun _=>rfl
  | 3=>exact fun _=>rfl
  | 4=>exact fun _=>rfl
  | 5=>exact fun _=>rfl
  | 6=>exact fun _=>rfl
  | 7=>exact fun _=>rfl
  | 8=>exact fun _=>rfl
  | 9=>exact fun _=>rfl
  | 10=>exact fun _=>rfl
  | 11=>exact fun _=>rfl
  | 12=>exact fun _=>rfl
  | 13=>exact fun _=>rfl
  | _+14=>exact fun _=>rfl),rep:=(by intro i; match i with
  | 0=>exact adT
  | 1=>exact adU
  | 2=>exact adV
  | 3=>exact adW
  | 4=>exact adX
  | 5=>exact adY
  | 6=>exact adZ
  | 7=>exact ad0
  | 8=>exact ad1
  | 9=>exact ad2
  | 10=>exact U2
  | 11=>exact U3
  | 12=>exact U4
  | 13=>exact U5
  | _+14=>exact fun _ _ _ _=>Iff.rfl),O:=Pt.Obj,ob:=obA ρ}
def ty:Nat→Option Ty
  | 3=>some (.int .i64)
  | 4=>some .bool
  | 5=>some (.int .u8)
  | 22=>some (.vec .u8 32)
  | 23=>some (.int .u32)
  | 25=>some (.st 2)
  | 27=>some (.st 12)
  | 28=>some (.list (.st 3))
  | 29=>some (.list (.st 4))
  | 30=>some (.list (.int .i64))
  | 32=>some (.st 0)
  | 37=>some (.st 1)
  | 43=>some (.list (.list (.st 4)))
  | 44=>some (.list (.st 9))
  | 45=>some (.list (.st 7))
  | 46=>some (.st 6)
  | 50=>some (.list (.st 5))
  | 52=>some (.list (.st 10))
  | 54=>some (.st 11)
  | 59=>some (.list (.st 2))
  | 61=>some (.st 3)
  | 62=>some (.list (.int .u8))
  | 64=>some (.st 4)
  | 65=>some (.list (.st 6))
  | 67=>some (.st 7)
  | 68=>some (.st 5)
  | 70=>some (.st 9)
  | 72=>some .ptr
  | 90=>some (.list .bool)
  | 102=>some (.st 10)
  | 127=>some (.int .u64)
  | 130=>some (.vec .u8 12)
  | 132=>some (.list (.int .u32))
  | 139=>some (.int .u64)
  | 140=>some (.list (.list (.int .u8)))
  | 142=>some (.st 13)
  | 145=>some (.list (.int .u64))
  | 160=>some (.vec .u8 64)
  | 162=>some (.vec .u32 8)
  | 164=>some (.st 8)
  | 176=>some (.vec .u32 16)
  | 178=>some (.vec .u32 4)
  | 184=>some (.list (.list (.int .i64)))
  | 189=>some (.vec .u32 64)
  | _=>none
abbrev CO (C:Ctrs D):=CtrsOk Tryz.prog C
abbrev SO (f:Nat) (c:Ctr D):=SpecOk Tryz.prog f (specOf c)
theorem fk {f:Nat} {fn:Func} {code:Code} {c:Ctr D} {C:Ctrs D} (hC:CO C) (hf:Tryz.prog.funcs[f]? =some fn) (hb:fn.body=some code) (hn:(fn.name== "runtime.NumGoroutine")=false) (A:Ann) (pt:QT c→Pts D) (v0: ∀ Q,TupD D c.ps→(pt Q).V)
    (ho:fnB c A fn.ntmps=true)
    (entry: ∀ x σ Q,c.P x σ Q→unLk c.ps x ⟨[],σ⟩ fun svs H=>WS (pt Q) (opsS τ ty C) (c.bk.map (·.1)) fn.ntmps (v0 Q x) code A [] (argS 0 svs) H (retS τ c fn.results Q))
    (obl: ∀ Q,allP (fun k=> ∀ inner,inner.length=depth k A→ObS τ ty C fn.ntmps code A fn.results pt Q k inner) (pts A)):SO f c:=
  PK agree hC mixed hf hb hn A pt v0 ho entry obl
end Go.Proofs.YtpjehkdneiclnaaGreat.Ek
