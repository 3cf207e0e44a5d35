import Derived.Test.YtpjehkdneiclnaaGreatCpB
import Derived.Test.YtpjehkdneiclnaaGreatCpG
set_option linter.unusedVariables false
set_option linter.unusedSimpArgs false
set_option maxHeartbeats 4000000
set_option maxRecDepth 100000
namespace Go.Tx
open Go Go.Wc
open Go.Proofs.YtpjehkdneiclnaaGreat
def aR (ρ:Ids) (jc:Sl) (bA:Int) (h:Hp) (Q:Int→Int→Bool→Hp→Prop):Prop:=
  Go.Ex.specOf Ek.Bb [(.agg [(.slice jc.a jc.len jc.cap)].toArray),(.int .i64 bA)] h fun v h'=> ∃ r0 r1 r2,v=(.tuple [(.int .i64 r0),(.int .i64 r1),(.bool r2)].toArray)∧Q r0 r1 r2 h'
def gf (ρ:Ids):Spec:=fun args h K=>
  (tG fun gT j6=>(tS fun jc=>tN ((tI .i64 fun bA=>tN (aR ρ jc bA h (fun r0 r1 r2 h=>K (.tuple [(.int .i64 r0),(.int .i64 r1),(.bool r2)].toArray) h))) j6)) gT) args
def aY (ρ:Ids) (jc:Sl) (gI:Int) (h:Hp) (Q:Sl→Hp→Prop):Prop:=
  Go.Ex.specOf Ek.yL [(.agg [(.slice jc.a jc.len jc.cap)].toArray),(.int .i64 gI)] h fun v h'=> ∃ r0,v=(.slice r0.a r0.len r0.cap)∧Q r0 h'
def gK (ρ:Ids):Spec:=fun args h K=>
  (tG fun gT j6=>(tS fun jc=>tN ((tI .i64 fun gI=>tN (aY ρ jc gI h (fun r0 h=>K (.slice r0.a r0.len r0.cap) h))) j6)) gT) args
def fe (ρ:Ids) (m0:Option Nat) (h:Hp) (Q:Value→Hp→Prop):Prop:=
  alW h (ρ.T 18) [(.map m0)] fun wv h_2=>
  Q (.func (.func (ρ.G 93)) #[] #[(.pointer (some wv))]) h_2
def dX (ρ:Ids):Spec:=fun args h K=>
  (tM fun m0=>tN (fe ρ m0 h (fun r0 h=>K r0 h))) args
def iN (ρ:Ids) (S1:Addr→Option Nat→Sl→Int→Int→Hp→Prop) (S2:Addr→Option Nat→Sl→Int→Int→Sl→Int→Int→Hp→Prop) (Q:Sl→Hp→Prop) (s2:Addr) (eS:Option Nat) (v11:Sl) (v12:Int) (gF:Int) (fF:Sl) (v20:Int) (v21:Int) (h:Hp):Prop:=
  S2 s2 eS v11 v12 gF fF v20 (IntKind.wrap .i64 (v21+(1:Int))) h
def iM (ρ:Ids) (S1:Addr→Option Nat→Sl→Int→Int→Hp→Prop) (S2:Addr→Option Nat→Sl→Int→Int→Sl→Int→Int→Hp→Prop) (Q:Sl→Hp→Prop) (s2:Addr) (eS:Option Nat) (v11:Sl) (v12:Int) (gF:Int) (fF:Sl) (v20:Int) (v21:Int) (h:Hp):Prop:=
  br (decide (v21<v20))
  (ixW fF.a fF.len v21 1 fun EP=>
  ldI .i64 h EP fun qF=>
  br (decide (v21>(0:Int)))
  (muW (.int .i64) h eS (.int .i64 qF) (.bool true) fun h_16=>
  iN ρ S1 S2 Q s2 eS v11 v12 gF fF v20 v21 h_16)
  (iN ρ S1 S2 Q s2 eS v11 v12 gF fF v20 v21 h))
  (S1 s2 eS v11 v12 (IntKind.wrap .i64 (gF+(1:Int))) h)
def iU (ρ:Ids) (S1:Addr→Option Nat→Sl→Int→Int→Hp→Prop) (Q:Sl→Hp→Prop) (s2:Addr) (eS:Option Nat) (v11:Sl) (v12:Int) (gF:Int) (fF:Sl) (v20:Int) (v21:Int) (h:Hp):Prop:=
  Lfp (fun S vals h=>(tA fun s2=>tM fun eS=>tS fun v11=>tI .i64 fun v12=>tI .i64 fun gF=>tS fun fF=>tI .i64 fun v20=>tI .i64 fun v21=>tN (iM ρ S1 (fun s2 eS v11 v12 gF fF v20 v21 hh=>S [(.pointer (some s2)),(.map eS),(.slice v11.a v11.len v11.cap),(.int .i64 v12),(.int .i64 gF),(.slice fF.a fF.len fF.cap),(.int .i64 v20),(.int .i64 v21)] hh) Q s2 eS v11 v12 gF fF v20 v21 h)) vals) [(.pointer (some s2)),(.map eS),(.slice v11.a v11.len v11.cap),(.int .i64 v12),(.int .i64 gF),(.slice fF.a fF.len fF.cap),(.int .i64 v20),(.int .i64 v21)] h
theorem qI (ρ:Ids) (S1:Addr→Option Nat→Sl→Int→Int→Hp→Prop) (Q:Sl→Hp→Prop) (s2:Addr) (eS:Option Nat) (v11:Sl) (v12:Int) (gF:Int) (fF:Sl) (v20:Int) (v21:Int) (h:Hp) (H:iM ρ S1 (iU ρ S1 Q) Q s2 eS v11 v12 gF fF v20 v21 h):iU ρ S1 Q s2 eS v11 v12 gF fF v20 v21 h:=mG H
def iL (ρ:Ids) (S1:Addr→Option Nat→Sl→Int→Int→Hp→Prop) (Q:Sl→Hp→Prop) (s2:Addr) (eS:Option Nat) (v11:Sl) (v12:Int) (gF:Int) (h:Hp):Prop:=
  br (decide (gF<v12))
  (ixW v11.a v11.len gF 1 fun tE=>
  ldI .i64 h tE fun zD=>
  ldS h (s2.add 0) fun Eo=>
  aY ρ Eo zD h fun Ep h_9=>
  iU ρ S1 Q s2 eS v11 v12 gF Ep (Ep.len:Int) (0:Int) h_9)
  (fe ρ eS h fun G6 h_11=>
  iF [93] ρ G6 h_11 fun sZ h_13=>
  Q sZ h_13)
def iV (ρ:Ids) (Q:Sl→Hp→Prop) (s2:Addr) (eS:Option Nat) (v11:Sl) (v12:Int) (gF:Int) (h:Hp):Prop:=
  Lfp (fun S vals h=>(tA fun s2=>tM fun eS=>tS fun v11=>tI .i64 fun v12=>tI .i64 fun gF=>tN (iL ρ (fun s2 eS v11 v12 gF hh=>S [(.pointer (some s2)),(.map eS),(.slice v11.a v11.len v11.cap),(.int .i64 v12),(.int .i64 gF)] hh) Q s2 eS v11 v12 gF h)) vals) [(.pointer (some s2)),(.map eS),(.slice v11.a v11.len v11.cap),(.int .i64 v12),(.int .i64 gF)] h
theorem qJ (ρ:Ids) (Q:Sl→Hp→Prop) (s2:Addr) (eS:Option Nat) (v11:Sl) (v12:Int) (gF:Int) (h:Hp) (H:iL ρ (iV ρ Q) Q s2 eS v11 v12 gF h):iV ρ Q s2 eS v11 v12 gF h:=mG H
def bU (ρ:Ids) (jc:Sl) (eo:Sl) (h:Hp) (Q:Sl→Hp→Prop):Prop:=
  alW h (ρ.T 11) [(.slice jc.a jc.len jc.cap)] fun wv h_2=>
  amW h_2 fun m_3 h_4=>
  iV ρ Q wv (some m_3) eo (eo.len:Int) (0:Int) h_4
def iq (ρ:Ids):Spec:=fun args h K=>
  (tG fun gT j6=>(tS fun jc=>tN ((tS fun eo=>tN (bU ρ jc eo h (fun r0 h=>K (.slice r0.a r0.len r0.cap) h))) j6)) gT) args
def bW (ρ:Ids) (gh:Sl) (h:Hp) (Q:Sl→Hp→Prop):Prop:=
  Go.Ex.specOf Ek.yM [(.slice gh.a gh.len gh.cap)] h fun v h'=> ∃ r0,v=(.slice r0.a r0.len r0.cap)∧Q r0 h'
def jI (ρ:Ids):Spec:=fun args h K=>
  (tS fun gh=>tN (bW ρ gh h (fun r0 h=>K (.slice r0.a r0.len r0.cap) h))) args
def cz (ρ:Ids) (s0:Sl) (h:Hp) (Q:Sl→Hp→Prop):Prop:=
  br (Option.isNone s0.a)
  (Q (⟨none,0,0⟩:Sl) h)
  (alW h (ρ.T 16) [] fun wv h_2=>
  apW (ρ.T 16) 34 48 (.agg (([(.int .i64 (0:Int)),(.int .u32 (0:Int))]:List Value)++lumpV .u8 32 (List.replicate 32 0)).toArray) h_2 (⟨some wv,0,0⟩:Sl) s0 fun s_3 h_4=>
  Q s_3 h_4)
def dc (ρ:Ids):Spec:=fun args h K=>
  (tS fun s0=>tN (cz ρ s0 h (fun r0 h=>K (.slice r0.a r0.len r0.cap) h))) args
def eX (ρ:Ids) (jJ:Sl) (bA:Int) (h:Hp) (Q:Sl→Bool→Hp→Prop):Prop:=
  Go.Ex.specOf Ek.Bc [(.slice jJ.a jJ.len jJ.cap),(.int .i64 bA)] h fun v h'=> ∃ r0 r1,v=(.tuple [(.slice r0.a r0.len r0.cap),(.bool r1)].toArray)∧Q r0 r1 h'
def kA (ρ:Ids):Spec:=fun args h K=>
  (tS fun jJ=>tI .i64 fun bA=>tN (eX ρ jJ bA h (fun r0 r1 h=>K (.tuple [(.slice r0.a r0.len r0.cap),(.bool r1)].toArray) h))) args
def dV (ρ:Ids) (Ko:Int) (Kp:Int) (Kq:List Int) (h:Hp) (Q:Bool→Hp→Prop):Prop:=
  Go.Ex.specOf Ek.Bd [(.agg (([(.int .i64 Ko),(.int .u32 Kp)]:List Value)++lumpV .u8 32 Kq).toArray)] h fun v h'=> ∃ r0,v=(.bool r0)∧Q r0 h'
def jd (ρ:Ids):Spec:=fun args h K=>
  (tG fun gT j6=>(tI .i64 fun Ko=>tI .u32 fun Kp=>tL .u8 32 fun Kq=>tN ((tN (dV ρ Ko Kp Kq h (fun r0 h=>K (.bool r0) h))) j6)) gT) args
def bJ (ρ:Ids) (jc:Sl) (eO:Sl) (dN:Sl) (h:Hp) (Q:Bool→Hp→Prop):Prop:=
  Go.Ex.specOf Ek.Be [(.agg [(.slice jc.a jc.len jc.cap)].toArray),(.slice eO.a eO.len eO.cap),(.slice dN.a dN.len dN.cap)] h fun v h'=> ∃ r0,v=(.bool r0)∧Q r0 h'
def k7 (ρ:Ids):Spec:=fun args h K=>
  (tG fun gT j6=>(tS fun jc=>tN ((tS fun eO=>tS fun dN=>tN (bJ ρ jc eO dN h (fun r0 h=>K (.bool r0) h))) j6)) gT) args
def aS (ρ:Ids) (jc:Sl) (bA:Int) (dg:Int) (h:Hp) (Q:Int→Hp→Prop):Prop:=
  Go.Ex.specOf Ek.Bf [(.agg [(.slice jc.a jc.len jc.cap)].toArray),(.int .i64 bA),(.int .i64 dg)] h fun v h'=> ∃ r0,v=(.int .i64 r0)∧Q r0 h'
def gA (ρ:Ids):Spec:=fun args h K=>
  (tG fun gT j6=>(tS fun jc=>tN ((tI .i64 fun bA=>tI .i64 fun dg=>tN (aS ρ jc bA dg h (fun r0 h=>K (.int .i64 r0) h))) j6)) gT) args
def aT (ρ:Ids) (nk:List Int) (jM:List Int) (bM:Int) (h:Hp) (Q:List Int→Hp→Prop):Prop:=
  Go.Ex.specOf Ek.tZ [(.agg (lumpV .u8 32 nk).toArray),(.agg (lumpV .u8 12 jM).toArray),(.int .u32 bM)] h fun v h'=> ∃ r0,v=(.agg (lumpV .u32 16 r0).toArray)∧Q r0 h'
def jL (ρ:Ids):Spec:=fun args h K=>
  (tG fun gT j6=>(tL .u8 32 fun nk=>tN ((tG fun qa vr=>(tL .u8 12 fun jM=>tN ((tI .u32 fun bM=>tN (aT ρ nk jM bM h (fun r0 h=>K (.agg (lumpV .u32 16 r0).toArray) h))) vr)) qa) j6)) gT) args
def dG (ρ:Ids) (Kt:List Int) (h:Hp) (Q:List Int→Hp→Prop):Prop:=
  Go.Ex.specOf Ek.sB [(.agg (lumpV .u32 4 Kt).toArray)] h fun v h'=> ∃ r0,v=(.agg (lumpV .u32 4 r0).toArray)∧Q r0 h'
def je (ρ:Ids):Spec:=fun args h K=>
  (tG fun gT j6=>(tL .u32 4 fun Kt=>tN ((tN (dG ρ Kt h (fun r0 h=>K (.agg (lumpV .u32 4 r0).toArray) h))) j6)) gT) args
def iD (ρ:Ids) (Q:Hp→Prop) (a0:Int) (b1:Int) (c2:Int) (d3:Int) (v4:Addr) (q9:Addr) (h:Hp):Prop:=
  ixW (some q9) 4 (0:Int) 1 fun QG=>
  ldI .u32 h QG fun Et=>
  ixW (some q9) 4 (1:Int) 1 fun BC=>
  ldI .u32 h BC fun jx=>
  ixW (some q9) 4 (2:Int) 1 fun QH=>
  ldI .u32 h QH fun uG=>
  ixW (some q9) 4 (3:Int) 1 fun E6=>
  ldI .u32 h E6 fun mE=>
  ixW (some v4) 16 a0 1 fun QI=>
  st h (QI.add 0) (.int .u32 Et) fun h_27=>
  (hcell h_27 E6=some (.int .u32 mE))∧
  ((hcell h_27 QH=some (.int .u32 uG))∧
  ((hcell h_27 BC=some (.int .u32 jx))∧
  (ixW (some v4) 16 b1 1 fun Jn=>
  st h_27 (Jn.add 0) (.int .u32 jx) fun h_29=>
  (hcell h_29 E6=some (.int .u32 mE))∧
  ((hcell h_29 QH=some (.int .u32 uG))∧
  (ixW (some v4) 16 c2 1 fun Wm=>
  st h_29 (Wm.add 0) (.int .u32 uG) fun h_31=>
  (hcell h_31 E6=some (.int .u32 mE))∧
  (ixW (some v4) 16 d3 1 fun IE=>
  st h_31 (IE.add 0) (.int .u32 mE) fun h_33=>
  Q h_33))))))
def iE (ρ:Ids) (Q:Hp→Prop) (a0:Int) (b1:Int) (c2:Int) (d3:Int) (v4:Addr) (q9:Addr) (Jo:List Int) (h:Hp):Prop:=
  stAll h q9 0 (lumpV .u32 4 Jo) fun h_13=>
  iD ρ Q a0 b1 c2 d3 v4 q9 h_13
def j3 (ρ:Ids) (Q:Hp→Prop) (a0:Int) (b1:Int) (c2:Int) (d3:Int) (v4:Addr) (Jo:List Int) (h:Hp):Prop:=
  alW h (ρ.T 25) (lumpV .u32 4 (List.replicate 4 0)) fun Aj h_12=>
  iE ρ Q a0 b1 c2 d3 v4 Aj (nrm 4 Jo) h_12
def bz (ρ:Ids) (a0:Int) (b1:Int) (c2:Int) (d3:Int) (v4:Addr) (h:Hp) (Q:Hp→Prop):Prop:=
  ixW (some v4) 16 a0 1 fun wv=>
  ldI .u32 h wv fun Pw=>
  ixW (some v4) 16 b1 1 fun mS=>
  ldI .u32 h mS fun Fy=>
  ixW (some v4) 16 c2 1 fun tE=>
  ldI .u32 h tE fun zD=>
  ixW (some v4) 16 d3 1 fun NA=>
  ldI .u32 h NA fun G1=>
  (dG ρ (nrm 4 [Pw,Fy,zD,G1]) h fun Lz h_10=>
  j3 ρ Q a0 b1 c2 d3 v4 (nrm 4 Lz) h_10)∧
  (alW h (ρ.T 25) (lumpV .u32 4 (List.replicate 4 0)) fun EP h_15=>
  (hcell h_15 NA=some (.int .u32 G1))∧
  ((hcell h_15 tE=some (.int .u32 zD))∧
  ((hcell h_15 mS=some (.int .u32 Fy))∧
  ((hcell h_15 wv=some (.int .u32 Pw))∧
  (dG ρ (nrm 4 [Pw,Fy,zD,G1]) h_15 fun Ez h_17=>
  iE ρ Q a0 b1 c2 d3 v4 EP (nrm 4 Ez) h_17)))))
def jh (ρ:Ids):Spec:=fun args h K=>
  (tI .i64 fun a0=>tI .i64 fun b1=>tI .i64 fun c2=>tI .i64 fun d3=>tA fun v4=>tN (bz ρ a0 b1 c2 d3 v4 h (fun h=>K (.tuple [].toArray) h))) args
def hU (ρ:Ids) (S1:Addr→Addr→Addr→Addr→Int→Hp→Prop) (S3:Addr→Addr→Addr→Addr→Int→Int→Hp→Prop) (Q:List Int→Hp→Prop) (v6:Addr) (bw:Addr) (w8:Addr) (cF:Addr) (v20:Int) (jB:Int) (h:Hp):Prop:=
  br (decide (jB<(4:Int)))
  (((4:Int) ≠ 0)∧
  ((4:Int) ≠ 0)∧
  ((4:Int) ≠ 0)∧
  bz ρ jB (IntKind.wrap .i64 ((4:Int)+(Int.tmod (IntKind.wrap .i64 (jB+(1:Int))) (4:Int)))) (IntKind.wrap .i64 ((8:Int)+(Int.tmod (IntKind.wrap .i64 (jB+(2:Int))) (4:Int)))) (IntKind.wrap .i64 ((12:Int)+(Int.tmod (IntKind.wrap .i64 (jB+(3:Int))) (4:Int)))) cF h fun h_22=>
  isV (.tuple [].toArray) fun anC=>
  S3 v6 bw w8 cF v20 (IntKind.wrap .i64 (jB+(1:Int))) h_22)
  (S1 v6 bw w8 cF (IntKind.wrap .i64 (v20+(1:Int))) h)
def ic (ρ:Ids) (S1:Addr→Addr→Addr→Addr→Int→Hp→Prop) (Q:List Int→Hp→Prop) (v6:Addr) (bw:Addr) (w8:Addr) (cF:Addr) (v20:Int) (jB:Int) (h:Hp):Prop:=
  Lfp (fun S vals h=>(tA fun v6=>tA fun bw=>tA fun w8=>tF (ρ.G 119) fun ku mW=>(tA fun cF=>tN ((tI .i64 fun v20=>tI .i64 fun jB=>tN (hU ρ S1 (fun v6 bw w8 cF v20 jB hh=>S [(.pointer (some v6)),(.pointer (some bw)),(.pointer (some w8)),(.func (.func (ρ.G 119)) #[] #[(.pointer (some cF))]),(.int .i64 v20),(.int .i64 jB)] hh) Q v6 bw w8 cF v20 jB h)) mW)) ku) vals) [(.pointer (some v6)),(.pointer (some bw)),(.pointer (some w8)),(.func (.func (ρ.G 119)) #[] #[(.pointer (some cF))]),(.int .i64 v20),(.int .i64 jB)] h
theorem pS (ρ:Ids) (S1:Addr→Addr→Addr→Addr→Int→Hp→Prop) (Q:List Int→Hp→Prop) (v6:Addr) (bw:Addr) (w8:Addr) (cF:Addr) (v20:Int) (jB:Int) (h:Hp) (H:hU ρ S1 (ic ρ S1 Q) Q v6 bw w8 cF v20 jB h):ic ρ S1 Q v6 bw w8 cF v20 jB h:=mG (by
      simp only [tI,tA,tN,yj,sameKind,cnd]
      exact H)
def hM (ρ:Ids) (S1:Addr→Addr→Addr→Addr→Int→Hp→Prop) (S2:Addr→Addr→Addr→Addr→Int→Int→Hp→Prop) (Q:List Int→Hp→Prop) (v6:Addr) (bw:Addr) (w8:Addr) (cF:Addr) (v20:Int) (l9:Int) (h:Hp):Prop:=
  br (decide (l9<(4:Int)))
  (bz ρ l9 (IntKind.wrap .i64 ((4:Int)+l9)) (IntKind.wrap .i64 ((8:Int)+l9)) (IntKind.wrap .i64 ((12:Int)+l9)) cF h fun h_20=>
  isV (.tuple [].toArray) fun anD=>
  S2 v6 bw w8 cF v20 (IntKind.wrap .i64 (l9+(1:Int))) h_20)
  (ic ρ S1 Q v6 bw w8 cF v20 (0:Int) h)
def ie (ρ:Ids) (S1:Addr→Addr→Addr→Addr→Int→Hp→Prop) (Q:List Int→Hp→Prop) (v6:Addr) (bw:Addr) (w8:Addr) (cF:Addr) (v20:Int) (l9:Int) (h:Hp):Prop:=
  Lfp (fun S vals h=>(tA fun v6=>tA fun bw=>tA fun w8=>tF (ρ.G 119) fun ku mW=>(tA fun cF=>tN ((tI .i64 fun v20=>tI .i64 fun l9=>tN (hM ρ S1 (fun v6 bw w8 cF v20 l9 hh=>S [(.pointer (some v6)),(.pointer (some bw)),(.pointer (some w8)),(.func (.func (ρ.G 119)) #[] #[(.pointer (some cF))]),(.int .i64 v20),(.int .i64 l9)] hh) Q v6 bw w8 cF v20 l9 h)) mW)) ku) vals) [(.pointer (some v6)),(.pointer (some bw)),(.pointer (some w8)),(.func (.func (ρ.G 119)) #[] #[(.pointer (some cF))]),(.int .i64 v20),(.int .i64 l9)] h
theorem pT (ρ:Ids) (S1:Addr→Addr→Addr→Addr→Int→Hp→Prop) (Q:List Int→Hp→Prop) (v6:Addr) (bw:Addr) (w8:Addr) (cF:Addr) (v20:Int) (l9:Int) (h:Hp) (H:hM ρ S1 (ie ρ S1 Q) Q v6 bw w8 cF v20 l9 h):ie ρ S1 Q v6 bw w8 cF v20 l9 h:=mG (by
      simp only [tI,tA,tN,yj,sameKind,cnd]
      exact H)
def ia (ρ:Ids) (S4:Addr→Addr→Addr→Addr→Int→Hp→Prop) (Q:List Int→Hp→Prop) (v6:Addr) (bw:Addr) (w8:Addr) (pJ:Addr) (l6:Int) (h:Hp):Prop:=
  br (decide (l6<(64:Int)))
  (((4:Int) ≠ 0)∧
  ixW (some w8) 16 (IntKind.wrap .i64 (Int.tdiv l6 (4:Int))) 1 fun E6=>
  ldI .u32 h E6 fun mE=>
  ((4:Int) ≠ 0)∧
  ixW (some bw) 16 (IntKind.wrap .i64 (Int.tdiv l6 (4:Int))) 1 fun QI=>
  ldI .u32 h QI fun mQ=>
  ((4:Int) ≠ 0)∧
  (0≤(IntKind.wrap .i64 ((8:Int)*(Int.tmod l6 (4:Int)))))∧
  ixW (some pJ) 64 l6 1 fun Jn=>
  st h (Jn.add 0) (.int .u8 (IntKind.wrap .u8 (Int.fdiv (IntKind.wrap .u32 (mE+mQ)) (2 ^ (min (Int.toNat (IntKind.wrap .i64 ((8:Int)*(Int.tmod l6 (4:Int))))) (IntKind.bits .u32)))))) fun h_29=>
  S4 v6 bw w8 pJ (IntKind.wrap .i64 (l6+(1:Int))) h_29)
  (ldL .u8 64 h (pJ.add 0) fun sY=>
  stAll h v6 0 (lumpV .u8 64 sY) fun h_31=>
  ldL .u8 64 h_31 (v6.add 0) fun Hz=>
  Q (nrm 64 Hz) h_31)
def ig (ρ:Ids) (Q:List Int→Hp→Prop) (v6:Addr) (bw:Addr) (w8:Addr) (pJ:Addr) (l6:Int) (h:Hp):Prop:=
  Lfp (fun S vals h=>(tA fun v6=>tA fun bw=>tA fun w8=>tA fun pJ=>tI .i64 fun l6=>tN (ia ρ (fun v6 bw w8 pJ l6 hh=>S [(.pointer (some v6)),(.pointer (some bw)),(.pointer (some w8)),(.pointer (some pJ)),(.int .i64 l6)] hh) Q v6 bw w8 pJ l6 h)) vals) [(.pointer (some v6)),(.pointer (some bw)),(.pointer (some w8)),(.pointer (some pJ)),(.int .i64 l6)] h
theorem pU (ρ:Ids) (Q:List Int→Hp→Prop) (v6:Addr) (bw:Addr) (w8:Addr) (pJ:Addr) (l6:Int) (h:Hp) (H:ia ρ (ig ρ Q) Q v6 bw w8 pJ l6 h):ig ρ Q v6 bw w8 pJ l6 h:=mG H
def gZ (ρ:Ids) (S1:Addr→Addr→Addr→Addr→Int→Hp→Prop) (Q:List Int→Hp→Prop) (v6:Addr) (bw:Addr) (w8:Addr) (cF:Addr) (v20:Int) (h:Hp):Prop:=
  br (decide (v20<(10:Int)))
  (ie ρ S1 Q v6 bw w8 cF v20 (0:Int) h)
  (alW h (ρ.T 23) (lumpV .u8 64 (List.replicate 64 0)) fun QG h_19=>
  ig ρ Q v6 bw w8 QG (0:Int) h_19)
def ij (ρ:Ids) (Q:List Int→Hp→Prop) (v6:Addr) (bw:Addr) (w8:Addr) (cF:Addr) (v20:Int) (h:Hp):Prop:=
  Lfp (fun S vals h=>(tA fun v6=>tA fun bw=>tA fun w8=>tF (ρ.G 119) fun ku mW=>(tA fun cF=>tN ((tI .i64 fun v20=>tN (gZ ρ (fun v6 bw w8 cF v20 hh=>S [(.pointer (some v6)),(.pointer (some bw)),(.pointer (some w8)),(.func (.func (ρ.G 119)) #[] #[(.pointer (some cF))]),(.int .i64 v20)] hh) Q v6 bw w8 cF v20 h)) mW)) ku) vals) [(.pointer (some v6)),(.pointer (some bw)),(.pointer (some w8)),(.func (.func (ρ.G 119)) #[] #[(.pointer (some cF))]),(.int .i64 v20)] h
theorem pV (ρ:Ids) (Q:List Int→Hp→Prop) (v6:Addr) (bw:Addr) (w8:Addr) (cF:Addr) (v20:Int) (h:Hp) (H:gZ ρ (ij ρ Q) Q v6 bw w8 cF v20 h):ij ρ Q v6 bw w8 cF v20 h:=mG (by
      simp only [tI,tA,tN,yj,sameKind,cnd]
      exact H)
def ay (ρ:Ids) (nk:List Int) (jM:List Int) (bM:Int) (h:Hp) (Q:List Int→Hp→Prop):Prop:=
  alW h (ρ.T 19) (lumpV .u8 32 nk) fun wv h_2=>
  alW h_2 (ρ.T 22) (lumpV .u8 12 jM) fun mS h_4=>
  alW h_4 (ρ.T 23) (lumpV .u8 64 (List.replicate 64 0)) fun tE h_6=>
  ldL .u8 32 h_6 (wv.add 0) fun Eo=>
  ldL .u8 12 h_6 (mS.add 0) fun G1=>
  aT ρ (nrm 32 Eo) (nrm 12 G1) bM h_6 fun Lz h_10=>
  alW h_10 (ρ.T 24) (lumpV .u32 16 (List.replicate 16 0)) fun Aj h_12=>
  stAll h_12 Aj 0 (lumpV .u32 16 Lz) fun h_13=>
  ldL .u32 16 h_13 (Aj.add 0) fun sX=>
  alW h_13 (ρ.T 24) (lumpV .u32 16 (List.replicate 16 0)) fun yb h_16=>
  stAll h_16 yb 0 (lumpV .u32 16 sX) fun h_17=>
  ij ρ Q tE Aj yb yb (0:Int) h_17
def iG (ρ:Ids):Spec:=fun args h K=>
  (tG fun gT j6=>(tL .u8 32 fun nk=>tN ((tG fun qa vr=>(tL .u8 12 fun jM=>tN ((tI .u32 fun bM=>tN (ay ρ nk jM bM h (fun r0 h=>K (.agg (lumpV .u8 64 r0).toArray) h))) vr)) qa) j6)) gT) args
def fA (ρ:Ids) (b0:Sl) (h:Hp) (Q:Sl→Hp→Prop):Prop:=
  br (Option.isNone b0.a)
  (Q (⟨none,0,0⟩:Sl) h)
  (alW h (ρ.T 1) [] fun wv h_2=>
  apW (ρ.T 1) 1 1 (.int .u8 (0:Int)) h_2 (⟨some wv,0,0⟩:Sl) b0 fun s_3 h_4=>
  Q s_3 h_4)
def ir (ρ:Ids):Spec:=fun args h K=>
  (tS fun b0=>tN (fA ρ b0 h (fun r0 h=>K (.slice r0.a r0.len r0.cap) h))) args
def cZ (ρ:Ids) (jN:Sl) (h:Hp) (Q:List Int→Hp→Prop):Prop:=
  Go.Ex.specOf Ek.yN [(.slice jN.a jN.len jN.cap)] h fun v h'=> ∃ r0,v=(.agg (lumpV .u8 32 r0).toArray)∧Q r0 h'
def oM (ρ:Ids):Spec:=fun args h K=>
  (tS fun jN=>tN (cZ ρ jN h (fun r0 h=>K (.agg (lumpV .u8 32 r0).toArray) h))) args
def fQ (ρ:Ids) (Q:List Int→Hp→Prop) (eG:Sl) (v4:Addr) (h:Hp):Prop:=
  alW h (ρ.T 26) [(.slice eG.a eG.len eG.cap)] fun yb h_16=>
  cZ ρ (⟨some yb,1,1⟩:Sl) h_16 fun Px h_18=>
  stAll h_18 v4 0 (lumpV .u8 32 Px) fun h_19=>
  ldL .u8 32 h_19 (v4.add 0) fun xP=>
  Q (nrm 32 xP) h_19
def fP (ρ:Ids) (Q:List Int→Hp→Prop) (b0:Option Addr) (eG:Sl) (v4:Addr) (kO:Bool) (h:Hp):Prop:=
  br kO
  (nilW b0 fun tE=>
  ldS h (tE.add 0) fun zD=>
  fA ρ eG h fun qi h_8=>
  (hcell h_8 (tE.add 0)=some (.slice zD.a zD.len zD.cap))∧
  (alW h_8 (ρ.T 26) [(.slice qi.a qi.len qi.cap)] fun XG h_10=>
  (hcell h_10 (tE.add 0)=some (.slice zD.a zD.len zD.cap))∧
  (apW (ρ.T 26) 1 24 (.slice none 0 0) h_10 zD (⟨some XG,1,1⟩:Sl) fun QJ h_12=>
  nilW b0 fun afE=>
  st h_12 ((afE.add 0).add 0) (.slice QJ.a QJ.len QJ.cap) fun h_14=>
  fQ ρ Q eG v4 h_14)))
  (fQ ρ Q eG v4 h)
def bB (ρ:Ids) (b0:Option Addr) (eG:Sl) (h:Hp) (Q:List Int→Hp→Prop):Prop:=
  alW h (ρ.T 19) (lumpV .u8 32 (List.replicate 32 0)) fun wv h_2=>
  br (!(Option.isNone b0))
  (nilW b0 fun mS=>
  ldS h_2 (mS.add 0) fun Fy=>
  fP ρ Q b0 eG wv (decide ((Fy.len:Int)<(100000:Int))) h_2)
  (fP ρ Q b0 eG wv false h_2)
def fV (ρ:Ids):Spec:=fun args h K=>
  (tP fun b0=>tS fun eG=>tN (bB ρ b0 eG h (fun r0 h=>K (.agg (lumpV .u8 32 r0).toArray) h))) args
def cw (ρ:Ids) (b0:Option Addr) (nq:List Int) (cU:Int) (eY:Int) (jk:Int) (kR:Sl) (h:Hp) (Q:Sl→Int→Int→List Int→Int→Hp→Prop):Prop:=
  Go.Ex.specOf Ek.Bg [(.pointer b0),(.agg (lumpV .u8 32 nq).toArray),(.int .u32 cU),(.int .i64 eY),(.int .i64 jk),(.slice kR.a kR.len kR.cap)] h fun v h'=> ∃ r0 r1 r2 r3 r4,v=(.tuple [(.slice r0.a r0.len r0.cap),(.agg (([(.int .i64 r1),(.int .u32 r2)]:List Value)++lumpV .u8 32 r3).toArray),(.int .i64 r4)].toArray)∧Q r0 r1 r2 r3 r4 h'
def lY (ρ:Ids):Spec:=fun args h K=>
  (tP fun b0=>tG fun qa vr=>(tL .u8 32 fun nq=>tN ((tI .u32 fun cU=>tI .i64 fun eY=>tI .i64 fun jk=>tS fun kR=>tN (cw ρ b0 nq cU eY jk kR h (fun r0 r1 r2 r3 r4 h=>K (.tuple [(.slice r0.a r0.len r0.cap),(.agg (([(.int .i64 r1),(.int .u32 r2)]:List Value)++lumpV .u8 32 r3).toArray),(.int .i64 r4)].toArray) h))) vr)) qa) args
def eB (ρ:Ids) (Q:Hp→Prop) (p0:Option Addr) (oh:Addr) (n10:Int) (A1:Sl) (HU:Addr) (h:Hp):Prop:=
  nilW p0 fun yb=>
  ldS h (yb.add 70) fun afF=>
  alW h (ρ.T 21) [(.int .i64 n10),(.slice A1.a A1.len A1.cap)] fun afG h_18=>
  apW (ρ.T 21) 2 32 (.agg [(.int .i64 (0:Int)),(.slice none 0 0)].toArray) h_18 afF (⟨some afG,1,1⟩:Sl) fun QK h_20=>
  nilW p0 fun afH=>
  st h_20 ((afH.add 70).add 0) (.slice QK.a QK.len QK.cap) fun h_22=>
  ldI .i64 h_22 (HU.add 0) fun uG=>
  ldI .u32 h_22 (HU.add 1) fun wj=>
  ldL .u8 32 h_22 (HU.add 2) fun mE=>
  stAll h_22 oh 0 (([(.int .i64 uG),(.int .u32 wj)]:List Value)++lumpV .u8 32 mE) fun h_26=>
  Q h_26
def eC (ρ:Ids) (Q:Hp→Prop) (p0:Option Addr) (oh:Addr) (n10:Int) (A1:Sl) (HU:Addr) (v70:Int) (h:Hp):Prop:=
  eB ρ Q p0 oh n10 A1 HU h
def gS (ρ:Ids) (Q:Hp→Prop) (p0:Option Addr) (oh:Addr) (n10:Int) (HU:Addr) (Xy:Sl) (WY:Int) (WZ:Int) (W3:List Int) (v70:Int) (h:Hp):Prop:=
  stAll h HU 0 (([(.int .i64 WY),(.int .u32 WZ)]:List Value)++lumpV .u8 32 W3) fun h_47=>
  eC ρ Q p0 oh n10 Xy HU v70 h_47
def eV (ρ:Ids) (Q:Hp→Prop) (p0:Option Addr) (bA:Int) (gY:Sl) (oh:Addr) (h:Hp):Prop:=
  nilW p0 fun Qc=>
  ldS h ((Qc.add 34).add 0) fun Bz=>
  ldI .i64 h (oh.add 0) fun wo=>
  aS ρ Bz bA (IntKind.wrap .i64 ((1:Int) - wo)) h fun pe h_31=>
  nilW p0 fun IE=>
  ldP h_31 (IE.add 0) fun oe=>
  nilW p0 fun W4=>
  ldL .u8 32 h_31 ((W4.add 1).add 0) fun Eu=>
  nilW p0 fun W5=>
  ldI .u32 h_31 (W5.add 33) fun s5=>
  ldI .i64 h_31 (oh.add 0) fun Ln=>
  (cw ρ oe (nrm 32 Eu) s5 (IntKind.wrap .i64 ((1:Int) - Ln)) pe gY h_31 fun ke rG PJ xT pn h_44=>
  alW h_44 (ρ.T 16) (([(.int .i64 (0:Int)),(.int .u32 (0:Int))]:List Value)++lumpV .u8 32 (List.replicate 32 0)) fun Jp h_46=>
  gS ρ Q p0 oh pe Jp ke rG PJ (nrm 32 xT) pn h_46)∧
  (alW h_31 (ρ.T 16) (([(.int .i64 (0:Int)),(.int .u32 (0:Int))]:List Value)++lumpV .u8 32 (List.replicate 32 0)) fun W6 h_49=>
  (hcell h_49 (oh.add 0)=some (.int .i64 Ln))∧
  ((hcell h_49 (W5.add 33)=some (.int .u32 s5))∧
  ((lfact .u8 32 Eu ((W4.add 1).add 0) h_49∧(True))∧
  ((hcell h_49 (IE.add 0)=some (.pointer oe))∧
  (cw ρ oe (nrm 32 Eu) s5 (IntKind.wrap .i64 ((1:Int) - Ln)) pe gY h_49 fun PI afI xR Lw Lx h_55=>
  stAll h_55 W6 0 (([(.int .i64 afI),(.int .u32 xR)]:List Value)++lumpV .u8 32 Lw) fun h_56=>
  eC ρ Q p0 oh pe PI W6 Lx h_56)))))
def cB (ρ:Ids) (p0:Option Addr) (bA:Int) (gY:Sl) (h:Hp) (Q:Hp→Prop):Prop:=
  nilW p0 fun wv=>
  nilW p0 fun p_2=>
  ldS h ((p_2.add 34).add 0) fun yI=>
  aR ρ yI bA h fun Ki tD qE h_7=>
  br qE
  (nilW p0 fun XF=>
  ldM h_7 (XF.add 69) fun wg=>
  lkW (.int .i64) h_7 wg (.int .i64 Ki) fun anF W7=>
  isS (W7.getD (.slice none 0 0)) fun Ll=>
  letB W7.isSome fun aiC=>
  ixW Ll.a Ll.len tD 34 fun EP=>
  eV ρ Q p0 bA gY EP h_7)
  (eV ρ Q p0 bA gY (wv.add 35) h_7)
def fZ (ρ:Ids):Spec:=fun args h K=>
  (tP fun p0=>tI .i64 fun bA=>tS fun gY=>tN (cB ρ p0 bA gY h (fun h=>K (.tuple [].toArray) h))) args
def cn (ρ:Ids) (gV:Sl) (h:Hp) (Q:Sl→Int→Hp→Prop):Prop:=
  Go.Ex.specOf Ek.yO [(.slice gV.a gV.len gV.cap)] h fun v h'=> ∃ r0 r1,v=(.tuple [(.slice r0.a r0.len r0.cap),(.int .i64 r1)].toArray)∧Q r0 r1 h'
def nr (ρ:Ids):Spec:=fun args h K=>
  (tS fun gV=>tN (cn ρ gV h (fun r0 r1 h=>K (.tuple [(.slice r0.a r0.len r0.cap),(.int .i64 r1)].toArray) h))) args
def iR (ρ:Ids) (S4:Addr→Addr→Sl→Sl→Int→Int→Hp→Prop) (Q:Sl→Sl→Int→Int→List Int→Int→Hp→Prop) (ej:Addr) (jY:Addr) (dz:Sl) (pM:Sl) (vY:Int) (v85:Int) (h:Hp):Prop:=
  br (decide (v85<vY))
  (ixW pM.a pM.len v85 1 fun afJ=>
  ldI .i64 h afJ fun Bx=>
  ldM h (jY.add 69) fun afK=>
  lkW (.int .i64) h afK (.int .i64 Bx) fun anG W8=>
  isS (W8.getD (.slice none 0 0)) fun afL=>
  letB W8.isSome fun aiD=>
  cz ρ afL h fun Es h_59=>
  alW h_59 (ρ.T 14) [(.int .i64 Bx),(.slice Es.a Es.len Es.cap)] fun Wx h_61=>
  apW (ρ.T 14) 2 32 (.agg [(.int .i64 (0:Int)),(.slice none 0 0)].toArray) h_61 dz (⟨some Wx,1,1⟩:Sl) fun afM h_63=>
  ldM h_63 (jY.add 69) fun Py=>
  lkW (.int .i64) h_63 Py (.int .i64 Bx) fun anH W9=>
  isS (W9.getD (.slice none 0 0)) fun afN=>
  letB W9.isSome fun aiE=>
  cn ρ afN h_63 fun afO anI h_71=>
  cB ρ (some jY) Bx afO h_71 fun h_72=>
  S4 ej jY afM pM vY (IntKind.wrap .i64 (v85+(1:Int))) h_72)
  (ldS h (jY.add 70) fun zE=>
  ldI .i64 h ((jY.add 35).add 0) fun afP=>
  ldI .u32 h ((jY.add 35).add 1) fun HD=>
  ldL .u8 32 h ((jY.add 35).add 2) fun afQ=>
  stAll h ej 0 (([(.int .i64 afP),(.int .u32 HD)]:List Value)++lumpV .u8 32 afQ) fun h_77=>
  ldI .i64 h_77 (ej.add 0) fun BA=>
  ldI .u32 h_77 (ej.add 1) fun afR=>
  ldL .u8 32 h_77 (ej.add 2) fun afS=>
  Q zE dz BA afR (nrm 32 afS) (0:Int) h_77)
def iZ (ρ:Ids) (Q:Sl→Sl→Int→Int→List Int→Int→Hp→Prop) (ej:Addr) (jY:Addr) (dz:Sl) (pM:Sl) (vY:Int) (v85:Int) (h:Hp):Prop:=
  Lfp (fun S vals h=>(tA fun ej=>tA fun jY=>tS fun dz=>tS fun pM=>tI .i64 fun vY=>tI .i64 fun v85=>tN (iR ρ (fun ej jY dz pM vY v85 hh=>S [(.pointer (some ej)),(.pointer (some jY)),(.slice dz.a dz.len dz.cap),(.slice pM.a pM.len pM.cap),(.int .i64 vY),(.int .i64 v85)] hh) Q ej jY dz pM vY v85 h)) vals) [(.pointer (some ej)),(.pointer (some jY)),(.slice dz.a dz.len dz.cap),(.slice pM.a pM.len pM.cap),(.int .i64 vY),(.int .i64 v85)] h
theorem qL (ρ:Ids) (Q:Sl→Sl→Int→Int→List Int→Int→Hp→Prop) (ej:Addr) (jY:Addr) (dz:Sl) (pM:Sl) (vY:Int) (v85:Int) (h:Hp) (H:iR ρ (iZ ρ Q) Q ej jY dz pM vY v85 h):iZ ρ Q ej jY dz pM vY v85 h:=mG H
def iQ (ρ:Ids) (S3:Addr→Addr→Sl→Sl→Int→Int→Hp→Prop) (Q:Sl→Sl→Int→Int→List Int→Int→Hp→Prop) (ej:Addr) (jY:Addr) (cL:Sl) (v70:Sl) (nA:Int) (v72:Int) (h:Hp):Prop:=
  br (decide (v72<nA))
  (ixW v70.a v70.len v72 2 fun Xa=>
  ldI .i64 h (Xa.add 0) fun zz=>
  ldS h (Xa.add 1) fun QL=>
  alW h (ρ.T 17) [(.int .i64 (0:Int)),(.slice none 0 0)] fun Jp h_46=>
  stAll h_46 Jp 0 [(.int .i64 zz),(.slice QL.a QL.len QL.cap)] fun h_47=>
  ldI .i64 h_47 (Jp.add 0) fun afT=>
  ldS h_47 (Jp.add 1) fun T5=>
  cB ρ (some jY) afT T5 h_47 fun h_50=>
  S3 ej jY cL v70 nA (IntKind.wrap .i64 (v72+(1:Int))) h_50)
  (iZ ρ Q ej jY (⟨none,0,0⟩:Sl) cL (cL.len:Int) (0:Int) h)
def ja (ρ:Ids) (Q:Sl→Sl→Int→Int→List Int→Int→Hp→Prop) (ej:Addr) (jY:Addr) (cL:Sl) (v70:Sl) (nA:Int) (v72:Int) (h:Hp):Prop:=
  Lfp (fun S vals h=>(tA fun ej=>tA fun jY=>tS fun cL=>tS fun v70=>tI .i64 fun nA=>tI .i64 fun v72=>tN (iQ ρ (fun ej jY cL v70 nA v72 hh=>S [(.pointer (some ej)),(.pointer (some jY)),(.slice cL.a cL.len cL.cap),(.slice v70.a v70.len v70.cap),(.int .i64 nA),(.int .i64 v72)] hh) Q ej jY cL v70 nA v72 h)) vals) [(.pointer (some ej)),(.pointer (some jY)),(.slice cL.a cL.len cL.cap),(.slice v70.a v70.len v70.cap),(.int .i64 nA),(.int .i64 v72)] h
theorem qM (ρ:Ids) (Q:Sl→Sl→Int→Int→List Int→Int→Hp→Prop) (ej:Addr) (jY:Addr) (cL:Sl) (v70:Sl) (nA:Int) (v72:Int) (h:Hp) (H:iQ ρ (ja ρ Q) Q ej jY cL v70 nA v72 h):ja ρ Q ej jY cL v70 nA v72 h:=mG H
def iP (ρ:Ids) (S2:Sl→Sl→Addr→Addr→Sl→Sl→Int→Int→Hp→Prop) (Q:Sl→Sl→Int→Int→List Int→Int→Hp→Prop) (cP:Sl) (bT:Sl) (ej:Addr) (jY:Addr) (cL:Sl) (pL:Sl) (v53:Int) (rC:Int) (h:Hp):Prop:=
  br (decide (rC<v53))
  (ixW pL.a pL.len rC 1 fun zC=>
  ldI .i64 h zC fun sW=>
  ldM h (jY.add 69) fun s5=>
  eX ρ cP sW h fun EA ke h_40=>
  (hcell h_40 (jY.add 69)=some (.map s5))∧
  (muW (.int .i64) h_40 s5 (.int .i64 sW) (.slice EA.a EA.len EA.cap) fun h_41=>
  S2 cP bT ej jY cL pL v53 (IntKind.wrap .i64 (rC+(1:Int))) h_41))
  (ja ρ Q ej jY cL bT (bT.len:Int) (0:Int) h)
def jb (ρ:Ids) (Q:Sl→Sl→Int→Int→List Int→Int→Hp→Prop) (cP:Sl) (bT:Sl) (ej:Addr) (jY:Addr) (cL:Sl) (pL:Sl) (v53:Int) (rC:Int) (h:Hp):Prop:=
  Lfp (fun S vals h=>(tS fun cP=>tS fun bT=>tA fun ej=>tA fun jY=>tS fun cL=>tS fun pL=>tI .i64 fun v53=>tI .i64 fun rC=>tN (iP ρ (fun cP bT ej jY cL pL v53 rC hh=>S [(.slice cP.a cP.len cP.cap),(.slice bT.a bT.len bT.cap),(.pointer (some ej)),(.pointer (some jY)),(.slice cL.a cL.len cL.cap),(.slice pL.a pL.len pL.cap),(.int .i64 v53),(.int .i64 rC)] hh) Q cP bT ej jY cL pL v53 rC h)) vals) [(.slice cP.a cP.len cP.cap),(.slice bT.a bT.len bT.cap),(.pointer (some ej)),(.pointer (some jY)),(.slice cL.a cL.len cL.cap),(.slice pL.a pL.len pL.cap),(.int .i64 v53),(.int .i64 rC)] h
theorem qN (ρ:Ids) (Q:Sl→Sl→Int→Int→List Int→Int→Hp→Prop) (cP:Sl) (bT:Sl) (ej:Addr) (jY:Addr) (cL:Sl) (pL:Sl) (v53:Int) (rC:Int) (h:Hp) (H:iP ρ (jb ρ Q) Q cP bT ej jY cL pL v53 rC h):jb ρ Q cP bT ej jY cL pL v53 rC h:=mG H
def iO (ρ:Ids) (Q:Sl→Sl→Int→Int→List Int→Int→Hp→Prop) (b0:Option Addr) (cU:Int) (cP:Sl) (bT:Sl) (rK:Addr) (xS:Addr) (gQ:Addr) (ej:Addr) (G7:Bool) (h:Hp):Prop:=
  br G7
  (stAll h ej 0 (([(.int .i64 (0:Int)),(.int .u32 (0:Int))]:List Value)++lumpV .u8 32 (List.replicate 32 0)) fun h_17=>
  ldI .i64 h_17 (ej.add 0) fun Bu=>
  ldI .u32 h_17 (ej.add 1) fun Et=>
  ldL .u8 32 h_17 (ej.add 2) fun xP=>
  Q (⟨none,0,0⟩:Sl) (⟨none,0,0⟩:Sl) Bu Et (nrm 32 xP) (1:Int) h_17)
  (ldL .u8 32 h (rK.add 0) fun jx=>
  ldS h (xS.add 0) fun oZ=>
  ldI .i64 h (gQ.add 0) fun uG=>
  ldI .u32 h (gQ.add 1) fun wj=>
  ldL .u8 32 h (gQ.add 2) fun mE=>
  amW h fun afU h_27=>
  alW h_27 (ρ.T 20) (([(.pointer b0)]:List Value)++lumpV .u8 32 jx++([(.int .u32 cU),(.slice oZ.a oZ.len oZ.cap),(.int .i64 uG),(.int .u32 wj)]:List Value)++lumpV .u8 32 mE++([(.map (some afU)),(.slice none 0 0)]:List Value)) fun Jn h_29=>
  ldS h_29 (xS.add 0) fun sY=>
  bW ρ bT h_29 fun Bv h_32=>
  (hcell h_32 (xS.add 0)=some (.slice sY.a sY.len sY.cap)∧(True))∧
  (bU ρ sY Bv h_32 fun wk h_34=>
  jb ρ Q cP bT ej Jn wk wk (wk.len:Int) (0:Int) h_34))
def aE (ρ:Ids) (b0:Option Addr) (nq:List Int) (cU:Int) (EC:Sl) (tJ:Int) (tK:Int) (tO:List Int) (cP:Sl) (bT:Sl) (h:Hp) (Q:Sl→Sl→Int→Int→List Int→Int→Hp→Prop):Prop:=
  alW h (ρ.T 19) (lumpV .u8 32 nq) fun wv h_2=>
  alW h_2 (ρ.T 11) [(.slice EC.a EC.len EC.cap)] fun mS h_4=>
  alW h_4 (ρ.T 16) (([(.int .i64 tJ),(.int .u32 tK)]:List Value)++lumpV .u8 32 tO) fun tE h_6=>
  alW h_6 (ρ.T 16) (([(.int .i64 (0:Int)),(.int .u32 (0:Int))]:List Value)++lumpV .u8 32 (List.replicate 32 0)) fun NA h_8=>
  ldS h_8 (mS.add 0) fun wg=>
  bJ ρ wg cP bT h_8 fun G6 h_11=>
  br (!G6)
  (iO ρ Q b0 cU cP bT wv mS tE NA true h_11)
  (ldI .i64 h_11 (tE.add 0) fun rF=>
  ldI .u32 h_11 (tE.add 1) fun zx=>
  ldL .u8 32 h_11 (tE.add 2) fun sX=>
  dV ρ rF zx (nrm 32 sX) h_11 fun Bw h_16=>
  iO ρ Q b0 cU cP bT wv mS tE NA (!Bw) h_16)
def jo (ρ:Ids):Spec:=fun args h K=>
  (tP fun b0=>tG fun qa vr=>(tL .u8 32 fun nq=>tN ((tI .u32 fun cU=>tG fun ku mW=>(tS fun EC=>tN ((tG fun QM Xb=>(tI .i64 fun tJ=>tI .u32 fun tK=>tL .u8 32 fun tO=>tN ((tS fun cP=>tS fun bT=>tN (aE ρ b0 nq cU EC tJ tK tO cP bT h (fun r0 r1 r2 r3 r4 r5 h=>K (.tuple [(.slice r0.a r0.len r0.cap),(.slice r1.a r1.len r1.cap),(.agg (([(.int .i64 r2),(.int .u32 r3)]:List Value)++lumpV .u8 32 r4).toArray),(.int .i64 r5)].toArray) h))) Xb)) QM) mW)) ku) vr)) qa) args
def aj (ρ:Ids) (Ku:Int) (Kv:List Int) (Kw:Int) (Kz:Int) (KA:Int) (KB:List Int) (l1:Sl) (c2:Sl) (h:Hp) (Q:Bool→Hp→Prop):Prop:=
  Go.Ex.specOf Ek.RA [(.agg (([(.int .u8 Ku)]:List Value)++lumpV .u8 32 Kv++([(.int .u32 Kw),(.int .i64 Kz),(.int .u32 KA)]:List Value)++lumpV .u8 32 KB).toArray),(.slice l1.a l1.len l1.cap),(.slice c2.a c2.len c2.cap)] h fun v h'=> ∃ r0,v=(.bool r0)∧Q r0 h'
def dO (ρ:Ids):Spec:=fun args h K=>
  (tG fun gT j6=>(tI .u8 fun Ku=>tL .u8 32 fun Kv=>tI .u32 fun Kw=>tI .i64 fun Kz=>tI .u32 fun KA=>tL .u8 32 fun KB=>tN ((tS fun l1=>tS fun c2=>tN (aj ρ Ku Kv Kw Kz KA KB l1 c2 h (fun r0 h=>K (.bool r0) h))) j6)) gT) args
end Go.Tx
