import Derived.Test.YtkgbogibfogjgaaGreatDoorTmB
import Derived.Test.YtkgbogibfogjgaaGreatDoorTmH
set_option linter.unusedVariables false
set_option linter.unusedSimpArgs false
set_option maxHeartbeats 4000000
set_option maxRecDepth 100000
namespace Go.Tx
open Go Go.Wc
open Go.Proofs.YtkgbogibfogjgaaGreatDoor
def aP (ρ:Ids) (fO:List Int) (fP:List Int) (aU:Int) (h:Hp) (Q:List Int→Hp→Prop):Prop:=
 Go.Ex.specOf Ek.qa [(.agg (lumpV .u8 32 fO).toArray),(.agg (lumpV .u8 12 fP).toArray),(.int .u32 aU)] h fun v h'=> ∃ r0,v=(.agg (lumpV .u32 16 r0).toArray)∧Q r0 h'
def fQ (ρ:Ids):Spec:=fun args h K=>
 (tG fun lg qb=>(tL .u8 32 fun fO=>tN ((tG fun x6 DC=>(tL .u8 12 fun fP=>tN ((tI .u32 fun aU=>tN (aP ρ fO fP aU h (fun r0 h=>K (.agg (lumpV .u32 16 r0).toArray) h))) DC)) x6) qb)) lg) args
def bX (ρ:Ids) (FO:List Int) (h:Hp) (Q:List Int→Hp→Prop):Prop:=
 Go.Ex.specOf Ek.nQ [(.agg (lumpV .u32 4 FO).toArray)] h fun v h'=> ∃ r0,v=(.agg (lumpV .u32 4 r0).toArray)∧Q r0 h'
def eN (ρ:Ids):Spec:=fun args h K=>
 (tG fun lg qb=>(tL .u32 4 fun FO=>tN ((tN (bX ρ FO h (fun r0 h=>K (.agg (lumpV .u32 4 r0).toArray) h))) qb)) lg) args
def eI (ρ:Ids) (Q:Hp→Prop) (a0:Int) (b1:Int) (c2:Int) (d3:Int) (v4:Addr) (q9:Addr) (h:Hp):Prop:=
 ixW (some q9) 4 (0:Int) 1 fun Ke=>
 ldI .u32 h Ke fun ES=>
 ixW (some q9) 4 (1:Int) 1 fun w9=>
 ldI .u32 h w9 fun gE=>
 ixW (some q9) 4 (2:Int) 1 fun Kf=>
 ldI .u32 h Kf fun BL=>
 ixW (some q9) 4 (3:Int) 1 fun AQ=>
 ldI .u32 h AQ fun uk=>
 ixW (some v4) 16 a0 1 fun Kg=>
 st h (Kg.add 0) (.int .u32 ES) fun h_27=>
 (hcell h_27 AQ=some (.int .u32 uk))∧
 ((hcell h_27 Kf=some (.int .u32 BL))∧
 ((hcell h_27 w9=some (.int .u32 gE))∧
 (ixW (some v4) 16 b1 1 fun Kh=>
 st h_27 (Kh.add 0) (.int .u32 gE) fun h_29=>
 (hcell h_29 AQ=some (.int .u32 uk))∧
 ((hcell h_29 Kf=some (.int .u32 BL))∧
 (ixW (some v4) 16 c2 1 fun Vo=>
 st h_29 (Vo.add 0) (.int .u32 BL) fun h_31=>
 (hcell h_31 AQ=some (.int .u32 uk))∧
 (ixW (some v4) 16 d3 1 fun OL=>
 st h_31 (OL.add 0) (.int .u32 uk) fun h_33=>
 Q h_33))))))
def eJ (ρ:Ids) (Q:Hp→Prop) (a0:Int) (b1:Int) (c2:Int) (d3:Int) (v4:Addr) (q9:Addr) (DD:List Int) (h:Hp):Prop:=
 stAll h q9 0 (lumpV .u32 4 DD) fun h_13=>
 eI ρ Q a0 b1 c2 d3 v4 q9 h_13
def fR (ρ:Ids) (Q:Hp→Prop) (a0:Int) (b1:Int) (c2:Int) (d3:Int) (v4:Addr) (DD:List Int) (h:Hp):Prop:=
 alW h (ρ.T 25) (lumpV .u32 4 (List.replicate 4 0)) fun DE h_12=>
 eJ ρ Q a0 b1 c2 d3 v4 DE (nrm 4 DD) h_12
def aQ (ρ:Ids) (a0:Int) (b1:Int) (c2:Int) (d3:Int) (v4:Addr) (h:Hp) (Q:Hp→Prop):Prop:=
 ixW (some v4) 16 a0 1 fun Er=>
 ldI .u32 h Er fun Ia=>
 ixW (some v4) 16 b1 1 fun Es=>
 ldI .u32 h Es fun A5=>
 ixW (some v4) 16 c2 1 fun Aj=>
 ldI .u32 h Aj fun xe=>
 ixW (some v4) 16 d3 1 fun Xx=>
 ldI .u32 h Xx fun BD=>
 (bX ρ (nrm 4 [Ia,A5,xe,BD]) h fun ML h_10=>
 fR ρ Q a0 b1 c2 d3 v4 (nrm 4 ML) h_10)∧
 (alW h (ρ.T 25) (lumpV .u32 4 (List.replicate 4 0)) fun Vp h_15=>
 (hcell h_15 Xx=some (.int .u32 BD))∧
 ((hcell h_15 Aj=some (.int .u32 xe))∧
 ((hcell h_15 Es=some (.int .u32 A5))∧
 ((hcell h_15 Er=some (.int .u32 Ia))∧
 (bX ρ (nrm 4 [Ia,A5,xe,BD]) h_15 fun Ai h_17=>
 eJ ρ Q a0 b1 c2 d3 v4 Vp (nrm 4 Ai) h_17)))))
def eO (ρ:Ids):Spec:=fun args h K=>
 (tI .i64 fun a0=>tI .i64 fun b1=>tI .i64 fun c2=>tI .i64 fun d3=>tA fun v4=>tN (aQ ρ a0 b1 c2 d3 v4 h (fun h=>K (.tuple [].toArray) h))) args
def dZ (ρ:Ids) (S1:Addr→Addr→Addr→Addr→Int→Hp→Prop) (S3:Addr→Addr→Addr→Addr→Int→Int→Hp→Prop) (Q:List Int→Hp→Prop) (v6:Addr) (aH:Addr) (w8:Addr) (bB:Addr) (v20:Int) (fC:Int) (h:Hp):Prop:=
 br (decide (fC<(4:Int)))
 (((4:Int) ≠ 0)∧
 ((4:Int) ≠ 0)∧
 ((4:Int) ≠ 0)∧
 aQ ρ fC (IntKind.wrap .i64 ((4:Int)+(Int.tmod (IntKind.wrap .i64 (fC+(1:Int))) (4:Int)))) (IntKind.wrap .i64 ((8:Int)+(Int.tmod (IntKind.wrap .i64 (fC+(2:Int))) (4:Int)))) (IntKind.wrap .i64 ((12:Int)+(Int.tmod (IntKind.wrap .i64 (fC+(3:Int))) (4:Int)))) bB h fun h_22=>
 isV (.tuple [].toArray) fun aaE=>
 S3 v6 aH w8 bB v20 (IntKind.wrap .i64 (fC+(1:Int))) h_22)
 (S1 v6 aH w8 bB (IntKind.wrap .i64 (v20+(1:Int))) h)
def ee (ρ:Ids) (S1:Addr→Addr→Addr→Addr→Int→Hp→Prop) (Q:List Int→Hp→Prop) (v6:Addr) (aH:Addr) (w8:Addr) (bB:Addr) (v20:Int) (fC:Int) (h:Hp):Prop:=
 Lfp (fun S vals h=>(tA fun v6=>tA fun aH=>tA fun w8=>tF (ρ.G 119) fun hJ jY=>(tA fun bB=>tN ((tI .i64 fun v20=>tI .i64 fun fC=>tN (dZ ρ S1 (fun v6 aH w8 bB v20 fC hh=>S [(.pointer (some v6)),(.pointer (some aH)),(.pointer (some w8)),(.func (.func (ρ.G 119)) #[] #[(.pointer (some bB))]),(.int .i64 v20),(.int .i64 fC)] hh) Q v6 aH w8 bB v20 fC h)) jY)) hJ) vals) [(.pointer (some v6)),(.pointer (some aH)),(.pointer (some w8)),(.func (.func (ρ.G 119)) #[] #[(.pointer (some bB))]),(.int .i64 v20),(.int .i64 fC)] h
theorem lq (ρ:Ids) (S1:Addr→Addr→Addr→Addr→Int→Hp→Prop) (Q:List Int→Hp→Prop) (v6:Addr) (aH:Addr) (w8:Addr) (bB:Addr) (v20:Int) (fC:Int) (h:Hp) (H:dZ ρ S1 (ee ρ S1 Q) Q v6 aH w8 bB v20 fC h):ee ρ S1 Q v6 aH w8 bB v20 fC h:=oK (by
   simp only [tI,tA,tN,sq,sameKind,cnd]
   exact H)
def ef (ρ:Ids) (S1:Addr→Addr→Addr→Addr→Int→Hp→Prop) (S2:Addr→Addr→Addr→Addr→Int→Int→Hp→Prop) (Q:List Int→Hp→Prop) (v6:Addr) (aH:Addr) (w8:Addr) (bB:Addr) (v20:Int) (fU:Int) (h:Hp):Prop:=
 br (decide (fU<(4:Int)))
 (aQ ρ fU (IntKind.wrap .i64 ((4:Int)+fU)) (IntKind.wrap .i64 ((8:Int)+fU)) (IntKind.wrap .i64 ((12:Int)+fU)) bB h fun h_20=>
 isV (.tuple [].toArray) fun aaF=>
 S2 v6 aH w8 bB v20 (IntKind.wrap .i64 (fU+(1:Int))) h_20)
 (ee ρ S1 Q v6 aH w8 bB v20 (0:Int) h)
def ej (ρ:Ids) (S1:Addr→Addr→Addr→Addr→Int→Hp→Prop) (Q:List Int→Hp→Prop) (v6:Addr) (aH:Addr) (w8:Addr) (bB:Addr) (v20:Int) (fU:Int) (h:Hp):Prop:=
 Lfp (fun S vals h=>(tA fun v6=>tA fun aH=>tA fun w8=>tF (ρ.G 119) fun hJ jY=>(tA fun bB=>tN ((tI .i64 fun v20=>tI .i64 fun fU=>tN (ef ρ S1 (fun v6 aH w8 bB v20 fU hh=>S [(.pointer (some v6)),(.pointer (some aH)),(.pointer (some w8)),(.func (.func (ρ.G 119)) #[] #[(.pointer (some bB))]),(.int .i64 v20),(.int .i64 fU)] hh) Q v6 aH w8 bB v20 fU h)) jY)) hJ) vals) [(.pointer (some v6)),(.pointer (some aH)),(.pointer (some w8)),(.func (.func (ρ.G 119)) #[] #[(.pointer (some bB))]),(.int .i64 v20),(.int .i64 fU)] h
theorem lu (ρ:Ids) (S1:Addr→Addr→Addr→Addr→Int→Hp→Prop) (Q:List Int→Hp→Prop) (v6:Addr) (aH:Addr) (w8:Addr) (bB:Addr) (v20:Int) (fU:Int) (h:Hp) (H:ef ρ S1 (ej ρ S1 Q) Q v6 aH w8 bB v20 fU h):ej ρ S1 Q v6 aH w8 bB v20 fU h:=oK (by
   simp only [tI,tA,tN,sq,sameKind,cnd]
   exact H)
def eo (ρ:Ids) (S4:Addr→Addr→Addr→Addr→Int→Hp→Prop) (Q:List Int→Hp→Prop) (v6:Addr) (aH:Addr) (w8:Addr) (iA:Addr) (jo:Int) (h:Hp):Prop:=
 br (decide (jo<(64:Int)))
 (((4:Int) ≠ 0)∧
 ixW (some w8) 16 (IntKind.wrap .i64 (Int.tdiv jo (4:Int))) 1 fun AQ=>
 ldI .u32 h AQ fun uk=>
 ((4:Int) ≠ 0)∧
 ixW (some aH) 16 (IntKind.wrap .i64 (Int.tdiv jo (4:Int))) 1 fun Kg=>
 ldI .u32 h Kg fun iR=>
 ((4:Int) ≠ 0)∧
 (0≤(IntKind.wrap .i64 ((8:Int)*(Int.tmod jo (4:Int)))))∧
 ixW (some iA) 64 jo 1 fun Kh=>
 st h (Kh.add 0) (.int .u8 (IntKind.wrap .u8 (Int.fdiv (IntKind.wrap .u32 (uk+iR)) (2 ^ (min (Int.toNat (IntKind.wrap .i64 ((8:Int)*(Int.tmod jo (4:Int))))) (IntKind.bits .u32)))))) fun h_29=>
 S4 v6 aH w8 iA (IntKind.wrap .i64 (jo+(1:Int))) h_29)
 (ldL .u8 64 h (iA.add 0) fun wZ=>
 stAll h v6 0 (lumpV .u8 64 wZ) fun h_31=>
 ldL .u8 64 h_31 (v6.add 0) fun Vq=>
 Q (nrm 64 Vq) h_31)
def er (ρ:Ids) (Q:List Int→Hp→Prop) (v6:Addr) (aH:Addr) (w8:Addr) (iA:Addr) (jo:Int) (h:Hp):Prop:=
 Lfp (fun S vals h=>(tA fun v6=>tA fun aH=>tA fun w8=>tA fun iA=>tI .i64 fun jo=>tN (eo ρ (fun v6 aH w8 iA jo hh=>S [(.pointer (some v6)),(.pointer (some aH)),(.pointer (some w8)),(.pointer (some iA)),(.int .i64 jo)] hh) Q v6 aH w8 iA jo h)) vals) [(.pointer (some v6)),(.pointer (some aH)),(.pointer (some w8)),(.pointer (some iA)),(.int .i64 jo)] h
theorem lA (ρ:Ids) (Q:List Int→Hp→Prop) (v6:Addr) (aH:Addr) (w8:Addr) (iA:Addr) (jo:Int) (h:Hp) (H:eo ρ (er ρ Q) Q v6 aH w8 iA jo h):er ρ Q v6 aH w8 iA jo h:=oK H
def eu (ρ:Ids) (S1:Addr→Addr→Addr→Addr→Int→Hp→Prop) (Q:List Int→Hp→Prop) (v6:Addr) (aH:Addr) (w8:Addr) (bB:Addr) (v20:Int) (h:Hp):Prop:=
 br (decide (v20<(10:Int)))
 (ej ρ S1 Q v6 aH w8 bB v20 (0:Int) h)
 (alW h (ρ.T 23) (lumpV .u8 64 (List.replicate 64 0)) fun Ke h_19=>
 er ρ Q v6 aH w8 Ke (0:Int) h_19)
def eA (ρ:Ids) (Q:List Int→Hp→Prop) (v6:Addr) (aH:Addr) (w8:Addr) (bB:Addr) (v20:Int) (h:Hp):Prop:=
 Lfp (fun S vals h=>(tA fun v6=>tA fun aH=>tA fun w8=>tF (ρ.G 119) fun hJ jY=>(tA fun bB=>tN ((tI .i64 fun v20=>tN (eu ρ (fun v6 aH w8 bB v20 hh=>S [(.pointer (some v6)),(.pointer (some aH)),(.pointer (some w8)),(.func (.func (ρ.G 119)) #[] #[(.pointer (some bB))]),(.int .i64 v20)] hh) Q v6 aH w8 bB v20 h)) jY)) hJ) vals) [(.pointer (some v6)),(.pointer (some aH)),(.pointer (some w8)),(.func (.func (ρ.G 119)) #[] #[(.pointer (some bB))]),(.int .i64 v20)] h
theorem lB (ρ:Ids) (Q:List Int→Hp→Prop) (v6:Addr) (aH:Addr) (w8:Addr) (bB:Addr) (v20:Int) (h:Hp) (H:eu ρ (eA ρ Q) Q v6 aH w8 bB v20 h):eA ρ Q v6 aH w8 bB v20 h:=oK (by
   simp only [tI,tA,tN,sq,sameKind,cnd]
   exact H)
def aE (ρ:Ids) (fO:List Int) (fP:List Int) (aU:Int) (h:Hp) (Q:List Int→Hp→Prop):Prop:=
 alW h (ρ.T 19) (lumpV .u8 32 fO) fun Er h_2=>
 alW h_2 (ρ.T 22) (lumpV .u8 12 fP) fun Es h_4=>
 alW h_4 (ρ.T 23) (lumpV .u8 64 (List.replicate 64 0)) fun Aj h_6=>
 ldL .u8 32 h_6 (Er.add 0) fun EU=>
 ldL .u8 12 h_6 (Es.add 0) fun BD=>
 aP ρ (nrm 32 EU) (nrm 12 BD) aU h_6 fun ML h_10=>
 alW h_10 (ρ.T 24) (lumpV .u32 16 (List.replicate 16 0)) fun DE h_12=>
 stAll h_12 DE 0 (lumpV .u32 16 ML) fun h_13=>
 ldL .u32 16 h_13 (DE.add 0) fun Ab=>
 alW h_13 (ρ.T 24) (lumpV .u32 16 (List.replicate 16 0)) fun x8 h_16=>
 stAll h_16 x8 0 (lumpV .u32 16 Ab) fun h_17=>
 eA ρ Q Aj DE x8 x8 (0:Int) h_17
def cE (ρ:Ids):Spec:=fun args h K=>
 (tG fun lg qb=>(tL .u8 32 fun fO=>tN ((tG fun x6 DC=>(tL .u8 12 fun fP=>tN ((tI .u32 fun aU=>tN (aE ρ fO fP aU h (fun r0 h=>K (.agg (lumpV .u8 64 r0).toArray) h))) DC)) x6) qb)) lg) args
def cQ (ρ:Ids) (b0:Sl) (h:Hp) (Q:Sl→Hp→Prop):Prop:=
 br (Option.isNone b0.a)
 (Q (⟨none,0,0⟩:Sl) h)
 (alW h (ρ.T 1) [] fun Er h_2=>
 apW (ρ.T 1) 1 1 (.int .u8 (0:Int)) h_2 (⟨some Er,0,0⟩:Sl) b0 fun s_3 h_4=>
 Q s_3 h_4)
def eD (ρ:Ids):Spec:=fun args h K=>
 (tS fun b0=>tN (cQ ρ b0 h (fun r0 h=>K (.slice r0.a r0.len r0.cap) h))) args
def bR (ρ:Ids) (fj:Sl) (h:Hp) (Q:List Int→Hp→Prop):Prop:=
 Go.Ex.specOf Ek.vr [(.slice fj.a fj.len fj.cap)] h fun v h'=> ∃ r0,v=(.agg (lumpV .u8 32 r0).toArray)∧Q r0 h'
def gh (ρ:Ids):Spec:=fun args h K=>
 (tS fun fj=>tN (bR ρ fj h (fun r0 h=>K (.agg (lumpV .u8 32 r0).toArray) h))) args
def cW (ρ:Ids) (Q:List Int→Hp→Prop) (cx:Sl) (v4:Addr) (h:Hp):Prop:=
 alW h (ρ.T 26) [(.slice cx.a cx.len cx.cap)] fun x8 h_16=>
 bR ρ (⟨some x8,1,1⟩:Sl) h_16 fun Ad h_18=>
 stAll h_18 v4 0 (lumpV .u8 32 Ad) fun h_19=>
 ldL .u8 32 h_19 (v4.add 0) fun BE=>
 Q (nrm 32 BE) h_19
def cX (ρ:Ids) (Q:List Int→Hp→Prop) (b0:Option Addr) (cx:Sl) (v4:Addr) (uh:Bool) (h:Hp):Prop:=
 br uh
 (nilW b0 fun Aj=>
 ldS h (Aj.add 0) fun xe=>
 cQ ρ cx h fun kK h_8=>
 (hcell h_8 (Aj.add 0)=some (.slice xe.a xe.len xe.cap))∧
 (alW h_8 (ρ.T 26) [(.slice kK.a kK.len kK.cap)] fun p_9 h_10=>
 (hcell h_10 (Aj.add 0)=some (.slice xe.a xe.len xe.cap))∧
 (apW (ρ.T 26) 1 24 (.slice none 0 0) h_10 xe (⟨some p_9,1,1⟩:Sl) fun Ki h_12=>
 nilW b0 fun Vr=>
 st h_12 ((Vr.add 0).add 0) (.slice Ki.a Ki.len Ki.cap) fun h_14=>
 cW ρ Q cx v4 h_14)))
 (cW ρ Q cx v4 h)
def aS (ρ:Ids) (b0:Option Addr) (cx:Sl) (h:Hp) (Q:List Int→Hp→Prop):Prop:=
 alW h (ρ.T 19) (lumpV .u8 32 (List.replicate 32 0)) fun Er h_2=>
 br (!(Option.isNone b0))
 (nilW b0 fun Es=>
 ldS h_2 (Es.add 0) fun A5=>
 cX ρ Q b0 cx Er (decide ((A5.len:Int)<(100000:Int))) h_2)
 (cX ρ Q b0 cx Er false h_2)
def dw (ρ:Ids):Spec:=fun args h K=>
 (tP fun b0=>tS fun cx=>tN (aS ρ b0 cx h (fun r0 h=>K (.agg (lumpV .u8 32 r0).toArray) h))) args
def af (ρ:Ids) (fO:List Int) (bu:Int) (l2:Sl) (h:Hp) (Q:Bool→Hp→Prop):Prop:=
 Go.Ex.specOf Ek.OK [(.agg (lumpV .u8 32 fO).toArray),(.int .u32 bu),(.slice l2.a l2.len l2.cap)] h fun v h'=> ∃ r0,v=(.bool r0)∧Q r0 h'
def cn (ρ:Ids):Spec:=fun args h K=>
 (tG fun lg qb=>(tL .u8 32 fun fO=>tN ((tI .u32 fun bu=>tS fun l2=>tN (af ρ fO bu l2 h (fun r0 h=>K (.bool r0) h))) qb)) lg) args
end Go.Tx
