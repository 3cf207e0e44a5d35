import Derived.Test.YtkgbogibfogjgaaGreatDoorTiB
import Derived.Test.YtkgbogibfogjgaaGreatDoorTiI
set_option linter.unusedVariables false
set_option linter.unusedSimpArgs false
set_option maxHeartbeats 4000000
set_option maxRecDepth 100000
namespace Go.Tx
open Go Go.Wc
open Go.Proofs.YtkgbogibfogjgaaGreatDoor
def aV (ρ:Ids) (kq:List Int) (gR:List Int) (bg:Int) (h:Hp) (Q:List Int->Hp->Prop):Prop:=
 Go.Ex.specOf Ek.sH [(.agg (lumpV .u8 32 kq).toArray),(.agg (lumpV .u8 12 gR).toArray),(.int .u32 bg)] h fun v h'=> ∃ r0,v=(.agg (lumpV .u32 16 r0).toArray)/\Q r0 h'
def gS (ρ:Ids):Spec:=fun args h K=>
 (tG fun sI y4=>(tL .u8 32 fun kq=>tN ((tG fun AU G0=>(tL .u8 12 fun gR=>tN ((tI .u32 fun bg=>tN (aV ρ kq gR bg h (fun r0 h=>K (.agg (lumpV .u32 16 r0).toArray) h))) G0)) AU) y4)) sI) args
def cA (ρ:Ids) (J8:List Int) (h:Hp) (Q:List Int->Hp->Prop):Prop:=
 Go.Ex.specOf Ek.pV [(.agg (lumpV .u32 4 J8).toArray)] h fun v h'=> ∃ r0,v=(.agg (lumpV .u32 4 r0).toArray)/\Q r0 h'
def fR (ρ:Ids):Spec:=fun args h K=>
 (tG fun sI y4=>(tL .u32 4 fun J8=>tN ((tN (cA ρ J8 h (fun r0 h=>K (.agg (lumpV .u32 4 r0).toArray) h))) y4)) sI) args
def fG (ρ:Ids) (Q:Hp->Prop) (a0:Int) (b1:Int) (c2:Int) (d3:Int) (v4:Addr) (q9:Addr) (h:Hp):Prop:=
 ixW (some q9) 4 (0:Int) 1 fun OT=>
 ldI .u32 h OT fun IY=>
 ixW (some q9) 4 (1:Int) 1 fun zY=>
 ldI .u32 h zY fun iL=>
 ixW (some q9) 4 (2:Int) 1 fun OU=>
 ldI .u32 h OU fun z9=>
 ixW (some q9) 4 (3:Int) 1 fun Dx=>
 ldI .u32 h Dx fun xh=>
 ixW (some v4) 16 a0 1 fun OV=>
 st h (OV.add 0) (.int .u32 IY) fun h_27=>
 (hcell h_27 Dx=some (.int .u32 xh))/\
 ((hcell h_27 OU=some (.int .u32 z9))/\
 ((hcell h_27 zY=some (.int .u32 iL))/\
 (ixW (some v4) 16 b1 1 fun OW=>
 st h_27 (OW.add 0) (.int .u32 iL) fun h_29=>
 (hcell h_29 Dx=some (.int .u32 xh))/\
 ((hcell h_29 OU=some (.int .u32 z9))/\
 (ixW (some v4) 16 c2 1 fun abW=>
 st h_29 (abW.add 0) (.int .u32 z9) fun h_31=>
 (hcell h_31 Dx=some (.int .u32 xh))/\
 (ixW (some v4) 16 d3 1 fun TN=>
 st h_31 (TN.add 0) (.int .u32 xh) fun h_33=>
 Q h_33))))))
def fH (ρ:Ids) (Q:Hp->Prop) (a0:Int) (b1:Int) (c2:Int) (d3:Int) (v4:Addr) (q9:Addr) (G3:List Int) (h:Hp):Prop:=
 stAll h q9 0 (lumpV .u32 4 G3) fun h_13=>
 fG ρ Q a0 b1 c2 d3 v4 q9 h_13
def gT (ρ:Ids) (Q:Hp->Prop) (a0:Int) (b1:Int) (c2:Int) (d3:Int) (v4:Addr) (G3:List Int) (h:Hp):Prop:=
 alW h (ρ.T 25) (lumpV .u32 4 (List.replicate 4 0)) fun G4 h_12=>
 fH ρ Q a0 b1 c2 d3 v4 G4 (nrm 4 G3) h_12
def aX (ρ:Ids) (a0:Int) (b1:Int) (c2:Int) (d3:Int) (v4:Addr) (h:Hp) (Q:Hp->Prop):Prop:=
 ixW (some v4) 16 a0 1 fun Ir=>
 ldI .u32 h Ir fun Mo=>
 ixW (some v4) 16 b1 1 fun Is=>
 ldI .u32 h Is fun uc=>
 ixW (some v4) 16 c2 1 fun CN=>
 ldI .u32 h CN fun xe=>
 ixW (some v4) 16 d3 1 fun p_7=>
 ldI .u32 h p_7 fun Ef=>
 (cA ρ (nrm 4 [Mo,uc,xe,Ef]) h fun DL h_10=>
 gT ρ Q a0 b1 c2 d3 v4 (nrm 4 DL) h_10)/\
 (alW h (ρ.T 25) (lumpV .u32 4 (List.replicate 4 0)) fun abX h_15=>
 (hcell h_15 p_7=some (.int .u32 Ef))/\
 ((hcell h_15 CN=some (.int .u32 xe))/\
 ((hcell h_15 Is=some (.int .u32 uc))/\
 ((hcell h_15 Ir=some (.int .u32 Mo))/\
 (cA ρ (nrm 4 [Mo,uc,xe,Ef]) h_15 fun th h_17=>
 fH ρ Q a0 b1 c2 d3 v4 abX (nrm 4 th) h_17)))))
def fS (ρ:Ids):Spec:=fun args h K=>
 (tI .i64 fun a0=>tI .i64 fun b1=>tI .i64 fun c2=>tI .i64 fun d3=>tA fun v4=>tN (aX ρ a0 b1 c2 d3 v4 h (fun h=>K (.tuple [].toArray) h))) args
def eZ (ρ:Ids) (S1:Addr->Addr->Addr->Addr->Int->Hp->Prop) (S3:Addr->Addr->Addr->Addr->Int->Int->Hp->Prop) (Q:List Int->Hp->Prop) (v6:Addr) (aM:Addr) (w8:Addr) (bO:Addr) (v20:Int) (fM:Int) (h:Hp):Prop:=
 br (decide (fM<(4:Int)))
 (((4:Int) ≠ 0)/\
 ((4:Int) ≠ 0)/\
 ((4:Int) ≠ 0)/\
 aX ρ fM (IntKind.wrap .i64 ((4:Int)+(Int.tmod (IntKind.wrap .i64 (fM+(1:Int))) (4:Int)))) (IntKind.wrap .i64 ((8:Int)+(Int.tmod (IntKind.wrap .i64 (fM+(2:Int))) (4:Int)))) (IntKind.wrap .i64 ((12:Int)+(Int.tmod (IntKind.wrap .i64 (fM+(3:Int))) (4:Int)))) bO h fun h_22=>
 isV (.tuple [].toArray) fun ai0=>
 S3 v6 aM w8 bO v20 (IntKind.wrap .i64 (fM+(1:Int))) h_22)
 (S1 v6 aM w8 bO (IntKind.wrap .i64 (v20+(1:Int))) h)
def fe (ρ:Ids) (S1:Addr->Addr->Addr->Addr->Int->Hp->Prop) (Q:List Int->Hp->Prop) (v6:Addr) (aM:Addr) (w8:Addr) (bO:Addr) (v20:Int) (fM:Int) (h:Hp):Prop:=
 Lfp (fun S vals h=>(tA fun v6=>tA fun aM=>tA fun w8=>tF (ρ.G 119) fun jj lA=>(tA fun bO=>tN ((tI .i64 fun v20=>tI .i64 fun fM=>tN (eZ ρ S1 (fun v6 aM w8 bO v20 fM hh=>S [(.pointer (some v6)),(.pointer (some aM)),(.pointer (some w8)),(.func (.func (ρ.G 119)) #[] #[(.pointer (some bO))]),(.int .i64 v20),(.int .i64 fM)] hh) Q v6 aM w8 bO v20 fM h)) lA)) jj) vals) [(.pointer (some v6)),(.pointer (some aM)),(.pointer (some w8)),(.func (.func (ρ.G 119)) #[] #[(.pointer (some bO))]),(.int .i64 v20),(.int .i64 fM)] h
theorem mS (ρ:Ids) (S1:Addr->Addr->Addr->Addr->Int->Hp->Prop) (Q:List Int->Hp->Prop) (v6:Addr) (aM:Addr) (w8:Addr) (bO:Addr) (v20:Int) (fM:Int) (h:Hp) (H:eZ ρ S1 (fe ρ S1 Q) Q v6 aM w8 bO v20 fM h):fe ρ S1 Q v6 aM w8 bO v20 fM h:=qH (by
   simp only [tI,tA,tN,vk,sameKind,cnd]
   exact H)
def ff (ρ:Ids) (S1:Addr->Addr->Addr->Addr->Int->Hp->Prop) (S2:Addr->Addr->Addr->Addr->Int->Int->Hp->Prop) (Q:List Int->Hp->Prop) (v6:Addr) (aM:Addr) (w8:Addr) (bO:Addr) (v20:Int) (gX:Int) (h:Hp):Prop:=
 br (decide (gX<(4:Int)))
 (aX ρ gX (IntKind.wrap .i64 ((4:Int)+gX)) (IntKind.wrap .i64 ((8:Int)+gX)) (IntKind.wrap .i64 ((12:Int)+gX)) bO h fun h_20=>
 isV (.tuple [].toArray) fun ai1=>
 S2 v6 aM w8 bO v20 (IntKind.wrap .i64 (gX+(1:Int))) h_20)
 (fe ρ S1 Q v6 aM w8 bO v20 (0:Int) h)
def fh (ρ:Ids) (S1:Addr->Addr->Addr->Addr->Int->Hp->Prop) (Q:List Int->Hp->Prop) (v6:Addr) (aM:Addr) (w8:Addr) (bO:Addr) (v20:Int) (gX:Int) (h:Hp):Prop:=
 Lfp (fun S vals h=>(tA fun v6=>tA fun aM=>tA fun w8=>tF (ρ.G 119) fun jj lA=>(tA fun bO=>tN ((tI .i64 fun v20=>tI .i64 fun gX=>tN (ff ρ S1 (fun v6 aM w8 bO v20 gX hh=>S [(.pointer (some v6)),(.pointer (some aM)),(.pointer (some w8)),(.func (.func (ρ.G 119)) #[] #[(.pointer (some bO))]),(.int .i64 v20),(.int .i64 gX)] hh) Q v6 aM w8 bO v20 gX h)) lA)) jj) vals) [(.pointer (some v6)),(.pointer (some aM)),(.pointer (some w8)),(.func (.func (ρ.G 119)) #[] #[(.pointer (some bO))]),(.int .i64 v20),(.int .i64 gX)] h
theorem mT (ρ:Ids) (S1:Addr->Addr->Addr->Addr->Int->Hp->Prop) (Q:List Int->Hp->Prop) (v6:Addr) (aM:Addr) (w8:Addr) (bO:Addr) (v20:Int) (gX:Int) (h:Hp) (H:ff ρ S1 (fh ρ S1 Q) Q v6 aM w8 bO v20 gX h):fh ρ S1 Q v6 aM w8 bO v20 gX h:=qH (by
   simp only [tI,tA,tN,vk,sameKind,cnd]
   exact H)
def fj (ρ:Ids) (S4:Addr->Addr->Addr->Addr->Int->Hp->Prop) (Q:List Int->Hp->Prop) (v6:Addr) (aM:Addr) (w8:Addr) (mK:Addr) (jo:Int) (h:Hp):Prop:=
 br (decide (jo<(64:Int)))
 (((4:Int) ≠ 0)/\
 ixW (some w8) 16 (IntKind.wrap .i64 (Int.tdiv jo (4:Int))) 1 fun Dx=>
 ldI .u32 h Dx fun xh=>
 ((4:Int) ≠ 0)/\
 ixW (some aM) 16 (IntKind.wrap .i64 (Int.tdiv jo (4:Int))) 1 fun OV=>
 ldI .u32 h OV fun jG=>
 ((4:Int) ≠ 0)/\
 (0<=(IntKind.wrap .i64 ((8:Int)*(Int.tmod jo (4:Int)))))/\
 ixW (some mK) 64 jo 1 fun OW=>
 st h (OW.add 0) (.int .u8 (IntKind.wrap .u8 (Int.fdiv (IntKind.wrap .u32 (xh+jG)) (2 ^ (min (Int.toNat (IntKind.wrap .i64 ((8:Int)*(Int.tmod jo (4:Int))))) (IntKind.bits .u32)))))) fun h_29=>
 S4 v6 aM w8 mK (IntKind.wrap .i64 (jo+(1:Int))) h_29)
 (ldL .u8 64 h (mK.add 0) fun wZ=>
 stAll h v6 0 (lumpV .u8 64 wZ) fun h_31=>
 ldL .u8 64 h_31 (v6.add 0) fun MH=>
 Q (nrm 64 MH) h_31)
def fl (ρ:Ids) (Q:List Int->Hp->Prop) (v6:Addr) (aM:Addr) (w8:Addr) (mK:Addr) (jo:Int) (h:Hp):Prop:=
 Lfp (fun S vals h=>(tA fun v6=>tA fun aM=>tA fun w8=>tA fun mK=>tI .i64 fun jo=>tN (fj ρ (fun v6 aM w8 mK jo hh=>S [(.pointer (some v6)),(.pointer (some aM)),(.pointer (some w8)),(.pointer (some mK)),(.int .i64 jo)] hh) Q v6 aM w8 mK jo h)) vals) [(.pointer (some v6)),(.pointer (some aM)),(.pointer (some w8)),(.pointer (some mK)),(.int .i64 jo)] h
theorem mU (ρ:Ids) (Q:List Int->Hp->Prop) (v6:Addr) (aM:Addr) (w8:Addr) (mK:Addr) (jo:Int) (h:Hp) (H:fj ρ (fl ρ Q) Q v6 aM w8 mK jo h):fl ρ Q v6 aM w8 mK jo h:=qH H
def fm (ρ:Ids) (S1:Addr->Addr->Addr->Addr->Int->Hp->Prop) (Q:List Int->Hp->Prop) (v6:Addr) (aM:Addr) (w8:Addr) (bO:Addr) (v20:Int) (h:Hp):Prop:=
 br (decide (v20<(10:Int)))
 (fh ρ S1 Q v6 aM w8 bO v20 (0:Int) h)
 (alW h (ρ.T 23) (lumpV .u8 64 (List.replicate 64 0)) fun OT h_19=>
 fl ρ Q v6 aM w8 OT (0:Int) h_19)
def fq (ρ:Ids) (Q:List Int->Hp->Prop) (v6:Addr) (aM:Addr) (w8:Addr) (bO:Addr) (v20:Int) (h:Hp):Prop:=
 Lfp (fun S vals h=>(tA fun v6=>tA fun aM=>tA fun w8=>tF (ρ.G 119) fun jj lA=>(tA fun bO=>tN ((tI .i64 fun v20=>tN (fm ρ (fun v6 aM w8 bO v20 hh=>S [(.pointer (some v6)),(.pointer (some aM)),(.pointer (some w8)),(.func (.func (ρ.G 119)) #[] #[(.pointer (some bO))]),(.int .i64 v20)] hh) Q v6 aM w8 bO v20 h)) lA)) jj) vals) [(.pointer (some v6)),(.pointer (some aM)),(.pointer (some w8)),(.func (.func (ρ.G 119)) #[] #[(.pointer (some bO))]),(.int .i64 v20)] h
theorem mV (ρ:Ids) (Q:List Int->Hp->Prop) (v6:Addr) (aM:Addr) (w8:Addr) (bO:Addr) (v20:Int) (h:Hp) (H:fm ρ (fq ρ Q) Q v6 aM w8 bO v20 h):fq ρ Q v6 aM w8 bO v20 h:=qH (by
   simp only [tI,tA,tN,vk,sameKind,cnd]
   exact H)
def aG (ρ:Ids) (kq:List Int) (gR:List Int) (bg:Int) (h:Hp) (Q:List Int->Hp->Prop):Prop:=
 alW h (ρ.T 19) (lumpV .u8 32 kq) fun Ir h_2=>
 alW h_2 (ρ.T 22) (lumpV .u8 12 gR) fun Is h_4=>
 alW h_4 (ρ.T 23) (lumpV .u8 64 (List.replicate 64 0)) fun CN h_6=>
 ldL .u8 32 h_6 (Ir.add 0) fun I5=>
 ldL .u8 12 h_6 (Is.add 0) fun Ef=>
 aV ρ (nrm 32 I5) (nrm 12 Ef) bg h_6 fun DL h_10=>
 alW h_10 (ρ.T 24) (lumpV .u32 16 (List.replicate 16 0)) fun G4 h_12=>
 stAll h_12 G4 0 (lumpV .u32 16 DL) fun h_13=>
 ldL .u32 16 h_13 (G4.add 0) fun CM=>
 alW h_13 (ρ.T 24) (lumpV .u32 16 (List.replicate 16 0)) fun AV h_16=>
 stAll h_16 AV 0 (lumpV .u32 16 CM) fun h_17=>
 fq ρ Q CN G4 AV AV (0:Int) h_17
def cZ (ρ:Ids):Spec:=fun args h K=>
 (tG fun sI y4=>(tL .u8 32 fun kq=>tN ((tG fun AU G0=>(tL .u8 12 fun gR=>tN ((tI .u32 fun bg=>tN (aG ρ kq gR bg h (fun r0 h=>K (.agg (lumpV .u8 64 r0).toArray) h))) G0)) AU) y4)) sI) args
def cL (ρ:Ids) (b0:Sl) (h:Hp) (Q:Sl->Hp->Prop):Prop:=
 br (Option.isNone b0.a)
 (Q (⟨none,0,0⟩:Sl) h)
 (alW h (ρ.T 1) [] fun Ir h_2=>
 apW (ρ.T 1) 1 1 (.int .u8 (0:Int)) h_2 (⟨some Ir,0,0⟩:Sl) b0 fun s_3 h_4=>
 Q s_3 h_4)
def fA (ρ:Ids):Spec:=fun args h K=>
 (tS fun b0=>tN (cL ρ b0 h (fun r0 h=>K (.slice r0.a r0.len r0.cap) h))) args
def cx (ρ:Ids) (gq:Sl) (h:Hp) (Q:List Int->Hp->Prop):Prop:=
 Go.Ex.specOf Ek.yH [(.slice gq.a gq.len gq.cap)] h fun v h'=> ∃ r0,v=(.agg (lumpV .u8 32 r0).toArray)/\Q r0 h'
def ic (ρ:Ids):Spec:=fun args h K=>
 (tS fun gq=>tN (cx ρ gq h (fun r0 h=>K (.agg (lumpV .u8 32 r0).toArray) h))) args
def dH (ρ:Ids) (Q:List Int->Hp->Prop) (cS:Sl) (v4:Addr) (h:Hp):Prop:=
 alW h (ρ.T 26) [(.slice cS.a cS.len cS.cap)] fun AV h_16=>
 cx ρ (⟨some AV,1,1⟩:Sl) h_16 fun nt h_18=>
 stAll h_18 v4 0 (lumpV .u8 32 nt) fun h_19=>
 ldL .u8 32 h_19 (v4.add 0) fun Eg=>
 Q (nrm 32 Eg) h_19
def dI (ρ:Ids) (Q:List Int->Hp->Prop) (b0:Option Addr) (cS:Sl) (v4:Addr) (l9:Bool) (h:Hp):Prop:=
 br l9
 (nilW b0 fun CN=>
 ldS h (CN.add 0) fun xe=>
 cL ρ cS h fun gW h_8=>
 (hcell h_8 (CN.add 0)=some (.slice xe.a xe.len xe.cap))/\
 (alW h_8 (ρ.T 26) [(.slice gW.a gW.len gW.cap)] fun p_9 h_10=>
 (hcell h_10 (CN.add 0)=some (.slice xe.a xe.len xe.cap))/\
 (apW (ρ.T 26) 1 24 (.slice none 0 0) h_10 xe (⟨some p_9,1,1⟩:Sl) fun OX h_12=>
 nilW b0 fun abY=>
 st h_12 ((abY.add 0).add 0) (.slice OX.a OX.len OX.cap) fun h_14=>
 dH ρ Q cS v4 h_14)))
 (dH ρ Q cS v4 h)
def aP (ρ:Ids) (b0:Option Addr) (cS:Sl) (h:Hp) (Q:List Int->Hp->Prop):Prop:=
 alW h (ρ.T 19) (lumpV .u8 32 (List.replicate 32 0)) fun Ir h_2=>
 br (!(Option.isNone b0))
 (nilW b0 fun Is=>
 ldS h_2 (Is.add 0) fun uc=>
 dI ρ Q b0 cS Ir (decide ((uc.len:Int)<(100000:Int))) h_2)
 (dI ρ Q b0 cS Ir false h_2)
def dU (ρ:Ids):Spec:=fun args h K=>
 (tP fun b0=>tS fun cS=>tN (aP ρ b0 cS h (fun r0 h=>K (.agg (lumpV .u8 32 r0).toArray) h))) args
def aj (ρ:Ids) (l0:Sl) (bI:Int) (J9:Int) (Ka:Int) (Kc:List Int) (h:Hp) (Q:Bool->Hp->Prop):Prop:=
 Go.Ex.specOf Ek.TM [(.slice l0.a l0.len l0.cap),(.int .i64 bI),(.agg (([(.int .i64 J9),(.int .u32 Ka)]:List Value)++lumpV .u8 32 Kc).toArray)] h fun v h'=> ∃ r0,v=(.bool r0)/\Q r0 h'
def cJ (ρ:Ids):Spec:=fun args h K=>
 (tS fun l0=>tI .i64 fun bI=>tG fun OY TO=>(tI .i64 fun J9=>tI .u32 fun Ka=>tL .u8 32 fun Kc=>tN ((tN (aj ρ l0 bI J9 Ka Kc h (fun r0 h=>K (.bool r0) h))) TO)) OY) args
end Go.Tx
