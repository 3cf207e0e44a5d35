import Derived.Test.YtkgbogibfogjgaaGreatDoorTmJ
set_option linter.unusedVariables false
set_option linter.unusedSimpArgs false
set_option maxHeartbeats 4000000
set_option maxRecDepth 100000
namespace Go.Proofs.YtkgbogibfogjgaaGreatDoor.Lk
open Go Go.Wc Go.Proofs.YtkgbogibfogjgaaGreatDoor
open Go.Proofs.YtkgbogibfogjgaaGreatDoor.Ek (τ agree mixed ρ)
noncomputable def Wz:Code:=Tryz.f110.body.getD .skip
def Kt:Ann:=(.join 1 [0,1,2,3,4,9] (.plan (.take 0 [13,15] (.take 1 [13,15] (.take 2 [13,15] (.take 3 [13,15] (.take 4 [13,15] (.take 5 [13,15] (.take 6 [13,15] (.take 7 [13,15] (.take 8 [13,15] (.take 9 [13,15] (.take 10 [13,15] (.take 11 [13,15] (.take 12 [13,15] (.all (.alt 13 (.all (.alt 14 (.all (.alt 15 .done .nil)) .nil)) (.alt 14 (.all (.alt 13 (.all (.alt 15 .done .nil)) .nil)) .nil))))))))))))))))) (.plan (.take 0 [13,15,17,19] (.take 1 [15,17,19] (.take 2 [17,19] (.take 3 [19] (.take 4 [13,15,17,19] (.take 5 [13,15,17,19] (.take 6 [15,17,19] (.take 7 [15,17,19] (.take 8 [17,19] (.take 9 [17,19] (.take 10 [19] (.take 11 [19] (.take 12 [13,15,17,19] (.all (.alt 13 (.take 14 [15,17,19] (.all (.alt 15 (.take 16 [17,19] (.all (.alt 17 (.take 18 [19] (.all (.alt 19 .done .nil))) .nil))) .nil))) .nil)))))))))))))))))
def yc (K:Value→Hp→Prop):Src
 | 1,[],vals,h=>(tI .i64 fun a0=>tI .i64 fun b1=>tI .i64 fun c2=>tI .i64 fun d3=>tA fun v4=>tA fun q9=>tN (Tx.eI ρ (fun h=>K (.tuple [].toArray) h) a0 b1 c2 d3 v4 q9 h)) vals
 | _,_,_,_=>False
theorem DL (DK:SpecOk Tryz.prog 111 (Tx.eN ρ)):SpecOk Tryz.prog 110 (Tx.eO ρ):=by
 refine nY (c:=Wz) agree (fD DK cv) cv mixed Tryz.func110 (by kernel_rfl) (by kernel_rfl) Kt (by kernel_rfl) (yc) ?_ ?_
 ·intro args h K H
  unfold Tx.eO at H
  obtain ⟨a0,rr,rfl,H1⟩:=dA H
  obtain ⟨b1,rr,rfl,H2⟩:=dA H1
  obtain ⟨c2,rr,rfl,H3⟩:=dA H2
  obtain ⟨d3,rr,rfl,H4⟩:=dA H3
  obtain ⟨v4,rr,rfl,H5⟩:=cK H4
  obtain ⟨rfl,H6⟩:=cB H5
  exact n6 (by kernel_rfl) (by kernel_rfl) H6
 ·intro K k inner vals h hk hin H
  rw [show pts Kt=[1] from by kernel_rfl] at hk
  simp only [List.mem_cons,List.not_mem_nil,or_false] at hk
  rcases hk with rfl
  ·rw [show depth 1 Kt=0 from by kernel_rfl] at hin
   obtain rfl:=gv hin
   have H:yc K 1 [] vals h:=H
   simp only [yc] at H
   obtain ⟨a0,rr,rfl,H1⟩:=dA H
   obtain ⟨b1,rr,rfl,H2⟩:=dA H1
   obtain ⟨c2,rr,rfl,H3⟩:=dA H2
   obtain ⟨d3,rr,rfl,H4⟩:=dA H3
   obtain ⟨v4,rr,rfl,H5⟩:=cK H4
   obtain ⟨q9,rr,rfl,H6⟩:=cK H5
   obtain ⟨rfl,H7⟩:=cB H6
   exact cast (by kernel_rfl) H7
noncomputable def c96:Code:=Tryz.f96.body.getD .skip
def Ll:Ann:=(.seq .leaf (.seq .leaf (.seq .leaf (.seq .leaf (.seq (.seq .leaf (.block (.loop 1 [6,7,8,9,20] (.seq .leaf (.seq (.cond .leaf .leaf) (.seq (.block (.seq (.seq .leaf (.block (.loop 2 [6,7,8,9,20,22] (.seq .leaf (.seq (.cond .leaf .leaf) (.seq (.block (.seq .leaf .leaf)) .leaf)))))) (.seq .leaf (.block (.loop 3 [6,7,8,9,20,35] (.seq .leaf (.seq (.cond .leaf .leaf) (.seq (.block (.seq .leaf .leaf)) .leaf)))))))) .leaf)))))) (.seq .leaf (.seq (.seq .leaf (.block (.loop 4 [6,7,8,12,55] (.seq .leaf (.seq (.cond .leaf .leaf) (.seq (.block (.seq .leaf (.plan (.take 0 [16] (.take 1 [16] (.take 2 [16] (.take 3 [16] (.take 4 [16] (.take 5 [16] (.take 6 [16] (.take 7 [16] (.take 8 [16] (.take 9 [16] (.take 10 [16] (.take 11 [16] (.take 12 [16] (.take 13 [16] (.take 14 [16] (.take 15 [16] (.all (.alt 16 .done .nil))))))))))))))))))))) .leaf)))))) (.seq .leaf .leaf))))))))
def mC (K:Value→Hp→Prop):Src
 | 1,[T1],vals,h=>(tA fun v6=>tA fun aH=>tA fun w8=>tF (ρ.G 119) fun hJ jY=>(tA fun bB=>tN ((tI .i64 fun v20=>tN (Tx.eu ρ (fun v6 aH w8 bB v20 hh=>T1 [(.pointer (some v6)),(.pointer (some aH)),(.pointer (some w8)),(.func (.func (ρ.G 119)) #[] #[(.pointer (some bB))]),(.int .i64 v20)] hh) (fun r0 h=>K (.agg (lumpV .u8 64 r0).toArray) h) v6 aH w8 bB v20 h)) jY)) hJ) vals
 | 2,[T2,T1],vals,h=>(tA fun v6=>tA fun aH=>tA fun w8=>tF (ρ.G 119) fun hJ jY=>(tA fun bB=>tN ((tI .i64 fun v20=>tI .i64 fun fU=>tN (Tx.ef ρ (fun v6 aH w8 bB v20 hh=>T1 [(.pointer (some v6)),(.pointer (some aH)),(.pointer (some w8)),(.func (.func (ρ.G 119)) #[] #[(.pointer (some bB))]),(.int .i64 v20)] hh) (fun v6 aH w8 bB v20 fU hh=>T2 [(.pointer (some v6)),(.pointer (some aH)),(.pointer (some w8)),(.func (.func (ρ.G 119)) #[] #[(.pointer (some bB))]),(.int .i64 v20),(.int .i64 fU)] hh) (fun r0 h=>K (.agg (lumpV .u8 64 r0).toArray) h) v6 aH w8 bB v20 fU h)) jY)) hJ) vals
 | 3,[T3,T1],vals,h=>(tA fun v6=>tA fun aH=>tA fun w8=>tF (ρ.G 119) fun hJ jY=>(tA fun bB=>tN ((tI .i64 fun v20=>tI .i64 fun fC=>tN (Tx.dZ ρ (fun v6 aH w8 bB v20 hh=>T1 [(.pointer (some v6)),(.pointer (some aH)),(.pointer (some w8)),(.func (.func (ρ.G 119)) #[] #[(.pointer (some bB))]),(.int .i64 v20)] hh) (fun v6 aH w8 bB v20 fC hh=>T3 [(.pointer (some v6)),(.pointer (some aH)),(.pointer (some w8)),(.func (.func (ρ.G 119)) #[] #[(.pointer (some bB))]),(.int .i64 v20),(.int .i64 fC)] hh) (fun r0 h=>K (.agg (lumpV .u8 64 r0).toArray) h) v6 aH w8 bB v20 fC h)) jY)) hJ) vals
 | 4,[T4],vals,h=>(tA fun v6=>tA fun aH=>tA fun w8=>tA fun iA=>tI .i64 fun jo=>tN (Tx.eo ρ (fun v6 aH w8 iA jo hh=>T4 [(.pointer (some v6)),(.pointer (some aH)),(.pointer (some w8)),(.pointer (some iA)),(.int .i64 jo)] hh) (fun r0 h=>K (.agg (lumpV .u8 64 r0).toArray) h) v6 aH w8 iA jo h)) vals
 | _,_,_,_=>False
theorem WA (DJ:SpecOk Tryz.prog 109 (Tx.fQ ρ)) (DL:SpecOk Tryz.prog 110 (Tx.eO ρ)):SpecOk Tryz.prog 96 (Tx.cE ρ):=by
 refine nY (c:=c96) agree (fD DJ cv) (fD DL cv) mixed Tryz.func96 (by kernel_rfl) (by kernel_rfl) Ll (by kernel_rfl) (mC) ?_ ?_
 ·intro args h K H
  unfold Tx.cE at H
  obtain ⟨Wr,Ws,rfl,H1⟩:=kj H
  obtain ⟨fO,qq,rfl,H2⟩:=kg H1
  obtain ⟨rfl,H3⟩:=cB H2
  obtain ⟨cc1,rr1,rfl,H4⟩:=kj H3
  obtain ⟨fP,qq,rfl,H5⟩:=kg H4
  obtain ⟨rfl,H6⟩:=cB H5
  obtain ⟨aU,rr,rfl,H7⟩:=dA H6
  obtain ⟨rfl,H8⟩:=cB H7
  exact n6 (by kernel_rfl) (by kernel_rfl) H8
 ·intro K k inner vals h hk hin H
  rw [show pts Ll=[1,2,3,4] from by kernel_rfl] at hk
  simp only [List.mem_cons,List.not_mem_nil,or_false] at hk
  rcases hk with rfl | rfl | rfl | rfl
  ·rw [show depth 1 Ll=1 from by kernel_rfl] at hin
   obtain ⟨T1,rfl⟩:=cq hin
   have H:mC K 1 [T1] vals h:=H
   simp only [mC] at H
   obtain ⟨v6,rr,rfl,H1⟩:=cK H
   obtain ⟨aH,rr,rfl,H2⟩:=cK H1
   obtain ⟨w8,rr,rfl,H3⟩:=cK H2
   obtain ⟨X0,X1,rfl,H4⟩:=sn H3
   obtain ⟨bB,qq,rfl,H5⟩:=cK H4
   obtain ⟨rfl,H6⟩:=cB H5
   obtain ⟨v20,rr,rfl,H7⟩:=dA H6
   obtain ⟨rfl,H8⟩:=cB H7
   exact cast (by kernel_rfl) H8
  ·rw [show depth 2 Ll=2 from by kernel_rfl] at hin
   obtain ⟨T1,T2,rfl⟩:=mP hin
   have H:mC K 2 [T2,T1] vals h:=H
   simp only [mC] at H
   obtain ⟨v6,rr,rfl,H1⟩:=cK H
   obtain ⟨aH,rr,rfl,H2⟩:=cK H1
   obtain ⟨w8,rr,rfl,H3⟩:=cK H2
   obtain ⟨X0,X1,rfl,H4⟩:=sn H3
   obtain ⟨bB,qq,rfl,H5⟩:=cK H4
   obtain ⟨rfl,H6⟩:=cB H5
   obtain ⟨v20,rr,rfl,H7⟩:=dA H6
   obtain ⟨fU,rr,rfl,H8⟩:=dA H7
   obtain ⟨rfl,H9⟩:=cB H8
   exact cast (by kernel_rfl) H9
  ·rw [show depth 3 Ll=2 from by kernel_rfl] at hin
   obtain ⟨T1,T3,rfl⟩:=mP hin
   have H:mC K 3 [T3,T1] vals h:=H
   simp only [mC] at H
   obtain ⟨v6,rr,rfl,H1⟩:=cK H
   obtain ⟨aH,rr,rfl,H2⟩:=cK H1
   obtain ⟨w8,rr,rfl,H3⟩:=cK H2
   obtain ⟨X0,X1,rfl,H4⟩:=sn H3
   obtain ⟨bB,qq,rfl,H5⟩:=cK H4
   obtain ⟨rfl,H6⟩:=cB H5
   obtain ⟨v20,rr,rfl,H7⟩:=dA H6
   obtain ⟨fC,rr,rfl,H8⟩:=dA H7
   obtain ⟨rfl,H9⟩:=cB H8
   exact cast (by kernel_rfl) H9
  ·rw [show depth 4 Ll=1 from by kernel_rfl] at hin
   obtain ⟨T4,rfl⟩:=cq hin
   have H:mC K 4 [T4] vals h:=H
   simp only [mC] at H
   obtain ⟨v6,rr,rfl,H1⟩:=cK H
   obtain ⟨aH,rr,rfl,H2⟩:=cK H1
   obtain ⟨w8,rr,rfl,H3⟩:=cK H2
   obtain ⟨iA,rr,rfl,H4⟩:=cK H3
   obtain ⟨jo,rr,rfl,H5⟩:=dA H4
   obtain ⟨rfl,H6⟩:=cB H5
   exact cast (by kernel_rfl) H6
noncomputable def c45:Code:=Tryz.f45.body.getD .skip
def A45:Ann:=(.seq .leaf (.seq (.seq .leaf (.cond (.seq .leaf .leaf) .leaf)) (.seq .leaf .leaf)))
def P0 (_:Value→Hp→Prop):Src:=fun _ _ _ _=>False
theorem Ku:SpecOk Tryz.prog 45 (Tx.eD ρ):=by
 refine nY (c:=c45) agree cv cv mixed Tryz.func45 (by kernel_rfl) (by kernel_rfl) A45 (by kernel_rfl) (P0) ?_ ?_
 ·intro args h K H
  unfold Tx.eD at H
  obtain ⟨b0,rr,rfl,H1⟩:=ki H
  obtain ⟨rfl,H2⟩:=cB H1
  exact n6 (by kernel_rfl) (by kernel_rfl) H2
 ·intro K k inner vals h hk hin H
  exact H.elim
noncomputable def c64:Code:=Tryz.f64.body.getD .skip
def QK:Ann:=(.seq .leaf (.join 2 [1,4] (.join 1 [0,1,4,14] .leaf (.cond (.plan (.take 0 [11] (.take 1 [8,11] (.take 2 [8,11] (.take 3 [8,11] (.take 4 [8,11] (.take 5 [6,7,8,11] (.all (.alt 6 (.all (.alt 7 (.all (.alt 8 (.take 9 [11] (.take 10 [11] (.all (.alt 11 .done .nil)))) .nil)) .nil)) .nil))))))))) .leaf)) (.seq .leaf .leaf)))
def vP (K:Value→Hp→Prop):Src
 | 1,[],vals,h=>(tP fun b0=>tS fun cx=>tA fun v4=>tB fun uh=>tN (Tx.cX ρ (fun r0 h=>K (.agg (lumpV .u8 32 r0).toArray) h) b0 cx v4 uh h)) vals
 | 2,[],vals,h=>(tS fun cx=>tA fun v4=>tN (Tx.cW ρ (fun r0 h=>K (.agg (lumpV .u8 32 r0).toArray) h) cx v4 h)) vals
 | _,_,_,_=>False
theorem WC (Ku:SpecOk Tryz.prog 45 (Tx.eD ρ)) (Kq:SpecOk Tryz.prog 84 (Tx.gh ρ)):SpecOk Tryz.prog 64 (Tx.dw ρ):=by
 refine nY (c:=c64) agree (fD Kq (fD Ku cv)) cv mixed Tryz.func64 (by kernel_rfl) (by kernel_rfl) QK (by kernel_rfl) (vP) ?_ ?_
 ·intro args h K H
  unfold Tx.dw at H
  obtain ⟨b0,rr,rfl,H1⟩:=yF H
  obtain ⟨cx,rr,rfl,H2⟩:=ki H1
  obtain ⟨rfl,H3⟩:=cB H2
  exact n6 (by kernel_rfl) (by kernel_rfl) H3
 ·intro K k inner vals h hk hin H
  rw [show pts QK=[2,1] from by kernel_rfl] at hk
  simp only [List.mem_cons,List.not_mem_nil,or_false] at hk
  rcases hk with rfl | rfl
  ·rw [show depth 2 QK=0 from by kernel_rfl] at hin
   obtain rfl:=gv hin
   have H:vP K 2 [] vals h:=H
   simp only [vP] at H
   obtain ⟨cx,rr,rfl,H1⟩:=ki H
   obtain ⟨v4,rr,rfl,H2⟩:=cK H1
   obtain ⟨rfl,H3⟩:=cB H2
   exact cast (by kernel_rfl) H3
  ·rw [show depth 1 QK=0 from by kernel_rfl] at hin
   obtain rfl:=gv hin
   have H:vP K 1 [] vals h:=H
   simp only [vP] at H
   obtain ⟨b0,rr,rfl,H1⟩:=yF H
   obtain ⟨cx,rr,rfl,H2⟩:=ki H1
   obtain ⟨v4,rr,rfl,H3⟩:=cK H2
   obtain ⟨uh,rr,rfl,H4⟩:=EA H3
   obtain ⟨rfl,H5⟩:=cB H4
   exact cast (by kernel_rfl) H5
end Go.Proofs.YtkgbogibfogjgaaGreatDoor.Lk
