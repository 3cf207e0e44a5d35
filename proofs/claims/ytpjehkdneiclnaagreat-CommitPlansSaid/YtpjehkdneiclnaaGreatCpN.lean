import Derived.Test.YtpjehkdneiclnaaGreatCpJ
import Derived.Test.YtpjehkdneiclnaaGreatCpK
import Derived.Test.YtpjehkdneiclnaaGreatCpL
import Derived.Test.YtpjehkdneiclnaaGreatCpSort
set_option linter.unusedVariables false
set_option linter.unusedSimpArgs false
set_option maxHeartbeats 4000000
set_option maxRecDepth 100000
namespace Go.Proofs.YtpjehkdneiclnaaGreat.Lk
open Go Go.Wc Go.Proofs.YtpjehkdneiclnaaGreat
open Go.Proofs.YtpjehkdneiclnaaGreat.Ek (τ agree mixed ρ)
theorem PL:SpecOk Tryz.prog 36 (Tx.fO [93] ρ):=by
  refine uI (R:=Tryz.sorted_ren) Tryz.sorted (fun m=>⟨fun blk off cap ss W hH hblk hsz=>Go.callsIn_wide.2 (Go.Proofs.Any.slices_Sort_int Tryz.lays189 blk off cap ss W hH hblk hsz),fun p cap W=>Go.callsIn_wide.2 (Go.Proofs.Any.slices_Sort_int_none Tryz.lays189 p cap W)⟩) (enters_of Tryz.func56 (by kernel_rfl) rfl) ?_ ⟨_,Tryz.func36,by kernel_rfl,by kernel_rfl⟩
  intro k hk
  simp only [List.mem_cons,List.not_mem_nil,or_false] at hk
  rcases hk with rfl
  · exact ⟨Tryz.keys57_ren,{Tryz.keys57 with},by kernel_rfl,by rw [show ρ.G 93=57 from by kernel_rfl]; exact enters_of Tryz.func57 (by kernel_rfl) rfl⟩
noncomputable def c37:Code:=Tryz.f37.body.getD .skip
def A37:Ann:=(.seq .leaf (.seq .leaf .leaf))
def Vq (_:Value→Hp→Prop):Src:=fun _ _ _ _=>False
theorem PM:SpecOk Tryz.prog 37 (Tx.dX ρ):=by
  refine lB (c:=c37) agree dM dM mixed Tryz.func37 (by kernel_rfl) (by kernel_rfl) A37 (by kernel_rfl) (Vq) ?_ ?_
  · intro args h K H
    unfold Tx.dX at H
    obtain ⟨m0,rr,rfl,H1⟩:=tH H
    obtain ⟨rfl,H2⟩:=cA H1
    exact lC (by kernel_rfl) (by kernel_rfl) H2
  · intro K k inner vals h hk hin H
    exact H.elim
noncomputable def c15:Code:=Tryz.f15.body.getD .skip
def Vr:Ann:=(.seq .leaf (.seq .leaf (.seq (.seq .leaf (.block (.loop 1 [2,5,11,12,13] (.seq .leaf (.seq (.cond .leaf .leaf) (.seq (.block (.seq .leaf (.seq .leaf (.block (.loop 2 [2,5,11,12,13,19,20,21] (.seq .leaf (.seq (.cond .leaf .leaf) (.join 3 [2,5,11,12,13,19,20,21] (.block (.seq .leaf (.seq .leaf (.cond .leaf .leaf)))) .leaf)))))))) .leaf)))))) (.seq .leaf .leaf))))
def uJ (K:Value→Hp→Prop):Src
  | 1,[T1],vals,h=>(tA fun s2=>tM fun eS=>tS fun v11=>tI .i64 fun v12=>tI .i64 fun gF=>tN (Tx.iL ρ (fun s2 eS v11 v12 gF hh=>T1 [(.pointer (some s2)),(.map eS),(.slice v11.a v11.len v11.cap),(.int .i64 v12),(.int .i64 gF)] hh) (fun r0 h=>K (.slice r0.a r0.len r0.cap) h) s2 eS v11 v12 gF h)) vals
  | 2,[T2,T1],vals,h=>(tA fun s2=>tM fun eS=>tS fun v11=>tI .i64 fun v12=>tI .i64 fun gF=>tS fun fF=>tI .i64 fun v20=>tI .i64 fun v21=>tN (Tx.iM ρ (fun s2 eS v11 v12 gF hh=>T1 [(.pointer (some s2)),(.map eS),(.slice v11.a v11.len v11.cap),(.int .i64 v12),(.int .i64 gF)] hh) (fun s2 eS v11 v12 gF fF v20 v21 hh=>T2 [(.pointer (some s2)),(.map eS),(.slice v11.a v11.len v11.cap),(.int .i64 v12),(.int .i64 gF),(.slice fF.a fF.len fF.cap),(.int .i64 v20),(.int .i64 v21)] hh) (fun r0 h=>K (.slice r0.a r0.len r0.cap) h) s2 eS v11 v12 gF fF v20 v21 h)) vals
  | 3,[T2,T1],vals,h=>(tA fun s2=>tM fun eS=>tS fun v11=>tI .i64 fun v12=>tI .i64 fun gF=>tS fun fF=>tI .i64 fun v20=>tI .i64 fun v21=>tN (Tx.iN ρ (fun s2 eS v11 v12 gF hh=>T1 [(.pointer (some s2)),(.map eS),(.slice v11.a v11.len v11.cap),(.int .i64 v12),(.int .i64 gF)] hh) (fun s2 eS v11 v12 gF fF v20 v21 hh=>T2 [(.pointer (some s2)),(.map eS),(.slice v11.a v11.len v11.cap),(.int .i64 v12),(.int .i64 gF),(.slice fF.a fF.len fF.cap),(.int .i64 v20),(.int .i64 v21)] hh) (fun r0 h=>K (.slice r0.a r0.len r0.cap) h) s2 eS v11 v12 gF fF v20 v21 h)) vals
  | _,_,_,_=>False
theorem PN (Pk:SpecOk Tryz.prog 35 (Tx.gK ρ)) (PL:SpecOk Tryz.prog 36 (Tx.fO [93] ρ)) (PM:SpecOk Tryz.prog 37 (Tx.dX ρ)):SpecOk Tryz.prog 15 (Tx.iq ρ):=by
  refine lB (c:=c15) agree (dm PM (dm PL (dm Pk dM))) dM mixed Tryz.func15 (by kernel_rfl) (by kernel_rfl) Vr (by kernel_rfl) (uJ) ?_ ?_
  · intro args h K H
    unfold Tx.iq at H
    obtain ⟨Km,Kn,rfl,H1⟩:=gz H
    obtain ⟨jc,qq,rfl,H2⟩:=cY H1
    obtain ⟨rfl,H3⟩:=cA H2
    obtain ⟨eo,rr,rfl,H4⟩:=cY H3
    obtain ⟨rfl,H5⟩:=cA H4
    exact lC (by kernel_rfl) (by kernel_rfl) H5
  · intro K k inner vals h hk hin H
    rw [show pts Vr=[1,2,3] from by kernel_rfl] at hk
    simp only [List.mem_cons,List.not_mem_nil,or_false] at hk
    rcases hk with rfl | rfl | rfl
    · rw [show depth 1 Vr = 1 from by kernel_rfl] at hin
      obtain ⟨T1,rfl⟩:=dh hin
      have H:uJ K 1 [T1] vals h:=H
      simp only [uJ] at H
      obtain ⟨s2,rr,rfl,H1⟩:=dA H
      obtain ⟨eS,rr,rfl,H2⟩:=tH H1
      obtain ⟨v11,rr,rfl,H3⟩:=cY H2
      obtain ⟨v12,rr,rfl,H4⟩:=cG H3
      obtain ⟨gF,rr,rfl,H5⟩:=cG H4
      obtain ⟨rfl,H6⟩:=cA H5
      exact cast (by kernel_rfl) H6
    · rw [show depth 2 Vr = 2 from by kernel_rfl] at hin
      obtain ⟨T1,T2,rfl⟩:=lV hin
      have H:uJ K 2 [T2,T1] vals h:=H
      simp only [uJ] at H
      obtain ⟨s2,rr,rfl,H1⟩:=dA H
      obtain ⟨eS,rr,rfl,H2⟩:=tH H1
      obtain ⟨v11,rr,rfl,H3⟩:=cY H2
      obtain ⟨v12,rr,rfl,H4⟩:=cG H3
      obtain ⟨gF,rr,rfl,H5⟩:=cG H4
      obtain ⟨fF,rr,rfl,H6⟩:=cY H5
      obtain ⟨v20,rr,rfl,H7⟩:=cG H6
      obtain ⟨v21,rr,rfl,H8⟩:=cG H7
      obtain ⟨rfl,H9⟩:=cA H8
      exact cast (by kernel_rfl) H9
    · rw [show depth 3 Vr = 2 from by kernel_rfl] at hin
      obtain ⟨T1,T2,rfl⟩:=lV hin
      have H:uJ K 3 [T2,T1] vals h:=H
      simp only [uJ] at H
      obtain ⟨s2,rr,rfl,H1⟩:=dA H
      obtain ⟨eS,rr,rfl,H2⟩:=tH H1
      obtain ⟨v11,rr,rfl,H3⟩:=cY H2
      obtain ⟨v12,rr,rfl,H4⟩:=cG H3
      obtain ⟨gF,rr,rfl,H5⟩:=cG H4
      obtain ⟨fF,rr,rfl,H6⟩:=cY H5
      obtain ⟨v20,rr,rfl,H7⟩:=cG H6
      obtain ⟨v21,rr,rfl,H8⟩:=cG H7
      obtain ⟨rfl,H9⟩:=cA H8
      exact cast (by kernel_rfl) H9
noncomputable def c21:Code:=Tryz.f21.body.getD .skip
def A21:Ann:=(.seq .leaf (.seq (.seq .leaf (.cond (.seq .leaf .leaf) .leaf)) (.seq .leaf .leaf)))
def Vs (_:Value→Hp→Prop):Src:=fun _ _ _ _=>False
theorem PO:SpecOk Tryz.prog 21 (Tx.dc ρ):=by
  refine lB (c:=c21) agree dM dM mixed Tryz.func21 (by kernel_rfl) (by kernel_rfl) A21 (by kernel_rfl) (Vs) ?_ ?_
  · intro args h K H
    unfold Tx.dc at H
    obtain ⟨s0,rr,rfl,H1⟩:=cY H
    obtain ⟨rfl,H2⟩:=cA H1
    exact lC (by kernel_rfl) (by kernel_rfl) H2
  · intro K k inner vals h hk hin H
    exact H.elim
noncomputable def aen:Code:=Tryz.f108.body.getD .skip
def P3:Ann:=(.join 1 [0,1,2,3,4,9] (.plan (.take 0 [13,15] (.take 1 [13,15] (.take 2 [13,15] (.take 3 [13,15] (.take 4 [13,15] (.take 5 [13,15] (.take 6 [13,15] (.take 7 [13,15] (.take 8 [13,15] (.take 9 [13,15] (.take 10 [13,15] (.take 11 [13,15] (.take 12 [13,15] (.all (.alt 13 (.all (.alt 14 (.all (.alt 15 .done .nil)) .nil)) (.alt 14 (.all (.alt 13 (.all (.alt 15 .done .nil)) .nil)) .nil))))))))))))))))) (.plan (.take 0 [13,15,17,19] (.take 1 [15,17,19] (.take 2 [17,19] (.take 3 [19] (.take 4 [13,15,17,19] (.take 5 [13,15,17,19] (.take 6 [15,17,19] (.take 7 [15,17,19] (.take 8 [17,19] (.take 9 [17,19] (.take 10 [19] (.take 11 [19] (.take 12 [13,15,17,19] (.all (.alt 13 (.take 14 [15,17,19] (.all (.alt 15 (.take 16 [17,19] (.all (.alt 17 (.take 18 [19] (.all (.alt 19 .done .nil))) .nil))) .nil))) .nil)))))))))))))))))
def BG (K:Value→Hp→Prop):Src
  | 1,[],vals,h=>(tI .i64 fun a0=>tI .i64 fun b1=>tI .i64 fun c2=>tI .i64 fun d3=>tA fun v4=>tA fun q9=>tN (Tx.iD ρ (fun h=>K (.tuple [].toArray) h) a0 b1 c2 d3 v4 q9 h)) vals
  | _,_,_,_=>False
theorem HO (GV:SpecOk Tryz.prog 109 (Tx.je ρ)):SpecOk Tryz.prog 108 (Tx.jh ρ):=by
  refine lB (c:=aen) agree (dm GV dM) dM mixed Tryz.func108 (by kernel_rfl) (by kernel_rfl) P3 (by kernel_rfl) (BG) ?_ ?_
  · intro args h K H
    unfold Tx.jh at H
    obtain ⟨a0,rr,rfl,H1⟩:=cG H
    obtain ⟨b1,rr,rfl,H2⟩:=cG H1
    obtain ⟨c2,rr,rfl,H3⟩:=cG H2
    obtain ⟨d3,rr,rfl,H4⟩:=cG H3
    obtain ⟨v4,rr,rfl,H5⟩:=dA H4
    obtain ⟨rfl,H6⟩:=cA H5
    exact lC (by kernel_rfl) (by kernel_rfl) H6
  · intro K k inner vals h hk hin H
    rw [show pts P3=[1] from by kernel_rfl] at hk
    simp only [List.mem_cons,List.not_mem_nil,or_false] at hk
    rcases hk with rfl
    · rw [show depth 1 P3 = 0 from by kernel_rfl] at hin
      obtain rfl:=jl hin
      have H:BG K 1 [] vals h:=H
      simp only [BG] at H
      obtain ⟨a0,rr,rfl,H1⟩:=cG H
      obtain ⟨b1,rr,rfl,H2⟩:=cG H1
      obtain ⟨c2,rr,rfl,H3⟩:=cG H2
      obtain ⟨d3,rr,rfl,H4⟩:=cG H3
      obtain ⟨v4,rr,rfl,H5⟩:=dA H4
      obtain ⟨q9,rr,rfl,H6⟩:=dA H5
      obtain ⟨rfl,H7⟩:=cA H6
      exact cast (by kernel_rfl) H7
noncomputable def c95:Code:=Tryz.f95.body.getD .skip
def Ro:Ann:=(.seq .leaf (.seq .leaf (.seq .leaf (.seq .leaf (.seq (.seq .leaf (.block (.loop 1 [6,7,8,9,20] (.seq .leaf (.seq (.cond .leaf .leaf) (.seq (.block (.seq (.seq .leaf (.block (.loop 2 [6,7,8,9,20,22] (.seq .leaf (.seq (.cond .leaf .leaf) (.seq (.block (.seq .leaf .leaf)) .leaf)))))) (.seq .leaf (.block (.loop 3 [6,7,8,9,20,35] (.seq .leaf (.seq (.cond .leaf .leaf) (.seq (.block (.seq .leaf .leaf)) .leaf)))))))) .leaf)))))) (.seq .leaf (.seq (.seq .leaf (.block (.loop 4 [6,7,8,12,55] (.seq .leaf (.seq (.cond .leaf .leaf) (.seq (.block (.seq .leaf (.plan (.take 0 [16] (.take 1 [16] (.take 2 [16] (.take 3 [16] (.take 4 [16] (.take 5 [16] (.take 6 [16] (.take 7 [16] (.take 8 [16] (.take 9 [16] (.take 10 [16] (.take 11 [16] (.take 12 [16] (.take 13 [16] (.take 14 [16] (.take 15 [16] (.all (.alt 16 .done .nil))))))))))))))))))))) .leaf)))))) (.seq .leaf .leaf))))))))
def qG (K:Value→Hp→Prop):Src
  | 1,[T1],vals,h=>(tA fun v6=>tA fun bw=>tA fun w8=>tF (ρ.G 119) fun ku mW=>(tA fun cF=>tN ((tI .i64 fun v20=>tN (Tx.gZ ρ (fun v6 bw w8 cF v20 hh=>T1 [(.pointer (some v6)),(.pointer (some bw)),(.pointer (some w8)),(.func (.func (ρ.G 119)) #[] #[(.pointer (some cF))]),(.int .i64 v20)] hh) (fun r0 h=>K (.agg (lumpV .u8 64 r0).toArray) h) v6 bw w8 cF v20 h)) mW)) ku) vals
  | 2,[T2,T1],vals,h=>(tA fun v6=>tA fun bw=>tA fun w8=>tF (ρ.G 119) fun ku mW=>(tA fun cF=>tN ((tI .i64 fun v20=>tI .i64 fun l9=>tN (Tx.hM ρ (fun v6 bw w8 cF v20 hh=>T1 [(.pointer (some v6)),(.pointer (some bw)),(.pointer (some w8)),(.func (.func (ρ.G 119)) #[] #[(.pointer (some cF))]),(.int .i64 v20)] hh) (fun v6 bw w8 cF v20 l9 hh=>T2 [(.pointer (some v6)),(.pointer (some bw)),(.pointer (some w8)),(.func (.func (ρ.G 119)) #[] #[(.pointer (some cF))]),(.int .i64 v20),(.int .i64 l9)] hh) (fun r0 h=>K (.agg (lumpV .u8 64 r0).toArray) h) v6 bw w8 cF v20 l9 h)) mW)) ku) vals
  | 3,[T3,T1],vals,h=>(tA fun v6=>tA fun bw=>tA fun w8=>tF (ρ.G 119) fun ku mW=>(tA fun cF=>tN ((tI .i64 fun v20=>tI .i64 fun jB=>tN (Tx.hU ρ (fun v6 bw w8 cF v20 hh=>T1 [(.pointer (some v6)),(.pointer (some bw)),(.pointer (some w8)),(.func (.func (ρ.G 119)) #[] #[(.pointer (some cF))]),(.int .i64 v20)] hh) (fun v6 bw w8 cF v20 jB hh=>T3 [(.pointer (some v6)),(.pointer (some bw)),(.pointer (some w8)),(.func (.func (ρ.G 119)) #[] #[(.pointer (some cF))]),(.int .i64 v20),(.int .i64 jB)] hh) (fun r0 h=>K (.agg (lumpV .u8 64 r0).toArray) h) v6 bw w8 cF v20 jB h)) mW)) ku) vals
  | 4,[T4],vals,h=>(tA fun v6=>tA fun bw=>tA fun w8=>tA fun pJ=>tI .i64 fun l6=>tN (Tx.ia ρ (fun v6 bw w8 pJ l6 hh=>T4 [(.pointer (some v6)),(.pointer (some bw)),(.pointer (some w8)),(.pointer (some pJ)),(.int .i64 l6)] hh) (fun r0 h=>K (.agg (lumpV .u8 64 r0).toArray) h) v6 bw w8 pJ l6 h)) vals
  | _,_,_,_=>False
theorem ad7 (GU:SpecOk Tryz.prog 107 (Tx.jL ρ)) (HO:SpecOk Tryz.prog 108 (Tx.jh ρ)):SpecOk Tryz.prog 95 (Tx.iG ρ):=by
  refine lB (c:=c95) agree (dm GU dM) (dm HO dM) mixed Tryz.func95 (by kernel_rfl) (by kernel_rfl) Ro (by kernel_rfl) (qG) ?_ ?_
  · intro args h K H
    unfold Tx.iG at H
    obtain ⟨Km,Kn,rfl,H1⟩:=gz H
    obtain ⟨nk,qq,rfl,H2⟩:=jK H1
    obtain ⟨rfl,H3⟩:=cA H2
    obtain ⟨XR,XS,rfl,H4⟩:=gz H3
    obtain ⟨jM,qq,rfl,H5⟩:=jK H4
    obtain ⟨rfl,H6⟩:=cA H5
    obtain ⟨bM,rr,rfl,H7⟩:=cG H6
    obtain ⟨rfl,H8⟩:=cA H7
    exact lC (by kernel_rfl) (by kernel_rfl) H8
  · intro K k inner vals h hk hin H
    rw [show pts Ro=[1,2,3,4] from by kernel_rfl] at hk
    simp only [List.mem_cons,List.not_mem_nil,or_false] at hk
    rcases hk with rfl | rfl | rfl | rfl
    · rw [show depth 1 Ro = 1 from by kernel_rfl] at hin
      obtain ⟨T1,rfl⟩:=dh hin
      have H:qG K 1 [T1] vals h:=H
      simp only [qG] at H
      obtain ⟨v6,rr,rfl,H1⟩:=dA H
      obtain ⟨bw,rr,rfl,H2⟩:=dA H1
      obtain ⟨w8,rr,rfl,H3⟩:=dA H2
      obtain ⟨cc3,rr3,rfl,H4⟩:=xW H3
      obtain ⟨cF,qq,rfl,H5⟩:=dA H4
      obtain ⟨rfl,H6⟩:=cA H5
      obtain ⟨v20,rr,rfl,H7⟩:=cG H6
      obtain ⟨rfl,H8⟩:=cA H7
      exact cast (by kernel_rfl) H8
    · rw [show depth 2 Ro = 2 from by kernel_rfl] at hin
      obtain ⟨T1,T2,rfl⟩:=lV hin
      have H:qG K 2 [T2,T1] vals h:=H
      simp only [qG] at H
      obtain ⟨v6,rr,rfl,H1⟩:=dA H
      obtain ⟨bw,rr,rfl,H2⟩:=dA H1
      obtain ⟨w8,rr,rfl,H3⟩:=dA H2
      obtain ⟨cc3,rr3,rfl,H4⟩:=xW H3
      obtain ⟨cF,qq,rfl,H5⟩:=dA H4
      obtain ⟨rfl,H6⟩:=cA H5
      obtain ⟨v20,rr,rfl,H7⟩:=cG H6
      obtain ⟨l9,rr,rfl,H8⟩:=cG H7
      obtain ⟨rfl,H9⟩:=cA H8
      exact cast (by kernel_rfl) H9
    · rw [show depth 3 Ro = 2 from by kernel_rfl] at hin
      obtain ⟨T1,T3,rfl⟩:=lV hin
      have H:qG K 3 [T3,T1] vals h:=H
      simp only [qG] at H
      obtain ⟨v6,rr,rfl,H1⟩:=dA H
      obtain ⟨bw,rr,rfl,H2⟩:=dA H1
      obtain ⟨w8,rr,rfl,H3⟩:=dA H2
      obtain ⟨cc3,rr3,rfl,H4⟩:=xW H3
      obtain ⟨cF,qq,rfl,H5⟩:=dA H4
      obtain ⟨rfl,H6⟩:=cA H5
      obtain ⟨v20,rr,rfl,H7⟩:=cG H6
      obtain ⟨jB,rr,rfl,H8⟩:=cG H7
      obtain ⟨rfl,H9⟩:=cA H8
      exact cast (by kernel_rfl) H9
    · rw [show depth 4 Ro = 1 from by kernel_rfl] at hin
      obtain ⟨T4,rfl⟩:=dh hin
      have H:qG K 4 [T4] vals h:=H
      simp only [qG] at H
      obtain ⟨v6,rr,rfl,H1⟩:=dA H
      obtain ⟨bw,rr,rfl,H2⟩:=dA H1
      obtain ⟨w8,rr,rfl,H3⟩:=dA H2
      obtain ⟨pJ,rr,rfl,H4⟩:=dA H3
      obtain ⟨l6,rr,rfl,H5⟩:=cG H4
      obtain ⟨rfl,H6⟩:=cA H5
      exact cast (by kernel_rfl) H6
noncomputable def c64:Code:=Tryz.f64.body.getD .skip
def A64:Ann:=(.seq .leaf (.seq (.seq .leaf (.cond (.seq .leaf .leaf) .leaf)) (.seq .leaf .leaf)))
def Vt (_:Value→Hp→Prop):Src:=fun _ _ _ _=>False
theorem PW:SpecOk Tryz.prog 64 (Tx.ir ρ):=by
  refine lB (c:=c64) agree dM dM mixed Tryz.func64 (by kernel_rfl) (by kernel_rfl) A64 (by kernel_rfl) (Vt) ?_ ?_
  · intro args h K H
    unfold Tx.ir at H
    obtain ⟨b0,rr,rfl,H1⟩:=cY H
    obtain ⟨rfl,H2⟩:=cA H1
    exact lC (by kernel_rfl) (by kernel_rfl) H2
  · intro K k inner vals h hk hin H
    exact H.elim
noncomputable def c62:Code:=Tryz.f62.body.getD .skip
def XA:Ann:=(.seq .leaf (.join 2 [1,4] (.join 1 [0,1,4,14] .leaf (.cond (.plan (.take 0 [11] (.take 1 [8,11] (.take 2 [8,11] (.take 3 [8,11] (.take 4 [8,11] (.take 5 [6,7,8,11] (.all (.alt 6 (.all (.alt 7 (.all (.alt 8 (.take 9 [11] (.take 10 [11] (.all (.alt 11 .done .nil)))) .nil)) .nil)) .nil))))))))) .leaf)) (.seq .leaf .leaf)))
def zJ (K:Value→Hp→Prop):Src
  | 1,[],vals,h=>(tP fun b0=>tS fun eG=>tA fun v4=>tB fun kO=>tN (Tx.fP ρ (fun r0 h=>K (.agg (lumpV .u8 32 r0).toArray) h) b0 eG v4 kO h)) vals
  | 2,[],vals,h=>(tS fun eG=>tA fun v4=>tN (Tx.fQ ρ (fun r0 h=>K (.agg (lumpV .u8 32 r0).toArray) h) eG v4 h)) vals
  | _,_,_,_=>False
theorem aef (PW:SpecOk Tryz.prog 64 (Tx.ir ρ)) (Pp:SpecOk Tryz.prog 77 (Tx.oM ρ)):SpecOk Tryz.prog 62 (Tx.fV ρ):=by
  refine lB (c:=c62) agree (dm Pp (dm PW dM)) dM mixed Tryz.func62 (by kernel_rfl) (by kernel_rfl) XA (by kernel_rfl) (zJ) ?_ ?_
  · intro args h K H
    unfold Tx.fV at H
    obtain ⟨b0,rr,rfl,H1⟩:=lZ H
    obtain ⟨eG,rr,rfl,H2⟩:=cY H1
    obtain ⟨rfl,H3⟩:=cA H2
    exact lC (by kernel_rfl) (by kernel_rfl) H3
  · intro K k inner vals h hk hin H
    rw [show pts XA=[2,1] from by kernel_rfl] at hk
    simp only [List.mem_cons,List.not_mem_nil,or_false] at hk
    rcases hk with rfl | rfl
    · rw [show depth 2 XA = 0 from by kernel_rfl] at hin
      obtain rfl:=jl hin
      have H:zJ K 2 [] vals h:=H
      simp only [zJ] at H
      obtain ⟨eG,rr,rfl,H1⟩:=cY H
      obtain ⟨v4,rr,rfl,H2⟩:=dA H1
      obtain ⟨rfl,H3⟩:=cA H2
      exact cast (by kernel_rfl) H3
    · rw [show depth 1 XA = 0 from by kernel_rfl] at hin
      obtain rfl:=jl hin
      have H:zJ K 1 [] vals h:=H
      simp only [zJ] at H
      obtain ⟨b0,rr,rfl,H1⟩:=lZ H
      obtain ⟨eG,rr,rfl,H2⟩:=cY H1
      obtain ⟨v4,rr,rfl,H3⟩:=dA H2
      obtain ⟨kO,rr,rfl,H4⟩:=C9 H3
      obtain ⟨rfl,H5⟩:=cA H4
      exact cast (by kernel_rfl) H5
noncomputable def c20:Code:=Tryz.f20.body.getD .skip
def XB:Ann:=(.seq .leaf (.join 2 [0,1,2,6] (.seq .leaf (.seq .leaf (.cond .leaf .leaf))) (.seq (.plan (.take 0 [10] (.take 1 [10] (.take 2 [10] (.take 3 [10] (.take 4 [10] (.take 5 [10] (.take 6 [10] (.take 7 [10] (.take 8 [10] (.take 9 [10] (.all (.alt 10 (.take 11 [] .done) .nil))))))))))))) (.join 1 [0,6,10,11,12] (.plan (.take 0 [19,26] (.take 1 [19,26] (.take 2 [19,26] (.take 3 [19,26] (.take 4 [19,26] (.take 5 [19,26] (.take 6 [19,26] (.take 7 [19,26] (.take 8 [19,26] (.take 9 [19,26] (.take 10 [19,26] (.take 11 [19,26] (.take 12 [19,26] (.take 13 [19,26] (.take 14 [19,26] (.take 15 [19,26] (.take 16 [19,26] (.take 17 [19,26] (.take 18 [19,26] (.all (.alt 19 (.take 20 [26] (.take 21 [26] (.take 22 [26] (.take 23 [] (.all (.alt 24 (.take 25 [26] (.all (.alt 26 (.take 27 [] .done) .nil))) .nil)))))) (.alt 24 (.all (.alt 19 (.take 20 [26] (.take 21 [26] (.take 22 [26] (.take 23 [] (.take 25 [26] (.all (.alt 26 (.take 27 [] .done) .nil))))))) .nil)) .nil))))))))))))))))))))))) (.seq .leaf .leaf)))))
def zK (K:Value→Hp→Prop):Src
  | 1,[],vals,h=>(tP fun p0=>tA fun oh=>tI .i64 fun n10=>tS fun A1=>tA fun HU=>tN (Tx.eB ρ (fun h=>K (.tuple [].toArray) h) p0 oh n10 A1 HU h)) vals
  | 2,[],vals,h=>(tP fun p0=>tI .i64 fun bA=>tS fun gY=>tA fun oh=>tN (Tx.eV ρ (fun h=>K (.tuple [].toArray) h) p0 bA gY oh h)) vals
  | _,_,_,_=>False
theorem PX (Pm:SpecOk Tryz.prog 44 (Tx.gf ρ)) (Pn:SpecOk Tryz.prog 45 (Tx.gA ρ)) (Po:SpecOk Tryz.prog 46 (Tx.lY ρ)):SpecOk Tryz.prog 20 (Tx.fZ ρ):=by
  refine lB (c:=c20) agree (dm Po (dm Pn (dm Pm dM))) dM mixed Tryz.func20 (by kernel_rfl) (by kernel_rfl) XB (by kernel_rfl) (zK) ?_ ?_
  · intro args h K H
    unfold Tx.fZ at H
    obtain ⟨p0,rr,rfl,H1⟩:=lZ H
    obtain ⟨bA,rr,rfl,H2⟩:=cG H1
    obtain ⟨gY,rr,rfl,H3⟩:=cY H2
    obtain ⟨rfl,H4⟩:=cA H3
    exact lC (by kernel_rfl) (by kernel_rfl) H4
  · intro K k inner vals h hk hin H
    rw [show pts XB=[2,1] from by kernel_rfl] at hk
    simp only [List.mem_cons,List.not_mem_nil,or_false] at hk
    rcases hk with rfl | rfl
    · rw [show depth 2 XB = 0 from by kernel_rfl] at hin
      obtain rfl:=jl hin
      have H:zK K 2 [] vals h:=H
      simp only [zK] at H
      obtain ⟨p0,rr,rfl,H1⟩:=lZ H
      obtain ⟨bA,rr,rfl,H2⟩:=cG H1
      obtain ⟨gY,rr,rfl,H3⟩:=cY H2
      obtain ⟨oh,rr,rfl,H4⟩:=dA H3
      obtain ⟨rfl,H5⟩:=cA H4
      exact cast (by kernel_rfl) H5
    · rw [show depth 1 XB = 0 from by kernel_rfl] at hin
      obtain rfl:=jl hin
      have H:zK K 1 [] vals h:=H
      simp only [zK] at H
      obtain ⟨p0,rr,rfl,H1⟩:=lZ H
      obtain ⟨oh,rr,rfl,H2⟩:=dA H1
      obtain ⟨n10,rr,rfl,H3⟩:=cG H2
      obtain ⟨A1,rr,rfl,H4⟩:=cY H3
      obtain ⟨HU,rr,rfl,H5⟩:=dA H4
      obtain ⟨rfl,H6⟩:=cA H5
      exact cast (by kernel_rfl) H6
noncomputable def c9:Code:=Tryz.f9.body.getD .skip
def A9:Ann:=(.seq .leaf (.seq (.join 1 [0,2,5,6,8,10,11,16,38] .leaf (.cond (.seq .leaf .leaf) .leaf)) (.seq .leaf (.seq (.plan (.take 0 [3] (.take 1 [2,3] (.all (.alt 2 (.all (.alt 3 (.take 4 [] .done) .nil)) .nil))))) (.seq (.seq .leaf (.block (.loop 2 [5,6,16,18,19,52,53,54] (.seq .leaf (.seq (.cond .leaf .leaf) (.seq (.block (.seq .leaf (.plan (.take 0 [11] (.take 1 [11] (.take 2 [11] (.take 3 [11] (.take 4 [11] (.take 5 [7,11] (.take 6 [7,11] (.all (.alt 7 (.take 8 [11] (.take 9 [11] (.take 10 [] (.all (.alt 11 .done .nil))))) .nil)))))))))))) .leaf)))))) (.seq (.seq .leaf (.block (.loop 3 [16,18,19,70,71,72] (.seq .leaf (.seq (.cond .leaf .leaf) (.seq (.block (.seq .leaf .leaf)) .leaf)))))) (.seq .leaf (.seq (.seq .leaf (.block (.loop 4 [16,18,24,83,84,85] (.seq .leaf (.seq (.cond .leaf .leaf) (.seq (.block (.seq .leaf (.seq .leaf (.seq .leaf .leaf)))) .leaf)))))) (.seq (.plan (.take 0 [11] (.take 1 [11] (.take 2 [11] (.take 3 [11] (.take 4 [11] (.take 5 [11] (.take 6 [11] (.take 7 [11] (.take 8 [11] (.take 9 [11] (.take 10 [11] (.all (.alt 11 (.take 12 [] .done) .nil)))))))))))))) .leaf)))))))))
def xX (K:Value→Hp→Prop):Src
  | 1,[],vals,h=>(tP fun b0=>tI .u32 fun cU=>tS fun cP=>tS fun bT=>tA fun rK=>tA fun xS=>tA fun gQ=>tA fun ej=>tB fun G7=>tN (Tx.iO ρ (fun r0 r1 r2 r3 r4 r5 h=>K (.tuple [(.slice r0.a r0.len r0.cap),(.slice r1.a r1.len r1.cap),(.agg (([(.int .i64 r2),(.int .u32 r3)]:List Value)++lumpV .u8 32 r4).toArray),(.int .i64 r5)].toArray) h) b0 cU cP bT rK xS gQ ej G7 h)) vals
  | 2,[T2],vals,h=>(tS fun cP=>tS fun bT=>tA fun ej=>tA fun jY=>tS fun cL=>tS fun pL=>tI .i64 fun v53=>tI .i64 fun rC=>tN (Tx.iP ρ (fun cP bT ej jY cL pL v53 rC hh=>T2 [(.slice cP.a cP.len cP.cap),(.slice bT.a bT.len bT.cap),(.pointer (some ej)),(.pointer (some jY)),(.slice cL.a cL.len cL.cap),(.slice pL.a pL.len pL.cap),(.int .i64 v53),(.int .i64 rC)] hh) (fun r0 r1 r2 r3 r4 r5 h=>K (.tuple [(.slice r0.a r0.len r0.cap),(.slice r1.a r1.len r1.cap),(.agg (([(.int .i64 r2),(.int .u32 r3)]:List Value)++lumpV .u8 32 r4).toArray),(.int .i64 r5)].toArray) h) cP bT ej jY cL pL v53 rC h)) vals
  | 3,[T3],vals,h=>(tA fun ej=>tA fun jY=>tS fun cL=>tS fun v70=>tI .i64 fun nA=>tI .i64 fun v72=>tN (Tx.iQ ρ (fun ej jY cL v70 nA v72 hh=>T3 [(.pointer (some ej)),(.pointer (some jY)),(.slice cL.a cL.len cL.cap),(.slice v70.a v70.len v70.cap),(.int .i64 nA),(.int .i64 v72)] hh) (fun r0 r1 r2 r3 r4 r5 h=>K (.tuple [(.slice r0.a r0.len r0.cap),(.slice r1.a r1.len r1.cap),(.agg (([(.int .i64 r2),(.int .u32 r3)]:List Value)++lumpV .u8 32 r4).toArray),(.int .i64 r5)].toArray) h) ej jY cL v70 nA v72 h)) vals
  | 4,[T4],vals,h=>(tA fun ej=>tA fun jY=>tS fun dz=>tS fun pM=>tI .i64 fun vY=>tI .i64 fun v85=>tN (Tx.iR ρ (fun ej jY dz pM vY v85 hh=>T4 [(.pointer (some ej)),(.pointer (some jY)),(.slice dz.a dz.len dz.cap),(.slice pM.a pM.len pM.cap),(.int .i64 vY),(.int .i64 v85)] hh) (fun r0 r1 r2 r3 r4 r5 h=>K (.tuple [(.slice r0.a r0.len r0.cap),(.slice r1.a r1.len r1.cap),(.agg (([(.int .i64 r2),(.int .u32 r3)]:List Value)++lumpV .u8 32 r4).toArray),(.int .i64 r5)].toArray) h) ej jY dz pM vY v85 h)) vals
  | _,_,_,_=>False
theorem ok9 (PN:SpecOk Tryz.prog 15 (Tx.iq ρ)) (Pe:SpecOk Tryz.prog 16 (Tx.k7 ρ)) (Pf:SpecOk Tryz.prog 17 (Tx.jd ρ)) (Pg:SpecOk Tryz.prog 18 (Tx.jI ρ)) (Ph:SpecOk Tryz.prog 19 (Tx.kA ρ)) (PX:SpecOk Tryz.prog 20 (Tx.fZ ρ)) (PO:SpecOk Tryz.prog 21 (Tx.dc ρ)) (Pj:SpecOk Tryz.prog 22 (Tx.nr ρ)):SpecOk Tryz.prog 9 (Tx.jo ρ):=by
  refine lB (c:=c9) agree (dm Pj (dm PO (dm PX (dm Ph (dm Pg (dm Pf (dm Pe (dm PN dM)))))))) dM mixed Tryz.func9 (by kernel_rfl) (by kernel_rfl) A9 (by kernel_rfl) (xX) ?_ ?_
  · intro args h K H
    unfold Tx.jo at H
    obtain ⟨b0,rr,rfl,H1⟩:=lZ H
    obtain ⟨XR,XS,rfl,H2⟩:=gz H1
    obtain ⟨nq,qq,rfl,H3⟩:=jK H2
    obtain ⟨rfl,H4⟩:=cA H3
    obtain ⟨cU,rr,rfl,H5⟩:=cG H4
    obtain ⟨cc3,rr3,rfl,H6⟩:=gz H5
    obtain ⟨EC,qq,rfl,H7⟩:=cY H6
    obtain ⟨rfl,H8⟩:=cA H7
    obtain ⟨cc4,rr4,rfl,H9⟩:=gz H8
    obtain ⟨tJ,qq,rfl,RB⟩:=cG H9
    obtain ⟨tK,qq,rfl,RC⟩:=cG RB
    obtain ⟨tO,qq,rfl,H12⟩:=jK RC
    obtain ⟨rfl,H13⟩:=cA H12
    obtain ⟨cP,rr,rfl,H14⟩:=cY H13
    obtain ⟨bT,rr,rfl,H15⟩:=cY H14
    obtain ⟨rfl,H16⟩:=cA H15
    exact lC (by kernel_rfl) (by kernel_rfl) H16
  · intro K k inner vals h hk hin H
    rw [show pts A9=[1,2,3,4] from by kernel_rfl] at hk
    simp only [List.mem_cons,List.not_mem_nil,or_false] at hk
    rcases hk with rfl | rfl | rfl | rfl
    · rw [show depth 1 A9 = 0 from by kernel_rfl] at hin
      obtain rfl:=jl hin
      have H:xX K 1 [] vals h:=H
      simp only [xX] at H
      obtain ⟨b0,rr,rfl,H1⟩:=lZ H
      obtain ⟨cU,rr,rfl,H2⟩:=cG H1
      obtain ⟨cP,rr,rfl,H3⟩:=cY H2
      obtain ⟨bT,rr,rfl,H4⟩:=cY H3
      obtain ⟨rK,rr,rfl,H5⟩:=dA H4
      obtain ⟨xS,rr,rfl,H6⟩:=dA H5
      obtain ⟨gQ,rr,rfl,H7⟩:=dA H6
      obtain ⟨ej,rr,rfl,H8⟩:=dA H7
      obtain ⟨G7,rr,rfl,H9⟩:=C9 H8
      obtain ⟨rfl,RB⟩:=cA H9
      exact cast (by kernel_rfl) RB
    · rw [show depth 2 A9 = 1 from by kernel_rfl] at hin
      obtain ⟨T2,rfl⟩:=dh hin
      have H:xX K 2 [T2] vals h:=H
      simp only [xX] at H
      obtain ⟨cP,rr,rfl,H1⟩:=cY H
      obtain ⟨bT,rr,rfl,H2⟩:=cY H1
      obtain ⟨ej,rr,rfl,H3⟩:=dA H2
      obtain ⟨jY,rr,rfl,H4⟩:=dA H3
      obtain ⟨cL,rr,rfl,H5⟩:=cY H4
      obtain ⟨pL,rr,rfl,H6⟩:=cY H5
      obtain ⟨v53,rr,rfl,H7⟩:=cG H6
      obtain ⟨rC,rr,rfl,H8⟩:=cG H7
      obtain ⟨rfl,H9⟩:=cA H8
      exact cast (by kernel_rfl) H9
    · rw [show depth 3 A9 = 1 from by kernel_rfl] at hin
      obtain ⟨T3,rfl⟩:=dh hin
      have H:xX K 3 [T3] vals h:=H
      simp only [xX] at H
      obtain ⟨ej,rr,rfl,H1⟩:=dA H
      obtain ⟨jY,rr,rfl,H2⟩:=dA H1
      obtain ⟨cL,rr,rfl,H3⟩:=cY H2
      obtain ⟨v70,rr,rfl,H4⟩:=cY H3
      obtain ⟨nA,rr,rfl,H5⟩:=cG H4
      obtain ⟨v72,rr,rfl,H6⟩:=cG H5
      obtain ⟨rfl,H7⟩:=cA H6
      exact cast (by kernel_rfl) H7
    · rw [show depth 4 A9 = 1 from by kernel_rfl] at hin
      obtain ⟨T4,rfl⟩:=dh hin
      have H:xX K 4 [T4] vals h:=H
      simp only [xX] at H
      obtain ⟨ej,rr,rfl,H1⟩:=dA H
      obtain ⟨jY,rr,rfl,H2⟩:=dA H1
      obtain ⟨dz,rr,rfl,H3⟩:=cY H2
      obtain ⟨pM,rr,rfl,H4⟩:=cY H3
      obtain ⟨vY,rr,rfl,H5⟩:=cG H4
      obtain ⟨v85,rr,rfl,H6⟩:=cG H5
      obtain ⟨rfl,H7⟩:=cA H6
      exact cast (by kernel_rfl) H7
end Go.Proofs.YtpjehkdneiclnaaGreat.Lk
