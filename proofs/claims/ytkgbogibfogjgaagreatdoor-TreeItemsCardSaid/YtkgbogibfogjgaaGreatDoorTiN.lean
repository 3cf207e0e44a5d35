import Derived.Test.YtkgbogibfogjgaaGreatDoorTiL
set_option linter.unusedVariables false
set_option linter.unusedSimpArgs false
set_option maxHeartbeats 4000000
set_option maxRecDepth 100000
namespace Go.Proofs.YtkgbogibfogjgaaGreatDoor.Lk
open Go Go.Wc Go.Proofs.YtkgbogibfogjgaaGreatDoor
open Go.Proofs.YtkgbogibfogjgaaGreatDoor.Ek (τ agree mixed ρ)
noncomputable def adB:Code:=Tryz.f110.body.getD .skip
def O3:Ann:=(.join 1 [0,1,2,3,4,9] (.plan (.take 0 [13,15] (.take 1 [13,15] (.take 2 [13,15] (.take 3 [13,15] (.take 4 [13,15] (.take 5 [13,15] (.take 6 [13,15] (.take 7 [13,15] (.take 8 [13,15] (.take 9 [13,15] (.take 10 [13,15] (.take 11 [13,15] (.take 12 [13,15] (.all (.alt 13 (.all (.alt 14 (.all (.alt 15 .done .nil)) .nil)) (.alt 14 (.all (.alt 13 (.all (.alt 15 .done .nil)) .nil)) .nil))))))))))))))))) (.plan (.take 0 [13,15,17,19] (.take 1 [15,17,19] (.take 2 [17,19] (.take 3 [19] (.take 4 [13,15,17,19] (.take 5 [13,15,17,19] (.take 6 [15,17,19] (.take 7 [15,17,19] (.take 8 [17,19] (.take 9 [17,19] (.take 10 [19] (.take 11 [19] (.take 12 [13,15,17,19] (.all (.alt 13 (.take 14 [15,17,19] (.all (.alt 15 (.take 16 [17,19] (.all (.alt 17 (.take 18 [19] (.all (.alt 19 .done .nil))) .nil))) .nil))) .nil)))))))))))))))))
def AY (K:Value->Hp->Prop):Src
 | 1,[],vals,h=>(tI .i64 fun a0=>tI .i64 fun b1=>tI .i64 fun c2=>tI .i64 fun d3=>tA fun v4=>tA fun q9=>tN (Tx.fG ρ (fun h=>K (.tuple [].toArray) h) a0 b1 c2 d3 v4 q9 h)) vals
 | _,_,_,_=>False
theorem Hg (He:SpecOk Tryz.prog 111 (Tx.fR ρ)):SpecOk Tryz.prog 110 (Tx.fS ρ):=by
 refine qc (c:=adB) agree (gG He dM) dM mixed Tryz.func110 (by kernel_rfl) (by kernel_rfl) O3 (by kernel_rfl) (AY) ?_ ?_
 ·intro args h K H
  unfold Tx.fS at H;obtain ⟨a0,rr,rfl,H1⟩:=dJ H;obtain ⟨b1,rr,rfl,H2⟩:=dJ H1;obtain ⟨c2,rr,rfl,H3⟩:=dJ H2;obtain ⟨d3,rr,rfl,H4⟩:=dJ H3;obtain ⟨v4,rr,rfl,H5⟩:=dj H4;obtain ⟨rfl,H6⟩:=cV H5;exact qe (by kernel_rfl) (by kernel_rfl) H6
 ·intro K k inner vals h hk hin H
  rw [show pts O3=[1] from by kernel_rfl] at hk;simp only [List.mem_cons,List.not_mem_nil,or_false] at hk;rcases hk with rfl
  ·rw [show depth 1 O3=0 from by kernel_rfl] at hin
   obtain rfl:=D1 hin;have H:AY K 1 [] vals h:=H;simp only [AY] at H;obtain ⟨a0,rr,rfl,H1⟩:=dJ H;obtain ⟨b1,rr,rfl,H2⟩:=dJ H1;obtain ⟨c2,rr,rfl,H3⟩:=dJ H2;obtain ⟨d3,rr,rfl,H4⟩:=dJ H3;obtain ⟨v4,rr,rfl,H5⟩:=dj H4;obtain ⟨q9,rr,rfl,H6⟩:=dj H5;obtain ⟨rfl,H7⟩:=cV H6;exact cast (by kernel_rfl) H7
noncomputable def c96:Code:=Tryz.f96.body.getD .skip
def PG:Ann:=(.seq .leaf (.seq .leaf (.seq .leaf (.seq .leaf (.seq (.seq .leaf (.block (.loop 1 [6,7,8,9,20] (.seq .leaf (.seq (.cond .leaf .leaf) (.seq (.block (.seq (.seq .leaf (.block (.loop 2 [6,7,8,9,20,22] (.seq .leaf (.seq (.cond .leaf .leaf) (.seq (.block (.seq .leaf .leaf)) .leaf)))))) (.seq .leaf (.block (.loop 3 [6,7,8,9,20,35] (.seq .leaf (.seq (.cond .leaf .leaf) (.seq (.block (.seq .leaf .leaf)) .leaf)))))))) .leaf)))))) (.seq .leaf (.seq (.seq .leaf (.block (.loop 4 [6,7,8,12,55] (.seq .leaf (.seq (.cond .leaf .leaf) (.seq (.block (.seq .leaf (.plan (.take 0 [16] (.take 1 [16] (.take 2 [16] (.take 3 [16] (.take 4 [16] (.take 5 [16] (.take 6 [16] (.take 7 [16] (.take 8 [16] (.take 9 [16] (.take 10 [16] (.take 11 [16] (.take 12 [16] (.take 13 [16] (.take 14 [16] (.take 15 [16] (.all (.alt 16 .done .nil))))))))))))))))))))) .leaf)))))) (.seq .leaf .leaf))))))))
def nW (K:Value->Hp->Prop):Src
 | 1,[T1],vals,h=>(tA fun v6=>tA fun aM=>tA fun w8=>tF (ρ.G 119) fun jj lA=>(tA fun bO=>tN ((tI .i64 fun v20=>tN (Tx.fm ρ (fun v6 aM w8 bO v20 hh=>T1 [(.pointer (some v6)),(.pointer (some aM)),(.pointer (some w8)),(.func (.func (ρ.G 119)) #[] #[(.pointer (some bO))]),(.int .i64 v20)] hh) (fun r0 h=>K (.agg (lumpV .u8 64 r0).toArray) h) v6 aM w8 bO v20 h)) lA)) jj) vals
 | 2,[T2,T1],vals,h=>(tA fun v6=>tA fun aM=>tA fun w8=>tF (ρ.G 119) fun jj lA=>(tA fun bO=>tN ((tI .i64 fun v20=>tI .i64 fun gX=>tN (Tx.ff ρ (fun v6 aM w8 bO v20 hh=>T1 [(.pointer (some v6)),(.pointer (some aM)),(.pointer (some w8)),(.func (.func (ρ.G 119)) #[] #[(.pointer (some bO))]),(.int .i64 v20)] hh) (fun v6 aM w8 bO v20 gX hh=>T2 [(.pointer (some v6)),(.pointer (some aM)),(.pointer (some w8)),(.func (.func (ρ.G 119)) #[] #[(.pointer (some bO))]),(.int .i64 v20),(.int .i64 gX)] hh) (fun r0 h=>K (.agg (lumpV .u8 64 r0).toArray) h) v6 aM w8 bO v20 gX h)) lA)) jj) vals
 | 3,[T3,T1],vals,h=>(tA fun v6=>tA fun aM=>tA fun w8=>tF (ρ.G 119) fun jj lA=>(tA fun bO=>tN ((tI .i64 fun v20=>tI .i64 fun fM=>tN (Tx.eZ ρ (fun v6 aM w8 bO v20 hh=>T1 [(.pointer (some v6)),(.pointer (some aM)),(.pointer (some w8)),(.func (.func (ρ.G 119)) #[] #[(.pointer (some bO))]),(.int .i64 v20)] hh) (fun v6 aM w8 bO v20 fM hh=>T3 [(.pointer (some v6)),(.pointer (some aM)),(.pointer (some w8)),(.func (.func (ρ.G 119)) #[] #[(.pointer (some bO))]),(.int .i64 v20),(.int .i64 fM)] hh) (fun r0 h=>K (.agg (lumpV .u8 64 r0).toArray) h) v6 aM w8 bO v20 fM h)) lA)) jj) vals
 | 4,[T4],vals,h=>(tA fun v6=>tA fun aM=>tA fun w8=>tA fun mK=>tI .i64 fun jo=>tN (Tx.fj ρ (fun v6 aM w8 mK jo hh=>T4 [(.pointer (some v6)),(.pointer (some aM)),(.pointer (some w8)),(.pointer (some mK)),(.int .i64 jo)] hh) (fun r0 h=>K (.agg (lumpV .u8 64 r0).toArray) h) v6 aM w8 mK jo h)) vals
 | _,_,_,_=>False
theorem adC (G9:SpecOk Tryz.prog 109 (Tx.gS ρ)) (Hg:SpecOk Tryz.prog 110 (Tx.fS ρ)):SpecOk Tryz.prog 96 (Tx.cZ ρ):=by
 refine qc (c:=c96) agree (gG G9 dM) (gG Hg dM) mixed Tryz.func96 (by kernel_rfl) (by kernel_rfl) PG (by kernel_rfl) (nW) ?_ ?_
 ·intro args h K H
  unfold Tx.cZ at H;obtain ⟨cc0,rr0,rfl,H1⟩:=lO H;obtain ⟨kq,qq,rfl,H2⟩:=lM H1;obtain ⟨rfl,H3⟩:=cV H2;obtain ⟨cc1,rr1,rfl,H4⟩:=lO H3;obtain ⟨gR,qq,rfl,H5⟩:=lM H4;obtain ⟨rfl,H6⟩:=cV H5;obtain ⟨bg,rr,rfl,H7⟩:=dJ H6;obtain ⟨rfl,H8⟩:=cV H7;exact qe (by kernel_rfl) (by kernel_rfl) H8
 ·intro K k inner vals h hk hin H
  rw [show pts PG=[1,2,3,4] from by kernel_rfl] at hk;simp only [List.mem_cons,List.not_mem_nil,or_false] at hk;rcases hk with rfl | rfl | rfl | rfl
  ·rw [show depth 1 PG=1 from by kernel_rfl] at hin
   obtain ⟨T1,rfl⟩:=Mc hin;have H:nW K 1 [T1] vals h:=H;simp only [nW] at H;obtain ⟨v6,rr,rfl,H1⟩:=dj H;obtain ⟨aM,rr,rfl,H2⟩:=dj H1;obtain ⟨w8,rr,rfl,H3⟩:=dj H2;obtain ⟨cc3,rr3,rfl,H4⟩:=vj H3;obtain ⟨bO,qq,rfl,H5⟩:=dj H4;obtain ⟨rfl,H6⟩:=cV H5;obtain ⟨v20,rr,rfl,H7⟩:=dJ H6;obtain ⟨rfl,H8⟩:=cV H7;exact cast (by kernel_rfl) H8
  ·rw [show depth 2 PG=2 from by kernel_rfl] at hin
   obtain ⟨T1,T2,rfl⟩:=vl hin;have H:nW K 2 [T2,T1] vals h:=H;simp only [nW] at H;obtain ⟨v6,rr,rfl,H1⟩:=dj H;obtain ⟨aM,rr,rfl,H2⟩:=dj H1;obtain ⟨w8,rr,rfl,H3⟩:=dj H2;obtain ⟨cc3,rr3,rfl,H4⟩:=vj H3;obtain ⟨bO,qq,rfl,H5⟩:=dj H4;obtain ⟨rfl,H6⟩:=cV H5;obtain ⟨v20,rr,rfl,H7⟩:=dJ H6;obtain ⟨gX,rr,rfl,H8⟩:=dJ H7;obtain ⟨rfl,H9⟩:=cV H8;exact cast (by kernel_rfl) H9
  ·rw [show depth 3 PG=2 from by kernel_rfl] at hin
   obtain ⟨T1,T3,rfl⟩:=vl hin;have H:nW K 3 [T3,T1] vals h:=H;simp only [nW] at H;obtain ⟨v6,rr,rfl,H1⟩:=dj H;obtain ⟨aM,rr,rfl,H2⟩:=dj H1;obtain ⟨w8,rr,rfl,H3⟩:=dj H2;obtain ⟨cc3,rr3,rfl,H4⟩:=vj H3;obtain ⟨bO,qq,rfl,H5⟩:=dj H4;obtain ⟨rfl,H6⟩:=cV H5;obtain ⟨v20,rr,rfl,H7⟩:=dJ H6;obtain ⟨fM,rr,rfl,H8⟩:=dJ H7;obtain ⟨rfl,H9⟩:=cV H8;exact cast (by kernel_rfl) H9
  ·rw [show depth 4 PG=1 from by kernel_rfl] at hin
   obtain ⟨T4,rfl⟩:=Mc hin;have H:nW K 4 [T4] vals h:=H;simp only [nW] at H;obtain ⟨v6,rr,rfl,H1⟩:=dj H;obtain ⟨aM,rr,rfl,H2⟩:=dj H1;obtain ⟨w8,rr,rfl,H3⟩:=dj H2;obtain ⟨mK,rr,rfl,H4⟩:=dj H3;obtain ⟨jo,rr,rfl,H5⟩:=dJ H4;obtain ⟨rfl,H6⟩:=cV H5;exact cast (by kernel_rfl) H6
noncomputable def c45:Code:=Tryz.f45.body.getD .skip
def A45:Ann:=(.seq .leaf (.seq (.seq .leaf (.cond (.seq .leaf .leaf) .leaf)) (.seq .leaf .leaf)))
def U2 (_:Value->Hp->Prop):Src:=fun _ _ _ _=>False
theorem O4:SpecOk Tryz.prog 45 (Tx.fA ρ):=by
 refine qc (c:=c45) agree dM dM mixed Tryz.func45 (by kernel_rfl) (by kernel_rfl) A45 (by kernel_rfl) (U2) ?_ ?_
 ·intro args h K H
  unfold Tx.fA at H;obtain ⟨b0,rr,rfl,H1⟩:=lN H;obtain ⟨rfl,H2⟩:=cV H1;exact qe (by kernel_rfl) (by kernel_rfl) H2
 ·intro K k inner vals h hk hin H
  exact H.elim
noncomputable def c64:Code:=Tryz.f64.body.getD .skip
def V2:Ann:=(.seq .leaf (.join 2 [1,4] (.join 1 [0,1,4,14] .leaf (.cond (.plan (.take 0 [11] (.take 1 [8,11] (.take 2 [8,11] (.take 3 [8,11] (.take 4 [8,11] (.take 5 [6,7,8,11] (.all (.alt 6 (.all (.alt 7 (.all (.alt 8 (.take 9 [11] (.take 10 [11] (.all (.alt 11 .done .nil)))) .nil)) .nil)) .nil))))))))) .leaf)) (.seq .leaf .leaf)))
def y8 (K:Value->Hp->Prop):Src
 | 1,[],vals,h=>(tP fun b0=>tS fun cS=>tA fun v4=>tB fun l9=>tN (Tx.dI ρ (fun r0 h=>K (.agg (lumpV .u8 32 r0).toArray) h) b0 cS v4 l9 h)) vals
 | 2,[],vals,h=>(tS fun cS=>tA fun v4=>tN (Tx.dH ρ (fun r0 h=>K (.agg (lumpV .u8 32 r0).toArray) h) cS v4 h)) vals
 | _,_,_,_=>False
theorem adD (O4:SpecOk Tryz.prog 45 (Tx.fA ρ)) (O2:SpecOk Tryz.prog 84 (Tx.ic ρ)):SpecOk Tryz.prog 64 (Tx.dU ρ):=by
 refine qc (c:=c64) agree (gG O2 (gG O4 dM)) dM mixed Tryz.func64 (by kernel_rfl) (by kernel_rfl) V2 (by kernel_rfl) (y8) ?_ ?_
 ·intro args h K H
  unfold Tx.dU at H;obtain ⟨b0,rr,rfl,H1⟩:=Br H;obtain ⟨cS,rr,rfl,H2⟩:=lN H1;obtain ⟨rfl,H3⟩:=cV H2;exact qe (by kernel_rfl) (by kernel_rfl) H3
 ·intro K k inner vals h hk hin H
  rw [show pts V2=[2,1] from by kernel_rfl] at hk;simp only [List.mem_cons,List.not_mem_nil,or_false] at hk;rcases hk with rfl | rfl
  ·rw [show depth 2 V2=0 from by kernel_rfl] at hin
   obtain rfl:=D1 hin;have H:y8 K 2 [] vals h:=H;simp only [y8] at H;obtain ⟨cS,rr,rfl,H1⟩:=lN H;obtain ⟨v4,rr,rfl,H2⟩:=dj H1;obtain ⟨rfl,H3⟩:=cV H2;exact cast (by kernel_rfl) H3
  ·rw [show depth 1 V2=0 from by kernel_rfl] at hin
   obtain rfl:=D1 hin;have H:y8 K 1 [] vals h:=H;simp only [y8] at H;obtain ⟨b0,rr,rfl,H1⟩:=Br H;obtain ⟨cS,rr,rfl,H2⟩:=lN H1;obtain ⟨v4,rr,rfl,H3⟩:=dj H2;obtain ⟨l9,rr,rfl,H4⟩:=IB H3;obtain ⟨rfl,H5⟩:=cV H4;exact cast (by kernel_rfl) H5
end Go.Proofs.YtkgbogibfogjgaaGreatDoor.Lk
