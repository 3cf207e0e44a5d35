import Derived.Test.YtnjbidanmnbnhaaGreatDoorInG
import Derived.Test.YtnjbidanmnbnhaaGreatDoorProg
set_option linter.unusedVariables false
set_option linter.unusedSimpArgs false
set_option maxHeartbeats 4000000
set_option maxRecDepth 100000
namespace Go.Proofs.YtnjbidanmnbnhaaGreatDoor.Lk
open Go Go.Wc Go.Proofs.YtnjbidanmnbnhaaGreatDoor
def τ:Tys:=[
(0,⟨.other,1,0,(.tuple [].toArray),[.any],true⟩),
(3,⟨.int .i64,1,8,(.int .i64 (0:Int)),[.int .i64],true⟩),
(5,⟨.int .u8,1,1,(.int .u8 (0:Int)),[.int .u8],true⟩),
(30,⟨.slice 5,1,24,(.slice none 0 0),[.sl],true⟩),
(35,⟨.int .u32,1,4,(.int .u32 (0:Int)),[.int .u32],true⟩),
(36,⟨.arr 32 5,32,32,(.agg (lumpV .u8 32 (List.replicate 32 0)).toArray),[.lump .u8 32],true⟩),
(41,⟨.slice 30,1,24,(.slice none 0 0),[.sl],true⟩),
(123,⟨.arr 12 5,12,12,(.agg (lumpV .u8 12 (List.replicate 12 0)).toArray),[.lump .u8 12],true⟩),
(125,⟨.int .u64,1,8,(.int .u64 (0:Int)),[.int .u64],true⟩),
(132,⟨.arr 64 5,64,64,(.agg (lumpV .u8 64 (List.replicate 64 0)).toArray),[.lump .u8 64],true⟩),
(134,⟨.arr 8 35,8,32,(.agg (lumpV .u32 8 (List.replicate 8 0)).toArray),[.lump .u32 8],true⟩),
(136,⟨.struct [(134,0),(30,8),(125,9)],10,64,(.agg (lumpV .u32 8 (List.replicate 8 0)++([(.slice none 0 0),(.int .u64 (0:Int))]:List Value)).toArray),[.lump .u32 8, .sl, .int .u64],true⟩),
(140,⟨.int .u64,1,8,(.int .u64 (0:Int)),[.int .u64],true⟩),
(145,⟨.arr 16 35,16,64,(.agg (lumpV .u32 16 (List.replicate 16 0)).toArray),[.lump .u32 16],true⟩),
(147,⟨.arr 4 35,4,16,(.agg (lumpV .u32 4 (List.replicate 4 0)).toArray),[.lump .u32 4],true⟩),
(161,⟨.arr 64 35,64,256,(.agg (lumpV .u32 64 (List.replicate 64 0)).toArray),[.lump .u32 64],true⟩),
(164,⟨.slice 35,1,24,(.slice none 0 0),[.sl],true⟩)]
theorem agree:Agree Tryz.prog τ:=agree_of _ _ (by kernel_rfl) (by kernel_rfl)
theorem mixed:Tryz.prog.follows .mixedOrders=true:=by kernel_rfl
def ρ:Ids:=ids [(0,3),(1,5),(2,121),(3,75),(4,222),(10,166),(11,53),(14,206),(16,38),(17,216),(18,247),(19,36),(20,231),(21,90),(22,123),(23,132),(24,145),(25,147),(26,30),(27,136),(28,134),(29,161),(34,4),(36,35),(37,44),(38,125)] [(0,166),(1,167),(2,45),(4,151),(5,134),(6,211),(7,147),(8,148),(9,54),(10,149),(11,150),(12,168),(13,169),(14,153),(18,143),(19,154),(20,135),(25,145),(42,79),(43,80),(44,82),(45,83),(47,70),(48,90),(49,91),(50,92),(51,94),(52,96),(53,95),(54,97),(67,62),(68,52),(74,21),(78,156),(80,31),(82,160),(86,157),(89,141),(90,172),(91,173),(92,132),(93,189),(94,47),(95,170),(96,58),(97,55),(98,158),(99,159),(100,161),(101,162),(102,38),(103,177),(104,176),(105,44),(106,174),(107,37),(108,175),(109,190),(110,35),(111,36),(112,48),(113,49),(114,50),(115,60),(116,59),(117,66),(118,73),(119,74),(120,84),(121,75),(122,85),(123,86),(124,61),(125,67),(126,68),(127,69),(128,76),(129,77),(130,87),(131,88),(132,89),(133,93),(134,51)]
noncomputable def c67:Code:=Tryz.f67.body.getD .skip
def A67:Ann:=(.seq .leaf (.seq .leaf .leaf))
def src67 (_:Value→Hp→Prop):Src:=fun _ _ _ _=>False
theorem ok67:SpecOk Tryz.prog 67 (Tx.sha_New_S ρ):=by
  refine spec_ok (c:=c67) agree specsOk_nil specsOk_nil mixed Tryz.func67 (by kernel_rfl) (by kernel_rfl) A67 (by kernel_rfl) (src67) ?_ ?_
  · intro args h K H
    unfold Tx.sha_New_S at H
    obtain ⟨rfl,H1⟩:=tN_elim H
    exact fin_and (by kernel_rfl) (by kernel_rfl) H1
  · intro K k inner vals h hk hin H
    exact H.elim
noncomputable def c76:Code:=Tryz.f76.body.getD .skip
def A76:Ann:=(.seq .leaf (.seq .leaf .leaf))
def src76 (_:Value→Hp→Prop):Src:=fun _ _ _ _=>False
theorem ok76:SpecOk Tryz.prog 76 (Tx.sha_first_S ρ):=by
  refine spec_ok (c:=c76) agree specsOk_nil specsOk_nil mixed Tryz.func76 (by kernel_rfl) (by kernel_rfl) A76 (by kernel_rfl) (src76) ?_ ?_
  · intro args h K H
    unfold Tx.sha_first_S at H
    obtain ⟨rfl,H1⟩:=tN_elim H
    exact fin_and (by kernel_rfl) (by kernel_rfl) H1
  · intro K k inner vals h hk hin H
    exact H.elim
noncomputable def c86:Code:=Tryz.f86.body.getD .skip
def A86:Ann:=(.seq .leaf (.seq .leaf (.seq .leaf .leaf)))
def src86 (_:Value→Hp→Prop):Src:=fun _ _ _ _=>False
theorem ok86:SpecOk Tryz.prog 86 (Tx.math_bits_RotateLeft32_S ρ):=by
  refine spec_ok (c:=c86) agree specsOk_nil specsOk_nil mixed Tryz.func86 (by kernel_rfl) (by kernel_rfl) A86 (by kernel_rfl) (src86) ?_ ?_
  · intro args h K H
    unfold Tx.math_bits_RotateLeft32_S at H
    obtain ⟨x0,rr,rfl,H1⟩:=tI_elim H
    obtain ⟨k1,rr,rfl,H2⟩:=tI_elim H1
    obtain ⟨rfl,H3⟩:=tN_elim H2
    exact fin_and (by kernel_rfl) (by kernel_rfl) H3
  · intro K k inner vals h hk hin H
    exact H.elim
noncomputable def c89:Code:=Tryz.f89.body.getD .skip
def A89:Ann:=(.seq .leaf (.seq .leaf .leaf))
def src89 (_:Value→Hp→Prop):Src:=fun _ _ _ _=>False
theorem ok89:SpecOk Tryz.prog 89 (Tx.sha_Turn_S ρ):=by
  refine spec_ok (c:=c89) agree (specsOk_cons ok86 specsOk_nil) specsOk_nil mixed Tryz.func89 (by kernel_rfl) (by kernel_rfl) A89 (by kernel_rfl) (src89) ?_ ?_
  · intro args h K H
    unfold Tx.sha_Turn_S at H
    obtain ⟨x0,rr,rfl,H1⟩:=tI_elim H
    obtain ⟨n1,rr,rfl,H2⟩:=tI_elim H1
    obtain ⟨rfl,H3⟩:=tN_elim H2
    exact fin_and (by kernel_rfl) (by kernel_rfl) H3
  · intro K k inner vals h hk hin H
    exact H.elim
noncomputable def c93:Code:=Tryz.f93.body.getD .skip
def A93:Ann:=(.seq .leaf (.seq .leaf (.seq (.seq .leaf (.block (.loop 1 [3,6,7,8] (.seq .leaf (.seq (.cond .leaf .leaf) (.seq (.block (.seq .leaf .leaf)) .leaf)))))) (.seq .leaf .leaf))))
def src93 (K:Value→Hp→Prop):Src
  | 1,[T1],vals,h=>(tI .u32 fun w3=>tS fun v6=>tI .i64 fun v7=>tI .i64 fun v8=>tN (Tx.sha_join_B1 ρ (fun w3 v6 v7 v8 hh=>T1 [(.int .u32 w3),(.slice v6.a v6.len v6.cap),(.int .i64 v7),(.int .i64 v8)] hh) (fun r0 h=>K (.int .u32 r0) h) w3 v6 v7 v8 h)) vals
  | _,_,_,_=>False
theorem ok93:SpecOk Tryz.prog 93 (Tx.sha_join_S ρ):=by
  refine spec_ok (c:=c93) agree specsOk_nil specsOk_nil mixed Tryz.func93 (by kernel_rfl) (by kernel_rfl) A93 (by kernel_rfl) (src93) ?_ ?_
  · intro args h K H
    unfold Tx.sha_join_S at H
    obtain ⟨b0,rr,rfl,H1⟩:=tS_elim H
    obtain ⟨rfl,H2⟩:=tN_elim H1
    exact fin_and (by kernel_rfl) (by kernel_rfl) H2
  · intro K k inner vals h hk hin H
    rw [show pts A93=[1] from by kernel_rfl] at hk
    simp only [List.mem_cons,List.not_mem_nil,or_false] at hk
    rcases hk with rfl
    · rw [show depth 1 A93 = 1 from by kernel_rfl] at hin
      obtain ⟨T1,rfl⟩:=len1 hin
      have H:src93 K 1 [T1] vals h:=H
      simp only [src93] at H
      obtain ⟨w3,rr,rfl,H1⟩:=tI_elim H
      obtain ⟨v6,rr,rfl,H2⟩:=tS_elim H1
      obtain ⟨v7,rr,rfl,H3⟩:=tI_elim H2
      obtain ⟨v8,rr,rfl,H4⟩:=tI_elim H3
      obtain ⟨rfl,H5⟩:=tN_elim H4
      exact cast (by kernel_rfl) H5
noncomputable def c87:Code:=Tryz.f87.body.getD .skip
def A87:Ann:=(.seq .leaf (.seq .leaf (.seq (.seq .leaf (.block (.loop 1 [0,2,3,9] (.seq .leaf (.seq (.cond .leaf .leaf) (.join 2 [0,2,3,9] (.block (.seq .leaf (.seq (.seq .leaf (.cond (.seq .leaf .leaf) .leaf)) (.seq (.plan (.take 0 [] (.take 1 [] (.take 2 [] (.take 3 [] (.take 4 [] (.take 5 [] (.take 6 [] (.take 7 [] (.take 8 [] (.take 9 [] .done))))))))))) (.seq .leaf (.seq .leaf (.plan (.take 0 [15] (.take 1 [15] (.take 2 [15] (.take 3 [15] (.take 4 [15] (.take 5 [15] (.take 6 [15] (.take 7 [15] (.take 8 [15] (.take 9 [15] (.take 10 [15] (.take 11 [15] (.take 12 [15] (.take 13 [15] (.take 14 [15] (.all (.alt 15 .done .nil)))))))))))))))))))))))) .leaf)))))) (.seq .leaf .leaf))))
def src87 (K:Value→Hp→Prop):Src
  | 1,[T1],vals,h=>(tS fun b0=>tA fun v2=>tA fun w3=>tI .i64 fun v9=>tN (Tx.sha_spread_B1 ρ (fun b0 v2 w3 v9 hh=>T1 [(.slice b0.a b0.len b0.cap),(.pointer (some v2)),(.pointer (some w3)),(.int .i64 v9)] hh) (fun r0 h=>K (.agg (lumpV .u32 64 r0).toArray) h) b0 v2 w3 v9 h)) vals
  | 2,[T1],vals,h=>(tS fun b0=>tA fun v2=>tA fun w3=>tI .i64 fun v9=>tN (Tx.sha_spread_K2 ρ (fun b0 v2 w3 v9 hh=>T1 [(.slice b0.a b0.len b0.cap),(.pointer (some v2)),(.pointer (some w3)),(.int .i64 v9)] hh) (fun r0 h=>K (.agg (lumpV .u32 64 r0).toArray) h) b0 v2 w3 v9 h)) vals
  | _,_,_,_=>False
theorem ok87:SpecOk Tryz.prog 87 (Tx.sha_spread_S ρ):=by
  refine spec_ok (c:=c87) agree (specsOk_cons ok93 (specsOk_cons ok89 specsOk_nil)) specsOk_nil mixed Tryz.func87 (by kernel_rfl) (by kernel_rfl) A87 (by kernel_rfl) (src87) ?_ ?_
  · intro args h K H
    unfold Tx.sha_spread_S at H
    obtain ⟨b0,rr,rfl,H1⟩:=tS_elim H
    obtain ⟨rfl,H2⟩:=tN_elim H1
    exact fin_and (by kernel_rfl) (by kernel_rfl) H2
  · intro K k inner vals h hk hin H
    rw [show pts A87=[1,2] from by kernel_rfl] at hk
    simp only [List.mem_cons,List.not_mem_nil,or_false] at hk
    rcases hk with rfl | rfl
    · rw [show depth 1 A87 = 1 from by kernel_rfl] at hin
      obtain ⟨T1,rfl⟩:=len1 hin
      have H:src87 K 1 [T1] vals h:=H
      simp only [src87] at H
      obtain ⟨b0,rr,rfl,H1⟩:=tS_elim H
      obtain ⟨v2,rr,rfl,H2⟩:=tA_elim H1
      obtain ⟨w3,rr,rfl,H3⟩:=tA_elim H2
      obtain ⟨v9,rr,rfl,H4⟩:=tI_elim H3
      obtain ⟨rfl,H5⟩:=tN_elim H4
      exact cast (by kernel_rfl) H5
    · rw [show depth 2 A87 = 1 from by kernel_rfl] at hin
      obtain ⟨T1,rfl⟩:=len1 hin
      have H:src87 K 2 [T1] vals h:=H
      simp only [src87] at H
      obtain ⟨b0,rr,rfl,H1⟩:=tS_elim H
      obtain ⟨v2,rr,rfl,H2⟩:=tA_elim H1
      obtain ⟨w3,rr,rfl,H3⟩:=tA_elim H2
      obtain ⟨v9,rr,rfl,H4⟩:=tI_elim H3
      obtain ⟨rfl,H5⟩:=tN_elim H4
      exact cast (by kernel_rfl) H5
noncomputable def c88:Code:=Tryz.f88.body.getD .skip
def A88:Ann:=(.seq .leaf (.seq .leaf .leaf))
def src88 (_:Value→Hp→Prop):Src:=fun _ _ _ _=>False
theorem ok88:SpecOk Tryz.prog 88 (Tx.sha_constants_S ρ):=by
  refine spec_ok (c:=c88) agree specsOk_nil specsOk_nil mixed Tryz.func88 (by kernel_rfl) (by kernel_rfl) A88 (by kernel_rfl) (src88) ?_ ?_
  · intro args h K H
    unfold Tx.sha_constants_S at H
    obtain ⟨rfl,H1⟩:=tN_elim H
    exact fin_and (by kernel_rfl) (by kernel_rfl) H1
  · intro K k inner vals h hk hin H
    exact H.elim
noncomputable def c77:Code:=Tryz.f77.body.getD .skip
def A77:Ann:=(.seq .leaf (.seq .leaf (.seq .leaf (.seq (.seq .leaf (.block (.loop 1 [2,4,5,6,7,18] (.seq .leaf (.seq (.cond .leaf .leaf) (.seq (.block (.seq .leaf (.seq (.plan (.take 0 [] (.take 1 [] (.take 2 [] (.take 3 [] (.take 4 [] (.take 5 [] .done))))))) (.seq (.plan (.take 0 [] (.take 1 [] (.take 2 [3,5,8] (.take 4 [5,8] (.take 7 [8] (.take 11 [] (.take 12 [] (.take 13 [] (.take 14 [] (.take 15 [] (.take 16 [] (.take 17 [] (.take 18 [] (.take 19 [] (.take 20 [] (.take 22 [] (.take 23 [] (.take 24 [] (.take 26 [] (.take 27 [] (.take 28 [] (.all (.alt 3 (.all (.alt 5 (.take 6 [] (.all (.alt 8 (.take 9 [] (.take 10 [] (.take 21 [] (.take 25 [] (.take 29 [] (.take 30 [] .done)))))) .nil))) .nil)) .nil)))))))))))))))))))))))) (.seq (.plan (.take 0 [1,3,6] (.take 2 [3,6] (.take 5 [6] (.take 8 [] (.take 9 [] (.take 10 [] (.take 11 [] (.take 12 [] (.take 13 [] (.take 14 [] (.take 15 [] (.take 16 [] (.take 17 [] (.take 18 [] (.take 19 [] (.take 20 [] (.take 21 [] (.take 22 [] (.all (.alt 1 (.all (.alt 3 (.take 4 [] (.all (.alt 6 (.take 7 [] (.take 23 [] (.take 24 [] .done))) .nil))) .nil)) .nil))))))))))))))))))))) (.seq (.plan (.take 0 [2] (.take 1 [2] (.all (.alt 2 .done .nil))))) (.seq .leaf .leaf))))))) .leaf)))))) (.seq (.seq .leaf (.block (.loop 2 [2,4,7,92] (.seq .leaf (.seq (.cond .leaf .leaf) (.seq (.block (.seq .leaf (.plan (.take 0 [8] (.take 1 [8] (.take 2 [8] (.take 3 [8] (.take 4 [8] (.take 5 [8] (.take 6 [8] (.take 7 [8] (.all (.alt 8 .done .nil))))))))))))) .leaf)))))) (.seq .leaf .leaf))))))
def src77 (K:Value→Hp→Prop):Src
  | 1,[T1],vals,h=>(tA fun h2=>tA fun v4=>tA fun w5=>tA fun k6=>tA fun x7=>tI .i64 fun v18=>tN (Tx.sha_block_B1 ρ (fun h2 v4 w5 k6 x7 v18 hh=>T1 [(.pointer (some h2)),(.pointer (some v4)),(.pointer (some w5)),(.pointer (some k6)),(.pointer (some x7)),(.int .i64 v18)] hh) (fun r0 h=>K (.agg (lumpV .u32 8 r0).toArray) h) h2 v4 w5 k6 x7 v18 h)) vals
  | 2,[T2],vals,h=>(tA fun h2=>tA fun v4=>tA fun x7=>tI .i64 fun v92=>tN (Tx.sha_block_B2 ρ (fun h2 v4 x7 v92 hh=>T2 [(.pointer (some h2)),(.pointer (some v4)),(.pointer (some x7)),(.int .i64 v92)] hh) (fun r0 h=>K (.agg (lumpV .u32 8 r0).toArray) h) h2 v4 x7 v92 h)) vals
  | _,_,_,_=>False
theorem ok77:SpecOk Tryz.prog 77 (Tx.sha_block_S ρ):=by
  refine spec_ok (c:=c77) agree (specsOk_cons ok89 (specsOk_cons ok88 (specsOk_cons ok87 specsOk_nil))) specsOk_nil mixed Tryz.func77 (by kernel_rfl) (by kernel_rfl) A77 (by kernel_rfl) (src77) ?_ ?_
  · intro args h K H
    unfold Tx.sha_block_S at H
    obtain ⟨cc0,rr0,rfl,H1⟩:=tG_elim H
    obtain ⟨h0_0,qq,rfl,H2⟩:=tL_elim H1
    obtain ⟨rfl,H3⟩:=tN_elim H2
    obtain ⟨b1,rr,rfl,H4⟩:=tS_elim H3
    obtain ⟨rfl,H5⟩:=tN_elim H4
    exact fin_and (by kernel_rfl) (by kernel_rfl) H5
  · intro K k inner vals h hk hin H
    rw [show pts A77=[1,2] from by kernel_rfl] at hk
    simp only [List.mem_cons,List.not_mem_nil,or_false] at hk
    rcases hk with rfl | rfl
    · rw [show depth 1 A77 = 1 from by kernel_rfl] at hin
      obtain ⟨T1,rfl⟩:=len1 hin
      have H:src77 K 1 [T1] vals h:=H
      simp only [src77] at H
      obtain ⟨h2,rr,rfl,H1⟩:=tA_elim H
      obtain ⟨v4,rr,rfl,H2⟩:=tA_elim H1
      obtain ⟨w5,rr,rfl,H3⟩:=tA_elim H2
      obtain ⟨k6,rr,rfl,H4⟩:=tA_elim H3
      obtain ⟨x7,rr,rfl,H5⟩:=tA_elim H4
      obtain ⟨v18,rr,rfl,H6⟩:=tI_elim H5
      obtain ⟨rfl,H7⟩:=tN_elim H6
      exact cast (by kernel_rfl) H7
    · rw [show depth 2 A77 = 1 from by kernel_rfl] at hin
      obtain ⟨T2,rfl⟩:=len1 hin
      have H:src77 K 2 [T2] vals h:=H
      simp only [src77] at H
      obtain ⟨h2,rr,rfl,H1⟩:=tA_elim H
      obtain ⟨v4,rr,rfl,H2⟩:=tA_elim H1
      obtain ⟨x7,rr,rfl,H3⟩:=tA_elim H2
      obtain ⟨v92,rr,rfl,H4⟩:=tI_elim H3
      obtain ⟨rfl,H5⟩:=tN_elim H4
      exact cast (by kernel_rfl) H5
noncomputable def c68:Code:=Tryz.f68.body.getD .skip
def A68:Ann:=(.seq .leaf (.join 3 [1,2,4] (.join 1 [1,2,4,17] .leaf (.cond .leaf .leaf)) (.seq .leaf (.seq .leaf (.seq (.block (.loop 2 [2,4,5] (.seq (.seq .leaf (.cond .leaf .leaf)) (.block (.seq (.plan (.take 0 [4,6] (.take 1 [4,6] (.take 2 [4,6] (.take 3 [4,6] (.all (.alt 4 (.take 5 [6] (.all (.alt 6 .done .nil))) .nil))))))) .leaf))))) (.seq .leaf (.seq .leaf .leaf)))))))
def src68 (K:Value→Hp→Prop):Src
  | 1,[],vals,h=>(tS fun b1=>tA fun s2=>tA fun v4=>tB fun v17=>tN (Tx.sha_State_Write_K1 ρ (fun r0 r1 r2 h=>K (.agg (lumpV .u32 8 r0++([(.slice r1.a r1.len r1.cap),(.int .u64 r2)]:List Value)).toArray) h) b1 s2 v4 v17 h)) vals
  | 2,[T2],vals,h=>(tA fun s2=>tA fun v4=>tS fun all5=>tN (Tx.sha_State_Write_B2 ρ (fun s2 v4 all5 hh=>T2 [(.pointer (some s2)),(.pointer (some v4)),(.slice all5.a all5.len all5.cap)] hh) (fun r0 r1 r2 h=>K (.agg (lumpV .u32 8 r0++([(.slice r1.a r1.len r1.cap),(.int .u64 r2)]:List Value)).toArray) h) s2 v4 all5 h)) vals
  | 3,[],vals,h=>(tS fun b1=>tA fun s2=>tA fun v4=>tN (Tx.sha_State_Write_K3 ρ (fun r0 r1 r2 h=>K (.agg (lumpV .u32 8 r0++([(.slice r1.a r1.len r1.cap),(.int .u64 r2)]:List Value)).toArray) h) b1 s2 v4 h)) vals
  | _,_,_,_=>False
theorem ok68:SpecOk Tryz.prog 68 (Tx.sha_State_Write_S ρ):=by
  refine spec_ok (c:=c68) agree (specsOk_cons ok77 (specsOk_cons ok76 specsOk_nil)) specsOk_nil mixed Tryz.func68 (by kernel_rfl) (by kernel_rfl) A68 (by kernel_rfl) (src68) ?_ ?_
  · intro args h K H
    unfold Tx.sha_State_Write_S at H
    obtain ⟨cc0,rr0,rfl,H1⟩:=tG_elim H
    obtain ⟨s0_0,qq,rfl,H2⟩:=tL_elim H1
    obtain ⟨s0_1,qq,rfl,H3⟩:=tS_elim H2
    obtain ⟨s0_2,qq,rfl,H4⟩:=tI_elim H3
    obtain ⟨rfl,H5⟩:=tN_elim H4
    obtain ⟨b1,rr,rfl,H6⟩:=tS_elim H5
    obtain ⟨rfl,H7⟩:=tN_elim H6
    exact fin_and (by kernel_rfl) (by kernel_rfl) H7
  · intro K k inner vals h hk hin H
    rw [show pts A68=[3,1,2] from by kernel_rfl] at hk
    simp only [List.mem_cons,List.not_mem_nil,or_false] at hk
    rcases hk with rfl | rfl | rfl
    · rw [show depth 3 A68 = 0 from by kernel_rfl] at hin
      obtain rfl:=len0 hin
      have H:src68 K 3 [] vals h:=H
      simp only [src68] at H
      obtain ⟨b1,rr,rfl,H1⟩:=tS_elim H
      obtain ⟨s2,rr,rfl,H2⟩:=tA_elim H1
      obtain ⟨v4,rr,rfl,H3⟩:=tA_elim H2
      obtain ⟨rfl,H4⟩:=tN_elim H3
      exact cast (by kernel_rfl) H4
    · rw [show depth 1 A68 = 0 from by kernel_rfl] at hin
      obtain rfl:=len0 hin
      have H:src68 K 1 [] vals h:=H
      simp only [src68] at H
      obtain ⟨b1,rr,rfl,H1⟩:=tS_elim H
      obtain ⟨s2,rr,rfl,H2⟩:=tA_elim H1
      obtain ⟨v4,rr,rfl,H3⟩:=tA_elim H2
      obtain ⟨v17,rr,rfl,H4⟩:=tB_elim H3
      obtain ⟨rfl,H5⟩:=tN_elim H4
      exact cast (by kernel_rfl) H5
    · rw [show depth 2 A68 = 1 from by kernel_rfl] at hin
      obtain ⟨T2,rfl⟩:=len1 hin
      have H:src68 K 2 [T2] vals h:=H
      simp only [src68] at H
      obtain ⟨s2,rr,rfl,H1⟩:=tA_elim H
      obtain ⟨v4,rr,rfl,H2⟩:=tA_elim H1
      obtain ⟨all5,rr,rfl,H3⟩:=tS_elim H2
      obtain ⟨rfl,H4⟩:=tN_elim H3
      exact cast (by kernel_rfl) H4
noncomputable def c69:Code:=Tryz.f69.body.getD .skip
def A69:Ann:=(.seq .leaf (.seq .leaf (.seq (.block (.loop 1 [1,2,3] (.seq (.seq .leaf (.cond .leaf .leaf)) (.block .leaf)))) (.seq (.seq .leaf (.block (.loop 2 [1,2,3,21] (.seq .leaf (.seq (.cond .leaf .leaf) (.seq (.block (.seq .leaf .leaf)) .leaf)))))) (.seq .leaf (.seq .leaf (.seq (.seq .leaf (.block (.loop 3 [2,5,6,39] (.seq .leaf (.seq (.cond .leaf .leaf) (.seq (.block (.seq .leaf .leaf)) .leaf)))))) (.seq .leaf .leaf))))))))
def src69 (K:Value→Hp→Prop):Src
  | 1,[T1],vals,h=>(tA fun s1=>tA fun v2=>tS fun pad3=>tN (Tx.sha_State_Sum_B1 ρ (fun s1 v2 pad3 hh=>T1 [(.pointer (some s1)),(.pointer (some v2)),(.slice pad3.a pad3.len pad3.cap)] hh) (fun r0 h=>K (.agg (lumpV .u8 32 r0).toArray) h) s1 v2 pad3 h)) vals
  | 2,[T2],vals,h=>(tA fun s1=>tA fun v2=>tS fun pad3=>tI .i64 fun v21=>tN (Tx.sha_State_Sum_B2 ρ (fun s1 v2 pad3 v21 hh=>T2 [(.pointer (some s1)),(.pointer (some v2)),(.slice pad3.a pad3.len pad3.cap),(.int .i64 v21)] hh) (fun r0 h=>K (.agg (lumpV .u8 32 r0).toArray) h) s1 v2 pad3 v21 h)) vals
  | 3,[T3],vals,h=>(tA fun v2=>tA fun last5=>tA fun d6=>tI .i64 fun v39=>tN (Tx.sha_State_Sum_B3 ρ (fun v2 last5 d6 v39 hh=>T3 [(.pointer (some v2)),(.pointer (some last5)),(.pointer (some d6)),(.int .i64 v39)] hh) (fun r0 h=>K (.agg (lumpV .u8 32 r0).toArray) h) v2 last5 d6 v39 h)) vals
  | _,_,_,_=>False
theorem ok69:SpecOk Tryz.prog 69 (Tx.sha_State_Sum_S ρ):=by
  refine spec_ok (c:=c69) agree (specsOk_cons ok68 specsOk_nil) specsOk_nil mixed Tryz.func69 (by kernel_rfl) (by kernel_rfl) A69 (by kernel_rfl) (src69) ?_ ?_
  · intro args h K H
    unfold Tx.sha_State_Sum_S at H
    obtain ⟨cc0,rr0,rfl,H1⟩:=tG_elim H
    obtain ⟨s0_0,qq,rfl,H2⟩:=tL_elim H1
    obtain ⟨s0_1,qq,rfl,H3⟩:=tS_elim H2
    obtain ⟨s0_2,qq,rfl,H4⟩:=tI_elim H3
    obtain ⟨rfl,H5⟩:=tN_elim H4
    obtain ⟨rfl,H6⟩:=tN_elim H5
    exact fin_and (by kernel_rfl) (by kernel_rfl) H6
  · intro K k inner vals h hk hin H
    rw [show pts A69=[1,2,3] from by kernel_rfl] at hk
    simp only [List.mem_cons,List.not_mem_nil,or_false] at hk
    rcases hk with rfl | rfl | rfl
    · rw [show depth 1 A69 = 1 from by kernel_rfl] at hin
      obtain ⟨T1,rfl⟩:=len1 hin
      have H:src69 K 1 [T1] vals h:=H
      simp only [src69] at H
      obtain ⟨s1,rr,rfl,H1⟩:=tA_elim H
      obtain ⟨v2,rr,rfl,H2⟩:=tA_elim H1
      obtain ⟨pad3,rr,rfl,H3⟩:=tS_elim H2
      obtain ⟨rfl,H4⟩:=tN_elim H3
      exact cast (by kernel_rfl) H4
    · rw [show depth 2 A69 = 1 from by kernel_rfl] at hin
      obtain ⟨T2,rfl⟩:=len1 hin
      have H:src69 K 2 [T2] vals h:=H
      simp only [src69] at H
      obtain ⟨s1,rr,rfl,H1⟩:=tA_elim H
      obtain ⟨v2,rr,rfl,H2⟩:=tA_elim H1
      obtain ⟨pad3,rr,rfl,H3⟩:=tS_elim H2
      obtain ⟨v21,rr,rfl,H4⟩:=tI_elim H3
      obtain ⟨rfl,H5⟩:=tN_elim H4
      exact cast (by kernel_rfl) H5
    · rw [show depth 3 A69 = 1 from by kernel_rfl] at hin
      obtain ⟨T3,rfl⟩:=len1 hin
      have H:src69 K 3 [T3] vals h:=H
      simp only [src69] at H
      obtain ⟨v2,rr,rfl,H1⟩:=tA_elim H
      obtain ⟨last5,rr,rfl,H2⟩:=tA_elim H1
      obtain ⟨d6,rr,rfl,H3⟩:=tA_elim H2
      obtain ⟨v39,rr,rfl,H4⟩:=tI_elim H3
      obtain ⟨rfl,H5⟩:=tN_elim H4
      exact cast (by kernel_rfl) H5
noncomputable def c61:Code:=Tryz.f61.body.getD .skip
def A61:Ann:=(.seq .leaf (.seq .leaf (.seq (.seq .leaf (.block (.loop 1 [2,3,7,8,9] (.seq .leaf (.seq (.cond .leaf .leaf) (.seq (.block (.seq .leaf .leaf)) .leaf)))))) (.seq .leaf .leaf))))
def src61 (K:Value→Hp→Prop):Src
  | 1,[T1],vals,h=>(tA fun v2=>tA fun s3=>tS fun v7=>tI .i64 fun v8=>tI .i64 fun v9=>tN (Tx.sha_Sum_B1 ρ (fun v2 s3 v7 v8 v9 hh=>T1 [(.pointer (some v2)),(.pointer (some s3)),(.slice v7.a v7.len v7.cap),(.int .i64 v8),(.int .i64 v9)] hh) (fun r0 h=>K (.agg (lumpV .u8 32 r0).toArray) h) v2 s3 v7 v8 v9 h)) vals
  | _,_,_,_=>False
theorem ok61:SpecOk Tryz.prog 61 (Tx.sha_Sum_S ρ):=by
  refine spec_ok (c:=c61) agree (specsOk_cons ok69 (specsOk_cons ok68 (specsOk_cons ok67 specsOk_nil))) specsOk_nil mixed Tryz.func61 (by kernel_rfl) (by kernel_rfl) A61 (by kernel_rfl) (src61) ?_ ?_
  · intro args h K H
    unfold Tx.sha_Sum_S at H
    obtain ⟨parts0,rr,rfl,H1⟩:=tS_elim H
    obtain ⟨rfl,H2⟩:=tN_elim H1
    exact fin_and (by kernel_rfl) (by kernel_rfl) H2
  · intro K k inner vals h hk hin H
    rw [show pts A61=[1] from by kernel_rfl] at hk
    simp only [List.mem_cons,List.not_mem_nil,or_false] at hk
    rcases hk with rfl
    · rw [show depth 1 A61 = 1 from by kernel_rfl] at hin
      obtain ⟨T1,rfl⟩:=len1 hin
      have H:src61 K 1 [T1] vals h:=H
      simp only [src61] at H
      obtain ⟨v2,rr,rfl,H1⟩:=tA_elim H
      obtain ⟨s3,rr,rfl,H2⟩:=tA_elim H1
      obtain ⟨v7,rr,rfl,H3⟩:=tS_elim H2
      obtain ⟨v8,rr,rfl,H4⟩:=tI_elim H3
      obtain ⟨v9,rr,rfl,H5⟩:=tI_elim H4
      obtain ⟨rfl,H6⟩:=tN_elim H5
      exact cast (by kernel_rfl) H6
noncomputable def c84:Code:=Tryz.f84.body.getD .skip
def A84:Ann:=(.seq .leaf (.seq (.plan (.take 0 [] (.take 1 [] (.take 2 [] (.take 3 [] (.take 4 [] (.take 5 [] (.take 6 [] (.take 7 [] (.take 8 [] (.take 9 [] (.take 10 [] (.take 11 [] (.take 12 [] (.take 13 [] (.take 14 [] (.take 15 [] (.take 16 [] (.take 17 [] (.take 18 [] (.take 19 [] (.take 20 [] (.take 21 [] (.take 22 [] .done)))))))))))))))))))))))) .leaf))
def src84 (_:Value→Hp→Prop):Src:=fun _ _ _ _=>False
theorem ok84:SpecOk Tryz.prog 84 (Tx.cipher_join_S ρ):=by
  refine spec_ok (c:=c84) agree specsOk_nil specsOk_nil mixed Tryz.func84 (by kernel_rfl) (by kernel_rfl) A84 (by kernel_rfl) (src84) ?_ ?_
  · intro args h K H
    unfold Tx.cipher_join_S at H
    obtain ⟨b0,rr,rfl,H1⟩:=tS_elim H
    obtain ⟨rfl,H2⟩:=tN_elim H1
    exact fin_and (by kernel_rfl) (by kernel_rfl) H2
  · intro K k inner vals h hk hin H
    exact H.elim
noncomputable def c73:Code:=Tryz.f73.body.getD .skip
def A73:Ann:=(.seq .leaf (.seq .leaf (.seq (.seq .leaf (.block (.loop 1 [2,3,4,6,7,11] (.seq .leaf (.seq (.cond .leaf .leaf) (.seq (.block (.seq .leaf .leaf)) .leaf)))))) (.seq .leaf (.seq (.seq .leaf (.block (.loop 2 [4,6,7,24] (.seq .leaf (.seq (.cond .leaf .leaf) (.seq (.block (.seq .leaf .leaf)) .leaf)))))) (.seq .leaf .leaf))))))
def src73 (K:Value→Hp→Prop):Src
  | 1,[T1],vals,h=>(tI .u32 fun counter2=>tA fun key3=>tA fun nonce4=>tA fun v6=>tA fun w7=>tI .i64 fun v11=>tN (Tx.cipher_start_B1 ρ (fun counter2 key3 nonce4 v6 w7 v11 hh=>T1 [(.int .u32 counter2),(.pointer (some key3)),(.pointer (some nonce4)),(.pointer (some v6)),(.pointer (some w7)),(.int .i64 v11)] hh) (fun r0 h=>K (.agg (lumpV .u32 16 r0).toArray) h) counter2 key3 nonce4 v6 w7 v11 h)) vals
  | 2,[T2],vals,h=>(tA fun nonce4=>tA fun v6=>tA fun w7=>tI .i64 fun v24=>tN (Tx.cipher_start_B2 ρ (fun nonce4 v6 w7 v24 hh=>T2 [(.pointer (some nonce4)),(.pointer (some v6)),(.pointer (some w7)),(.int .i64 v24)] hh) (fun r0 h=>K (.agg (lumpV .u32 16 r0).toArray) h) nonce4 v6 w7 v24 h)) vals
  | _,_,_,_=>False
theorem ok73:SpecOk Tryz.prog 73 (Tx.cipher_start_S ρ):=by
  refine spec_ok (c:=c73) agree (specsOk_cons ok84 specsOk_nil) specsOk_nil mixed Tryz.func73 (by kernel_rfl) (by kernel_rfl) A73 (by kernel_rfl) (src73) ?_ ?_
  · intro args h K H
    unfold Tx.cipher_start_S at H
    obtain ⟨cc0,rr0,rfl,H1⟩:=tG_elim H
    obtain ⟨key0_0,qq,rfl,H2⟩:=tL_elim H1
    obtain ⟨rfl,H3⟩:=tN_elim H2
    obtain ⟨cc1,rr1,rfl,H4⟩:=tG_elim H3
    obtain ⟨nonce1_0,qq,rfl,H5⟩:=tL_elim H4
    obtain ⟨rfl,H6⟩:=tN_elim H5
    obtain ⟨counter2,rr,rfl,H7⟩:=tI_elim H6
    obtain ⟨rfl,H8⟩:=tN_elim H7
    exact fin_and (by kernel_rfl) (by kernel_rfl) H8
  · intro K k inner vals h hk hin H
    rw [show pts A73=[1,2] from by kernel_rfl] at hk
    simp only [List.mem_cons,List.not_mem_nil,or_false] at hk
    rcases hk with rfl | rfl
    · rw [show depth 1 A73 = 1 from by kernel_rfl] at hin
      obtain ⟨T1,rfl⟩:=len1 hin
      have H:src73 K 1 [T1] vals h:=H
      simp only [src73] at H
      obtain ⟨counter2,rr,rfl,H1⟩:=tI_elim H
      obtain ⟨key3,rr,rfl,H2⟩:=tA_elim H1
      obtain ⟨nonce4,rr,rfl,H3⟩:=tA_elim H2
      obtain ⟨v6,rr,rfl,H4⟩:=tA_elim H3
      obtain ⟨w7,rr,rfl,H5⟩:=tA_elim H4
      obtain ⟨v11,rr,rfl,H6⟩:=tI_elim H5
      obtain ⟨rfl,H7⟩:=tN_elim H6
      exact cast (by kernel_rfl) H7
    · rw [show depth 2 A73 = 1 from by kernel_rfl] at hin
      obtain ⟨T2,rfl⟩:=len1 hin
      have H:src73 K 2 [T2] vals h:=H
      simp only [src73] at H
      obtain ⟨nonce4,rr,rfl,H1⟩:=tA_elim H
      obtain ⟨v6,rr,rfl,H2⟩:=tA_elim H1
      obtain ⟨w7,rr,rfl,H3⟩:=tA_elim H2
      obtain ⟨v24,rr,rfl,H4⟩:=tI_elim H3
      obtain ⟨rfl,H5⟩:=tN_elim H4
      exact cast (by kernel_rfl) H5
noncomputable def c85:Code:=Tryz.f85.body.getD .skip
def A85:Ann:=(.seq (.plan (.take 0 [8] (.take 1 [8] (.take 2 [8] (.take 3 [8] (.take 4 [8] (.take 5 [8] (.take 6 [8] (.take 7 [8] (.all (.alt 8 .done .nil))))))))))) (.plan (.take 0 [11] (.take 1 [9,11] (.take 2 [9,11] (.take 3 [9,11] (.take 4 [9,11] (.take 5 [9,11] (.take 6 [9,11] (.take 7 [9,11] (.take 8 [9,11] (.all (.alt 9 (.take 10 [11] (.all (.alt 11 .done .nil))) .nil)))))))))))))
def src85 (_:Value→Hp→Prop):Src:=fun _ _ _ _=>False
theorem ok85:SpecOk Tryz.prog 85 (Tx.cipher_Quarter_1_S ρ):=by
  refine spec_ok (c:=c85) agree (specsOk_cons ok86 specsOk_nil) specsOk_nil mixed Tryz.func85 (by kernel_rfl) (by kernel_rfl) A85 (by kernel_rfl) (src85) ?_ ?_
  · intro args h K H
    unfold Tx.cipher_Quarter_1_S at H
    obtain ⟨x0,rr,rfl,H1⟩:=tI_elim H
    obtain ⟨y1,rr,rfl,H2⟩:=tI_elim H1
    obtain ⟨z2,rr,rfl,H3⟩:=tI_elim H2
    obtain ⟨by3,rr,rfl,H4⟩:=tI_elim H3
    obtain ⟨v4,rr,rfl,H5⟩:=tA_elim H4
    obtain ⟨rfl,H6⟩:=tN_elim H5
    exact fin_and (by kernel_rfl) (by kernel_rfl) H6
  · intro K k inner vals h hk hin H
    exact H.elim
noncomputable def c75:Code:=Tryz.f75.body.getD .skip
def A75:Ann:=(.seq .leaf (.seq .leaf (.seq .leaf (.seq .leaf (.seq .leaf (.seq .leaf (.seq .leaf .leaf)))))))
def src75 (_:Value→Hp→Prop):Src:=fun _ _ _ _=>False
theorem ok75:SpecOk Tryz.prog 75 (Tx.cipher_Quarter_S ρ):=by
  refine spec_ok (c:=c75) agree specsOk_nil (specsOk_cons ok85 specsOk_nil) mixed Tryz.func75 (by kernel_rfl) (by kernel_rfl) A75 (by kernel_rfl) (src75) ?_ ?_
  · intro args h K H
    unfold Tx.cipher_Quarter_S at H
    obtain ⟨cc0,rr0,rfl,H1⟩:=tG_elim H
    obtain ⟨w0_0,qq,rfl,H2⟩:=tL_elim H1
    obtain ⟨rfl,H3⟩:=tN_elim H2
    obtain ⟨rfl,H4⟩:=tN_elim H3
    exact fin_and (by kernel_rfl) (by kernel_rfl) H4
  · intro K k inner vals h hk hin H
    exact H.elim
noncomputable def c74:Code:=Tryz.f74.body.getD .skip
def A74:Ann:=(.join 1 [0,1,2,3,4,9] (.plan (.take 0 [13,15] (.take 1 [13,15] (.take 2 [13,15] (.take 3 [13,15] (.take 4 [13,15] (.take 5 [13,15] (.take 6 [13,15] (.take 7 [13,15] (.take 8 [13,15] (.take 9 [13,15] (.take 10 [13,15] (.take 11 [13,15] (.take 12 [13,15] (.all (.alt 13 (.all (.alt 14 (.all (.alt 15 .done .nil)) .nil)) (.alt 14 (.all (.alt 13 (.all (.alt 15 .done .nil)) .nil)) .nil))))))))))))))))) (.plan (.take 0 [13,15,17,19] (.take 1 [15,17,19] (.take 2 [17,19] (.take 3 [19] (.take 4 [13,15,17,19] (.take 5 [13,15,17,19] (.take 6 [15,17,19] (.take 7 [15,17,19] (.take 8 [17,19] (.take 9 [17,19] (.take 10 [19] (.take 11 [19] (.take 12 [13,15,17,19] (.all (.alt 13 (.take 14 [15,17,19] (.all (.alt 15 (.take 16 [17,19] (.all (.alt 17 (.take 18 [19] (.all (.alt 19 .done .nil))) .nil))) .nil))) .nil)))))))))))))))))
def src74 (K:Value→Hp→Prop):Src
  | 1,[],vals,h=>(tI .i64 fun a0=>tI .i64 fun b1=>tI .i64 fun c2=>tI .i64 fun d3=>tA fun v4=>tA fun q9=>tN (Tx.cipher_Block_1_K1 ρ (fun h=>K (.tuple [].toArray) h) a0 b1 c2 d3 v4 q9 h)) vals
  | _,_,_,_=>False
theorem ok74:SpecOk Tryz.prog 74 (Tx.cipher_Block_1_S ρ):=by
  refine spec_ok (c:=c74) agree (specsOk_cons ok75 specsOk_nil) specsOk_nil mixed Tryz.func74 (by kernel_rfl) (by kernel_rfl) A74 (by kernel_rfl) (src74) ?_ ?_
  · intro args h K H
    unfold Tx.cipher_Block_1_S at H
    obtain ⟨a0,rr,rfl,H1⟩:=tI_elim H
    obtain ⟨b1,rr,rfl,H2⟩:=tI_elim H1
    obtain ⟨c2,rr,rfl,H3⟩:=tI_elim H2
    obtain ⟨d3,rr,rfl,H4⟩:=tI_elim H3
    obtain ⟨v4,rr,rfl,H5⟩:=tA_elim H4
    obtain ⟨rfl,H6⟩:=tN_elim H5
    exact fin_and (by kernel_rfl) (by kernel_rfl) H6
  · intro K k inner vals h hk hin H
    rw [show pts A74=[1] from by kernel_rfl] at hk
    simp only [List.mem_cons,List.not_mem_nil,or_false] at hk
    rcases hk with rfl
    · rw [show depth 1 A74 = 0 from by kernel_rfl] at hin
      obtain rfl:=len0 hin
      have H:src74 K 1 [] vals h:=H
      simp only [src74] at H
      obtain ⟨a0,rr,rfl,H1⟩:=tI_elim H
      obtain ⟨b1,rr,rfl,H2⟩:=tI_elim H1
      obtain ⟨c2,rr,rfl,H3⟩:=tI_elim H2
      obtain ⟨d3,rr,rfl,H4⟩:=tI_elim H3
      obtain ⟨v4,rr,rfl,H5⟩:=tA_elim H4
      obtain ⟨q9,rr,rfl,H6⟩:=tA_elim H5
      obtain ⟨rfl,H7⟩:=tN_elim H6
      exact cast (by kernel_rfl) H7
noncomputable def c66:Code:=Tryz.f66.body.getD .skip
def A66:Ann:=(.seq .leaf (.seq .leaf (.seq .leaf (.seq .leaf (.seq (.seq .leaf (.block (.loop 1 [6,7,8,9,20] (.seq .leaf (.seq (.cond .leaf .leaf) (.seq (.block (.seq (.seq .leaf (.block (.loop 2 [6,7,8,9,20,22] (.seq .leaf (.seq (.cond .leaf .leaf) (.seq (.block (.seq .leaf .leaf)) .leaf)))))) (.seq .leaf (.block (.loop 3 [6,7,8,9,20,35] (.seq .leaf (.seq (.cond .leaf .leaf) (.seq (.block (.seq .leaf .leaf)) .leaf)))))))) .leaf)))))) (.seq .leaf (.seq (.seq .leaf (.block (.loop 4 [6,7,8,12,55] (.seq .leaf (.seq (.cond .leaf .leaf) (.seq (.block (.seq .leaf (.plan (.take 0 [16] (.take 1 [16] (.take 2 [16] (.take 3 [16] (.take 4 [16] (.take 5 [16] (.take 6 [16] (.take 7 [16] (.take 8 [16] (.take 9 [16] (.take 10 [16] (.take 11 [16] (.take 12 [16] (.take 13 [16] (.take 14 [16] (.take 15 [16] (.all (.alt 16 .done .nil))))))))))))))))))))) .leaf)))))) (.seq .leaf .leaf))))))))
def src66 (K:Value→Hp→Prop):Src
  | 1,[T1],vals,h=>(tA fun v6=>tA fun first7=>tA fun w8=>tF (ρ.G 119) fun cells3 rest3=>(tA fun turn9_0=>tN ((tI .i64 fun v20=>tN (Tx.cipher_Block_B1 ρ (fun v6 first7 w8 turn9_0 v20 hh=>T1 [(.pointer (some v6)),(.pointer (some first7)),(.pointer (some w8)),(.func (.func (ρ.G 119)) #[] #[(.pointer (some turn9_0))]),(.int .i64 v20)] hh) (fun r0 h=>K (.agg (lumpV .u8 64 r0).toArray) h) v6 first7 w8 turn9_0 v20 h)) rest3)) cells3) vals
  | 2,[T2,T1],vals,h=>(tA fun v6=>tA fun first7=>tA fun w8=>tF (ρ.G 119) fun cells3 rest3=>(tA fun turn9_0=>tN ((tI .i64 fun v20=>tI .i64 fun v22=>tN (Tx.cipher_Block_B2 ρ (fun v6 first7 w8 turn9_0 v20 hh=>T1 [(.pointer (some v6)),(.pointer (some first7)),(.pointer (some w8)),(.func (.func (ρ.G 119)) #[] #[(.pointer (some turn9_0))]),(.int .i64 v20)] hh) (fun v6 first7 w8 turn9_0 v20 v22 hh=>T2 [(.pointer (some v6)),(.pointer (some first7)),(.pointer (some w8)),(.func (.func (ρ.G 119)) #[] #[(.pointer (some turn9_0))]),(.int .i64 v20),(.int .i64 v22)] hh) (fun r0 h=>K (.agg (lumpV .u8 64 r0).toArray) h) v6 first7 w8 turn9_0 v20 v22 h)) rest3)) cells3) vals
  | 3,[T3,T1],vals,h=>(tA fun v6=>tA fun first7=>tA fun w8=>tF (ρ.G 119) fun cells3 rest3=>(tA fun turn9_0=>tN ((tI .i64 fun v20=>tI .i64 fun v35=>tN (Tx.cipher_Block_B3 ρ (fun v6 first7 w8 turn9_0 v20 hh=>T1 [(.pointer (some v6)),(.pointer (some first7)),(.pointer (some w8)),(.func (.func (ρ.G 119)) #[] #[(.pointer (some turn9_0))]),(.int .i64 v20)] hh) (fun v6 first7 w8 turn9_0 v20 v35 hh=>T3 [(.pointer (some v6)),(.pointer (some first7)),(.pointer (some w8)),(.func (.func (ρ.G 119)) #[] #[(.pointer (some turn9_0))]),(.int .i64 v20),(.int .i64 v35)] hh) (fun r0 h=>K (.agg (lumpV .u8 64 r0).toArray) h) v6 first7 w8 turn9_0 v20 v35 h)) rest3)) cells3) vals
  | 4,[T4],vals,h=>(tA fun v6=>tA fun first7=>tA fun w8=>tA fun b12=>tI .i64 fun v55=>tN (Tx.cipher_Block_B4 ρ (fun v6 first7 w8 b12 v55 hh=>T4 [(.pointer (some v6)),(.pointer (some first7)),(.pointer (some w8)),(.pointer (some b12)),(.int .i64 v55)] hh) (fun r0 h=>K (.agg (lumpV .u8 64 r0).toArray) h) v6 first7 w8 b12 v55 h)) vals
  | _,_,_,_=>False
theorem ok66:SpecOk Tryz.prog 66 (Tx.cipher_Block_S ρ):=by
  refine spec_ok (c:=c66) agree (specsOk_cons ok73 specsOk_nil) (specsOk_cons ok74 specsOk_nil) mixed Tryz.func66 (by kernel_rfl) (by kernel_rfl) A66 (by kernel_rfl) (src66) ?_ ?_
  · intro args h K H
    unfold Tx.cipher_Block_S at H
    obtain ⟨cc0,rr0,rfl,H1⟩:=tG_elim H
    obtain ⟨key0_0,qq,rfl,H2⟩:=tL_elim H1
    obtain ⟨rfl,H3⟩:=tN_elim H2
    obtain ⟨cc1,rr1,rfl,H4⟩:=tG_elim H3
    obtain ⟨nonce1_0,qq,rfl,H5⟩:=tL_elim H4
    obtain ⟨rfl,H6⟩:=tN_elim H5
    obtain ⟨counter2,rr,rfl,H7⟩:=tI_elim H6
    obtain ⟨rfl,H8⟩:=tN_elim H7
    exact fin_and (by kernel_rfl) (by kernel_rfl) H8
  · intro K k inner vals h hk hin H
    rw [show pts A66=[1,2,3,4] from by kernel_rfl] at hk
    simp only [List.mem_cons,List.not_mem_nil,or_false] at hk
    rcases hk with rfl | rfl | rfl | rfl
    · rw [show depth 1 A66 = 1 from by kernel_rfl] at hin
      obtain ⟨T1,rfl⟩:=len1 hin
      have H:src66 K 1 [T1] vals h:=H
      simp only [src66] at H
      obtain ⟨v6,rr,rfl,H1⟩:=tA_elim H
      obtain ⟨first7,rr,rfl,H2⟩:=tA_elim H1
      obtain ⟨w8,rr,rfl,H3⟩:=tA_elim H2
      obtain ⟨cc3,rr3,rfl,H4⟩:=tF_elim H3
      obtain ⟨turn9_0,qq,rfl,H5⟩:=tA_elim H4
      obtain ⟨rfl,H6⟩:=tN_elim H5
      obtain ⟨v20,rr,rfl,H7⟩:=tI_elim H6
      obtain ⟨rfl,H8⟩:=tN_elim H7
      exact cast (by kernel_rfl) H8
    · rw [show depth 2 A66 = 2 from by kernel_rfl] at hin
      obtain ⟨T1,T2,rfl⟩:=len2 hin
      have H:src66 K 2 [T2,T1] vals h:=H
      simp only [src66] at H
      obtain ⟨v6,rr,rfl,H1⟩:=tA_elim H
      obtain ⟨first7,rr,rfl,H2⟩:=tA_elim H1
      obtain ⟨w8,rr,rfl,H3⟩:=tA_elim H2
      obtain ⟨cc3,rr3,rfl,H4⟩:=tF_elim H3
      obtain ⟨turn9_0,qq,rfl,H5⟩:=tA_elim H4
      obtain ⟨rfl,H6⟩:=tN_elim H5
      obtain ⟨v20,rr,rfl,H7⟩:=tI_elim H6
      obtain ⟨v22,rr,rfl,H8⟩:=tI_elim H7
      obtain ⟨rfl,H9⟩:=tN_elim H8
      exact cast (by kernel_rfl) H9
    · rw [show depth 3 A66 = 2 from by kernel_rfl] at hin
      obtain ⟨T1,T3,rfl⟩:=len2 hin
      have H:src66 K 3 [T3,T1] vals h:=H
      simp only [src66] at H
      obtain ⟨v6,rr,rfl,H1⟩:=tA_elim H
      obtain ⟨first7,rr,rfl,H2⟩:=tA_elim H1
      obtain ⟨w8,rr,rfl,H3⟩:=tA_elim H2
      obtain ⟨cc3,rr3,rfl,H4⟩:=tF_elim H3
      obtain ⟨turn9_0,qq,rfl,H5⟩:=tA_elim H4
      obtain ⟨rfl,H6⟩:=tN_elim H5
      obtain ⟨v20,rr,rfl,H7⟩:=tI_elim H6
      obtain ⟨v35,rr,rfl,H8⟩:=tI_elim H7
      obtain ⟨rfl,H9⟩:=tN_elim H8
      exact cast (by kernel_rfl) H9
    · rw [show depth 4 A66 = 1 from by kernel_rfl] at hin
      obtain ⟨T4,rfl⟩:=len1 hin
      have H:src66 K 4 [T4] vals h:=H
      simp only [src66] at H
      obtain ⟨v6,rr,rfl,H1⟩:=tA_elim H
      obtain ⟨first7,rr,rfl,H2⟩:=tA_elim H1
      obtain ⟨w8,rr,rfl,H3⟩:=tA_elim H2
      obtain ⟨b12,rr,rfl,H4⟩:=tA_elim H3
      obtain ⟨v55,rr,rfl,H5⟩:=tI_elim H4
      obtain ⟨rfl,H6⟩:=tN_elim H5
      exact cast (by kernel_rfl) H6
noncomputable def c59:Code:=Tryz.f59.body.getD .skip
def A59:Ann:=(.seq .leaf (.seq .leaf (.seq (.seq .leaf (.block (.loop 1 [2,4,5,9,10] (.seq (.seq .leaf (.cond .leaf .leaf)) (.seq (.block (.seq .leaf (.seq (.seq .leaf (.block (.loop 2 [2,4,5,9,10,11,34,35] (.seq .leaf (.seq (.cond .leaf .leaf) (.seq (.block (.seq .leaf (.plan (.take 0 [11] (.take 1 [11] (.take 2 [11] (.take 3 [11] (.take 4 [11] (.take 5 [11] (.take 6 [11] (.take 7 [11] (.take 8 [11] (.take 9 [11] (.take 10 [11] (.all (.alt 11 .done .nil)))))))))))))))) .leaf)))))) .leaf))) .leaf))))) (.seq .leaf .leaf))))
def src59 (K:Value→Hp→Prop):Src
  | 1,[T1],vals,h=>(tI .u32 fun counter2=>tA fun key4=>tA fun nonce5=>tS fun out9=>tI .i64 fun at10=>tN (Tx.cipher_Turn_B1 ρ (fun counter2 key4 nonce5 out9 at10 hh=>T1 [(.int .u32 counter2),(.pointer (some key4)),(.pointer (some nonce5)),(.slice out9.a out9.len out9.cap),(.int .i64 at10)] hh) (fun r0 h=>K (.slice r0.a r0.len r0.cap) h) counter2 key4 nonce5 out9 at10 h)) vals
  | 2,[T2,T1],vals,h=>(tI .u32 fun counter2=>tA fun key4=>tA fun nonce5=>tS fun out9=>tI .i64 fun at10=>tA fun s11=>tI .i64 fun v34=>tI .i64 fun v35=>tN (Tx.cipher_Turn_B2 ρ (fun counter2 key4 nonce5 out9 at10 hh=>T1 [(.int .u32 counter2),(.pointer (some key4)),(.pointer (some nonce5)),(.slice out9.a out9.len out9.cap),(.int .i64 at10)] hh) (fun counter2 key4 nonce5 out9 at10 s11 v34 v35 hh=>T2 [(.int .u32 counter2),(.pointer (some key4)),(.pointer (some nonce5)),(.slice out9.a out9.len out9.cap),(.int .i64 at10),(.pointer (some s11)),(.int .i64 v34),(.int .i64 v35)] hh) (fun r0 h=>K (.slice r0.a r0.len r0.cap) h) counter2 key4 nonce5 out9 at10 s11 v34 v35 h)) vals
  | _,_,_,_=>False
theorem ok59:SpecOk Tryz.prog 59 (Tx.cipher_Turn_S ρ):=by
  refine spec_ok (c:=c59) agree (specsOk_cons ok66 specsOk_nil) specsOk_nil mixed Tryz.func59 (by kernel_rfl) (by kernel_rfl) A59 (by kernel_rfl) (src59) ?_ ?_
  · intro args h K H
    unfold Tx.cipher_Turn_S at H
    obtain ⟨cc0,rr0,rfl,H1⟩:=tG_elim H
    obtain ⟨key0_0,qq,rfl,H2⟩:=tL_elim H1
    obtain ⟨rfl,H3⟩:=tN_elim H2
    obtain ⟨cc1,rr1,rfl,H4⟩:=tG_elim H3
    obtain ⟨nonce1_0,qq,rfl,H5⟩:=tL_elim H4
    obtain ⟨rfl,H6⟩:=tN_elim H5
    obtain ⟨counter2,rr,rfl,H7⟩:=tI_elim H6
    obtain ⟨b3,rr,rfl,H8⟩:=tS_elim H7
    obtain ⟨rfl,H9⟩:=tN_elim H8
    exact fin_and (by kernel_rfl) (by kernel_rfl) H9
  · intro K k inner vals h hk hin H
    rw [show pts A59=[1,2] from by kernel_rfl] at hk
    simp only [List.mem_cons,List.not_mem_nil,or_false] at hk
    rcases hk with rfl | rfl
    · rw [show depth 1 A59 = 1 from by kernel_rfl] at hin
      obtain ⟨T1,rfl⟩:=len1 hin
      have H:src59 K 1 [T1] vals h:=H
      simp only [src59] at H
      obtain ⟨counter2,rr,rfl,H1⟩:=tI_elim H
      obtain ⟨key4,rr,rfl,H2⟩:=tA_elim H1
      obtain ⟨nonce5,rr,rfl,H3⟩:=tA_elim H2
      obtain ⟨out9,rr,rfl,H4⟩:=tS_elim H3
      obtain ⟨at10,rr,rfl,H5⟩:=tI_elim H4
      obtain ⟨rfl,H6⟩:=tN_elim H5
      exact cast (by kernel_rfl) H6
    · rw [show depth 2 A59 = 2 from by kernel_rfl] at hin
      obtain ⟨T1,T2,rfl⟩:=len2 hin
      have H:src59 K 2 [T2,T1] vals h:=H
      simp only [src59] at H
      obtain ⟨counter2,rr,rfl,H1⟩:=tI_elim H
      obtain ⟨key4,rr,rfl,H2⟩:=tA_elim H1
      obtain ⟨nonce5,rr,rfl,H3⟩:=tA_elim H2
      obtain ⟨out9,rr,rfl,H4⟩:=tS_elim H3
      obtain ⟨at10,rr,rfl,H5⟩:=tI_elim H4
      obtain ⟨s11,rr,rfl,H6⟩:=tA_elim H5
      obtain ⟨v34,rr,rfl,H7⟩:=tI_elim H6
      obtain ⟨v35,rr,rfl,H8⟩:=tI_elim H7
      obtain ⟨rfl,H9⟩:=tN_elim H8
      exact cast (by kernel_rfl) H9
end Go.Proofs.YtnjbidanmnbnhaaGreatDoor.Lk
