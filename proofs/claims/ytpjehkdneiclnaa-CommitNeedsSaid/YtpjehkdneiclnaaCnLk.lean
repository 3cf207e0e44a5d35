import Derived.Test.YtpjehkdneiclnaaCnTx
import Derived.Test.YtpjehkdneiclnaaCnSh1
import Derived.Test.YtpjehkdneiclnaaCnSh2
import Derived.Test.YtpjehkdneiclnaaCnSort
import Derived.Test.YtpjehkdneiclnaaProg
set_option linter.unusedSimpArgs false
set_option linter.unusedVariables false
set_option maxHeartbeats 4000000
namespace Go.Proofs.Ytpjehkdneiclnaa.Lk
open Go Go.Wc Go.Proofs.Ytpjehkdneiclnaa
def τ:Tys:=[
(0,⟨.other,1,0,(.tuple [].toArray),[.any],true⟩),
(3,⟨.int .i64,1,8,(.int .i64 (0:Int)),[.int .i64],true⟩),
(4,⟨.bool,1,1,(.bool false),[.bool],true⟩),
(5,⟨.int .u8,1,1,(.int .u8 (0:Int)),[.int .u8],true⟩),
(22,⟨.slice 54,1,24,(.slice none 0 0),[.sl],true⟩),
(23,⟨.slice 38,1,24,(.slice none 0 0),[.sl],true⟩),
(24,⟨.slice 3,1,24,(.slice none 0 0),[.sl],true⟩),
(26,⟨.struct [(24,0)],1,24,(.agg [(.slice none 0 0)].toArray),[.sl],true⟩),
(31,⟨.struct [(3,0),(24,1),(24,2)],3,56,(.agg [(.int .i64 (0:Int)),(.slice none 0 0),(.slice none 0 0)].toArray),[.int .i64, .sl, .sl],true⟩),
(36,⟨.slice 5,1,24,(.slice none 0 0),[.sl],true⟩),
(38,⟨.struct [(3,0),(36,1)],2,32,(.agg [(.int .i64 (0:Int)),(.slice none 0 0)].toArray),[.int .i64, .sl],true⟩),
(42,⟨.slice 65,1,24,(.slice none 0 0),[.sl],true⟩),
(45,⟨.slice 52,1,24,(.slice none 0 0),[.sl],true⟩),
(47,⟨.slice 81,1,24,(.slice none 0 0),[.sl],true⟩),
(52,⟨.struct [(3,0),(42,1)],2,32,(.agg [(.int .i64 (0:Int)),(.slice none 0 0)].toArray),[.int .i64, .sl],true⟩),
(54,⟨.struct [(3,0),(47,1)],2,32,(.agg [(.int .i64 (0:Int)),(.slice none 0 0)].toArray),[.int .i64, .sl],true⟩),
(56,⟨.slice 68,1,24,(.slice none 0 0),[.sl],true⟩),
(61,⟨.slice 70,1,24,(.slice none 0 0),[.sl],true⟩),
(62,⟨.int .u32,1,4,(.int .u32 (0:Int)),[.int .u32],true⟩),
(63,⟨.arr 32 5,32,32,(.agg (lumpV .u8 32 (List.replicate 32 0)).toArray),[.lump .u8 32],true⟩),
(65,⟨.struct [(3,0),(62,1),(63,2)],34,48,(.agg (([(.int .i64 (0:Int)),(.int .u32 (0:Int))]:List Value)++lumpV .u8 32 (List.replicate 32 0)).toArray),[.int .i64, .int .u32, .lump .u8 32],true⟩),
(68,⟨.struct [(3,0),(36,1)],2,32,(.agg [(.int .i64 (0:Int)),(.slice none 0 0)].toArray),[.int .i64, .sl],true⟩),
(70,⟨.struct [(3,0),(36,1)],2,32,(.agg [(.int .i64 (0:Int)),(.slice none 0 0)].toArray),[.int .i64, .sl],true⟩),
(71,⟨.map 3 4,1,8,(.map none),[.map],true⟩),
(81,⟨.struct [(3,0),(62,1),(63,2)],34,48,(.agg (([(.int .i64 (0:Int)),(.int .u32 (0:Int))]:List Value)++lumpV .u8 32 (List.replicate 32 0)).toArray),[.int .i64, .int .u32, .lump .u8 32],true⟩),
(87,⟨.ptr 132,1,8,(.pointer none),[.ptr],true⟩),
(89,⟨.map 3 42,1,8,(.map none),[.map],true⟩),
(91,⟨.struct [(87,0),(63,1),(62,33),(26,34),(65,35),(89,69),(61,70)],71,152,(.agg (([(.pointer none)]:List Value)++lumpV .u8 32 (List.replicate 32 0)++([(.int .u32 (0:Int)),(.slice none 0 0),(.int .i64 (0:Int)),(.int .u32 (0:Int))]:List Value)++lumpV .u8 32 (List.replicate 32 0)++([(.map none),(.slice none 0 0)]:List Value)).toArray),[.ptr, .lump .u8 32, .int .u32, .sl, .int .i64, .int .u32, .lump .u8 32, .map, .sl],true⟩),
(110,⟨.int .u64,1,8,(.int .u64 (0:Int)),[.int .u64],true⟩),
(114,⟨.int .u64,1,8,(.int .u64 (0:Int)),[.int .u64],true⟩),
(128,⟨.arr 12 5,12,12,(.agg (lumpV .u8 12 (List.replicate 12 0)).toArray),[.lump .u8 12],true⟩),
(130,⟨.slice 36,1,24,(.slice none 0 0),[.sl],true⟩),
(132,⟨.struct [(130,0)],1,24,(.agg [(.slice none 0 0)].toArray),[.sl],true⟩),
(140,⟨.arr 64 5,64,64,(.agg (lumpV .u8 64 (List.replicate 64 0)).toArray),[.lump .u8 64],true⟩),
(142,⟨.arr 8 62,8,32,(.agg (lumpV .u32 8 (List.replicate 8 0)).toArray),[.lump .u32 8],true⟩),
(144,⟨.struct [(142,0),(36,8),(114,9)],10,64,(.agg (lumpV .u32 8 (List.replicate 8 0)++([(.slice none 0 0),(.int .u64 (0:Int))]:List Value)).toArray),[.lump .u32 8, .sl, .int .u64],true⟩),
(151,⟨.arr 16 62,16,64,(.agg (lumpV .u32 16 (List.replicate 16 0)).toArray),[.lump .u32 16],true⟩),
(153,⟨.arr 4 62,4,16,(.agg (lumpV .u32 4 (List.replicate 4 0)).toArray),[.lump .u32 4],true⟩),
(160,⟨.arr 64 62,64,256,(.agg (lumpV .u32 64 (List.replicate 64 0)).toArray),[.lump .u32 64],true⟩),
(163,⟨.slice 62,1,24,(.slice none 0 0),[.sl],true⟩)]
theorem agree:Agree Try.prog τ:=agree_of _ _ (by kernel_rfl) (by kernel_rfl)
theorem mixed:Try.prog.follows .mixedOrders=true:=by kernel_rfl
def ρ:Ids:=ids [(0,3),(1,5),(11,26),(12,31),(13,38),(14,52),(15,54),(16,65),(17,68),(18,71),(19,63),(20,91),(21,70),(22,128),(23,140),(24,151),(25,153),(26,36),(27,144),(28,142),(29,160),(30,81),(32,23),(34,4),(36,62),(37,24),(38,114)] [(9,60),(25,42),(47,75),(67,59),(68,50),(74,4),(75,5),(76,6),(77,7),(78,8),(79,9),(80,10),(81,12),(82,11),(83,13),(84,14),(85,16),(86,15),(87,17),(88,18),(89,19),(90,20),(91,22),(92,21),(93,43),(94,39),(95,40),(96,51),(97,52),(98,31),(99,29),(100,37),(101,27),(102,38),(103,26),(104,25),(105,28),(106,30),(107,32),(108,33),(109,45),(110,47),(111,48),(112,56),(113,57),(114,58),(115,73),(116,72),(117,82),(118,87),(119,88),(120,92),(121,89),(122,93),(123,94),(124,74),(125,83),(126,84),(127,85),(128,90),(129,91),(130,95),(131,96),(132,97),(133,98),(134,49),(135,24),(136,23),(137,44),(138,35),(139,46),(140,34),(141,36)]
noncomputable def c4:Code:=Try.f4.body.getD .skip
def A4:Ann:=(.seq .leaf (.seq (.join 1 [0,2,12] .leaf (.cond (.seq .leaf .leaf) .leaf)) (.seq .leaf (.seq (.seq .leaf (.block (.loop 2 [2,4,5] (.seq (.join 3 [2,4,5,23] .leaf (.cond .leaf .leaf)) (.block (.seq .leaf (.seq .leaf (.plan (.take 0 [12] (.take 1 [12] (.take 2 [12] (.take 3 [12] (.take 4 [11,12] (.take 5 [11,12] (.take 6 [11,12] (.take 7 [11,12] (.take 8 [11,12] (.take 9 [11,12] (.take 10 [11,12] (.all (.alt 11 (.all (.alt 12 (.take 13 [] .done) .nil)) .nil))))))))))))))))))))) (.seq .leaf .leaf)))))
def src4 (K:Value→Hp→Prop):Src
  | 1,[],vals,h=>(tI .i64 fun pages0=>tA fun v2=>tB fun v12=>tN (Tx.shape_New_K1 ρ (fun r0 r1 h=>K (.tuple [(.agg [(.slice r0.a r0.len r0.cap)].toArray),(.int .i64 r1)].toArray) h) pages0 v2 v12 h)) vals
  | 2,[T2],vals,h=>(tA fun v2=>tS fun l4=>tI .i64 fun many5=>tN (Tx.shape_New_B2 ρ (fun v2 l4 many5 hh=>T2 [(.pointer (some v2)),(.slice l4.a l4.len l4.cap),(.int .i64 many5)] hh) (fun r0 r1 h=>K (.tuple [(.agg [(.slice r0.a r0.len r0.cap)].toArray),(.int .i64 r1)].toArray) h) v2 l4 many5 h)) vals
  | 3,[T2],vals,h=>(tA fun v2=>tS fun l4=>tI .i64 fun many5=>tB fun v23=>tN (Tx.shape_New_K3 ρ (fun v2 l4 many5 hh=>T2 [(.pointer (some v2)),(.slice l4.a l4.len l4.cap),(.int .i64 many5)] hh) (fun r0 r1 h=>K (.tuple [(.agg [(.slice r0.a r0.len r0.cap)].toArray),(.int .i64 r1)].toArray) h) v2 l4 many5 v23 h)) vals
  | _,_,_,_=>False
theorem ok4:SpecOk Try.prog 4 (Tx.shape_New_S ρ):=by
  refine spec_ok (c:=c4) agree specsOk_nil specsOk_nil mixed Try.func4 (by kernel_rfl) (by kernel_rfl) A4 (by kernel_rfl) (src4) ?_ ?_
  · intro args h K H
    unfold Tx.shape_New_S at H
    obtain ⟨pages0,rr,rfl,H1⟩:=tI_elim H
    obtain ⟨rfl,H2⟩:=tN_elim H1
    exact fin_and (by kernel_rfl) (by kernel_rfl) H2
  · intro K k inner vals h hk hin H
    rw [show pts A4=[1,2,3] from by kernel_rfl] at hk
    simp only [List.mem_cons,List.not_mem_nil,or_false] at hk
    rcases hk with rfl | rfl | rfl
    · rw [show depth 1 A4 = 0 from by kernel_rfl] at hin
      obtain rfl:=len0 hin
      have H:src4 K 1 [] vals h:=H
      simp only [src4] at H
      obtain ⟨pages0,rr,rfl,H1⟩:=tI_elim H
      obtain ⟨v2,rr,rfl,H2⟩:=tA_elim H1
      obtain ⟨v12,rr,rfl,H3⟩:=tB_elim H2
      obtain ⟨rfl,H4⟩:=tN_elim H3
      exact cast (by kernel_rfl) H4
    · rw [show depth 2 A4 = 1 from by kernel_rfl] at hin
      obtain ⟨T2,rfl⟩:=len1 hin
      have H:src4 K 2 [T2] vals h:=H
      simp only [src4] at H
      obtain ⟨v2,rr,rfl,H1⟩:=tA_elim H
      obtain ⟨l4,rr,rfl,H2⟩:=tS_elim H1
      obtain ⟨many5,rr,rfl,H3⟩:=tI_elim H2
      obtain ⟨rfl,H4⟩:=tN_elim H3
      exact cast (by kernel_rfl) H4
    · rw [show depth 3 A4 = 1 from by kernel_rfl] at hin
      obtain ⟨T2,rfl⟩:=len1 hin
      have H:src4 K 3 [T2] vals h:=H
      simp only [src4] at H
      obtain ⟨v2,rr,rfl,H1⟩:=tA_elim H
      obtain ⟨l4,rr,rfl,H2⟩:=tS_elim H1
      obtain ⟨many5,rr,rfl,H3⟩:=tI_elim H2
      obtain ⟨v23,rr,rfl,H4⟩:=tB_elim H3
      obtain ⟨rfl,H5⟩:=tN_elim H4
      exact cast (by kernel_rfl) H5
noncomputable def c5:Code:=Try.f5.body.getD .skip
def A5:Ann:=(.seq .leaf (.seq (.join 1 [0,2,16] .leaf (.cond (.seq .leaf .leaf) .leaf)) (.seq .leaf (.seq (.seq .leaf (.block (.loop 2 [0,2,4,5] (.seq (.seq .leaf (.cond .leaf .leaf)) (.seq (.block (.seq .leaf .leaf)) .leaf))))) (.seq .leaf (.seq (.seq .leaf (.block (.loop 3 [2,4,6,7,8] (.seq (.join 4 [2,4,6,7,8,41] .leaf (.cond .leaf .leaf)) (.seq (.block (.seq .leaf (.seq (.seq .leaf (.block (.loop 5 [2,4,6,7,8,9,10] (.seq (.seq .leaf (.cond .leaf .leaf)) (.seq (.block (.seq .leaf (.seq .leaf .leaf))) .leaf))))) .leaf))) .leaf))))) (.seq .leaf .leaf)))))))
def src5 (K:Value→Hp→Prop):Src
  | 1,[],vals,h=>(tI .i64 fun pages0=>tA fun v2=>tB fun v16=>tN (Tx.carlingref12_New_K1 ρ (fun r0 r1 r2 r3 h=>K (.tuple [(.agg [(.int .i64 r0),(.slice r1.a r1.len r1.cap),(.slice r2.a r2.len r2.cap)].toArray),(.int .i64 r3)].toArray) h) pages0 v2 v16 h)) vals
  | 2,[T2],vals,h=>(tI .i64 fun pages0=>tA fun v2=>tA fun s4=>tI .i64 fun i5=>tN (Tx.carlingref12_New_B2 ρ (fun pages0 v2 s4 i5 hh=>T2 [(.int .i64 pages0),(.pointer (some v2)),(.pointer (some s4)),(.int .i64 i5)] hh) (fun r0 r1 r2 r3 h=>K (.tuple [(.agg [(.int .i64 r0),(.slice r1.a r1.len r1.cap),(.slice r2.a r2.len r2.cap)].toArray),(.int .i64 r3)].toArray) h) pages0 v2 s4 i5 h)) vals
  | 3,[T3],vals,h=>(tA fun v2=>tA fun s4=>tI .i64 fun from6=>tI .i64 fun many7=>tI .i64 fun level8=>tN (Tx.carlingref12_New_B3 ρ (fun v2 s4 from6 many7 level8 hh=>T3 [(.pointer (some v2)),(.pointer (some s4)),(.int .i64 from6),(.int .i64 many7),(.int .i64 level8)] hh) (fun r0 r1 r2 r3 h=>K (.tuple [(.agg [(.int .i64 r0),(.slice r1.a r1.len r1.cap),(.slice r2.a r2.len r2.cap)].toArray),(.int .i64 r3)].toArray) h) v2 s4 from6 many7 level8 h)) vals
  | 4,[T3],vals,h=>(tA fun v2=>tA fun s4=>tI .i64 fun from6=>tI .i64 fun many7=>tI .i64 fun level8=>tB fun v41=>tN (Tx.carlingref12_New_K4 ρ (fun v2 s4 from6 many7 level8 hh=>T3 [(.pointer (some v2)),(.pointer (some s4)),(.int .i64 from6),(.int .i64 many7),(.int .i64 level8)] hh) (fun r0 r1 r2 r3 h=>K (.tuple [(.agg [(.int .i64 r0),(.slice r1.a r1.len r1.cap),(.slice r2.a r2.len r2.cap)].toArray),(.int .i64 r3)].toArray) h) v2 s4 from6 many7 level8 v41 h)) vals
  | 5,[T5,T3],vals,h=>(tA fun v2=>tA fun s4=>tI .i64 fun from6=>tI .i64 fun many7=>tI .i64 fun level8=>tI .i64 fun n9=>tI .i64 fun k10=>tN (Tx.carlingref12_New_B5 ρ (fun v2 s4 from6 many7 level8 hh=>T3 [(.pointer (some v2)),(.pointer (some s4)),(.int .i64 from6),(.int .i64 many7),(.int .i64 level8)] hh) (fun v2 s4 from6 many7 level8 n9 k10 hh=>T5 [(.pointer (some v2)),(.pointer (some s4)),(.int .i64 from6),(.int .i64 many7),(.int .i64 level8),(.int .i64 n9),(.int .i64 k10)] hh) (fun r0 r1 r2 r3 h=>K (.tuple [(.agg [(.int .i64 r0),(.slice r1.a r1.len r1.cap),(.slice r2.a r2.len r2.cap)].toArray),(.int .i64 r3)].toArray) h) v2 s4 from6 many7 level8 n9 k10 h)) vals
  | _,_,_,_=>False
theorem ok5:SpecOk Try.prog 5 (Tx.carlingref12_New_S ρ):=by
  refine spec_ok (c:=c5) agree specsOk_nil specsOk_nil mixed Try.func5 (by kernel_rfl) (by kernel_rfl) A5 (by kernel_rfl) (src5) ?_ ?_
  · intro args h K H
    unfold Tx.carlingref12_New_S at H
    obtain ⟨pages0,rr,rfl,H1⟩:=tI_elim H
    obtain ⟨rfl,H2⟩:=tN_elim H1
    exact fin_and (by kernel_rfl) (by kernel_rfl) H2
  · intro K k inner vals h hk hin H
    rw [show pts A5=[1,2,3,4,5] from by kernel_rfl] at hk
    simp only [List.mem_cons,List.not_mem_nil,or_false] at hk
    rcases hk with rfl | rfl | rfl | rfl | rfl
    · rw [show depth 1 A5 = 0 from by kernel_rfl] at hin
      obtain rfl:=len0 hin
      have H:src5 K 1 [] vals h:=H
      simp only [src5] at H
      obtain ⟨pages0,rr,rfl,H1⟩:=tI_elim H
      obtain ⟨v2,rr,rfl,H2⟩:=tA_elim H1
      obtain ⟨v16,rr,rfl,H3⟩:=tB_elim H2
      obtain ⟨rfl,H4⟩:=tN_elim H3
      exact cast (by kernel_rfl) H4
    · rw [show depth 2 A5 = 1 from by kernel_rfl] at hin
      obtain ⟨T2,rfl⟩:=len1 hin
      have H:src5 K 2 [T2] vals h:=H
      simp only [src5] at H
      obtain ⟨pages0,rr,rfl,H1⟩:=tI_elim H
      obtain ⟨v2,rr,rfl,H2⟩:=tA_elim H1
      obtain ⟨s4,rr,rfl,H3⟩:=tA_elim H2
      obtain ⟨i5,rr,rfl,H4⟩:=tI_elim H3
      obtain ⟨rfl,H5⟩:=tN_elim H4
      exact cast (by kernel_rfl) H5
    · rw [show depth 3 A5 = 1 from by kernel_rfl] at hin
      obtain ⟨T3,rfl⟩:=len1 hin
      have H:src5 K 3 [T3] vals h:=H
      simp only [src5] at H
      obtain ⟨v2,rr,rfl,H1⟩:=tA_elim H
      obtain ⟨s4,rr,rfl,H2⟩:=tA_elim H1
      obtain ⟨from6,rr,rfl,H3⟩:=tI_elim H2
      obtain ⟨many7,rr,rfl,H4⟩:=tI_elim H3
      obtain ⟨level8,rr,rfl,H5⟩:=tI_elim H4
      obtain ⟨rfl,H6⟩:=tN_elim H5
      exact cast (by kernel_rfl) H6
    · rw [show depth 4 A5 = 1 from by kernel_rfl] at hin
      obtain ⟨T3,rfl⟩:=len1 hin
      have H:src5 K 4 [T3] vals h:=H
      simp only [src5] at H
      obtain ⟨v2,rr,rfl,H1⟩:=tA_elim H
      obtain ⟨s4,rr,rfl,H2⟩:=tA_elim H1
      obtain ⟨from6,rr,rfl,H3⟩:=tI_elim H2
      obtain ⟨many7,rr,rfl,H4⟩:=tI_elim H3
      obtain ⟨level8,rr,rfl,H5⟩:=tI_elim H4
      obtain ⟨v41,rr,rfl,H6⟩:=tB_elim H5
      obtain ⟨rfl,H7⟩:=tN_elim H6
      exact cast (by kernel_rfl) H7
    · rw [show depth 5 A5 = 2 from by kernel_rfl] at hin
      obtain ⟨T3,T5,rfl⟩:=len2 hin
      have H:src5 K 5 [T5,T3] vals h:=H
      simp only [src5] at H
      obtain ⟨v2,rr,rfl,H1⟩:=tA_elim H
      obtain ⟨s4,rr,rfl,H2⟩:=tA_elim H1
      obtain ⟨from6,rr,rfl,H3⟩:=tI_elim H2
      obtain ⟨many7,rr,rfl,H4⟩:=tI_elim H3
      obtain ⟨level8,rr,rfl,H5⟩:=tI_elim H4
      obtain ⟨n9,rr,rfl,H6⟩:=tI_elim H5
      obtain ⟨k10,rr,rfl,H7⟩:=tI_elim H6
      obtain ⟨rfl,H8⟩:=tN_elim H7
      exact cast (by kernel_rfl) H8
noncomputable def c6:Code:=Try.f6.body.getD .skip
def A6:Ann:=(.seq .leaf (.seq (.join 1 [0,1,16] .leaf (.cond (.seq .leaf .leaf) .leaf)) (.seq (.seq .leaf (.block (.loop 2 [1,17,18,19] (.seq .leaf (.seq (.cond .leaf .leaf) (.seq (.block (.seq .leaf (.seq .leaf (.cond (.seq .leaf .leaf) .leaf)))) .leaf)))))) (.seq (.seq .leaf (.block (.loop 3 [28,29,30] (.seq .leaf (.seq (.cond .leaf .leaf) (.seq (.block (.seq .leaf (.seq .leaf (.cond (.seq .leaf .leaf) .leaf)))) .leaf)))))) (.seq .leaf .leaf)))))
def src6 (K:Value→Hp→Prop):Src
  | 1,[],vals,h=>(tS fun l0=>tS fun c1=>tB fun v16=>tN (Tx.carlinglaw16_far_K1 ρ (fun r0 h=>K (.bool r0) h) l0 c1 v16 h)) vals
  | 2,[T2],vals,h=>(tS fun c1=>tS fun v17=>tI .i64 fun v18=>tI .i64 fun v19=>tN (Tx.carlinglaw16_far_B2 ρ (fun c1 v17 v18 v19 hh=>T2 [(.slice c1.a c1.len c1.cap),(.slice v17.a v17.len v17.cap),(.int .i64 v18),(.int .i64 v19)] hh) (fun r0 h=>K (.bool r0) h) c1 v17 v18 v19 h)) vals
  | 3,[T3],vals,h=>(tS fun v28=>tI .i64 fun v29=>tI .i64 fun v30=>tN (Tx.carlinglaw16_far_B3 ρ (fun v28 v29 v30 hh=>T3 [(.slice v28.a v28.len v28.cap),(.int .i64 v29),(.int .i64 v30)] hh) (fun r0 h=>K (.bool r0) h) v28 v29 v30 h)) vals
  | _,_,_,_=>False
theorem ok6:SpecOk Try.prog 6 (Tx.carlinglaw16_far_S ρ):=by
  refine spec_ok (c:=c6) agree specsOk_nil specsOk_nil mixed Try.func6 (by kernel_rfl) (by kernel_rfl) A6 (by kernel_rfl) (src6) ?_ ?_
  · intro args h K H
    unfold Tx.carlinglaw16_far_S at H
    obtain ⟨l0,rr,rfl,H1⟩:=tS_elim H
    obtain ⟨c1,rr,rfl,H2⟩:=tS_elim H1
    obtain ⟨rfl,H3⟩:=tN_elim H2
    exact fin_and (by kernel_rfl) (by kernel_rfl) H3
  · intro K k inner vals h hk hin H
    rw [show pts A6=[1,2,3] from by kernel_rfl] at hk
    simp only [List.mem_cons,List.not_mem_nil,or_false] at hk
    rcases hk with rfl | rfl | rfl
    · rw [show depth 1 A6 = 0 from by kernel_rfl] at hin
      obtain rfl:=len0 hin
      have H:src6 K 1 [] vals h:=H
      simp only [src6] at H
      obtain ⟨l0,rr,rfl,H1⟩:=tS_elim H
      obtain ⟨c1,rr,rfl,H2⟩:=tS_elim H1
      obtain ⟨v16,rr,rfl,H3⟩:=tB_elim H2
      obtain ⟨rfl,H4⟩:=tN_elim H3
      exact cast (by kernel_rfl) H4
    · rw [show depth 2 A6 = 1 from by kernel_rfl] at hin
      obtain ⟨T2,rfl⟩:=len1 hin
      have H:src6 K 2 [T2] vals h:=H
      simp only [src6] at H
      obtain ⟨c1,rr,rfl,H1⟩:=tS_elim H
      obtain ⟨v17,rr,rfl,H2⟩:=tS_elim H1
      obtain ⟨v18,rr,rfl,H3⟩:=tI_elim H2
      obtain ⟨v19,rr,rfl,H4⟩:=tI_elim H3
      obtain ⟨rfl,H5⟩:=tN_elim H4
      exact cast (by kernel_rfl) H5
    · rw [show depth 3 A6 = 1 from by kernel_rfl] at hin
      obtain ⟨T3,rfl⟩:=len1 hin
      have H:src6 K 3 [T3] vals h:=H
      simp only [src6] at H
      obtain ⟨v28,rr,rfl,H1⟩:=tS_elim H
      obtain ⟨v29,rr,rfl,H2⟩:=tI_elim H1
      obtain ⟨v30,rr,rfl,H3⟩:=tI_elim H2
      obtain ⟨rfl,H4⟩:=tN_elim H3
      exact cast (by kernel_rfl) H4
noncomputable def c51:Code:=Try.f51.body.getD .skip
def A51:Ann:=(.seq .leaf (.seq .leaf .leaf))
def src51 (_:Value→Hp→Prop):Src:=fun _ _ _ _=>False
theorem ok51:SpecOk Try.prog 51 (Tx.shape_Shape_Levels_S ρ):=by
  refine spec_ok (c:=c51) agree specsOk_nil specsOk_nil mixed Try.func51 (by kernel_rfl) (by kernel_rfl) A51 (by kernel_rfl) (src51) ?_ ?_
  · intro args h K H
    unfold Tx.shape_Shape_Levels_S at H
    obtain ⟨cc0,rr0,rfl,H1⟩:=tG_elim H
    obtain ⟨s0_0,qq,rfl,H2⟩:=tS_elim H1
    obtain ⟨rfl,H3⟩:=tN_elim H2
    obtain ⟨rfl,H4⟩:=tN_elim H3
    exact fin_and (by kernel_rfl) (by kernel_rfl) H4
  · intro K k inner vals h hk hin H
    exact H.elim
noncomputable def c39:Code:=Try.f39.body.getD .skip
def A39:Ann:=(.seq .leaf (.seq (.seq .leaf (.cond (.seq .leaf .leaf) .leaf)) (.seq (.seq .leaf (.block (.loop 1 [1,2,9,10] (.seq .leaf (.seq (.cond .leaf .leaf) (.seq (.block (.seq .leaf (.seq .leaf (.cond (.seq .leaf .leaf) .leaf)))) .leaf)))))) (.seq .leaf .leaf))))
def src39 (K:Value→Hp→Prop):Src
  | 1,[T1],vals,h=>(tI .i64 fun item1=>tA fun s2=>tI .i64 fun v9=>tI .i64 fun v10=>tN (Tx.shape_Shape_Level_B1 ρ (fun item1 s2 v9 v10 hh=>T1 [(.int .i64 item1),(.pointer (some s2)),(.int .i64 v9),(.int .i64 v10)] hh) (fun r0 h=>K (.int .i64 r0) h) item1 s2 v9 v10 h)) vals
  | _,_,_,_=>False
theorem ok39:SpecOk Try.prog 39 (Tx.shape_Shape_Level_S ρ):=by
  refine spec_ok (c:=c39) agree (specsOk_cons ok51 specsOk_nil) specsOk_nil mixed Try.func39 (by kernel_rfl) (by kernel_rfl) A39 (by kernel_rfl) (src39) ?_ ?_
  · intro args h K H
    unfold Tx.shape_Shape_Level_S at H
    obtain ⟨cc0,rr0,rfl,H1⟩:=tG_elim H
    obtain ⟨s0_0,qq,rfl,H2⟩:=tS_elim H1
    obtain ⟨rfl,H3⟩:=tN_elim H2
    obtain ⟨item1,rr,rfl,H4⟩:=tI_elim H3
    obtain ⟨rfl,H5⟩:=tN_elim H4
    exact fin_and (by kernel_rfl) (by kernel_rfl) H5
  · intro K k inner vals h hk hin H
    rw [show pts A39=[1] from by kernel_rfl] at hk
    simp only [List.mem_cons,List.not_mem_nil,or_false] at hk
    rcases hk with rfl
    · rw [show depth 1 A39 = 1 from by kernel_rfl] at hin
      obtain ⟨T1,rfl⟩:=len1 hin
      have H:src39 K 1 [T1] vals h:=H
      simp only [src39] at H
      obtain ⟨item1,rr,rfl,H1⟩:=tI_elim H
      obtain ⟨s2,rr,rfl,H2⟩:=tA_elim H1
      obtain ⟨v9,rr,rfl,H3⟩:=tI_elim H2
      obtain ⟨v10,rr,rfl,H4⟩:=tI_elim H3
      obtain ⟨rfl,H5⟩:=tN_elim H4
      exact cast (by kernel_rfl) H5
noncomputable def c10:Code:=Try.f10.body.getD .skip
def A10:Ann:=(.seq .leaf (.seq (.seq .leaf (.cond (.seq .leaf .leaf) .leaf)) (.seq .leaf .leaf)))
def src10 (_:Value→Hp→Prop):Src:=fun _ _ _ _=>False
theorem ok10:SpecOk Try.prog 10 (Tx.shape_Shape_Items_S ρ):=by
  refine spec_ok (c:=c10) agree specsOk_nil specsOk_nil mixed Try.func10 (by kernel_rfl) (by kernel_rfl) A10 (by kernel_rfl) (src10) ?_ ?_
  · intro args h K H
    unfold Tx.shape_Shape_Items_S at H
    obtain ⟨cc0,rr0,rfl,H1⟩:=tG_elim H
    obtain ⟨s0_0,qq,rfl,H2⟩:=tS_elim H1
    obtain ⟨rfl,H3⟩:=tN_elim H2
    obtain ⟨rfl,H4⟩:=tN_elim H3
    exact fin_and (by kernel_rfl) (by kernel_rfl) H4
  · intro K k inner vals h hk hin H
    exact H.elim
noncomputable def c52:Code:=Try.f52.body.getD .skip
def A52:Ann:=(.seq .leaf (.seq .leaf .leaf))
def src52 (_:Value→Hp→Prop):Src:=fun _ _ _ _=>False
theorem ok52:SpecOk Try.prog 52 (Tx.shape_Shape_Root_S ρ):=by
  refine spec_ok (c:=c52) agree (specsOk_cons ok10 specsOk_nil) specsOk_nil mixed Try.func52 (by kernel_rfl) (by kernel_rfl) A52 (by kernel_rfl) (src52) ?_ ?_
  · intro args h K H
    unfold Tx.shape_Shape_Root_S at H
    obtain ⟨cc0,rr0,rfl,H1⟩:=tG_elim H
    obtain ⟨s0_0,qq,rfl,H2⟩:=tS_elim H1
    obtain ⟨rfl,H3⟩:=tN_elim H2
    obtain ⟨rfl,H4⟩:=tN_elim H3
    exact fin_and (by kernel_rfl) (by kernel_rfl) H4
  · intro K k inner vals h hk hin H
    exact H.elim
noncomputable def c40:Code:=Try.f40.body.getD .skip
def A40:Ann:=(.seq .leaf (.seq .leaf (.seq (.join 1 [1,2,7,19] .leaf (.cond (.seq .leaf .leaf) .leaf)) (.seq .leaf (.seq .leaf .leaf)))))
def src40 (K:Value→Hp→Prop):Src
  | 1,[],vals,h=>(tI .i64 fun item1=>tA fun s2=>tI .i64 fun level7=>tB fun v19=>tN (Tx.shape_Shape_Parent_K1 ρ (fun r0 r1 r2 h=>K (.tuple [(.int .i64 r0),(.int .i64 r1),(.bool r2)].toArray) h) item1 s2 level7 v19 h)) vals
  | _,_,_,_=>False
theorem ok40:SpecOk Try.prog 40 (Tx.shape_Shape_Parent_S ρ):=by
  refine spec_ok (c:=c40) agree (specsOk_cons ok52 (specsOk_cons ok39 specsOk_nil)) specsOk_nil mixed Try.func40 (by kernel_rfl) (by kernel_rfl) A40 (by kernel_rfl) (src40) ?_ ?_
  · intro args h K H
    unfold Tx.shape_Shape_Parent_S at H
    obtain ⟨cc0,rr0,rfl,H1⟩:=tG_elim H
    obtain ⟨s0_0,qq,rfl,H2⟩:=tS_elim H1
    obtain ⟨rfl,H3⟩:=tN_elim H2
    obtain ⟨item1,rr,rfl,H4⟩:=tI_elim H3
    obtain ⟨rfl,H5⟩:=tN_elim H4
    exact fin_and (by kernel_rfl) (by kernel_rfl) H5
  · intro K k inner vals h hk hin H
    rw [show pts A40=[1] from by kernel_rfl] at hk
    simp only [List.mem_cons,List.not_mem_nil,or_false] at hk
    rcases hk with rfl
    · rw [show depth 1 A40 = 0 from by kernel_rfl] at hin
      obtain rfl:=len0 hin
      have H:src40 K 1 [] vals h:=H
      simp only [src40] at H
      obtain ⟨item1,rr,rfl,H1⟩:=tI_elim H
      obtain ⟨s2,rr,rfl,H2⟩:=tA_elim H1
      obtain ⟨level7,rr,rfl,H3⟩:=tI_elim H2
      obtain ⟨v19,rr,rfl,H4⟩:=tB_elim H3
      obtain ⟨rfl,H5⟩:=tN_elim H4
      exact cast (by kernel_rfl) H5
noncomputable def c20:Code:=Try.f20.body.getD .skip
def A20:Ann:=(.seq .leaf (.seq (.seq .leaf (.cond (.seq .leaf .leaf) .leaf)) (.seq .leaf (.seq (.seq .leaf (.block (.loop 1 [2,5,6,8] (.seq (.seq .leaf (.cond .leaf .leaf)) (.seq (.block .leaf) .leaf))))) (.seq .leaf .leaf)))))
def src20 (K:Value→Hp→Prop):Src
  | 1,[T1],vals,h=>(tA fun s2=>tS fun l5=>tI .i64 fun p6=>tB fun ok8=>tN (Tx.shape_Shape_Path_B1 ρ (fun s2 l5 p6 ok8 hh=>T1 [(.pointer (some s2)),(.slice l5.a l5.len l5.cap),(.int .i64 p6),(.bool ok8)] hh) (fun r0 h=>K (.slice r0.a r0.len r0.cap) h) s2 l5 p6 ok8 h)) vals
  | _,_,_,_=>False
theorem ok20:SpecOk Try.prog 20 (Tx.shape_Shape_Path_S ρ):=by
  refine spec_ok (c:=c20) agree (specsOk_cons ok40 (specsOk_cons ok39 specsOk_nil)) specsOk_nil mixed Try.func20 (by kernel_rfl) (by kernel_rfl) A20 (by kernel_rfl) (src20) ?_ ?_
  · intro args h K H
    unfold Tx.shape_Shape_Path_S at H
    obtain ⟨cc0,rr0,rfl,H1⟩:=tG_elim H
    obtain ⟨s0_0,qq,rfl,H2⟩:=tS_elim H1
    obtain ⟨rfl,H3⟩:=tN_elim H2
    obtain ⟨page1,rr,rfl,H4⟩:=tI_elim H3
    obtain ⟨rfl,H5⟩:=tN_elim H4
    exact fin_and (by kernel_rfl) (by kernel_rfl) H5
  · intro K k inner vals h hk hin H
    rw [show pts A20=[1] from by kernel_rfl] at hk
    simp only [List.mem_cons,List.not_mem_nil,or_false] at hk
    rcases hk with rfl
    · rw [show depth 1 A20 = 1 from by kernel_rfl] at hin
      obtain ⟨T1,rfl⟩:=len1 hin
      have H:src20 K 1 [T1] vals h:=H
      simp only [src20] at H
      obtain ⟨s2,rr,rfl,H1⟩:=tA_elim H
      obtain ⟨l5,rr,rfl,H2⟩:=tS_elim H1
      obtain ⟨p6,rr,rfl,H3⟩:=tI_elim H2
      obtain ⟨ok8,rr,rfl,H4⟩:=tB_elim H3
      obtain ⟨rfl,H5⟩:=tN_elim H4
      exact cast (by kernel_rfl) H5
theorem ok21:SpecOk Try.prog 21 (Tx.slices_Sorted_int_S [93] ρ):=by
  refine sorted_keys_ok (R:=Try.sorted_ren) Try.sorted (fun m=>⟨fun blk off cap ss W hH hblk hsz=>Go.callsIn_wide.2 (Go.Proofs.Any.slices_Sort_int Try.lays189 blk off cap ss W hH hblk hsz),fun p cap W=>Go.callsIn_wide.2 (Go.Proofs.Any.slices_Sort_int_none Try.lays189 p cap W)⟩) (enters_of Try.func42 (by kernel_rfl) rfl) ?_ ⟨_,Try.func21,by kernel_rfl,by kernel_rfl⟩
  intro k hk
  simp only [List.mem_cons,List.not_mem_nil,or_false] at hk
  rcases hk with rfl
  · exact ⟨Try.keys43_ren,{Try.keys43 with},by kernel_rfl,by rw [show ρ.G 93=43 from by kernel_rfl]; exact enters_of Try.func43 (by kernel_rfl) rfl⟩
noncomputable def c22:Code:=Try.f22.body.getD .skip
def A22:Ann:=(.seq .leaf (.seq .leaf .leaf))
def src22 (_:Value→Hp→Prop):Src:=fun _ _ _ _=>False
theorem ok22:SpecOk Try.prog 22 (Tx.maps_Keys_map_int_bool_int_bool_S ρ):=by
  refine spec_ok (c:=c22) agree specsOk_nil specsOk_nil mixed Try.func22 (by kernel_rfl) (by kernel_rfl) A22 (by kernel_rfl) (src22) ?_ ?_
  · intro args h K H
    unfold Tx.maps_Keys_map_int_bool_int_bool_S at H
    obtain ⟨m0,rr,rfl,H1⟩:=tM_elim H
    obtain ⟨rfl,H2⟩:=tN_elim H1
    exact fin_and (by kernel_rfl) (by kernel_rfl) H2
  · intro K k inner vals h hk hin H
    exact H.elim
noncomputable def c8:Code:=Try.f8.body.getD .skip
def A8:Ann:=(.seq .leaf (.seq .leaf (.seq (.seq .leaf (.block (.loop 1 [2,5,11,12,13] (.seq .leaf (.seq (.cond .leaf .leaf) (.seq (.block (.seq .leaf (.seq .leaf (.block (.loop 2 [2,5,11,12,13,19,20,21] (.seq .leaf (.seq (.cond .leaf .leaf) (.join 3 [2,5,11,12,13,19,20,21] (.block (.seq .leaf (.seq .leaf (.cond .leaf .leaf)))) .leaf)))))))) .leaf)))))) (.seq .leaf .leaf))))
def src8 (K:Value→Hp→Prop):Src
  | 1,[T1],vals,h=>(tA fun s2=>tM fun met5=>tS fun v11=>tI .i64 fun v12=>tI .i64 fun v13=>tN (Tx.commit_Need_B1 ρ (fun s2 met5 v11 v12 v13 hh=>T1 [(.pointer (some s2)),(.map met5),(.slice v11.a v11.len v11.cap),(.int .i64 v12),(.int .i64 v13)] hh) (fun r0 h=>K (.slice r0.a r0.len r0.cap) h) s2 met5 v11 v12 v13 h)) vals
  | 2,[T2,T1],vals,h=>(tA fun s2=>tM fun met5=>tS fun v11=>tI .i64 fun v12=>tI .i64 fun v13=>tS fun v19=>tI .i64 fun v20=>tI .i64 fun v21=>tN (Tx.commit_Need_B2 ρ (fun s2 met5 v11 v12 v13 hh=>T1 [(.pointer (some s2)),(.map met5),(.slice v11.a v11.len v11.cap),(.int .i64 v12),(.int .i64 v13)] hh) (fun s2 met5 v11 v12 v13 v19 v20 v21 hh=>T2 [(.pointer (some s2)),(.map met5),(.slice v11.a v11.len v11.cap),(.int .i64 v12),(.int .i64 v13),(.slice v19.a v19.len v19.cap),(.int .i64 v20),(.int .i64 v21)] hh) (fun r0 h=>K (.slice r0.a r0.len r0.cap) h) s2 met5 v11 v12 v13 v19 v20 v21 h)) vals
  | 3,[T2,T1],vals,h=>(tA fun s2=>tM fun met5=>tS fun v11=>tI .i64 fun v12=>tI .i64 fun v13=>tS fun v19=>tI .i64 fun v20=>tI .i64 fun v21=>tN (Tx.commit_Need_K3 ρ (fun s2 met5 v11 v12 v13 hh=>T1 [(.pointer (some s2)),(.map met5),(.slice v11.a v11.len v11.cap),(.int .i64 v12),(.int .i64 v13)] hh) (fun s2 met5 v11 v12 v13 v19 v20 v21 hh=>T2 [(.pointer (some s2)),(.map met5),(.slice v11.a v11.len v11.cap),(.int .i64 v12),(.int .i64 v13),(.slice v19.a v19.len v19.cap),(.int .i64 v20),(.int .i64 v21)] hh) (fun r0 h=>K (.slice r0.a r0.len r0.cap) h) s2 met5 v11 v12 v13 v19 v20 v21 h)) vals
  | _,_,_,_=>False
theorem ok8:SpecOk Try.prog 8 (Tx.commit_Need_S ρ):=by
  refine spec_ok (c:=c8) agree (specsOk_cons ok22 (specsOk_cons ok21 (specsOk_cons ok20 specsOk_nil))) specsOk_nil mixed Try.func8 (by kernel_rfl) (by kernel_rfl) A8 (by kernel_rfl) (src8) ?_ ?_
  · intro args h K H
    unfold Tx.commit_Need_S at H
    obtain ⟨cc0,rr0,rfl,H1⟩:=tG_elim H
    obtain ⟨s0_0,qq,rfl,H2⟩:=tS_elim H1
    obtain ⟨rfl,H3⟩:=tN_elim H2
    obtain ⟨pages1,rr,rfl,H4⟩:=tS_elim H3
    obtain ⟨rfl,H5⟩:=tN_elim H4
    exact fin_and (by kernel_rfl) (by kernel_rfl) H5
  · intro K k inner vals h hk hin H
    rw [show pts A8=[1,2,3] from by kernel_rfl] at hk
    simp only [List.mem_cons,List.not_mem_nil,or_false] at hk
    rcases hk with rfl | rfl | rfl
    · rw [show depth 1 A8 = 1 from by kernel_rfl] at hin
      obtain ⟨T1,rfl⟩:=len1 hin
      have H:src8 K 1 [T1] vals h:=H
      simp only [src8] at H
      obtain ⟨s2,rr,rfl,H1⟩:=tA_elim H
      obtain ⟨met5,rr,rfl,H2⟩:=tM_elim H1
      obtain ⟨v11,rr,rfl,H3⟩:=tS_elim H2
      obtain ⟨v12,rr,rfl,H4⟩:=tI_elim H3
      obtain ⟨v13,rr,rfl,H5⟩:=tI_elim H4
      obtain ⟨rfl,H6⟩:=tN_elim H5
      exact cast (by kernel_rfl) H6
    · rw [show depth 2 A8 = 2 from by kernel_rfl] at hin
      obtain ⟨T1,T2,rfl⟩:=len2 hin
      have H:src8 K 2 [T2,T1] vals h:=H
      simp only [src8] at H
      obtain ⟨s2,rr,rfl,H1⟩:=tA_elim H
      obtain ⟨met5,rr,rfl,H2⟩:=tM_elim H1
      obtain ⟨v11,rr,rfl,H3⟩:=tS_elim H2
      obtain ⟨v12,rr,rfl,H4⟩:=tI_elim H3
      obtain ⟨v13,rr,rfl,H5⟩:=tI_elim H4
      obtain ⟨v19,rr,rfl,H6⟩:=tS_elim H5
      obtain ⟨v20,rr,rfl,H7⟩:=tI_elim H6
      obtain ⟨v21,rr,rfl,H8⟩:=tI_elim H7
      obtain ⟨rfl,H9⟩:=tN_elim H8
      exact cast (by kernel_rfl) H9
    · rw [show depth 3 A8 = 2 from by kernel_rfl] at hin
      obtain ⟨T1,T2,rfl⟩:=len2 hin
      have H:src8 K 3 [T2,T1] vals h:=H
      simp only [src8] at H
      obtain ⟨s2,rr,rfl,H1⟩:=tA_elim H
      obtain ⟨met5,rr,rfl,H2⟩:=tM_elim H1
      obtain ⟨v11,rr,rfl,H3⟩:=tS_elim H2
      obtain ⟨v12,rr,rfl,H4⟩:=tI_elim H3
      obtain ⟨v13,rr,rfl,H5⟩:=tI_elim H4
      obtain ⟨v19,rr,rfl,H6⟩:=tS_elim H5
      obtain ⟨v20,rr,rfl,H7⟩:=tI_elim H6
      obtain ⟨v21,rr,rfl,H8⟩:=tI_elim H7
      obtain ⟨rfl,H9⟩:=tN_elim H8
      exact cast (by kernel_rfl) H9
noncomputable def c25:Code:=Try.f25.body.getD .skip
def A25:Ann:=(.seq .leaf (.seq (.seq .leaf (.block (.loop 1 [0,1,7,8] (.seq .leaf (.seq (.cond .leaf .leaf) (.seq (.block (.seq .leaf (.seq .leaf (.cond (.seq .leaf .leaf) .leaf)))) .leaf)))))) (.seq .leaf .leaf)))
def src25 (cl:Specs) (K:Value→Hp→Prop):Src
  | 1,[T1],vals,h=>(tS fun s0=>tV fun f1=>tI .i64 fun v7=>tI .i64 fun v8=>tN (Tx.slices_IndexFunc_commit_Node_commit_Node_B1 ρ (phi cl) (fun s0 f1 v7 v8 hh=>T1 [(.slice s0.a s0.len s0.cap),f1,(.int .i64 v7),(.int .i64 v8)] hh) (fun r0 h=>K (.int .i64 r0) h) s0 f1 v7 v8 h)) vals
  | _,_,_,_=>False
theorem ok25 (cl:Specs) (hcl:SpecsOk Try.prog cl):SpecOk Try.prog 25 (Tx.slices_IndexFunc_commit_Node_commit_Node_S ρ (phi cl)):=by
  refine spec_ok (c:=c25) agree specsOk_nil hcl mixed Try.func25 (by kernel_rfl) (by kernel_rfl) A25 (by kernel_rfl) (src25 cl) ?_ ?_
  · intro args h K H
    unfold Tx.slices_IndexFunc_commit_Node_commit_Node_S at H
    obtain ⟨s0,rr,rfl,H1⟩:=tS_elim H
    obtain ⟨f1,rr,rfl,H2⟩:=tV_elim H1
    obtain ⟨rfl,H3⟩:=tN_elim H2
    exact fin_and (by kernel_rfl) (by kernel_rfl) H3
  · intro K k inner vals h hk hin H
    rw [show pts A25=[1] from by kernel_rfl] at hk
    simp only [List.mem_cons,List.not_mem_nil,or_false] at hk
    rcases hk with rfl
    · rw [show depth 1 A25 = 1 from by kernel_rfl] at hin
      obtain ⟨T1,rfl⟩:=len1 hin
      have H:src25 cl K 1 [T1] vals h:=H
      simp only [src25] at H
      obtain ⟨s0,rr,rfl,H1⟩:=tS_elim H
      obtain ⟨f1,rr,rfl,H2⟩:=tV_elim H1
      obtain ⟨v7,rr,rfl,H3⟩:=tI_elim H2
      obtain ⟨v8,rr,rfl,H4⟩:=tI_elim H3
      obtain ⟨rfl,H5⟩:=tN_elim H4
      exact cast (by kernel_rfl) H5
noncomputable def c26:Code:=Try.f26.body.getD .skip
def A26:Ann:=(.seq .leaf (.seq .leaf .leaf))
def src26 (_:Value→Hp→Prop):Src:=fun _ _ _ _=>False
theorem ok26:SpecOk Try.prog 26 (Tx.commit_Find_1_S ρ):=by
  refine spec_ok (c:=c26) agree specsOk_nil specsOk_nil mixed Try.func26 (by kernel_rfl) (by kernel_rfl) A26 (by kernel_rfl) (src26) ?_ ?_
  · intro args h K H
    unfold Tx.commit_Find_1_S at H
    obtain ⟨cc0,rr0,rfl,H1⟩:=tG_elim H
    obtain ⟨n0_0,qq,rfl,H2⟩:=tI_elim H1
    obtain ⟨n0_1,qq,rfl,H3⟩:=tS_elim H2
    obtain ⟨rfl,H4⟩:=tN_elim H3
    obtain ⟨v1,rr,rfl,H5⟩:=tA_elim H4
    obtain ⟨rfl,H6⟩:=tN_elim H5
    exact fin_and (by kernel_rfl) (by kernel_rfl) H6
  · intro K k inner vals h hk hin H
    exact H.elim
noncomputable def c27:Code:=Try.f27.body.getD .skip
def A27:Ann:=(.seq .leaf (.seq (.seq .leaf (.cond (.seq .leaf .leaf) .leaf)) (.seq .leaf .leaf)))
def src27 (_:Value→Hp→Prop):Src:=fun _ _ _ _=>False
theorem ok27:SpecOk Try.prog 27 (Tx.slices_Clone_seal_Ref_seal_Ref_S ρ):=by
  refine spec_ok (c:=c27) agree specsOk_nil specsOk_nil mixed Try.func27 (by kernel_rfl) (by kernel_rfl) A27 (by kernel_rfl) (src27) ?_ ?_
  · intro args h K H
    unfold Tx.slices_Clone_seal_Ref_seal_Ref_S at H
    obtain ⟨s0,rr,rfl,H1⟩:=tS_elim H
    obtain ⟨rfl,H2⟩:=tN_elim H1
    exact fin_and (by kernel_rfl) (by kernel_rfl) H2
  · intro K k inner vals h hk hin H
    exact H.elim
noncomputable def c11:Code:=Try.f11.body.getD .skip
def A11:Ann:=(.seq .leaf (.seq .leaf (.seq (.seq .leaf (.cond (.seq .leaf .leaf) .leaf)) (.seq .leaf .leaf))))
def src11 (_:Value→Hp→Prop):Src:=fun _ _ _ _=>False
theorem ok11:SpecOk Try.prog 11 (Tx.commit_Find_S ρ):=by
  refine spec_ok (c:=c11) agree (specsOk_cons ok27 (specsOk_cons (ok25 _ (specsOk_cons ok26 specsOk_nil)) specsOk_nil)) specsOk_nil mixed Try.func11 (by kernel_rfl) (by kernel_rfl) A11 (by kernel_rfl) (src11) ?_ ?_
  · intro args h K H
    unfold Tx.commit_Find_S at H
    obtain ⟨nodes0,rr,rfl,H1⟩:=tS_elim H
    obtain ⟨item1,rr,rfl,H2⟩:=tI_elim H1
    obtain ⟨rfl,H3⟩:=tN_elim H2
    exact fin_and (by kernel_rfl) (by kernel_rfl) H3
  · intro K k inner vals h hk hin H
    exact H.elim
noncomputable def c28:Code:=Try.f28.body.getD .skip
def A28:Ann:=(.seq .leaf (.seq (.seq .leaf (.cond (.seq .leaf .leaf) .leaf)) (.seq .leaf .leaf)))
def src28 (_:Value→Hp→Prop):Src:=fun _ _ _ _=>False
theorem ok28:SpecOk Try.prog 28 (Tx.shape_Shape_Pages_S ρ):=by
  refine spec_ok (c:=c28) agree specsOk_nil specsOk_nil mixed Try.func28 (by kernel_rfl) (by kernel_rfl) A28 (by kernel_rfl) (src28) ?_ ?_
  · intro args h K H
    unfold Tx.shape_Shape_Pages_S at H
    obtain ⟨cc0,rr0,rfl,H1⟩:=tG_elim H
    obtain ⟨s0_0,qq,rfl,H2⟩:=tS_elim H1
    obtain ⟨rfl,H3⟩:=tN_elim H2
    obtain ⟨rfl,H4⟩:=tN_elim H3
    exact fin_and (by kernel_rfl) (by kernel_rfl) H4
  · intro K k inner vals h hk hin H
    exact H.elim
noncomputable def c29:Code:=Try.f29.body.getD .skip
def A29:Ann:=(.seq .leaf (.seq .leaf (.seq (.seq .leaf (.block (.loop 1 [3,6,7,8] (.seq .leaf (.seq (.cond .leaf .leaf) (.seq (.block (.seq .leaf .leaf)) .leaf)))))) (.seq .leaf .leaf))))
def src29 (K:Value→Hp→Prop):Src
  | 1,[T1],vals,h=>(tS fun l3=>tS fun v6=>tI .i64 fun v7=>tI .i64 fun v8=>tN (Tx.commit_pages_B1 ρ (fun l3 v6 v7 v8 hh=>T1 [(.slice l3.a l3.len l3.cap),(.slice v6.a v6.len v6.cap),(.int .i64 v7),(.int .i64 v8)] hh) (fun r0 h=>K (.slice r0.a r0.len r0.cap) h) l3 v6 v7 v8 h)) vals
  | _,_,_,_=>False
theorem ok29:SpecOk Try.prog 29 (Tx.commit_pages_S ρ):=by
  refine spec_ok (c:=c29) agree specsOk_nil specsOk_nil mixed Try.func29 (by kernel_rfl) (by kernel_rfl) A29 (by kernel_rfl) (src29) ?_ ?_
  · intro args h K H
    unfold Tx.commit_pages_S at H
    obtain ⟨changes0,rr,rfl,H1⟩:=tS_elim H
    obtain ⟨rfl,H2⟩:=tN_elim H1
    exact fin_and (by kernel_rfl) (by kernel_rfl) H2
  · intro K k inner vals h hk hin H
    rw [show pts A29=[1] from by kernel_rfl] at hk
    simp only [List.mem_cons,List.not_mem_nil,or_false] at hk
    rcases hk with rfl
    · rw [show depth 1 A29 = 1 from by kernel_rfl] at hin
      obtain ⟨T1,rfl⟩:=len1 hin
      have H:src29 K 1 [T1] vals h:=H
      simp only [src29] at H
      obtain ⟨l3,rr,rfl,H1⟩:=tS_elim H
      obtain ⟨v6,rr,rfl,H2⟩:=tS_elim H1
      obtain ⟨v7,rr,rfl,H3⟩:=tI_elim H2
      obtain ⟨v8,rr,rfl,H4⟩:=tI_elim H3
      obtain ⟨rfl,H5⟩:=tN_elim H4
      exact cast (by kernel_rfl) H5
noncomputable def c31:Code:=Try.f31.body.getD .skip
def A31:Ann:=(.seq .leaf (.seq .leaf .leaf))
def src31 (_:Value→Hp→Prop):Src:=fun _ _ _ _=>False
theorem ok31:SpecOk Try.prog 31 (Tx.commit_isPlace_S ρ):=by
  refine spec_ok (c:=c31) agree specsOk_nil specsOk_nil mixed Try.func31 (by kernel_rfl) (by kernel_rfl) A31 (by kernel_rfl) (src31) ?_ ?_
  · intro args h K H
    unfold Tx.commit_isPlace_S at H
    obtain ⟨cc0,rr0,rfl,H1⟩:=tG_elim H
    obtain ⟨r0_0,qq,rfl,H2⟩:=tI_elim H1
    obtain ⟨r0_1,qq,rfl,H3⟩:=tI_elim H2
    obtain ⟨r0_2,qq,rfl,H4⟩:=tL_elim H3
    obtain ⟨rfl,H5⟩:=tN_elim H4
    obtain ⟨rfl,H6⟩:=tN_elim H5
    exact fin_and (by kernel_rfl) (by kernel_rfl) H6
  · intro K k inner vals h hk hin H
    exact H.elim
noncomputable def c30:Code:=Try.f30.body.getD .skip
def A30:Ann:=(.seq .leaf (.seq .leaf .leaf))
def src30 (_:Value→Hp→Prop):Src:=fun _ _ _ _=>False
theorem ok30:SpecOk Try.prog 30 (Tx.commit_May_1_S ρ):=by
  refine spec_ok (c:=c30) agree (specsOk_cons ok31 specsOk_nil) specsOk_nil mixed Try.func30 (by kernel_rfl) (by kernel_rfl) A30 (by kernel_rfl) (src30) ?_ ?_
  · intro args h K H
    unfold Tx.commit_May_1_S at H
    obtain ⟨cc0,rr0,rfl,H1⟩:=tG_elim H
    obtain ⟨r0_0,qq,rfl,H2⟩:=tI_elim H1
    obtain ⟨r0_1,qq,rfl,H3⟩:=tI_elim H2
    obtain ⟨r0_2,qq,rfl,H4⟩:=tL_elim H3
    obtain ⟨rfl,H5⟩:=tN_elim H4
    obtain ⟨rfl,H6⟩:=tN_elim H5
    exact fin_and (by kernel_rfl) (by kernel_rfl) H6
  · intro K k inner vals h hk hin H
    exact H.elim
noncomputable def c32:Code:=Try.f32.body.getD .skip
def A32:Ann:=(.seq .leaf (.seq .leaf (.seq (.seq .leaf (.cond (.seq .leaf .leaf) .leaf)) (.seq (.plan (.take 0 [] (.take 1 [] (.take 2 [] (.take 3 [] (.take 4 [] (.take 5 [] (.take 6 [] (.take 7 [] (.take 8 [] (.take 9 [] (.take 10 [] (.take 11 [] (.take 12 [] (.take 13 [] (.take 14 [] (.take 15 [] .done))))))))))))))))) (.seq .leaf (.seq (.seq .leaf (.block (.loop 1 [2,5,6,7,8] (.seq (.seq .leaf (.cond .leaf .leaf)) (.seq (.block .leaf) .leaf))))) (.seq .leaf .leaf)))))))
def src32 (K:Value→Hp→Prop):Src
  | 1,[T1],vals,h=>(tA fun s2=>tI .i64 fun level5=>tI .i64 fun from6=>tS fun l7=>tI .i64 fun k8=>tN (Tx.shape_Shape_Kids_B1 ρ (fun s2 level5 from6 l7 k8 hh=>T1 [(.pointer (some s2)),(.int .i64 level5),(.int .i64 from6),(.slice l7.a l7.len l7.cap),(.int .i64 k8)] hh) (fun r0 h=>K (.slice r0.a r0.len r0.cap) h) s2 level5 from6 l7 k8 h)) vals
  | _,_,_,_=>False
theorem ok32:SpecOk Try.prog 32 (Tx.shape_Shape_Kids_S ρ):=by
  refine spec_ok (c:=c32) agree (specsOk_cons ok39 specsOk_nil) specsOk_nil mixed Try.func32 (by kernel_rfl) (by kernel_rfl) A32 (by kernel_rfl) (src32) ?_ ?_
  · intro args h K H
    unfold Tx.shape_Shape_Kids_S at H
    obtain ⟨cc0,rr0,rfl,H1⟩:=tG_elim H
    obtain ⟨s0_0,qq,rfl,H2⟩:=tS_elim H1
    obtain ⟨rfl,H3⟩:=tN_elim H2
    obtain ⟨item1,rr,rfl,H4⟩:=tI_elim H3
    obtain ⟨rfl,H5⟩:=tN_elim H4
    exact fin_and (by kernel_rfl) (by kernel_rfl) H5
  · intro K k inner vals h hk hin H
    rw [show pts A32=[1] from by kernel_rfl] at hk
    simp only [List.mem_cons,List.not_mem_nil,or_false] at hk
    rcases hk with rfl
    · rw [show depth 1 A32 = 1 from by kernel_rfl] at hin
      obtain ⟨T1,rfl⟩:=len1 hin
      have H:src32 K 1 [T1] vals h:=H
      simp only [src32] at H
      obtain ⟨s2,rr,rfl,H1⟩:=tA_elim H
      obtain ⟨level5,rr,rfl,H2⟩:=tI_elim H1
      obtain ⟨from6,rr,rfl,H3⟩:=tI_elim H2
      obtain ⟨l7,rr,rfl,H4⟩:=tS_elim H3
      obtain ⟨k8,rr,rfl,H5⟩:=tI_elim H4
      obtain ⟨rfl,H6⟩:=tN_elim H5
      exact cast (by kernel_rfl) H6
noncomputable def c45:Code:=Try.f45.body.getD .skip
def A45:Ann:=(.seq .leaf (.seq (.seq .leaf (.block (.loop 1 [0,1,7,8] (.seq .leaf (.seq (.cond .leaf .leaf) (.seq (.block (.seq .leaf (.seq .leaf (.cond (.seq .leaf .leaf) .leaf)))) .leaf)))))) (.seq .leaf .leaf)))
def src45 (cl:Specs) (K:Value→Hp→Prop):Src
  | 1,[T1],vals,h=>(tS fun s0=>tV fun f1=>tI .i64 fun v7=>tI .i64 fun v8=>tN (Tx.slices_IndexFunc_seal_Ref_seal_Ref_B1 ρ (phi cl) (fun s0 f1 v7 v8 hh=>T1 [(.slice s0.a s0.len s0.cap),f1,(.int .i64 v7),(.int .i64 v8)] hh) (fun r0 h=>K (.int .i64 r0) h) s0 f1 v7 v8 h)) vals
  | _,_,_,_=>False
theorem ok45 (cl:Specs) (hcl:SpecsOk Try.prog cl):SpecOk Try.prog 45 (Tx.slices_IndexFunc_seal_Ref_seal_Ref_S ρ (phi cl)):=by
  refine spec_ok (c:=c45) agree specsOk_nil hcl mixed Try.func45 (by kernel_rfl) (by kernel_rfl) A45 (by kernel_rfl) (src45 cl) ?_ ?_
  · intro args h K H
    unfold Tx.slices_IndexFunc_seal_Ref_seal_Ref_S at H
    obtain ⟨s0,rr,rfl,H1⟩:=tS_elim H
    obtain ⟨f1,rr,rfl,H2⟩:=tV_elim H1
    obtain ⟨rfl,H3⟩:=tN_elim H2
    exact fin_and (by kernel_rfl) (by kernel_rfl) H3
  · intro K k inner vals h hk hin H
    rw [show pts A45=[1] from by kernel_rfl] at hk
    simp only [List.mem_cons,List.not_mem_nil,or_false] at hk
    rcases hk with rfl
    · rw [show depth 1 A45 = 1 from by kernel_rfl] at hin
      obtain ⟨T1,rfl⟩:=len1 hin
      have H:src45 cl K 1 [T1] vals h:=H
      simp only [src45] at H
      obtain ⟨s0,rr,rfl,H1⟩:=tS_elim H
      obtain ⟨f1,rr,rfl,H2⟩:=tV_elim H1
      obtain ⟨v7,rr,rfl,H3⟩:=tI_elim H2
      obtain ⟨v8,rr,rfl,H4⟩:=tI_elim H3
      obtain ⟨rfl,H5⟩:=tN_elim H4
      exact cast (by kernel_rfl) H5
noncomputable def c33:Code:=Try.f33.body.getD .skip
def A33:Ann:=(.seq .leaf (.seq .leaf .leaf))
def src33 (_:Specs) (_:Value→Hp→Prop):Src:=fun _ _ _ _=>False
theorem ok33 (cl:Specs) (hcl:SpecsOk Try.prog cl):SpecOk Try.prog 33 (Tx.slices_ContainsFunc_seal_Ref_seal_Ref_S ρ (phi cl)):=by
  refine spec_ok (c:=c33) agree (specsOk_cons (ok45 _ hcl) specsOk_nil) hcl mixed Try.func33 (by kernel_rfl) (by kernel_rfl) A33 (by kernel_rfl) (src33 cl) ?_ ?_
  · intro args h K H
    unfold Tx.slices_ContainsFunc_seal_Ref_seal_Ref_S at H
    obtain ⟨s0,rr,rfl,H1⟩:=tS_elim H
    obtain ⟨f1,rr,rfl,H2⟩:=tV_elim H1
    obtain ⟨rfl,H3⟩:=tN_elim H2
    exact fin_and (by kernel_rfl) (by kernel_rfl) H3
  · intro K k inner vals h hk hin H
    exact H.elim
noncomputable def c15:Code:=Try.f15.body.getD .skip
def A15:Ann:=(.seq .leaf (.seq .leaf (.seq (.seq .leaf (.block (.loop 1 [1,2,3,7,15,16,17] (.seq .leaf (.seq (.cond .leaf .leaf) (.seq (.block (.seq .leaf (.seq (.join 2 [1,2,3,9,15,16,17,37] (.plan (.take 0 [8] (.take 1 [8] (.take 2 [8] (.take 3 [8] (.take 4 [8] (.take 5 [] (.take 6 [] (.take 7 [8] (.all (.alt 8 (.take 9 [] (.take 10 [] (.take 11 [] (.take 12 [] (.take 13 [] (.take 14 [] (.take 15 [] (.take 16 [] .done)))))))) .nil))))))))))) (.cond (.seq .leaf .leaf) .leaf)) .leaf))) .leaf)))))) (.seq (.seq (.plan (.take 0 [3] (.take 1 [2,3] (.take 5 [] (.all (.alt 2 (.all (.alt 3 (.take 4 [] .done) .nil)) .nil)))))) (.block (.loop 3 [1,3,44,45,46] (.seq .leaf (.seq (.cond .leaf .leaf) (.seq (.block (.seq .leaf (.seq .leaf (.seq .leaf (.join 4 [1,3,44,45,46,71] .leaf (.cond (.seq .leaf .leaf) .leaf)))))) .leaf)))))) (.seq .leaf .leaf)))))
def src15 (K:Value→Hp→Prop):Src
  | 1,[T1],vals,h=>(tS fun nodes1=>tS fun changes2=>tA fun s3=>tI .i64 fun last7=>tS fun v15=>tI .i64 fun v16=>tI .i64 fun v17=>tN (Tx.commit_May_B1 ρ (fun nodes1 changes2 s3 last7 v15 v16 v17 hh=>T1 [(.slice nodes1.a nodes1.len nodes1.cap),(.slice changes2.a changes2.len changes2.cap),(.pointer (some s3)),(.int .i64 last7),(.slice v15.a v15.len v15.cap),(.int .i64 v16),(.int .i64 v17)] hh) (fun r0 h=>K (.bool r0) h) nodes1 changes2 s3 last7 v15 v16 v17 h)) vals
  | 2,[T1],vals,h=>(tS fun nodes1=>tS fun changes2=>tA fun s3=>tA fun c9=>tS fun v15=>tI .i64 fun v16=>tI .i64 fun v17=>tB fun v37=>tN (Tx.commit_May_K2 ρ (fun nodes1 changes2 s3 last7 v15 v16 v17 hh=>T1 [(.slice nodes1.a nodes1.len nodes1.cap),(.slice changes2.a changes2.len changes2.cap),(.pointer (some s3)),(.int .i64 last7),(.slice v15.a v15.len v15.cap),(.int .i64 v16),(.int .i64 v17)] hh) (fun r0 h=>K (.bool r0) h) nodes1 changes2 s3 c9 v15 v16 v17 v37 h)) vals
  | 3,[T3],vals,h=>(tS fun nodes1=>tA fun s3=>tS fun v44=>tI .i64 fun v45=>tI .i64 fun v46=>tN (Tx.commit_May_B3 ρ (fun nodes1 s3 v44 v45 v46 hh=>T3 [(.slice nodes1.a nodes1.len nodes1.cap),(.pointer (some s3)),(.slice v44.a v44.len v44.cap),(.int .i64 v45),(.int .i64 v46)] hh) (fun r0 h=>K (.bool r0) h) nodes1 s3 v44 v45 v46 h)) vals
  | 4,[T3],vals,h=>(tS fun nodes1=>tA fun s3=>tS fun v44=>tI .i64 fun v45=>tI .i64 fun v46=>tB fun v71=>tN (Tx.commit_May_K4 ρ (fun nodes1 s3 v44 v45 v46 hh=>T3 [(.slice nodes1.a nodes1.len nodes1.cap),(.pointer (some s3)),(.slice v44.a v44.len v44.cap),(.int .i64 v45),(.int .i64 v46)] hh) (fun r0 h=>K (.bool r0) h) nodes1 s3 v44 v45 v46 v71 h)) vals
  | _,_,_,_=>False
theorem ok15:SpecOk Try.prog 15 (Tx.commit_May_S ρ):=by
  refine spec_ok (c:=c15) agree (specsOk_cons (ok33 _ (specsOk_cons ok30 specsOk_nil)) (specsOk_cons ok32 (specsOk_cons ok29 (specsOk_cons ok28 (specsOk_cons ok11 (specsOk_cons ok8 specsOk_nil)))))) specsOk_nil mixed Try.func15 (by kernel_rfl) (by kernel_rfl) A15 (by kernel_rfl) (src15) ?_ ?_
  · intro args h K H
    unfold Tx.commit_May_S at H
    obtain ⟨cc0,rr0,rfl,H1⟩:=tG_elim H
    obtain ⟨s0_0,qq,rfl,H2⟩:=tS_elim H1
    obtain ⟨rfl,H3⟩:=tN_elim H2
    obtain ⟨nodes1,rr,rfl,H4⟩:=tS_elim H3
    obtain ⟨changes2,rr,rfl,H5⟩:=tS_elim H4
    obtain ⟨rfl,H6⟩:=tN_elim H5
    exact fin_and (by kernel_rfl) (by kernel_rfl) H6
  · intro K k inner vals h hk hin H
    rw [show pts A15=[1,2,3,4] from by kernel_rfl] at hk
    simp only [List.mem_cons,List.not_mem_nil,or_false] at hk
    rcases hk with rfl | rfl | rfl | rfl
    · rw [show depth 1 A15 = 1 from by kernel_rfl] at hin
      obtain ⟨T1,rfl⟩:=len1 hin
      have H:src15 K 1 [T1] vals h:=H
      simp only [src15] at H
      obtain ⟨nodes1,rr,rfl,H1⟩:=tS_elim H
      obtain ⟨changes2,rr,rfl,H2⟩:=tS_elim H1
      obtain ⟨s3,rr,rfl,H3⟩:=tA_elim H2
      obtain ⟨last7,rr,rfl,H4⟩:=tI_elim H3
      obtain ⟨v15,rr,rfl,H5⟩:=tS_elim H4
      obtain ⟨v16,rr,rfl,H6⟩:=tI_elim H5
      obtain ⟨v17,rr,rfl,H7⟩:=tI_elim H6
      obtain ⟨rfl,H8⟩:=tN_elim H7
      exact cast (by kernel_rfl) H8
    · rw [show depth 2 A15 = 1 from by kernel_rfl] at hin
      obtain ⟨T1,rfl⟩:=len1 hin
      have H:src15 K 2 [T1] vals h:=H
      simp only [src15] at H
      obtain ⟨nodes1,rr,rfl,H1⟩:=tS_elim H
      obtain ⟨changes2,rr,rfl,H2⟩:=tS_elim H1
      obtain ⟨s3,rr,rfl,H3⟩:=tA_elim H2
      obtain ⟨c9,rr,rfl,H4⟩:=tA_elim H3
      obtain ⟨v15,rr,rfl,H5⟩:=tS_elim H4
      obtain ⟨v16,rr,rfl,H6⟩:=tI_elim H5
      obtain ⟨v17,rr,rfl,H7⟩:=tI_elim H6
      obtain ⟨v37,rr,rfl,H8⟩:=tB_elim H7
      obtain ⟨rfl,H9⟩:=tN_elim H8
      exact cast (by kernel_rfl) H9
    · rw [show depth 3 A15 = 1 from by kernel_rfl] at hin
      obtain ⟨T3,rfl⟩:=len1 hin
      have H:src15 K 3 [T3] vals h:=H
      simp only [src15] at H
      obtain ⟨nodes1,rr,rfl,H1⟩:=tS_elim H
      obtain ⟨s3,rr,rfl,H2⟩:=tA_elim H1
      obtain ⟨v44,rr,rfl,H3⟩:=tS_elim H2
      obtain ⟨v45,rr,rfl,H4⟩:=tI_elim H3
      obtain ⟨v46,rr,rfl,H5⟩:=tI_elim H4
      obtain ⟨rfl,H6⟩:=tN_elim H5
      exact cast (by kernel_rfl) H6
    · rw [show depth 4 A15 = 1 from by kernel_rfl] at hin
      obtain ⟨T3,rfl⟩:=len1 hin
      have H:src15 K 4 [T3] vals h:=H
      simp only [src15] at H
      obtain ⟨nodes1,rr,rfl,H1⟩:=tS_elim H
      obtain ⟨s3,rr,rfl,H2⟩:=tA_elim H1
      obtain ⟨v44,rr,rfl,H3⟩:=tS_elim H2
      obtain ⟨v45,rr,rfl,H4⟩:=tI_elim H3
      obtain ⟨v46,rr,rfl,H5⟩:=tI_elim H4
      obtain ⟨v71,rr,rfl,H6⟩:=tB_elim H5
      obtain ⟨rfl,H7⟩:=tN_elim H6
      exact cast (by kernel_rfl) H7
noncomputable def c47:Code:=Try.f47.body.getD .skip
def A47:Ann:=(.seq .leaf (.seq (.join 1 [1,2,18] .leaf (.cond (.seq .leaf .leaf) .leaf)) (.seq .leaf .leaf)))
def src47 (K:Value→Hp→Prop):Src
  | 1,[],vals,h=>(tI .i64 fun item1=>tI .i64 fun place2=>tB fun v18=>tN (Tx.shape_Shape_Block_K1 ρ (fun r0 h=>K (.int .i64 r0) h) item1 place2 v18 h)) vals
  | _,_,_,_=>False
theorem ok47:SpecOk Try.prog 47 (Tx.shape_Shape_Block_S ρ):=by
  refine spec_ok (c:=c47) agree (specsOk_cons ok39 specsOk_nil) specsOk_nil mixed Try.func47 (by kernel_rfl) (by kernel_rfl) A47 (by kernel_rfl) (src47) ?_ ?_
  · intro args h K H
    unfold Tx.shape_Shape_Block_S at H
    obtain ⟨cc0,rr0,rfl,H1⟩:=tG_elim H
    obtain ⟨s0_0,qq,rfl,H2⟩:=tS_elim H1
    obtain ⟨rfl,H3⟩:=tN_elim H2
    obtain ⟨item1,rr,rfl,H4⟩:=tI_elim H3
    obtain ⟨place2,rr,rfl,H5⟩:=tI_elim H4
    obtain ⟨rfl,H6⟩:=tN_elim H5
    exact fin_and (by kernel_rfl) (by kernel_rfl) H6
  · intro K k inner vals h hk hin H
    rw [show pts A47=[1] from by kernel_rfl] at hk
    simp only [List.mem_cons,List.not_mem_nil,or_false] at hk
    rcases hk with rfl
    · rw [show depth 1 A47 = 0 from by kernel_rfl] at hin
      obtain rfl:=len0 hin
      have H:src47 K 1 [] vals h:=H
      simp only [src47] at H
      obtain ⟨item1,rr,rfl,H1⟩:=tI_elim H
      obtain ⟨place2,rr,rfl,H2⟩:=tI_elim H1
      obtain ⟨v18,rr,rfl,H3⟩:=tB_elim H2
      obtain ⟨rfl,H4⟩:=tN_elim H3
      exact cast (by kernel_rfl) H4
noncomputable def c92:Code:=Try.f92.body.getD .skip
def A92:Ann:=(.seq .leaf (.seq (.plan (.take 0 [] (.take 1 [] (.take 2 [] (.take 3 [] (.take 4 [] (.take 5 [] (.take 6 [] (.take 7 [] (.take 8 [] (.take 9 [] (.take 10 [] (.take 11 [] (.take 12 [] (.take 13 [] (.take 14 [] (.take 15 [] (.take 16 [] (.take 17 [] (.take 18 [] (.take 19 [] (.take 20 [] (.take 21 [] (.take 22 [] .done)))))))))))))))))))))))) .leaf))
def src92 (_:Value→Hp→Prop):Src:=fun _ _ _ _=>False
theorem ok92:SpecOk Try.prog 92 (Tx.cipher_join_S ρ):=by
  refine spec_ok (c:=c92) agree specsOk_nil specsOk_nil mixed Try.func92 (by kernel_rfl) (by kernel_rfl) A92 (by kernel_rfl) (src92) ?_ ?_
  · intro args h K H
    unfold Tx.cipher_join_S at H
    obtain ⟨b0,rr,rfl,H1⟩:=tS_elim H
    obtain ⟨rfl,H2⟩:=tN_elim H1
    exact fin_and (by kernel_rfl) (by kernel_rfl) H2
  · intro K k inner vals h hk hin H
    exact H.elim
noncomputable def c87:Code:=Try.f87.body.getD .skip
def A87:Ann:=(.seq .leaf (.seq .leaf (.seq (.seq .leaf (.block (.loop 1 [2,3,4,6,7,11] (.seq .leaf (.seq (.cond .leaf .leaf) (.seq (.block (.seq .leaf .leaf)) .leaf)))))) (.seq .leaf (.seq (.seq .leaf (.block (.loop 2 [4,6,7,24] (.seq .leaf (.seq (.cond .leaf .leaf) (.seq (.block (.seq .leaf .leaf)) .leaf)))))) (.seq .leaf .leaf))))))
def src87 (K:Value→Hp→Prop):Src
  | 1,[T1],vals,h=>(tI .u32 fun counter2=>tA fun key3=>tA fun nonce4=>tA fun v6=>tA fun w7=>tI .i64 fun v11=>tN (Tx.cipher_start_B1 ρ (fun counter2 key3 nonce4 v6 w7 v11 hh=>T1 [(.int .u32 counter2),(.pointer (some key3)),(.pointer (some nonce4)),(.pointer (some v6)),(.pointer (some w7)),(.int .i64 v11)] hh) (fun r0 h=>K (.agg (lumpV .u32 16 r0).toArray) h) counter2 key3 nonce4 v6 w7 v11 h)) vals
  | 2,[T2],vals,h=>(tA fun nonce4=>tA fun v6=>tA fun w7=>tI .i64 fun v24=>tN (Tx.cipher_start_B2 ρ (fun nonce4 v6 w7 v24 hh=>T2 [(.pointer (some nonce4)),(.pointer (some v6)),(.pointer (some w7)),(.int .i64 v24)] hh) (fun r0 h=>K (.agg (lumpV .u32 16 r0).toArray) h) nonce4 v6 w7 v24 h)) vals
  | _,_,_,_=>False
theorem ok87:SpecOk Try.prog 87 (Tx.cipher_start_S ρ):=by
  refine spec_ok (c:=c87) agree (specsOk_cons ok92 specsOk_nil) specsOk_nil mixed Try.func87 (by kernel_rfl) (by kernel_rfl) A87 (by kernel_rfl) (src87) ?_ ?_
  · intro args h K H
    unfold Tx.cipher_start_S at H
    obtain ⟨cc0,rr0,rfl,H1⟩:=tG_elim H
    obtain ⟨key0_0,qq,rfl,H2⟩:=tL_elim H1
    obtain ⟨rfl,H3⟩:=tN_elim H2
    obtain ⟨cc1,rr1,rfl,H4⟩:=tG_elim H3
    obtain ⟨nonce1_0,qq,rfl,H5⟩:=tL_elim H4
    obtain ⟨rfl,H6⟩:=tN_elim H5
    obtain ⟨counter2,rr,rfl,H7⟩:=tI_elim H6
    obtain ⟨rfl,H8⟩:=tN_elim H7
    exact fin_and (by kernel_rfl) (by kernel_rfl) H8
  · intro K k inner vals h hk hin H
    rw [show pts A87=[1,2] from by kernel_rfl] at hk
    simp only [List.mem_cons,List.not_mem_nil,or_false] at hk
    rcases hk with rfl | rfl
    · rw [show depth 1 A87 = 1 from by kernel_rfl] at hin
      obtain ⟨T1,rfl⟩:=len1 hin
      have H:src87 K 1 [T1] vals h:=H
      simp only [src87] at H
      obtain ⟨counter2,rr,rfl,H1⟩:=tI_elim H
      obtain ⟨key3,rr,rfl,H2⟩:=tA_elim H1
      obtain ⟨nonce4,rr,rfl,H3⟩:=tA_elim H2
      obtain ⟨v6,rr,rfl,H4⟩:=tA_elim H3
      obtain ⟨w7,rr,rfl,H5⟩:=tA_elim H4
      obtain ⟨v11,rr,rfl,H6⟩:=tI_elim H5
      obtain ⟨rfl,H7⟩:=tN_elim H6
      exact cast (by kernel_rfl) H7
    · rw [show depth 2 A87 = 1 from by kernel_rfl] at hin
      obtain ⟨T2,rfl⟩:=len1 hin
      have H:src87 K 2 [T2] vals h:=H
      simp only [src87] at H
      obtain ⟨nonce4,rr,rfl,H1⟩:=tA_elim H
      obtain ⟨v6,rr,rfl,H2⟩:=tA_elim H1
      obtain ⟨w7,rr,rfl,H3⟩:=tA_elim H2
      obtain ⟨v24,rr,rfl,H4⟩:=tI_elim H3
      obtain ⟨rfl,H5⟩:=tN_elim H4
      exact cast (by kernel_rfl) H5
noncomputable def c94:Code:=Try.f94.body.getD .skip
def A94:Ann:=(.seq .leaf (.seq .leaf (.seq .leaf .leaf)))
def src94 (_:Value→Hp→Prop):Src:=fun _ _ _ _=>False
theorem ok94:SpecOk Try.prog 94 (Tx.math_bits_RotateLeft32_S ρ):=by
  refine spec_ok (c:=c94) agree specsOk_nil specsOk_nil mixed Try.func94 (by kernel_rfl) (by kernel_rfl) A94 (by kernel_rfl) (src94) ?_ ?_
  · intro args h K H
    unfold Tx.math_bits_RotateLeft32_S at H
    obtain ⟨x0,rr,rfl,H1⟩:=tI_elim H
    obtain ⟨k1,rr,rfl,H2⟩:=tI_elim H1
    obtain ⟨rfl,H3⟩:=tN_elim H2
    exact fin_and (by kernel_rfl) (by kernel_rfl) H3
  · intro K k inner vals h hk hin H
    exact H.elim
noncomputable def c93:Code:=Try.f93.body.getD .skip
def A93:Ann:=(.seq (.plan (.take 0 [8] (.take 1 [8] (.take 2 [8] (.take 3 [8] (.take 4 [8] (.take 5 [8] (.take 6 [8] (.take 7 [8] (.all (.alt 8 .done .nil))))))))))) (.plan (.take 0 [11] (.take 1 [9,11] (.take 2 [9,11] (.take 3 [9,11] (.take 4 [9,11] (.take 5 [9,11] (.take 6 [9,11] (.take 7 [9,11] (.take 8 [9,11] (.all (.alt 9 (.take 10 [11] (.all (.alt 11 .done .nil))) .nil)))))))))))))
def src93 (_:Value→Hp→Prop):Src:=fun _ _ _ _=>False
theorem ok93:SpecOk Try.prog 93 (Tx.cipher_Quarter_1_S ρ):=by
  refine spec_ok (c:=c93) agree (specsOk_cons ok94 specsOk_nil) specsOk_nil mixed Try.func93 (by kernel_rfl) (by kernel_rfl) A93 (by kernel_rfl) (src93) ?_ ?_
  · intro args h K H
    unfold Tx.cipher_Quarter_1_S at H
    obtain ⟨x0,rr,rfl,H1⟩:=tI_elim H
    obtain ⟨y1,rr,rfl,H2⟩:=tI_elim H1
    obtain ⟨z2,rr,rfl,H3⟩:=tI_elim H2
    obtain ⟨by3,rr,rfl,H4⟩:=tI_elim H3
    obtain ⟨v4,rr,rfl,H5⟩:=tA_elim H4
    obtain ⟨rfl,H6⟩:=tN_elim H5
    exact fin_and (by kernel_rfl) (by kernel_rfl) H6
  · intro K k inner vals h hk hin H
    exact H.elim
noncomputable def c89:Code:=Try.f89.body.getD .skip
def A89:Ann:=(.seq .leaf (.seq .leaf (.seq .leaf (.seq .leaf (.seq .leaf (.seq .leaf (.seq .leaf .leaf)))))))
def src89 (_:Value→Hp→Prop):Src:=fun _ _ _ _=>False
theorem ok89:SpecOk Try.prog 89 (Tx.cipher_Quarter_S ρ):=by
  refine spec_ok (c:=c89) agree specsOk_nil (specsOk_cons ok93 specsOk_nil) mixed Try.func89 (by kernel_rfl) (by kernel_rfl) A89 (by kernel_rfl) (src89) ?_ ?_
  · intro args h K H
    unfold Tx.cipher_Quarter_S at H
    obtain ⟨cc0,rr0,rfl,H1⟩:=tG_elim H
    obtain ⟨w0_0,qq,rfl,H2⟩:=tL_elim H1
    obtain ⟨rfl,H3⟩:=tN_elim H2
    obtain ⟨rfl,H4⟩:=tN_elim H3
    exact fin_and (by kernel_rfl) (by kernel_rfl) H4
  · intro K k inner vals h hk hin H
    exact H.elim
noncomputable def c88:Code:=Try.f88.body.getD .skip
def A88:Ann:=(.join 1 [0,1,2,3,4,9] (.plan (.take 0 [13,15] (.take 1 [13,15] (.take 2 [13,15] (.take 3 [13,15] (.take 4 [13,15] (.take 5 [13,15] (.take 6 [13,15] (.take 7 [13,15] (.take 8 [13,15] (.take 9 [13,15] (.take 10 [13,15] (.take 11 [13,15] (.take 12 [13,15] (.all (.alt 13 (.all (.alt 14 (.all (.alt 15 .done .nil)) .nil)) (.alt 14 (.all (.alt 13 (.all (.alt 15 .done .nil)) .nil)) .nil))))))))))))))))) (.plan (.take 0 [13,15,17,19] (.take 1 [15,17,19] (.take 2 [17,19] (.take 3 [19] (.take 4 [13,15,17,19] (.take 5 [13,15,17,19] (.take 6 [15,17,19] (.take 7 [15,17,19] (.take 8 [17,19] (.take 9 [17,19] (.take 10 [19] (.take 11 [19] (.take 12 [13,15,17,19] (.all (.alt 13 (.take 14 [15,17,19] (.all (.alt 15 (.take 16 [17,19] (.all (.alt 17 (.take 18 [19] (.all (.alt 19 .done .nil))) .nil))) .nil))) .nil)))))))))))))))))
def src88 (K:Value→Hp→Prop):Src
  | 1,[],vals,h=>(tI .i64 fun a0=>tI .i64 fun b1=>tI .i64 fun c2=>tI .i64 fun d3=>tA fun v4=>tA fun q9=>tN (Tx.cipher_Block_1_K1 ρ (fun h=>K (.tuple [].toArray) h) a0 b1 c2 d3 v4 q9 h)) vals
  | _,_,_,_=>False
theorem ok88:SpecOk Try.prog 88 (Tx.cipher_Block_1_S ρ):=by
  refine spec_ok (c:=c88) agree (specsOk_cons ok89 specsOk_nil) specsOk_nil mixed Try.func88 (by kernel_rfl) (by kernel_rfl) A88 (by kernel_rfl) (src88) ?_ ?_
  · intro args h K H
    unfold Tx.cipher_Block_1_S at H
    obtain ⟨a0,rr,rfl,H1⟩:=tI_elim H
    obtain ⟨b1,rr,rfl,H2⟩:=tI_elim H1
    obtain ⟨c2,rr,rfl,H3⟩:=tI_elim H2
    obtain ⟨d3,rr,rfl,H4⟩:=tI_elim H3
    obtain ⟨v4,rr,rfl,H5⟩:=tA_elim H4
    obtain ⟨rfl,H6⟩:=tN_elim H5
    exact fin_and (by kernel_rfl) (by kernel_rfl) H6
  · intro K k inner vals h hk hin H
    rw [show pts A88=[1] from by kernel_rfl] at hk
    simp only [List.mem_cons,List.not_mem_nil,or_false] at hk
    rcases hk with rfl
    · rw [show depth 1 A88 = 0 from by kernel_rfl] at hin
      obtain rfl:=len0 hin
      have H:src88 K 1 [] vals h:=H
      simp only [src88] at H
      obtain ⟨a0,rr,rfl,H1⟩:=tI_elim H
      obtain ⟨b1,rr,rfl,H2⟩:=tI_elim H1
      obtain ⟨c2,rr,rfl,H3⟩:=tI_elim H2
      obtain ⟨d3,rr,rfl,H4⟩:=tI_elim H3
      obtain ⟨v4,rr,rfl,H5⟩:=tA_elim H4
      obtain ⟨q9,rr,rfl,H6⟩:=tA_elim H5
      obtain ⟨rfl,H7⟩:=tN_elim H6
      exact cast (by kernel_rfl) H7
noncomputable def c82:Code:=Try.f82.body.getD .skip
def A82:Ann:=(.seq .leaf (.seq .leaf (.seq .leaf (.seq .leaf (.seq (.seq .leaf (.block (.loop 1 [6,7,8,9,20] (.seq .leaf (.seq (.cond .leaf .leaf) (.seq (.block (.seq (.seq .leaf (.block (.loop 2 [6,7,8,9,20,22] (.seq .leaf (.seq (.cond .leaf .leaf) (.seq (.block (.seq .leaf .leaf)) .leaf)))))) (.seq .leaf (.block (.loop 3 [6,7,8,9,20,35] (.seq .leaf (.seq (.cond .leaf .leaf) (.seq (.block (.seq .leaf .leaf)) .leaf)))))))) .leaf)))))) (.seq .leaf (.seq (.seq .leaf (.block (.loop 4 [6,7,8,12,55] (.seq .leaf (.seq (.cond .leaf .leaf) (.seq (.block (.seq .leaf (.plan (.take 0 [16] (.take 1 [16] (.take 2 [16] (.take 3 [16] (.take 4 [16] (.take 5 [16] (.take 6 [16] (.take 7 [16] (.take 8 [16] (.take 9 [16] (.take 10 [16] (.take 11 [16] (.take 12 [16] (.take 13 [16] (.take 14 [16] (.take 15 [16] (.all (.alt 16 .done .nil))))))))))))))))))))) .leaf)))))) (.seq .leaf .leaf))))))))
def src82 (K:Value→Hp→Prop):Src
  | 1,[T1],vals,h=>(tA fun v6=>tA fun first7=>tA fun w8=>tF (ρ.G 119) fun cells3 rest3=>(tA fun turn9_0=>tN ((tI .i64 fun v20=>tN (Tx.cipher_Block_B1 ρ (fun v6 first7 w8 turn9_0 v20 hh=>T1 [(.pointer (some v6)),(.pointer (some first7)),(.pointer (some w8)),(.func (.func (ρ.G 119)) #[] #[(.pointer (some turn9_0))]),(.int .i64 v20)] hh) (fun r0 h=>K (.agg (lumpV .u8 64 r0).toArray) h) v6 first7 w8 turn9_0 v20 h)) rest3)) cells3) vals
  | 2,[T2,T1],vals,h=>(tA fun v6=>tA fun first7=>tA fun w8=>tF (ρ.G 119) fun cells3 rest3=>(tA fun turn9_0=>tN ((tI .i64 fun v20=>tI .i64 fun v22=>tN (Tx.cipher_Block_B2 ρ (fun v6 first7 w8 turn9_0 v20 hh=>T1 [(.pointer (some v6)),(.pointer (some first7)),(.pointer (some w8)),(.func (.func (ρ.G 119)) #[] #[(.pointer (some turn9_0))]),(.int .i64 v20)] hh) (fun v6 first7 w8 turn9_0 v20 v22 hh=>T2 [(.pointer (some v6)),(.pointer (some first7)),(.pointer (some w8)),(.func (.func (ρ.G 119)) #[] #[(.pointer (some turn9_0))]),(.int .i64 v20),(.int .i64 v22)] hh) (fun r0 h=>K (.agg (lumpV .u8 64 r0).toArray) h) v6 first7 w8 turn9_0 v20 v22 h)) rest3)) cells3) vals
  | 3,[T3,T1],vals,h=>(tA fun v6=>tA fun first7=>tA fun w8=>tF (ρ.G 119) fun cells3 rest3=>(tA fun turn9_0=>tN ((tI .i64 fun v20=>tI .i64 fun v35=>tN (Tx.cipher_Block_B3 ρ (fun v6 first7 w8 turn9_0 v20 hh=>T1 [(.pointer (some v6)),(.pointer (some first7)),(.pointer (some w8)),(.func (.func (ρ.G 119)) #[] #[(.pointer (some turn9_0))]),(.int .i64 v20)] hh) (fun v6 first7 w8 turn9_0 v20 v35 hh=>T3 [(.pointer (some v6)),(.pointer (some first7)),(.pointer (some w8)),(.func (.func (ρ.G 119)) #[] #[(.pointer (some turn9_0))]),(.int .i64 v20),(.int .i64 v35)] hh) (fun r0 h=>K (.agg (lumpV .u8 64 r0).toArray) h) v6 first7 w8 turn9_0 v20 v35 h)) rest3)) cells3) vals
  | 4,[T4],vals,h=>(tA fun v6=>tA fun first7=>tA fun w8=>tA fun b12=>tI .i64 fun v55=>tN (Tx.cipher_Block_B4 ρ (fun v6 first7 w8 b12 v55 hh=>T4 [(.pointer (some v6)),(.pointer (some first7)),(.pointer (some w8)),(.pointer (some b12)),(.int .i64 v55)] hh) (fun r0 h=>K (.agg (lumpV .u8 64 r0).toArray) h) v6 first7 w8 b12 v55 h)) vals
  | _,_,_,_=>False
theorem ok82:SpecOk Try.prog 82 (Tx.cipher_Block_S ρ):=by
  refine spec_ok (c:=c82) agree (specsOk_cons ok87 specsOk_nil) (specsOk_cons ok88 specsOk_nil) mixed Try.func82 (by kernel_rfl) (by kernel_rfl) A82 (by kernel_rfl) (src82) ?_ ?_
  · intro args h K H
    unfold Tx.cipher_Block_S at H
    obtain ⟨cc0,rr0,rfl,H1⟩:=tG_elim H
    obtain ⟨key0_0,qq,rfl,H2⟩:=tL_elim H1
    obtain ⟨rfl,H3⟩:=tN_elim H2
    obtain ⟨cc1,rr1,rfl,H4⟩:=tG_elim H3
    obtain ⟨nonce1_0,qq,rfl,H5⟩:=tL_elim H4
    obtain ⟨rfl,H6⟩:=tN_elim H5
    obtain ⟨counter2,rr,rfl,H7⟩:=tI_elim H6
    obtain ⟨rfl,H8⟩:=tN_elim H7
    exact fin_and (by kernel_rfl) (by kernel_rfl) H8
  · intro K k inner vals h hk hin H
    rw [show pts A82=[1,2,3,4] from by kernel_rfl] at hk
    simp only [List.mem_cons,List.not_mem_nil,or_false] at hk
    rcases hk with rfl | rfl | rfl | rfl
    · rw [show depth 1 A82 = 1 from by kernel_rfl] at hin
      obtain ⟨T1,rfl⟩:=len1 hin
      have H:src82 K 1 [T1] vals h:=H
      simp only [src82] at H
      obtain ⟨v6,rr,rfl,H1⟩:=tA_elim H
      obtain ⟨first7,rr,rfl,H2⟩:=tA_elim H1
      obtain ⟨w8,rr,rfl,H3⟩:=tA_elim H2
      obtain ⟨cc3,rr3,rfl,H4⟩:=tF_elim H3
      obtain ⟨turn9_0,qq,rfl,H5⟩:=tA_elim H4
      obtain ⟨rfl,H6⟩:=tN_elim H5
      obtain ⟨v20,rr,rfl,H7⟩:=tI_elim H6
      obtain ⟨rfl,H8⟩:=tN_elim H7
      exact cast (by kernel_rfl) H8
    · rw [show depth 2 A82 = 2 from by kernel_rfl] at hin
      obtain ⟨T1,T2,rfl⟩:=len2 hin
      have H:src82 K 2 [T2,T1] vals h:=H
      simp only [src82] at H
      obtain ⟨v6,rr,rfl,H1⟩:=tA_elim H
      obtain ⟨first7,rr,rfl,H2⟩:=tA_elim H1
      obtain ⟨w8,rr,rfl,H3⟩:=tA_elim H2
      obtain ⟨cc3,rr3,rfl,H4⟩:=tF_elim H3
      obtain ⟨turn9_0,qq,rfl,H5⟩:=tA_elim H4
      obtain ⟨rfl,H6⟩:=tN_elim H5
      obtain ⟨v20,rr,rfl,H7⟩:=tI_elim H6
      obtain ⟨v22,rr,rfl,H8⟩:=tI_elim H7
      obtain ⟨rfl,H9⟩:=tN_elim H8
      exact cast (by kernel_rfl) H9
    · rw [show depth 3 A82 = 2 from by kernel_rfl] at hin
      obtain ⟨T1,T3,rfl⟩:=len2 hin
      have H:src82 K 3 [T3,T1] vals h:=H
      simp only [src82] at H
      obtain ⟨v6,rr,rfl,H1⟩:=tA_elim H
      obtain ⟨first7,rr,rfl,H2⟩:=tA_elim H1
      obtain ⟨w8,rr,rfl,H3⟩:=tA_elim H2
      obtain ⟨cc3,rr3,rfl,H4⟩:=tF_elim H3
      obtain ⟨turn9_0,qq,rfl,H5⟩:=tA_elim H4
      obtain ⟨rfl,H6⟩:=tN_elim H5
      obtain ⟨v20,rr,rfl,H7⟩:=tI_elim H6
      obtain ⟨v35,rr,rfl,H8⟩:=tI_elim H7
      obtain ⟨rfl,H9⟩:=tN_elim H8
      exact cast (by kernel_rfl) H9
    · rw [show depth 4 A82 = 1 from by kernel_rfl] at hin
      obtain ⟨T4,rfl⟩:=len1 hin
      have H:src82 K 4 [T4] vals h:=H
      simp only [src82] at H
      obtain ⟨v6,rr,rfl,H1⟩:=tA_elim H
      obtain ⟨first7,rr,rfl,H2⟩:=tA_elim H1
      obtain ⟨w8,rr,rfl,H3⟩:=tA_elim H2
      obtain ⟨b12,rr,rfl,H4⟩:=tA_elim H3
      obtain ⟨v55,rr,rfl,H5⟩:=tI_elim H4
      obtain ⟨rfl,H6⟩:=tN_elim H5
      exact cast (by kernel_rfl) H6
noncomputable def c72:Code:=Try.f72.body.getD .skip
def A72:Ann:=(.seq .leaf (.seq .leaf (.seq (.seq .leaf (.block (.loop 1 [2,4,5,9,10] (.seq (.seq .leaf (.cond .leaf .leaf)) (.seq (.block (.seq .leaf (.seq (.seq .leaf (.block (.loop 2 [2,4,5,9,10,11,34,35] (.seq .leaf (.seq (.cond .leaf .leaf) (.seq (.block (.seq .leaf (.plan (.take 0 [11] (.take 1 [11] (.take 2 [11] (.take 3 [11] (.take 4 [11] (.take 5 [11] (.take 6 [11] (.take 7 [11] (.take 8 [11] (.take 9 [11] (.take 10 [11] (.all (.alt 11 .done .nil)))))))))))))))) .leaf)))))) .leaf))) .leaf))))) (.seq .leaf .leaf))))
def src72 (K:Value→Hp→Prop):Src
  | 1,[T1],vals,h=>(tI .u32 fun counter2=>tA fun key4=>tA fun nonce5=>tS fun out9=>tI .i64 fun at10=>tN (Tx.cipher_Turn_B1 ρ (fun counter2 key4 nonce5 out9 at10 hh=>T1 [(.int .u32 counter2),(.pointer (some key4)),(.pointer (some nonce5)),(.slice out9.a out9.len out9.cap),(.int .i64 at10)] hh) (fun r0 h=>K (.slice r0.a r0.len r0.cap) h) counter2 key4 nonce5 out9 at10 h)) vals
  | 2,[T2,T1],vals,h=>(tI .u32 fun counter2=>tA fun key4=>tA fun nonce5=>tS fun out9=>tI .i64 fun at10=>tA fun s11=>tI .i64 fun v34=>tI .i64 fun v35=>tN (Tx.cipher_Turn_B2 ρ (fun counter2 key4 nonce5 out9 at10 hh=>T1 [(.int .u32 counter2),(.pointer (some key4)),(.pointer (some nonce5)),(.slice out9.a out9.len out9.cap),(.int .i64 at10)] hh) (fun counter2 key4 nonce5 out9 at10 s11 v34 v35 hh=>T2 [(.int .u32 counter2),(.pointer (some key4)),(.pointer (some nonce5)),(.slice out9.a out9.len out9.cap),(.int .i64 at10),(.pointer (some s11)),(.int .i64 v34),(.int .i64 v35)] hh) (fun r0 h=>K (.slice r0.a r0.len r0.cap) h) counter2 key4 nonce5 out9 at10 s11 v34 v35 h)) vals
  | _,_,_,_=>False
theorem ok72:SpecOk Try.prog 72 (Tx.cipher_Turn_S ρ):=by
  refine spec_ok (c:=c72) agree (specsOk_cons ok82 specsOk_nil) specsOk_nil mixed Try.func72 (by kernel_rfl) (by kernel_rfl) A72 (by kernel_rfl) (src72) ?_ ?_
  · intro args h K H
    unfold Tx.cipher_Turn_S at H
    obtain ⟨cc0,rr0,rfl,H1⟩:=tG_elim H
    obtain ⟨key0_0,qq,rfl,H2⟩:=tL_elim H1
    obtain ⟨rfl,H3⟩:=tN_elim H2
    obtain ⟨cc1,rr1,rfl,H4⟩:=tG_elim H3
    obtain ⟨nonce1_0,qq,rfl,H5⟩:=tL_elim H4
    obtain ⟨rfl,H6⟩:=tN_elim H5
    obtain ⟨counter2,rr,rfl,H7⟩:=tI_elim H6
    obtain ⟨b3,rr,rfl,H8⟩:=tS_elim H7
    obtain ⟨rfl,H9⟩:=tN_elim H8
    exact fin_and (by kernel_rfl) (by kernel_rfl) H9
  · intro K k inner vals h hk hin H
    rw [show pts A72=[1,2] from by kernel_rfl] at hk
    simp only [List.mem_cons,List.not_mem_nil,or_false] at hk
    rcases hk with rfl | rfl
    · rw [show depth 1 A72 = 1 from by kernel_rfl] at hin
      obtain ⟨T1,rfl⟩:=len1 hin
      have H:src72 K 1 [T1] vals h:=H
      simp only [src72] at H
      obtain ⟨counter2,rr,rfl,H1⟩:=tI_elim H
      obtain ⟨key4,rr,rfl,H2⟩:=tA_elim H1
      obtain ⟨nonce5,rr,rfl,H3⟩:=tA_elim H2
      obtain ⟨out9,rr,rfl,H4⟩:=tS_elim H3
      obtain ⟨at10,rr,rfl,H5⟩:=tI_elim H4
      obtain ⟨rfl,H6⟩:=tN_elim H5
      exact cast (by kernel_rfl) H6
    · rw [show depth 2 A72 = 2 from by kernel_rfl] at hin
      obtain ⟨T1,T2,rfl⟩:=len2 hin
      have H:src72 K 2 [T2,T1] vals h:=H
      simp only [src72] at H
      obtain ⟨counter2,rr,rfl,H1⟩:=tI_elim H
      obtain ⟨key4,rr,rfl,H2⟩:=tA_elim H1
      obtain ⟨nonce5,rr,rfl,H3⟩:=tA_elim H2
      obtain ⟨out9,rr,rfl,H4⟩:=tS_elim H3
      obtain ⟨at10,rr,rfl,H5⟩:=tI_elim H4
      obtain ⟨s11,rr,rfl,H6⟩:=tA_elim H5
      obtain ⟨v34,rr,rfl,H7⟩:=tI_elim H6
      obtain ⟨v35,rr,rfl,H8⟩:=tI_elim H7
      obtain ⟨rfl,H9⟩:=tN_elim H8
      exact cast (by kernel_rfl) H9
noncomputable def c73:Code:=Try.f73.body.getD .skip
def A73:Ann:=(.seq .leaf (.seq .leaf (.seq (.seq .leaf (.block (.loop 1 [0,1,4,5,7] (.seq .leaf (.seq (.cond .leaf .leaf) (.join 2 [0,1,4,5,7] (.block (.seq .leaf (.seq .leaf (.cond .leaf .leaf)))) .leaf)))))) (.seq .leaf .leaf))))
def src73 (K:Value→Hp→Prop):Src
  | 1,[T1],vals,h=>(tI .u32 fun epoch0=>tI .u64 fun block1=>tA fun v4=>tA fun n5=>tI .i64 fun v7=>tN (Tx.cipher_Nonce_B1 ρ (fun epoch0 block1 v4 n5 v7 hh=>T1 [(.int .u32 epoch0),(.int .u64 block1),(.pointer (some v4)),(.pointer (some n5)),(.int .i64 v7)] hh) (fun r0 h=>K (.agg (lumpV .u8 12 r0).toArray) h) epoch0 block1 v4 n5 v7 h)) vals
  | 2,[T1],vals,h=>(tI .u32 fun epoch0=>tI .u64 fun block1=>tA fun v4=>tA fun n5=>tI .i64 fun v7=>tN (Tx.cipher_Nonce_K2 ρ (fun epoch0 block1 v4 n5 v7 hh=>T1 [(.int .u32 epoch0),(.int .u64 block1),(.pointer (some v4)),(.pointer (some n5)),(.int .i64 v7)] hh) (fun r0 h=>K (.agg (lumpV .u8 12 r0).toArray) h) epoch0 block1 v4 n5 v7 h)) vals
  | _,_,_,_=>False
theorem ok73:SpecOk Try.prog 73 (Tx.cipher_Nonce_S ρ):=by
  refine spec_ok (c:=c73) agree specsOk_nil specsOk_nil mixed Try.func73 (by kernel_rfl) (by kernel_rfl) A73 (by kernel_rfl) (src73) ?_ ?_
  · intro args h K H
    unfold Tx.cipher_Nonce_S at H
    obtain ⟨epoch0,rr,rfl,H1⟩:=tI_elim H
    obtain ⟨block1,rr,rfl,H2⟩:=tI_elim H1
    obtain ⟨rfl,H3⟩:=tN_elim H2
    exact fin_and (by kernel_rfl) (by kernel_rfl) H3
  · intro K k inner vals h hk hin H
    rw [show pts A73=[1,2] from by kernel_rfl] at hk
    simp only [List.mem_cons,List.not_mem_nil,or_false] at hk
    rcases hk with rfl | rfl
    · rw [show depth 1 A73 = 1 from by kernel_rfl] at hin
      obtain ⟨T1,rfl⟩:=len1 hin
      have H:src73 K 1 [T1] vals h:=H
      simp only [src73] at H
      obtain ⟨epoch0,rr,rfl,H1⟩:=tI_elim H
      obtain ⟨block1,rr,rfl,H2⟩:=tI_elim H1
      obtain ⟨v4,rr,rfl,H3⟩:=tA_elim H2
      obtain ⟨n5,rr,rfl,H4⟩:=tA_elim H3
      obtain ⟨v7,rr,rfl,H5⟩:=tI_elim H4
      obtain ⟨rfl,H6⟩:=tN_elim H5
      exact cast (by kernel_rfl) H6
    · rw [show depth 2 A73 = 1 from by kernel_rfl] at hin
      obtain ⟨T1,rfl⟩:=len1 hin
      have H:src73 K 2 [T1] vals h:=H
      simp only [src73] at H
      obtain ⟨epoch0,rr,rfl,H1⟩:=tI_elim H
      obtain ⟨block1,rr,rfl,H2⟩:=tI_elim H1
      obtain ⟨v4,rr,rfl,H3⟩:=tA_elim H2
      obtain ⟨n5,rr,rfl,H4⟩:=tA_elim H3
      obtain ⟨v7,rr,rfl,H5⟩:=tI_elim H4
      obtain ⟨rfl,H6⟩:=tN_elim H5
      exact cast (by kernel_rfl) H6
noncomputable def c56:Code:=Try.f56.body.getD .skip
def A56:Ann:=(.seq .leaf (.seq (.join 1 [1,2,3,4,16] .leaf (.cond (.seq .leaf .leaf) .leaf)) (.seq (.plan (.take 0 [6] (.take 1 [4,6] (.take 2 [4,6] (.take 3 [4,6] (.take 5 [6] (.all (.alt 4 (.all (.alt 6 (.take 7 [] (.take 8 [] .done)) .nil)) .nil)))))))) .leaf)))
def src56 (K:Value→Hp→Prop):Src
  | 1,[],vals,h=>(tI .u32 fun epoch1=>tI .i64 fun block2=>tS fun page3=>tA fun key4=>tB fun v16=>tN (Tx.seal_Seal_K1 ρ (fun r0 r1 h=>K (.tuple [(.slice r0.a r0.len r0.cap),(.int .i64 r1)].toArray) h) epoch1 block2 page3 key4 v16 h)) vals
  | _,_,_,_=>False
theorem ok56:SpecOk Try.prog 56 (Tx.seal_Seal_S ρ):=by
  refine spec_ok (c:=c56) agree (specsOk_cons ok73 (specsOk_cons ok72 specsOk_nil)) specsOk_nil mixed Try.func56 (by kernel_rfl) (by kernel_rfl) A56 (by kernel_rfl) (src56) ?_ ?_
  · intro args h K H
    unfold Tx.seal_Seal_S at H
    obtain ⟨cc0,rr0,rfl,H1⟩:=tG_elim H
    obtain ⟨key0_0,qq,rfl,H2⟩:=tL_elim H1
    obtain ⟨rfl,H3⟩:=tN_elim H2
    obtain ⟨epoch1,rr,rfl,H4⟩:=tI_elim H3
    obtain ⟨block2,rr,rfl,H5⟩:=tI_elim H4
    obtain ⟨page3,rr,rfl,H6⟩:=tS_elim H5
    obtain ⟨rfl,H7⟩:=tN_elim H6
    exact fin_and (by kernel_rfl) (by kernel_rfl) H7
  · intro K k inner vals h hk hin H
    rw [show pts A56=[1] from by kernel_rfl] at hk
    simp only [List.mem_cons,List.not_mem_nil,or_false] at hk
    rcases hk with rfl
    · rw [show depth 1 A56 = 0 from by kernel_rfl] at hin
      obtain rfl:=len0 hin
      have H:src56 K 1 [] vals h:=H
      simp only [src56] at H
      obtain ⟨epoch1,rr,rfl,H1⟩:=tI_elim H
      obtain ⟨block2,rr,rfl,H2⟩:=tI_elim H1
      obtain ⟨page3,rr,rfl,H3⟩:=tS_elim H2
      obtain ⟨key4,rr,rfl,H4⟩:=tA_elim H3
      obtain ⟨v16,rr,rfl,H5⟩:=tB_elim H4
      obtain ⟨rfl,H6⟩:=tN_elim H5
      exact cast (by kernel_rfl) H6
noncomputable def c57:Code:=Try.f57.body.getD .skip
def A57:Ann:=(.seq .leaf (.seq .leaf .leaf))
def src57 (_:Value→Hp→Prop):Src:=fun _ _ _ _=>False
theorem ok57:SpecOk Try.prog 57 (Tx.seal_isPlace_S ρ):=by
  refine spec_ok (c:=c57) agree specsOk_nil specsOk_nil mixed Try.func57 (by kernel_rfl) (by kernel_rfl) A57 (by kernel_rfl) (src57) ?_ ?_
  · intro args h K H
    unfold Tx.seal_isPlace_S at H
    obtain ⟨n0,rr,rfl,H1⟩:=tI_elim H
    obtain ⟨rfl,H2⟩:=tN_elim H1
    exact fin_and (by kernel_rfl) (by kernel_rfl) H2
  · intro K k inner vals h hk hin H
    exact H.elim
noncomputable def c60:Code:=Try.f60.body.getD .skip
def A60:Ann:=(.seq .leaf (.seq (.seq .leaf (.cond (.seq .leaf .leaf) .leaf)) (.seq .leaf .leaf)))
def src60 (_:Value→Hp→Prop):Src:=fun _ _ _ _=>False
theorem ok60:SpecOk Try.prog 60 (Tx.bytes_Clone_S ρ):=by
  refine spec_ok (c:=c60) agree specsOk_nil specsOk_nil mixed Try.func60 (by kernel_rfl) (by kernel_rfl) A60 (by kernel_rfl) (src60) ?_ ?_
  · intro args h K H
    unfold Tx.bytes_Clone_S at H
    obtain ⟨b0,rr,rfl,H1⟩:=tS_elim H
    obtain ⟨rfl,H2⟩:=tN_elim H1
    exact fin_and (by kernel_rfl) (by kernel_rfl) H2
  · intro K k inner vals h hk hin H
    exact H.elim
noncomputable def c83:Code:=Try.f83.body.getD .skip
def A83:Ann:=(.seq .leaf (.seq .leaf .leaf))
def src83 (_:Value→Hp→Prop):Src:=fun _ _ _ _=>False
theorem ok83:SpecOk Try.prog 83 (Tx.sha_New_S ρ):=by
  refine spec_ok (c:=c83) agree specsOk_nil specsOk_nil mixed Try.func83 (by kernel_rfl) (by kernel_rfl) A83 (by kernel_rfl) (src83) ?_ ?_
  · intro args h K H
    unfold Tx.sha_New_S at H
    obtain ⟨rfl,H1⟩:=tN_elim H
    exact fin_and (by kernel_rfl) (by kernel_rfl) H1
  · intro K k inner vals h hk hin H
    exact H.elim
noncomputable def c90:Code:=Try.f90.body.getD .skip
def A90:Ann:=(.seq .leaf (.seq .leaf .leaf))
def src90 (_:Value→Hp→Prop):Src:=fun _ _ _ _=>False
theorem ok90:SpecOk Try.prog 90 (Tx.sha_first_S ρ):=by
  refine spec_ok (c:=c90) agree specsOk_nil specsOk_nil mixed Try.func90 (by kernel_rfl) (by kernel_rfl) A90 (by kernel_rfl) (src90) ?_ ?_
  · intro args h K H
    unfold Tx.sha_first_S at H
    obtain ⟨rfl,H1⟩:=tN_elim H
    exact fin_and (by kernel_rfl) (by kernel_rfl) H1
  · intro K k inner vals h hk hin H
    exact H.elim
noncomputable def c97:Code:=Try.f97.body.getD .skip
def A97:Ann:=(.seq .leaf (.seq .leaf .leaf))
def src97 (_:Value→Hp→Prop):Src:=fun _ _ _ _=>False
theorem ok97:SpecOk Try.prog 97 (Tx.sha_Turn_S ρ):=by
  refine spec_ok (c:=c97) agree (specsOk_cons ok94 specsOk_nil) specsOk_nil mixed Try.func97 (by kernel_rfl) (by kernel_rfl) A97 (by kernel_rfl) (src97) ?_ ?_
  · intro args h K H
    unfold Tx.sha_Turn_S at H
    obtain ⟨x0,rr,rfl,H1⟩:=tI_elim H
    obtain ⟨n1,rr,rfl,H2⟩:=tI_elim H1
    obtain ⟨rfl,H3⟩:=tN_elim H2
    exact fin_and (by kernel_rfl) (by kernel_rfl) H3
  · intro K k inner vals h hk hin H
    exact H.elim
noncomputable def c98:Code:=Try.f98.body.getD .skip
def A98:Ann:=(.seq .leaf (.seq .leaf (.seq (.seq .leaf (.block (.loop 1 [3,6,7,8] (.seq .leaf (.seq (.cond .leaf .leaf) (.seq (.block (.seq .leaf .leaf)) .leaf)))))) (.seq .leaf .leaf))))
def src98 (K:Value→Hp→Prop):Src
  | 1,[T1],vals,h=>(tI .u32 fun w3=>tS fun v6=>tI .i64 fun v7=>tI .i64 fun v8=>tN (Tx.sha_join_B1 ρ (fun w3 v6 v7 v8 hh=>T1 [(.int .u32 w3),(.slice v6.a v6.len v6.cap),(.int .i64 v7),(.int .i64 v8)] hh) (fun r0 h=>K (.int .u32 r0) h) w3 v6 v7 v8 h)) vals
  | _,_,_,_=>False
theorem ok98:SpecOk Try.prog 98 (Tx.sha_join_S ρ):=by
  refine spec_ok (c:=c98) agree specsOk_nil specsOk_nil mixed Try.func98 (by kernel_rfl) (by kernel_rfl) A98 (by kernel_rfl) (src98) ?_ ?_
  · intro args h K H
    unfold Tx.sha_join_S at H
    obtain ⟨b0,rr,rfl,H1⟩:=tS_elim H
    obtain ⟨rfl,H2⟩:=tN_elim H1
    exact fin_and (by kernel_rfl) (by kernel_rfl) H2
  · intro K k inner vals h hk hin H
    rw [show pts A98=[1] from by kernel_rfl] at hk
    simp only [List.mem_cons,List.not_mem_nil,or_false] at hk
    rcases hk with rfl
    · rw [show depth 1 A98 = 1 from by kernel_rfl] at hin
      obtain ⟨T1,rfl⟩:=len1 hin
      have H:src98 K 1 [T1] vals h:=H
      simp only [src98] at H
      obtain ⟨w3,rr,rfl,H1⟩:=tI_elim H
      obtain ⟨v6,rr,rfl,H2⟩:=tS_elim H1
      obtain ⟨v7,rr,rfl,H3⟩:=tI_elim H2
      obtain ⟨v8,rr,rfl,H4⟩:=tI_elim H3
      obtain ⟨rfl,H5⟩:=tN_elim H4
      exact cast (by kernel_rfl) H5
noncomputable def c95:Code:=Try.f95.body.getD .skip
def A95:Ann:=(.seq .leaf (.seq .leaf (.seq (.seq .leaf (.block (.loop 1 [0,2,3,9] (.seq .leaf (.seq (.cond .leaf .leaf) (.join 2 [0,2,3,9] (.block (.seq .leaf (.seq (.seq .leaf (.cond (.seq .leaf .leaf) .leaf)) (.seq (.plan (.take 0 [] (.take 1 [] (.take 2 [] (.take 3 [] (.take 4 [] (.take 5 [] (.take 6 [] (.take 7 [] (.take 8 [] (.take 9 [] .done))))))))))) (.seq .leaf (.seq .leaf (.plan (.take 0 [15] (.take 1 [15] (.take 2 [15] (.take 3 [15] (.take 4 [15] (.take 5 [15] (.take 6 [15] (.take 7 [15] (.take 8 [15] (.take 9 [15] (.take 10 [15] (.take 11 [15] (.take 12 [15] (.take 13 [15] (.take 14 [15] (.all (.alt 15 .done .nil)))))))))))))))))))))))) .leaf)))))) (.seq .leaf .leaf))))
def src95 (K:Value→Hp→Prop):Src
  | 1,[T1],vals,h=>(tS fun b0=>tA fun v2=>tA fun w3=>tI .i64 fun v9=>tN (Tx.sha_spread_B1 ρ (fun b0 v2 w3 v9 hh=>T1 [(.slice b0.a b0.len b0.cap),(.pointer (some v2)),(.pointer (some w3)),(.int .i64 v9)] hh) (fun r0 h=>K (.agg (lumpV .u32 64 r0).toArray) h) b0 v2 w3 v9 h)) vals
  | 2,[T1],vals,h=>(tS fun b0=>tA fun v2=>tA fun w3=>tI .i64 fun v9=>tN (Tx.sha_spread_K2 ρ (fun b0 v2 w3 v9 hh=>T1 [(.slice b0.a b0.len b0.cap),(.pointer (some v2)),(.pointer (some w3)),(.int .i64 v9)] hh) (fun r0 h=>K (.agg (lumpV .u32 64 r0).toArray) h) b0 v2 w3 v9 h)) vals
  | _,_,_,_=>False
theorem ok95:SpecOk Try.prog 95 (Tx.sha_spread_S ρ):=by
  refine spec_ok (c:=c95) agree (specsOk_cons ok98 (specsOk_cons ok97 specsOk_nil)) specsOk_nil mixed Try.func95 (by kernel_rfl) (by kernel_rfl) A95 (by kernel_rfl) (src95) ?_ ?_
  · intro args h K H
    unfold Tx.sha_spread_S at H
    obtain ⟨b0,rr,rfl,H1⟩:=tS_elim H
    obtain ⟨rfl,H2⟩:=tN_elim H1
    exact fin_and (by kernel_rfl) (by kernel_rfl) H2
  · intro K k inner vals h hk hin H
    rw [show pts A95=[1,2] from by kernel_rfl] at hk
    simp only [List.mem_cons,List.not_mem_nil,or_false] at hk
    rcases hk with rfl | rfl
    · rw [show depth 1 A95 = 1 from by kernel_rfl] at hin
      obtain ⟨T1,rfl⟩:=len1 hin
      have H:src95 K 1 [T1] vals h:=H
      simp only [src95] at H
      obtain ⟨b0,rr,rfl,H1⟩:=tS_elim H
      obtain ⟨v2,rr,rfl,H2⟩:=tA_elim H1
      obtain ⟨w3,rr,rfl,H3⟩:=tA_elim H2
      obtain ⟨v9,rr,rfl,H4⟩:=tI_elim H3
      obtain ⟨rfl,H5⟩:=tN_elim H4
      exact cast (by kernel_rfl) H5
    · rw [show depth 2 A95 = 1 from by kernel_rfl] at hin
      obtain ⟨T1,rfl⟩:=len1 hin
      have H:src95 K 2 [T1] vals h:=H
      simp only [src95] at H
      obtain ⟨b0,rr,rfl,H1⟩:=tS_elim H
      obtain ⟨v2,rr,rfl,H2⟩:=tA_elim H1
      obtain ⟨w3,rr,rfl,H3⟩:=tA_elim H2
      obtain ⟨v9,rr,rfl,H4⟩:=tI_elim H3
      obtain ⟨rfl,H5⟩:=tN_elim H4
      exact cast (by kernel_rfl) H5
noncomputable def c96:Code:=Try.f96.body.getD .skip
def A96:Ann:=(.seq .leaf (.seq .leaf .leaf))
def src96 (_:Value→Hp→Prop):Src:=fun _ _ _ _=>False
theorem ok96:SpecOk Try.prog 96 (Tx.sha_constants_S ρ):=by
  refine spec_ok (c:=c96) agree specsOk_nil specsOk_nil mixed Try.func96 (by kernel_rfl) (by kernel_rfl) A96 (by kernel_rfl) (src96) ?_ ?_
  · intro args h K H
    unfold Tx.sha_constants_S at H
    obtain ⟨rfl,H1⟩:=tN_elim H
    exact fin_and (by kernel_rfl) (by kernel_rfl) H1
  · intro K k inner vals h hk hin H
    exact H.elim
noncomputable def c91:Code:=Try.f91.body.getD .skip
def A91:Ann:=(.seq .leaf (.seq .leaf (.seq .leaf (.seq (.seq .leaf (.block (.loop 1 [2,4,5,6,7,18] (.seq .leaf (.seq (.cond .leaf .leaf) (.seq (.block (.seq .leaf (.seq (.plan (.take 0 [] (.take 1 [] (.take 2 [] (.take 3 [] (.take 4 [] (.take 5 [] .done))))))) (.seq (.plan (.take 0 [] (.take 1 [] (.take 2 [3,5,8] (.take 4 [5,8] (.take 7 [8] (.take 11 [] (.take 12 [] (.take 13 [] (.take 14 [] (.take 15 [] (.take 16 [] (.take 17 [] (.take 18 [] (.take 19 [] (.take 20 [] (.take 22 [] (.take 23 [] (.take 24 [] (.take 26 [] (.take 27 [] (.take 28 [] (.all (.alt 3 (.all (.alt 5 (.take 6 [] (.all (.alt 8 (.take 9 [] (.take 10 [] (.take 21 [] (.take 25 [] (.take 29 [] (.take 30 [] .done)))))) .nil))) .nil)) .nil)))))))))))))))))))))))) (.seq (.plan (.take 0 [1,3,6] (.take 2 [3,6] (.take 5 [6] (.take 8 [] (.take 9 [] (.take 10 [] (.take 11 [] (.take 12 [] (.take 13 [] (.take 14 [] (.take 15 [] (.take 16 [] (.take 17 [] (.take 18 [] (.take 19 [] (.take 20 [] (.take 21 [] (.take 22 [] (.all (.alt 1 (.all (.alt 3 (.take 4 [] (.all (.alt 6 (.take 7 [] (.take 23 [] (.take 24 [] .done))) .nil))) .nil)) .nil))))))))))))))))))))) (.seq (.plan (.take 0 [2] (.take 1 [2] (.all (.alt 2 .done .nil))))) (.seq .leaf .leaf))))))) .leaf)))))) (.seq (.seq .leaf (.block (.loop 2 [2,4,7,92] (.seq .leaf (.seq (.cond .leaf .leaf) (.seq (.block (.seq .leaf (.plan (.take 0 [8] (.take 1 [8] (.take 2 [8] (.take 3 [8] (.take 4 [8] (.take 5 [8] (.take 6 [8] (.take 7 [8] (.all (.alt 8 .done .nil))))))))))))) .leaf)))))) (.seq .leaf .leaf))))))
def src91 (K:Value→Hp→Prop):Src
  | 1,[T1],vals,h=>(tA fun h2=>tA fun v4=>tA fun w5=>tA fun k6=>tA fun x7=>tI .i64 fun v18=>tN (Tx.sha_block_B1 ρ (fun h2 v4 w5 k6 x7 v18 hh=>T1 [(.pointer (some h2)),(.pointer (some v4)),(.pointer (some w5)),(.pointer (some k6)),(.pointer (some x7)),(.int .i64 v18)] hh) (fun r0 h=>K (.agg (lumpV .u32 8 r0).toArray) h) h2 v4 w5 k6 x7 v18 h)) vals
  | 2,[T2],vals,h=>(tA fun h2=>tA fun v4=>tA fun x7=>tI .i64 fun v92=>tN (Tx.sha_block_B2 ρ (fun h2 v4 x7 v92 hh=>T2 [(.pointer (some h2)),(.pointer (some v4)),(.pointer (some x7)),(.int .i64 v92)] hh) (fun r0 h=>K (.agg (lumpV .u32 8 r0).toArray) h) h2 v4 x7 v92 h)) vals
  | _,_,_,_=>False
theorem ok91:SpecOk Try.prog 91 (Tx.sha_block_S ρ):=by
  refine spec_ok (c:=c91) agree (specsOk_cons ok97 (specsOk_cons ok96 (specsOk_cons ok95 specsOk_nil))) specsOk_nil mixed Try.func91 (by kernel_rfl) (by kernel_rfl) A91 (by kernel_rfl) (src91) ?_ ?_
  · intro args h K H
    unfold Tx.sha_block_S at H
    obtain ⟨cc0,rr0,rfl,H1⟩:=tG_elim H
    obtain ⟨h0_0,qq,rfl,H2⟩:=tL_elim H1
    obtain ⟨rfl,H3⟩:=tN_elim H2
    obtain ⟨b1,rr,rfl,H4⟩:=tS_elim H3
    obtain ⟨rfl,H5⟩:=tN_elim H4
    exact fin_and (by kernel_rfl) (by kernel_rfl) H5
  · intro K k inner vals h hk hin H
    rw [show pts A91=[1,2] from by kernel_rfl] at hk
    simp only [List.mem_cons,List.not_mem_nil,or_false] at hk
    rcases hk with rfl | rfl
    · rw [show depth 1 A91 = 1 from by kernel_rfl] at hin
      obtain ⟨T1,rfl⟩:=len1 hin
      have H:src91 K 1 [T1] vals h:=H
      simp only [src91] at H
      obtain ⟨h2,rr,rfl,H1⟩:=tA_elim H
      obtain ⟨v4,rr,rfl,H2⟩:=tA_elim H1
      obtain ⟨w5,rr,rfl,H3⟩:=tA_elim H2
      obtain ⟨k6,rr,rfl,H4⟩:=tA_elim H3
      obtain ⟨x7,rr,rfl,H5⟩:=tA_elim H4
      obtain ⟨v18,rr,rfl,H6⟩:=tI_elim H5
      obtain ⟨rfl,H7⟩:=tN_elim H6
      exact cast (by kernel_rfl) H7
    · rw [show depth 2 A91 = 1 from by kernel_rfl] at hin
      obtain ⟨T2,rfl⟩:=len1 hin
      have H:src91 K 2 [T2] vals h:=H
      simp only [src91] at H
      obtain ⟨h2,rr,rfl,H1⟩:=tA_elim H
      obtain ⟨v4,rr,rfl,H2⟩:=tA_elim H1
      obtain ⟨x7,rr,rfl,H3⟩:=tA_elim H2
      obtain ⟨v92,rr,rfl,H4⟩:=tI_elim H3
      obtain ⟨rfl,H5⟩:=tN_elim H4
      exact cast (by kernel_rfl) H5
noncomputable def c84:Code:=Try.f84.body.getD .skip
def A84:Ann:=(.seq .leaf (.join 3 [1,2,4] (.join 1 [1,2,4,17] .leaf (.cond .leaf .leaf)) (.seq .leaf (.seq .leaf (.seq (.block (.loop 2 [2,4,5] (.seq (.seq .leaf (.cond .leaf .leaf)) (.block (.seq (.plan (.take 0 [4,6] (.take 1 [4,6] (.take 2 [4,6] (.take 3 [4,6] (.all (.alt 4 (.take 5 [6] (.all (.alt 6 .done .nil))) .nil))))))) .leaf))))) (.seq .leaf (.seq .leaf .leaf)))))))
def src84 (K:Value→Hp→Prop):Src
  | 1,[],vals,h=>(tS fun b1=>tA fun s2=>tA fun v4=>tB fun v17=>tN (Tx.sha_State_Write_K1 ρ (fun r0 r1 r2 h=>K (.agg (lumpV .u32 8 r0++([(.slice r1.a r1.len r1.cap),(.int .u64 r2)]:List Value)).toArray) h) b1 s2 v4 v17 h)) vals
  | 2,[T2],vals,h=>(tA fun s2=>tA fun v4=>tS fun all5=>tN (Tx.sha_State_Write_B2 ρ (fun s2 v4 all5 hh=>T2 [(.pointer (some s2)),(.pointer (some v4)),(.slice all5.a all5.len all5.cap)] hh) (fun r0 r1 r2 h=>K (.agg (lumpV .u32 8 r0++([(.slice r1.a r1.len r1.cap),(.int .u64 r2)]:List Value)).toArray) h) s2 v4 all5 h)) vals
  | 3,[],vals,h=>(tS fun b1=>tA fun s2=>tA fun v4=>tN (Tx.sha_State_Write_K3 ρ (fun r0 r1 r2 h=>K (.agg (lumpV .u32 8 r0++([(.slice r1.a r1.len r1.cap),(.int .u64 r2)]:List Value)).toArray) h) b1 s2 v4 h)) vals
  | _,_,_,_=>False
theorem ok84:SpecOk Try.prog 84 (Tx.sha_State_Write_S ρ):=by
  refine spec_ok (c:=c84) agree (specsOk_cons ok91 (specsOk_cons ok90 specsOk_nil)) specsOk_nil mixed Try.func84 (by kernel_rfl) (by kernel_rfl) A84 (by kernel_rfl) (src84) ?_ ?_
  · intro args h K H
    unfold Tx.sha_State_Write_S at H
    obtain ⟨cc0,rr0,rfl,H1⟩:=tG_elim H
    obtain ⟨s0_0,qq,rfl,H2⟩:=tL_elim H1
    obtain ⟨s0_1,qq,rfl,H3⟩:=tS_elim H2
    obtain ⟨s0_2,qq,rfl,H4⟩:=tI_elim H3
    obtain ⟨rfl,H5⟩:=tN_elim H4
    obtain ⟨b1,rr,rfl,H6⟩:=tS_elim H5
    obtain ⟨rfl,H7⟩:=tN_elim H6
    exact fin_and (by kernel_rfl) (by kernel_rfl) H7
  · intro K k inner vals h hk hin H
    rw [show pts A84=[3,1,2] from by kernel_rfl] at hk
    simp only [List.mem_cons,List.not_mem_nil,or_false] at hk
    rcases hk with rfl | rfl | rfl
    · rw [show depth 3 A84 = 0 from by kernel_rfl] at hin
      obtain rfl:=len0 hin
      have H:src84 K 3 [] vals h:=H
      simp only [src84] at H
      obtain ⟨b1,rr,rfl,H1⟩:=tS_elim H
      obtain ⟨s2,rr,rfl,H2⟩:=tA_elim H1
      obtain ⟨v4,rr,rfl,H3⟩:=tA_elim H2
      obtain ⟨rfl,H4⟩:=tN_elim H3
      exact cast (by kernel_rfl) H4
    · rw [show depth 1 A84 = 0 from by kernel_rfl] at hin
      obtain rfl:=len0 hin
      have H:src84 K 1 [] vals h:=H
      simp only [src84] at H
      obtain ⟨b1,rr,rfl,H1⟩:=tS_elim H
      obtain ⟨s2,rr,rfl,H2⟩:=tA_elim H1
      obtain ⟨v4,rr,rfl,H3⟩:=tA_elim H2
      obtain ⟨v17,rr,rfl,H4⟩:=tB_elim H3
      obtain ⟨rfl,H5⟩:=tN_elim H4
      exact cast (by kernel_rfl) H5
    · rw [show depth 2 A84 = 1 from by kernel_rfl] at hin
      obtain ⟨T2,rfl⟩:=len1 hin
      have H:src84 K 2 [T2] vals h:=H
      simp only [src84] at H
      obtain ⟨s2,rr,rfl,H1⟩:=tA_elim H
      obtain ⟨v4,rr,rfl,H2⟩:=tA_elim H1
      obtain ⟨all5,rr,rfl,H3⟩:=tS_elim H2
      obtain ⟨rfl,H4⟩:=tN_elim H3
      exact cast (by kernel_rfl) H4
noncomputable def c85:Code:=Try.f85.body.getD .skip
def A85:Ann:=(.seq .leaf (.seq .leaf (.seq (.block (.loop 1 [1,2,3] (.seq (.seq .leaf (.cond .leaf .leaf)) (.block .leaf)))) (.seq (.seq .leaf (.block (.loop 2 [1,2,3,21] (.seq .leaf (.seq (.cond .leaf .leaf) (.seq (.block (.seq .leaf .leaf)) .leaf)))))) (.seq .leaf (.seq .leaf (.seq (.seq .leaf (.block (.loop 3 [2,5,6,39] (.seq .leaf (.seq (.cond .leaf .leaf) (.seq (.block (.seq .leaf .leaf)) .leaf)))))) (.seq .leaf .leaf))))))))
def src85 (K:Value→Hp→Prop):Src
  | 1,[T1],vals,h=>(tA fun s1=>tA fun v2=>tS fun pad3=>tN (Tx.sha_State_Sum_B1 ρ (fun s1 v2 pad3 hh=>T1 [(.pointer (some s1)),(.pointer (some v2)),(.slice pad3.a pad3.len pad3.cap)] hh) (fun r0 h=>K (.agg (lumpV .u8 32 r0).toArray) h) s1 v2 pad3 h)) vals
  | 2,[T2],vals,h=>(tA fun s1=>tA fun v2=>tS fun pad3=>tI .i64 fun v21=>tN (Tx.sha_State_Sum_B2 ρ (fun s1 v2 pad3 v21 hh=>T2 [(.pointer (some s1)),(.pointer (some v2)),(.slice pad3.a pad3.len pad3.cap),(.int .i64 v21)] hh) (fun r0 h=>K (.agg (lumpV .u8 32 r0).toArray) h) s1 v2 pad3 v21 h)) vals
  | 3,[T3],vals,h=>(tA fun v2=>tA fun last5=>tA fun d6=>tI .i64 fun v39=>tN (Tx.sha_State_Sum_B3 ρ (fun v2 last5 d6 v39 hh=>T3 [(.pointer (some v2)),(.pointer (some last5)),(.pointer (some d6)),(.int .i64 v39)] hh) (fun r0 h=>K (.agg (lumpV .u8 32 r0).toArray) h) v2 last5 d6 v39 h)) vals
  | _,_,_,_=>False
theorem ok85:SpecOk Try.prog 85 (Tx.sha_State_Sum_S ρ):=by
  refine spec_ok (c:=c85) agree (specsOk_cons ok84 specsOk_nil) specsOk_nil mixed Try.func85 (by kernel_rfl) (by kernel_rfl) A85 (by kernel_rfl) (src85) ?_ ?_
  · intro args h K H
    unfold Tx.sha_State_Sum_S at H
    obtain ⟨cc0,rr0,rfl,H1⟩:=tG_elim H
    obtain ⟨s0_0,qq,rfl,H2⟩:=tL_elim H1
    obtain ⟨s0_1,qq,rfl,H3⟩:=tS_elim H2
    obtain ⟨s0_2,qq,rfl,H4⟩:=tI_elim H3
    obtain ⟨rfl,H5⟩:=tN_elim H4
    obtain ⟨rfl,H6⟩:=tN_elim H5
    exact fin_and (by kernel_rfl) (by kernel_rfl) H6
  · intro K k inner vals h hk hin H
    rw [show pts A85=[1,2,3] from by kernel_rfl] at hk
    simp only [List.mem_cons,List.not_mem_nil,or_false] at hk
    rcases hk with rfl | rfl | rfl
    · rw [show depth 1 A85 = 1 from by kernel_rfl] at hin
      obtain ⟨T1,rfl⟩:=len1 hin
      have H:src85 K 1 [T1] vals h:=H
      simp only [src85] at H
      obtain ⟨s1,rr,rfl,H1⟩:=tA_elim H
      obtain ⟨v2,rr,rfl,H2⟩:=tA_elim H1
      obtain ⟨pad3,rr,rfl,H3⟩:=tS_elim H2
      obtain ⟨rfl,H4⟩:=tN_elim H3
      exact cast (by kernel_rfl) H4
    · rw [show depth 2 A85 = 1 from by kernel_rfl] at hin
      obtain ⟨T2,rfl⟩:=len1 hin
      have H:src85 K 2 [T2] vals h:=H
      simp only [src85] at H
      obtain ⟨s1,rr,rfl,H1⟩:=tA_elim H
      obtain ⟨v2,rr,rfl,H2⟩:=tA_elim H1
      obtain ⟨pad3,rr,rfl,H3⟩:=tS_elim H2
      obtain ⟨v21,rr,rfl,H4⟩:=tI_elim H3
      obtain ⟨rfl,H5⟩:=tN_elim H4
      exact cast (by kernel_rfl) H5
    · rw [show depth 3 A85 = 1 from by kernel_rfl] at hin
      obtain ⟨T3,rfl⟩:=len1 hin
      have H:src85 K 3 [T3] vals h:=H
      simp only [src85] at H
      obtain ⟨v2,rr,rfl,H1⟩:=tA_elim H
      obtain ⟨last5,rr,rfl,H2⟩:=tA_elim H1
      obtain ⟨d6,rr,rfl,H3⟩:=tA_elim H2
      obtain ⟨v39,rr,rfl,H4⟩:=tI_elim H3
      obtain ⟨rfl,H5⟩:=tN_elim H4
      exact cast (by kernel_rfl) H5
noncomputable def c74:Code:=Try.f74.body.getD .skip
def A74:Ann:=(.seq .leaf (.seq .leaf (.seq (.seq .leaf (.block (.loop 1 [2,3,7,8,9] (.seq .leaf (.seq (.cond .leaf .leaf) (.seq (.block (.seq .leaf .leaf)) .leaf)))))) (.seq .leaf .leaf))))
def src74 (K:Value→Hp→Prop):Src
  | 1,[T1],vals,h=>(tA fun v2=>tA fun s3=>tS fun v7=>tI .i64 fun v8=>tI .i64 fun v9=>tN (Tx.sha_Sum_B1 ρ (fun v2 s3 v7 v8 v9 hh=>T1 [(.pointer (some v2)),(.pointer (some s3)),(.slice v7.a v7.len v7.cap),(.int .i64 v8),(.int .i64 v9)] hh) (fun r0 h=>K (.agg (lumpV .u8 32 r0).toArray) h) v2 s3 v7 v8 v9 h)) vals
  | _,_,_,_=>False
theorem ok74:SpecOk Try.prog 74 (Tx.sha_Sum_S ρ):=by
  refine spec_ok (c:=c74) agree (specsOk_cons ok85 (specsOk_cons ok84 (specsOk_cons ok83 specsOk_nil))) specsOk_nil mixed Try.func74 (by kernel_rfl) (by kernel_rfl) A74 (by kernel_rfl) (src74) ?_ ?_
  · intro args h K H
    unfold Tx.sha_Sum_S at H
    obtain ⟨parts0,rr,rfl,H1⟩:=tS_elim H
    obtain ⟨rfl,H2⟩:=tN_elim H1
    exact fin_and (by kernel_rfl) (by kernel_rfl) H2
  · intro K k inner vals h hk hin H
    rw [show pts A74=[1] from by kernel_rfl] at hk
    simp only [List.mem_cons,List.not_mem_nil,or_false] at hk
    rcases hk with rfl
    · rw [show depth 1 A74 = 1 from by kernel_rfl] at hin
      obtain ⟨T1,rfl⟩:=len1 hin
      have H:src74 K 1 [T1] vals h:=H
      simp only [src74] at H
      obtain ⟨v2,rr,rfl,H1⟩:=tA_elim H
      obtain ⟨s3,rr,rfl,H2⟩:=tA_elim H1
      obtain ⟨v7,rr,rfl,H3⟩:=tS_elim H2
      obtain ⟨v8,rr,rfl,H4⟩:=tI_elim H3
      obtain ⟨v9,rr,rfl,H5⟩:=tI_elim H4
      obtain ⟨rfl,H6⟩:=tN_elim H5
      exact cast (by kernel_rfl) H6
noncomputable def c58:Code:=Try.f58.body.getD .skip
def A58:Ann:=(.seq .leaf (.join 2 [1,4] (.join 1 [0,1,4,14] .leaf (.cond (.plan (.take 0 [11] (.take 1 [8,11] (.take 2 [8,11] (.take 3 [8,11] (.take 4 [8,11] (.take 5 [6,7,8,11] (.all (.alt 6 (.all (.alt 7 (.all (.alt 8 (.take 9 [11] (.take 10 [11] (.all (.alt 11 .done .nil)))) .nil)) .nil)) .nil))))))))) .leaf)) (.seq .leaf .leaf)))
def src58 (K:Value→Hp→Prop):Src
  | 1,[],vals,h=>(tP fun b0=>tS fun text1=>tA fun v4=>tB fun v14=>tN (Tx.seal_Book_Digest_K1 ρ (fun r0 h=>K (.agg (lumpV .u8 32 r0).toArray) h) b0 text1 v4 v14 h)) vals
  | 2,[],vals,h=>(tS fun text1=>tA fun v4=>tN (Tx.seal_Book_Digest_K2 ρ (fun r0 h=>K (.agg (lumpV .u8 32 r0).toArray) h) text1 v4 h)) vals
  | _,_,_,_=>False
theorem ok58:SpecOk Try.prog 58 (Tx.seal_Book_Digest_S ρ):=by
  refine spec_ok (c:=c58) agree (specsOk_cons ok74 (specsOk_cons ok60 specsOk_nil)) specsOk_nil mixed Try.func58 (by kernel_rfl) (by kernel_rfl) A58 (by kernel_rfl) (src58) ?_ ?_
  · intro args h K H
    unfold Tx.seal_Book_Digest_S at H
    obtain ⟨b0,rr,rfl,H1⟩:=tP_elim H
    obtain ⟨text1,rr,rfl,H2⟩:=tS_elim H1
    obtain ⟨rfl,H3⟩:=tN_elim H2
    exact fin_and (by kernel_rfl) (by kernel_rfl) H3
  · intro K k inner vals h hk hin H
    rw [show pts A58=[2,1] from by kernel_rfl] at hk
    simp only [List.mem_cons,List.not_mem_nil,or_false] at hk
    rcases hk with rfl | rfl
    · rw [show depth 2 A58 = 0 from by kernel_rfl] at hin
      obtain rfl:=len0 hin
      have H:src58 K 2 [] vals h:=H
      simp only [src58] at H
      obtain ⟨text1,rr,rfl,H1⟩:=tS_elim H
      obtain ⟨v4,rr,rfl,H2⟩:=tA_elim H1
      obtain ⟨rfl,H3⟩:=tN_elim H2
      exact cast (by kernel_rfl) H3
    · rw [show depth 1 A58 = 0 from by kernel_rfl] at hin
      obtain rfl:=len0 hin
      have H:src58 K 1 [] vals h:=H
      simp only [src58] at H
      obtain ⟨b0,rr,rfl,H1⟩:=tP_elim H
      obtain ⟨text1,rr,rfl,H2⟩:=tS_elim H1
      obtain ⟨v4,rr,rfl,H3⟩:=tA_elim H2
      obtain ⟨v14,rr,rfl,H4⟩:=tB_elim H3
      obtain ⟨rfl,H5⟩:=tN_elim H4
      exact cast (by kernel_rfl) H5
noncomputable def c48:Code:=Try.f48.body.getD .skip
def A48:Ann:=(.seq .leaf (.seq .leaf (.seq (.join 1 [0,2,3,13,15,31] .leaf (.cond (.seq .leaf .leaf) .leaf)) (.seq .leaf .leaf))))
def src48 (K:Value→Hp→Prop):Src
  | 1,[],vals,h=>(tP fun b0=>tI .u32 fun epoch2=>tI .i64 fun place3=>tA fun v13=>tS fun x15=>tB fun v31=>tN (Tx.seal_Hide_K1 ρ (fun r0 r1 r2 r3 r4 h=>K (.tuple [(.slice r0.a r0.len r0.cap),(.agg (([(.int .i64 r1),(.int .u32 r2)]:List Value)++lumpV .u8 32 r3).toArray),(.int .i64 r4)].toArray) h) b0 epoch2 place3 v13 x15 v31 h)) vals
  | _,_,_,_=>False
theorem ok48:SpecOk Try.prog 48 (Tx.seal_Hide_S ρ):=by
  refine spec_ok (c:=c48) agree (specsOk_cons ok58 (specsOk_cons ok57 (specsOk_cons ok56 specsOk_nil))) specsOk_nil mixed Try.func48 (by kernel_rfl) (by kernel_rfl) A48 (by kernel_rfl) (src48) ?_ ?_
  · intro args h K H
    unfold Tx.seal_Hide_S at H
    obtain ⟨b0,rr,rfl,H1⟩:=tP_elim H
    obtain ⟨cc1,rr1,rfl,H2⟩:=tG_elim H1
    obtain ⟨key1_0,qq,rfl,H3⟩:=tL_elim H2
    obtain ⟨rfl,H4⟩:=tN_elim H3
    obtain ⟨epoch2,rr,rfl,H5⟩:=tI_elim H4
    obtain ⟨place3,rr,rfl,H6⟩:=tI_elim H5
    obtain ⟨block4,rr,rfl,H7⟩:=tI_elim H6
    obtain ⟨page5,rr,rfl,H8⟩:=tS_elim H7
    obtain ⟨rfl,H9⟩:=tN_elim H8
    exact fin_and (by kernel_rfl) (by kernel_rfl) H9
  · intro K k inner vals h hk hin H
    rw [show pts A48=[1] from by kernel_rfl] at hk
    simp only [List.mem_cons,List.not_mem_nil,or_false] at hk
    rcases hk with rfl
    · rw [show depth 1 A48 = 0 from by kernel_rfl] at hin
      obtain rfl:=len0 hin
      have H:src48 K 1 [] vals h:=H
      simp only [src48] at H
      obtain ⟨b0,rr,rfl,H1⟩:=tP_elim H
      obtain ⟨epoch2,rr,rfl,H2⟩:=tI_elim H1
      obtain ⟨place3,rr,rfl,H3⟩:=tI_elim H2
      obtain ⟨v13,rr,rfl,H4⟩:=tA_elim H3
      obtain ⟨x15,rr,rfl,H5⟩:=tS_elim H4
      obtain ⟨v31,rr,rfl,H6⟩:=tB_elim H5
      obtain ⟨rfl,H7⟩:=tN_elim H6
      exact cast (by kernel_rfl) H7
noncomputable def c37:Code:=Try.f37.body.getD .skip
def A37:Ann:=(.seq .leaf (.join 2 [0,1,2,6] (.seq .leaf (.seq .leaf (.cond .leaf .leaf))) (.seq (.plan (.take 0 [10] (.take 1 [10] (.take 2 [10] (.take 3 [10] (.take 4 [10] (.take 5 [10] (.take 6 [10] (.take 7 [10] (.take 8 [10] (.take 9 [10] (.all (.alt 10 (.take 11 [] .done) .nil))))))))))))) (.join 1 [0,6,10,11,12] (.plan (.take 0 [19,26] (.take 1 [19,26] (.take 2 [19,26] (.take 3 [19,26] (.take 4 [19,26] (.take 5 [19,26] (.take 6 [19,26] (.take 7 [19,26] (.take 8 [19,26] (.take 9 [19,26] (.take 10 [19,26] (.take 11 [19,26] (.take 12 [19,26] (.take 13 [19,26] (.take 14 [19,26] (.take 15 [19,26] (.take 16 [19,26] (.take 17 [19,26] (.take 18 [19,26] (.all (.alt 19 (.take 20 [26] (.take 21 [26] (.take 22 [26] (.take 23 [] (.all (.alt 24 (.take 25 [26] (.all (.alt 26 (.take 27 [] .done) .nil))) .nil)))))) (.alt 24 (.all (.alt 19 (.take 20 [26] (.take 21 [26] (.take 22 [26] (.take 23 [] (.take 25 [26] (.all (.alt 26 (.take 27 [] .done) .nil))))))) .nil)) .nil))))))))))))))))))))))) (.seq .leaf .leaf)))))
def src37 (K:Value→Hp→Prop):Src
  | 1,[],vals,h=>(tP fun p0=>tA fun was6=>tI .i64 fun n10=>tS fun x11=>tA fun r12=>tN (Tx.commit_planner_hide_K1 ρ (fun h=>K (.tuple [].toArray) h) p0 was6 n10 x11 r12 h)) vals
  | 2,[],vals,h=>(tP fun p0=>tI .i64 fun item1=>tS fun page2=>tA fun was6=>tN (Tx.commit_planner_hide_K2 ρ (fun h=>K (.tuple [].toArray) h) p0 item1 page2 was6 h)) vals
  | _,_,_,_=>False
theorem ok37:SpecOk Try.prog 37 (Tx.commit_planner_hide_S ρ):=by
  refine spec_ok (c:=c37) agree (specsOk_cons ok48 (specsOk_cons ok47 (specsOk_cons ok40 specsOk_nil))) specsOk_nil mixed Try.func37 (by kernel_rfl) (by kernel_rfl) A37 (by kernel_rfl) (src37) ?_ ?_
  · intro args h K H
    unfold Tx.commit_planner_hide_S at H
    obtain ⟨p0,rr,rfl,H1⟩:=tP_elim H
    obtain ⟨item1,rr,rfl,H2⟩:=tI_elim H1
    obtain ⟨page2,rr,rfl,H3⟩:=tS_elim H2
    obtain ⟨rfl,H4⟩:=tN_elim H3
    exact fin_and (by kernel_rfl) (by kernel_rfl) H4
  · intro K k inner vals h hk hin H
    rw [show pts A37=[2,1] from by kernel_rfl] at hk
    simp only [List.mem_cons,List.not_mem_nil,or_false] at hk
    rcases hk with rfl | rfl
    · rw [show depth 2 A37 = 0 from by kernel_rfl] at hin
      obtain rfl:=len0 hin
      have H:src37 K 2 [] vals h:=H
      simp only [src37] at H
      obtain ⟨p0,rr,rfl,H1⟩:=tP_elim H
      obtain ⟨item1,rr,rfl,H2⟩:=tI_elim H1
      obtain ⟨page2,rr,rfl,H3⟩:=tS_elim H2
      obtain ⟨was6,rr,rfl,H4⟩:=tA_elim H3
      obtain ⟨rfl,H5⟩:=tN_elim H4
      exact cast (by kernel_rfl) H5
    · rw [show depth 1 A37 = 0 from by kernel_rfl] at hin
      obtain rfl:=len0 hin
      have H:src37 K 1 [] vals h:=H
      simp only [src37] at H
      obtain ⟨p0,rr,rfl,H1⟩:=tP_elim H
      obtain ⟨was6,rr,rfl,H2⟩:=tA_elim H1
      obtain ⟨n10,rr,rfl,H3⟩:=tI_elim H2
      obtain ⟨x11,rr,rfl,H4⟩:=tS_elim H3
      obtain ⟨r12,rr,rfl,H5⟩:=tA_elim H4
      obtain ⟨rfl,H6⟩:=tN_elim H5
      exact cast (by kernel_rfl) H6
noncomputable def c75:Code:=Try.f75.body.getD .skip
def A75:Ann:=(.seq .leaf (.seq .leaf .leaf))
def src75 (_:Value→Hp→Prop):Src:=fun _ _ _ _=>False
theorem ok75:SpecOk Try.prog 75 (Tx.pack_sized_S ρ):=by
  refine spec_ok (c:=c75) agree specsOk_nil specsOk_nil mixed Try.func75 (by kernel_rfl) (by kernel_rfl) A75 (by kernel_rfl) (src75) ?_ ?_
  · intro args h K H
    unfold Tx.pack_sized_S at H
    obtain ⟨size0,rr,rfl,H1⟩:=tI_elim H
    obtain ⟨rfl,H2⟩:=tN_elim H1
    exact fin_and (by kernel_rfl) (by kernel_rfl) H2
  · intro K k inner vals h hk hin H
    exact H.elim
noncomputable def c59:Code:=Try.f59.body.getD .skip
def A59:Ann:=(.seq .leaf (.seq .leaf (.seq (.seq .leaf (.block (.join 7 [1,7] (.block (.join 6 [1,7] (.block (.join 5 [1,7] (.block (.join 4 [1,7] (.block (.join 3 [1,7] (.block (.join 2 [1,7] (.block (.join 1 [1,7] (.block (.seq (.block (.seq (.seq (.seq .leaf (.cond .leaf .leaf)) (.seq (.seq .leaf (.cond .leaf .leaf)) (.seq (.seq .leaf (.cond .leaf .leaf)) (.seq (.seq .leaf (.cond .leaf .leaf)) (.seq (.seq .leaf (.cond .leaf .leaf)) (.seq (.seq .leaf (.cond .leaf .leaf)) (.seq .leaf (.cond .leaf .leaf)))))))) .leaf)) (.seq .leaf .leaf))) (.seq .leaf .leaf))) (.seq .leaf .leaf))) (.seq .leaf .leaf))) (.seq .leaf .leaf))) (.seq .leaf .leaf))) (.seq .leaf .leaf))) (.seq .leaf .leaf)))) (.seq .leaf .leaf))))
def src59 (K:Value→Hp→Prop):Src
  | 1,[],vals,h=>(tI .u64 fun n1=>tS fun out7=>tN (Tx.pack_Num_K1 ρ (fun r0 h=>K (.slice r0.a r0.len r0.cap) h) n1 out7 h)) vals
  | 2,[],vals,h=>(tI .u64 fun n1=>tS fun out7=>tN (Tx.pack_Num_K2 ρ (fun r0 h=>K (.slice r0.a r0.len r0.cap) h) n1 out7 h)) vals
  | 3,[],vals,h=>(tI .u64 fun n1=>tS fun out7=>tN (Tx.pack_Num_K3 ρ (fun r0 h=>K (.slice r0.a r0.len r0.cap) h) n1 out7 h)) vals
  | 4,[],vals,h=>(tI .u64 fun n1=>tS fun out7=>tN (Tx.pack_Num_K4 ρ (fun r0 h=>K (.slice r0.a r0.len r0.cap) h) n1 out7 h)) vals
  | 5,[],vals,h=>(tI .u64 fun n1=>tS fun out7=>tN (Tx.pack_Num_K5 ρ (fun r0 h=>K (.slice r0.a r0.len r0.cap) h) n1 out7 h)) vals
  | 6,[],vals,h=>(tI .u64 fun n1=>tS fun out7=>tN (Tx.pack_Num_K6 ρ (fun r0 h=>K (.slice r0.a r0.len r0.cap) h) n1 out7 h)) vals
  | 7,[],vals,h=>(tI .u64 fun n1=>tS fun out7=>tN (Tx.pack_Num_K7 ρ (fun r0 h=>K (.slice r0.a r0.len r0.cap) h) n1 out7 h)) vals
  | _,_,_,_=>False
theorem ok59:SpecOk Try.prog 59 (Tx.pack_Num_S ρ):=by
  refine spec_ok (c:=c59) agree (specsOk_cons ok75 (specsOk_cons ok60 specsOk_nil)) specsOk_nil mixed Try.func59 (by kernel_rfl) (by kernel_rfl) A59 (by kernel_rfl) (src59) ?_ ?_
  · intro args h K H
    unfold Tx.pack_Num_S at H
    obtain ⟨b0,rr,rfl,H1⟩:=tS_elim H
    obtain ⟨n1,rr,rfl,H2⟩:=tI_elim H1
    obtain ⟨size2,rr,rfl,H3⟩:=tI_elim H2
    obtain ⟨rfl,H4⟩:=tN_elim H3
    exact fin_and (by kernel_rfl) (by kernel_rfl) H4
  · intro K k inner vals h hk hin H
    rw [show pts A59=[7,6,5,4,3,2,1] from by kernel_rfl] at hk
    simp only [List.mem_cons,List.not_mem_nil,or_false] at hk
    rcases hk with rfl | rfl | rfl | rfl | rfl | rfl | rfl
    · rw [show depth 7 A59 = 0 from by kernel_rfl] at hin
      obtain rfl:=len0 hin
      have H:src59 K 7 [] vals h:=H
      simp only [src59] at H
      obtain ⟨n1,rr,rfl,H1⟩:=tI_elim H
      obtain ⟨out7,rr,rfl,H2⟩:=tS_elim H1
      obtain ⟨rfl,H3⟩:=tN_elim H2
      exact cast (by kernel_rfl) H3
    · rw [show depth 6 A59 = 0 from by kernel_rfl] at hin
      obtain rfl:=len0 hin
      have H:src59 K 6 [] vals h:=H
      simp only [src59] at H
      obtain ⟨n1,rr,rfl,H1⟩:=tI_elim H
      obtain ⟨out7,rr,rfl,H2⟩:=tS_elim H1
      obtain ⟨rfl,H3⟩:=tN_elim H2
      exact cast (by kernel_rfl) H3
    · rw [show depth 5 A59 = 0 from by kernel_rfl] at hin
      obtain rfl:=len0 hin
      have H:src59 K 5 [] vals h:=H
      simp only [src59] at H
      obtain ⟨n1,rr,rfl,H1⟩:=tI_elim H
      obtain ⟨out7,rr,rfl,H2⟩:=tS_elim H1
      obtain ⟨rfl,H3⟩:=tN_elim H2
      exact cast (by kernel_rfl) H3
    · rw [show depth 4 A59 = 0 from by kernel_rfl] at hin
      obtain rfl:=len0 hin
      have H:src59 K 4 [] vals h:=H
      simp only [src59] at H
      obtain ⟨n1,rr,rfl,H1⟩:=tI_elim H
      obtain ⟨out7,rr,rfl,H2⟩:=tS_elim H1
      obtain ⟨rfl,H3⟩:=tN_elim H2
      exact cast (by kernel_rfl) H3
    · rw [show depth 3 A59 = 0 from by kernel_rfl] at hin
      obtain rfl:=len0 hin
      have H:src59 K 3 [] vals h:=H
      simp only [src59] at H
      obtain ⟨n1,rr,rfl,H1⟩:=tI_elim H
      obtain ⟨out7,rr,rfl,H2⟩:=tS_elim H1
      obtain ⟨rfl,H3⟩:=tN_elim H2
      exact cast (by kernel_rfl) H3
    · rw [show depth 2 A59 = 0 from by kernel_rfl] at hin
      obtain rfl:=len0 hin
      have H:src59 K 2 [] vals h:=H
      simp only [src59] at H
      obtain ⟨n1,rr,rfl,H1⟩:=tI_elim H
      obtain ⟨out7,rr,rfl,H2⟩:=tS_elim H1
      obtain ⟨rfl,H3⟩:=tN_elim H2
      exact cast (by kernel_rfl) H3
    · rw [show depth 1 A59 = 0 from by kernel_rfl] at hin
      obtain rfl:=len0 hin
      have H:src59 K 1 [] vals h:=H
      simp only [src59] at H
      obtain ⟨n1,rr,rfl,H1⟩:=tI_elim H
      obtain ⟨out7,rr,rfl,H2⟩:=tS_elim H1
      obtain ⟨rfl,H3⟩:=tN_elim H2
      exact cast (by kernel_rfl) H3
noncomputable def c49:Code:=Try.f49.body.getD .skip
def A49:Ann:=(.seq .leaf (.seq (.plan (.take 0 [3,7,10] (.take 1 [3,7,10] (.take 2 [3,7,10] (.take 4 [7,10] (.take 5 [7,10] (.take 6 [7,10] (.take 8 [10] (.take 9 [10] (.all (.alt 3 (.all (.alt 7 (.all (.alt 10 (.take 11 [] .done) .nil)) .nil)) .nil))))))))))) .leaf))
def src49 (_:Value→Hp→Prop):Src:=fun _ _ _ _=>False
theorem ok49:SpecOk Try.prog 49 (Tx.seal_Lay_S ρ):=by
  refine spec_ok (c:=c49) agree (specsOk_cons ok59 specsOk_nil) specsOk_nil mixed Try.func49 (by kernel_rfl) (by kernel_rfl) A49 (by kernel_rfl) (src49) ?_ ?_
  · intro args h K H
    unfold Tx.seal_Lay_S at H
    obtain ⟨cc0,rr0,rfl,H1⟩:=tG_elim H
    obtain ⟨r0_0,qq,rfl,H2⟩:=tI_elim H1
    obtain ⟨r0_1,qq,rfl,H3⟩:=tI_elim H2
    obtain ⟨r0_2,qq,rfl,H4⟩:=tL_elim H3
    obtain ⟨rfl,H5⟩:=tN_elim H4
    obtain ⟨rfl,H6⟩:=tN_elim H5
    exact fin_and (by kernel_rfl) (by kernel_rfl) H6
  · intro K k inner vals h hk hin H
    exact H.elim
noncomputable def c50:Code:=Try.f50.body.getD .skip
def A50:Ann:=(.seq .leaf (.seq (.seq .leaf (.cond (.seq .leaf .leaf) .leaf)) (.seq .leaf .leaf)))
def src50 (_:Value→Hp→Prop):Src:=fun _ _ _ _=>False
theorem ok50:SpecOk Try.prog 50 (Tx.pack_Fill_S ρ):=by
  refine spec_ok (c:=c50) agree (specsOk_cons ok60 specsOk_nil) specsOk_nil mixed Try.func50 (by kernel_rfl) (by kernel_rfl) A50 (by kernel_rfl) (src50) ?_ ?_
  · intro args h K H
    unfold Tx.pack_Fill_S at H
    obtain ⟨b0,rr,rfl,H1⟩:=tS_elim H
    obtain ⟨size1,rr,rfl,H2⟩:=tI_elim H1
    obtain ⟨rfl,H3⟩:=tN_elim H2
    exact fin_and (by kernel_rfl) (by kernel_rfl) H3
  · intro K k inner vals h hk hin H
    exact H.elim
noncomputable def c38:Code:=Try.f38.body.getD .skip
def A38:Ann:=(.seq .leaf (.seq (.join 1 [0,14] .leaf (.cond (.seq .leaf .leaf) .leaf)) (.seq .leaf (.seq (.seq .leaf (.block (.loop 2 [4,19,20,21] (.seq .leaf (.seq (.cond .leaf .leaf) (.seq (.block (.seq .leaf (.seq (.join 3 [4,6,19,20,21,32] .leaf (.cond (.seq .leaf .leaf) .leaf)) .leaf))) .leaf)))))) (.seq .leaf .leaf)))))
def src38 (K:Value→Hp→Prop):Src
  | 1,[],vals,h=>(tS fun refs0=>tB fun v14=>tN (Tx.node_Lay_K1 ρ (fun r0 r1 h=>K (.tuple [(.slice r0.a r0.len r0.cap),(.int .i64 r1)].toArray) h) refs0 v14 h)) vals
  | 2,[T2],vals,h=>(tS fun b4=>tS fun v19=>tI .i64 fun v20=>tI .i64 fun v21=>tN (Tx.node_Lay_B2 ρ (fun b4 v19 v20 v21 hh=>T2 [(.slice b4.a b4.len b4.cap),(.slice v19.a v19.len v19.cap),(.int .i64 v20),(.int .i64 v21)] hh) (fun r0 r1 h=>K (.tuple [(.slice r0.a r0.len r0.cap),(.int .i64 r1)].toArray) h) b4 v19 v20 v21 h)) vals
  | 3,[T2],vals,h=>(tS fun b4=>tA fun r6=>tS fun v19=>tI .i64 fun v20=>tI .i64 fun v21=>tB fun v32=>tN (Tx.node_Lay_K3 ρ (fun b4 v19 v20 v21 hh=>T2 [(.slice b4.a b4.len b4.cap),(.slice v19.a v19.len v19.cap),(.int .i64 v20),(.int .i64 v21)] hh) (fun r0 r1 h=>K (.tuple [(.slice r0.a r0.len r0.cap),(.int .i64 r1)].toArray) h) b4 r6 v19 v20 v21 v32 h)) vals
  | _,_,_,_=>False
theorem ok38:SpecOk Try.prog 38 (Tx.node_Lay_S ρ):=by
  refine spec_ok (c:=c38) agree (specsOk_cons ok50 (specsOk_cons ok49 specsOk_nil)) specsOk_nil mixed Try.func38 (by kernel_rfl) (by kernel_rfl) A38 (by kernel_rfl) (src38) ?_ ?_
  · intro args h K H
    unfold Tx.node_Lay_S at H
    obtain ⟨refs0,rr,rfl,H1⟩:=tS_elim H
    obtain ⟨rfl,H2⟩:=tN_elim H1
    exact fin_and (by kernel_rfl) (by kernel_rfl) H2
  · intro K k inner vals h hk hin H
    rw [show pts A38=[1,2,3] from by kernel_rfl] at hk
    simp only [List.mem_cons,List.not_mem_nil,or_false] at hk
    rcases hk with rfl | rfl | rfl
    · rw [show depth 1 A38 = 0 from by kernel_rfl] at hin
      obtain rfl:=len0 hin
      have H:src38 K 1 [] vals h:=H
      simp only [src38] at H
      obtain ⟨refs0,rr,rfl,H1⟩:=tS_elim H
      obtain ⟨v14,rr,rfl,H2⟩:=tB_elim H1
      obtain ⟨rfl,H3⟩:=tN_elim H2
      exact cast (by kernel_rfl) H3
    · rw [show depth 2 A38 = 1 from by kernel_rfl] at hin
      obtain ⟨T2,rfl⟩:=len1 hin
      have H:src38 K 2 [T2] vals h:=H
      simp only [src38] at H
      obtain ⟨b4,rr,rfl,H1⟩:=tS_elim H
      obtain ⟨v19,rr,rfl,H2⟩:=tS_elim H1
      obtain ⟨v20,rr,rfl,H3⟩:=tI_elim H2
      obtain ⟨v21,rr,rfl,H4⟩:=tI_elim H3
      obtain ⟨rfl,H5⟩:=tN_elim H4
      exact cast (by kernel_rfl) H5
    · rw [show depth 3 A38 = 1 from by kernel_rfl] at hin
      obtain ⟨T2,rfl⟩:=len1 hin
      have H:src38 K 3 [T2] vals h:=H
      simp only [src38] at H
      obtain ⟨b4,rr,rfl,H1⟩:=tS_elim H
      obtain ⟨r6,rr,rfl,H2⟩:=tA_elim H1
      obtain ⟨v19,rr,rfl,H3⟩:=tS_elim H2
      obtain ⟨v20,rr,rfl,H4⟩:=tI_elim H3
      obtain ⟨v21,rr,rfl,H5⟩:=tI_elim H4
      obtain ⟨v32,rr,rfl,H6⟩:=tB_elim H5
      obtain ⟨rfl,H7⟩:=tN_elim H6
      exact cast (by kernel_rfl) H7
noncomputable def c19:Code:=Try.f19.body.getD .skip
def A19:Ann:=(.seq .leaf (.seq (.join 1 [0,2,5,6,8,10,11,16,38] .leaf (.cond (.seq .leaf .leaf) .leaf)) (.seq .leaf (.seq (.plan (.take 0 [3] (.take 1 [2,3] (.all (.alt 2 (.all (.alt 3 (.take 4 [] .done) .nil)) .nil))))) (.seq (.seq .leaf (.block (.loop 2 [5,6,16,18,19,52,53,54] (.seq .leaf (.seq (.cond .leaf .leaf) (.seq (.block (.seq .leaf (.plan (.take 0 [11] (.take 1 [11] (.take 2 [11] (.take 3 [11] (.take 4 [11] (.take 5 [7,11] (.take 6 [7,11] (.all (.alt 7 (.take 8 [11] (.take 9 [11] (.take 10 [] (.all (.alt 11 .done .nil))))) .nil)))))))))))) .leaf)))))) (.seq (.seq .leaf (.block (.loop 3 [16,18,19,70,71,72] (.seq .leaf (.seq (.cond .leaf .leaf) (.seq (.block (.seq .leaf .leaf)) .leaf)))))) (.seq .leaf (.seq (.seq .leaf (.block (.loop 4 [16,18,24,83,84,85] (.seq .leaf (.seq (.cond .leaf .leaf) (.seq (.block (.seq .leaf (.seq .leaf (.seq .leaf .leaf)))) .leaf)))))) (.seq (.plan (.take 0 [11] (.take 1 [11] (.take 2 [11] (.take 3 [11] (.take 4 [11] (.take 5 [11] (.take 6 [11] (.take 7 [11] (.take 8 [11] (.take 9 [11] (.take 10 [11] (.all (.alt 11 (.take 12 [] .done) .nil)))))))))))))) .leaf)))))))))
def src19 (K:Value→Hp→Prop):Src
  | 1,[],vals,h=>(tP fun b0=>tI .u32 fun epoch2=>tS fun nodes5=>tS fun changes6=>tA fun key8=>tA fun s10=>tA fun root11=>tA fun v16=>tB fun v38=>tN (Tx.commit_Plan_K1 ρ (fun r0 r1 r2 r3 r4 r5 h=>K (.tuple [(.slice r0.a r0.len r0.cap),(.slice r1.a r1.len r1.cap),(.agg (([(.int .i64 r2),(.int .u32 r3)]:List Value)++lumpV .u8 32 r4).toArray),(.int .i64 r5)].toArray) h) b0 epoch2 nodes5 changes6 key8 s10 root11 v16 v38 h)) vals
  | 2,[T2],vals,h=>(tS fun nodes5=>tS fun changes6=>tA fun v16=>tA fun p18=>tS fun need19=>tS fun v52=>tI .i64 fun v53=>tI .i64 fun v54=>tN (Tx.commit_Plan_B2 ρ (fun nodes5 changes6 v16 p18 need19 v52 v53 v54 hh=>T2 [(.slice nodes5.a nodes5.len nodes5.cap),(.slice changes6.a changes6.len changes6.cap),(.pointer (some v16)),(.pointer (some p18)),(.slice need19.a need19.len need19.cap),(.slice v52.a v52.len v52.cap),(.int .i64 v53),(.int .i64 v54)] hh) (fun r0 r1 r2 r3 r4 r5 h=>K (.tuple [(.slice r0.a r0.len r0.cap),(.slice r1.a r1.len r1.cap),(.agg (([(.int .i64 r2),(.int .u32 r3)]:List Value)++lumpV .u8 32 r4).toArray),(.int .i64 r5)].toArray) h) nodes5 changes6 v16 p18 need19 v52 v53 v54 h)) vals
  | 3,[T3],vals,h=>(tA fun v16=>tA fun p18=>tS fun need19=>tS fun v70=>tI .i64 fun v71=>tI .i64 fun v72=>tN (Tx.commit_Plan_B3 ρ (fun v16 p18 need19 v70 v71 v72 hh=>T3 [(.pointer (some v16)),(.pointer (some p18)),(.slice need19.a need19.len need19.cap),(.slice v70.a v70.len v70.cap),(.int .i64 v71),(.int .i64 v72)] hh) (fun r0 r1 r2 r3 r4 r5 h=>K (.tuple [(.slice r0.a r0.len r0.cap),(.slice r1.a r1.len r1.cap),(.agg (([(.int .i64 r2),(.int .u32 r3)]:List Value)++lumpV .u8 32 r4).toArray),(.int .i64 r5)].toArray) h) v16 p18 need19 v70 v71 v72 h)) vals
  | 4,[T4],vals,h=>(tA fun v16=>tA fun p18=>tS fun fresh24=>tS fun v83=>tI .i64 fun v84=>tI .i64 fun v85=>tN (Tx.commit_Plan_B4 ρ (fun v16 p18 fresh24 v83 v84 v85 hh=>T4 [(.pointer (some v16)),(.pointer (some p18)),(.slice fresh24.a fresh24.len fresh24.cap),(.slice v83.a v83.len v83.cap),(.int .i64 v84),(.int .i64 v85)] hh) (fun r0 r1 r2 r3 r4 r5 h=>K (.tuple [(.slice r0.a r0.len r0.cap),(.slice r1.a r1.len r1.cap),(.agg (([(.int .i64 r2),(.int .u32 r3)]:List Value)++lumpV .u8 32 r4).toArray),(.int .i64 r5)].toArray) h) v16 p18 fresh24 v83 v84 v85 h)) vals
  | _,_,_,_=>False
theorem ok19:SpecOk Try.prog 19 (Tx.commit_Plan_S ρ):=by
  refine spec_ok (c:=c19) agree (specsOk_cons ok38 (specsOk_cons ok37 (specsOk_cons ok31 (specsOk_cons ok29 (specsOk_cons ok27 (specsOk_cons ok15 (specsOk_cons ok11 (specsOk_cons ok8 specsOk_nil)))))))) specsOk_nil mixed Try.func19 (by kernel_rfl) (by kernel_rfl) A19 (by kernel_rfl) (src19) ?_ ?_
  · intro args h K H
    unfold Tx.commit_Plan_S at H
    obtain ⟨b0,rr,rfl,H1⟩:=tP_elim H
    obtain ⟨cc1,rr1,rfl,H2⟩:=tG_elim H1
    obtain ⟨key1_0,qq,rfl,H3⟩:=tL_elim H2
    obtain ⟨rfl,H4⟩:=tN_elim H3
    obtain ⟨epoch2,rr,rfl,H5⟩:=tI_elim H4
    obtain ⟨cc3,rr3,rfl,H6⟩:=tG_elim H5
    obtain ⟨s3_0,qq,rfl,H7⟩:=tS_elim H6
    obtain ⟨rfl,H8⟩:=tN_elim H7
    obtain ⟨cc4,rr4,rfl,H9⟩:=tG_elim H8
    obtain ⟨root4_0,qq,rfl,H10⟩:=tI_elim H9
    obtain ⟨root4_1,qq,rfl,H11⟩:=tI_elim H10
    obtain ⟨root4_2,qq,rfl,H12⟩:=tL_elim H11
    obtain ⟨rfl,H13⟩:=tN_elim H12
    obtain ⟨nodes5,rr,rfl,H14⟩:=tS_elim H13
    obtain ⟨changes6,rr,rfl,H15⟩:=tS_elim H14
    obtain ⟨rfl,H16⟩:=tN_elim H15
    exact fin_and (by kernel_rfl) (by kernel_rfl) H16
  · intro K k inner vals h hk hin H
    rw [show pts A19=[1,2,3,4] from by kernel_rfl] at hk
    simp only [List.mem_cons,List.not_mem_nil,or_false] at hk
    rcases hk with rfl | rfl | rfl | rfl
    · rw [show depth 1 A19 = 0 from by kernel_rfl] at hin
      obtain rfl:=len0 hin
      have H:src19 K 1 [] vals h:=H
      simp only [src19] at H
      obtain ⟨b0,rr,rfl,H1⟩:=tP_elim H
      obtain ⟨epoch2,rr,rfl,H2⟩:=tI_elim H1
      obtain ⟨nodes5,rr,rfl,H3⟩:=tS_elim H2
      obtain ⟨changes6,rr,rfl,H4⟩:=tS_elim H3
      obtain ⟨key8,rr,rfl,H5⟩:=tA_elim H4
      obtain ⟨s10,rr,rfl,H6⟩:=tA_elim H5
      obtain ⟨root11,rr,rfl,H7⟩:=tA_elim H6
      obtain ⟨v16,rr,rfl,H8⟩:=tA_elim H7
      obtain ⟨v38,rr,rfl,H9⟩:=tB_elim H8
      obtain ⟨rfl,H10⟩:=tN_elim H9
      exact cast (by kernel_rfl) H10
    · rw [show depth 2 A19 = 1 from by kernel_rfl] at hin
      obtain ⟨T2,rfl⟩:=len1 hin
      have H:src19 K 2 [T2] vals h:=H
      simp only [src19] at H
      obtain ⟨nodes5,rr,rfl,H1⟩:=tS_elim H
      obtain ⟨changes6,rr,rfl,H2⟩:=tS_elim H1
      obtain ⟨v16,rr,rfl,H3⟩:=tA_elim H2
      obtain ⟨p18,rr,rfl,H4⟩:=tA_elim H3
      obtain ⟨need19,rr,rfl,H5⟩:=tS_elim H4
      obtain ⟨v52,rr,rfl,H6⟩:=tS_elim H5
      obtain ⟨v53,rr,rfl,H7⟩:=tI_elim H6
      obtain ⟨v54,rr,rfl,H8⟩:=tI_elim H7
      obtain ⟨rfl,H9⟩:=tN_elim H8
      exact cast (by kernel_rfl) H9
    · rw [show depth 3 A19 = 1 from by kernel_rfl] at hin
      obtain ⟨T3,rfl⟩:=len1 hin
      have H:src19 K 3 [T3] vals h:=H
      simp only [src19] at H
      obtain ⟨v16,rr,rfl,H1⟩:=tA_elim H
      obtain ⟨p18,rr,rfl,H2⟩:=tA_elim H1
      obtain ⟨need19,rr,rfl,H3⟩:=tS_elim H2
      obtain ⟨v70,rr,rfl,H4⟩:=tS_elim H3
      obtain ⟨v71,rr,rfl,H5⟩:=tI_elim H4
      obtain ⟨v72,rr,rfl,H6⟩:=tI_elim H5
      obtain ⟨rfl,H7⟩:=tN_elim H6
      exact cast (by kernel_rfl) H7
    · rw [show depth 4 A19 = 1 from by kernel_rfl] at hin
      obtain ⟨T4,rfl⟩:=len1 hin
      have H:src19 K 4 [T4] vals h:=H
      simp only [src19] at H
      obtain ⟨v16,rr,rfl,H1⟩:=tA_elim H
      obtain ⟨p18,rr,rfl,H2⟩:=tA_elim H1
      obtain ⟨fresh24,rr,rfl,H3⟩:=tS_elim H2
      obtain ⟨v83,rr,rfl,H4⟩:=tS_elim H3
      obtain ⟨v84,rr,rfl,H5⟩:=tI_elim H4
      obtain ⟨v85,rr,rfl,H6⟩:=tI_elim H5
      obtain ⟨rfl,H7⟩:=tN_elim H6
      exact cast (by kernel_rfl) H7
noncomputable def c7:Code:=Try.f7.body.getD .skip
def A7:Ann:=(.seq .leaf (.seq .leaf (.join 1 [1,3,4,5,6] (.plan (.take 0 [10,19] (.take 1 [10,19] (.take 2 [10,19] (.take 3 [4,6,10,19] (.all (.alt 4 (.take 5 [6,10,19] (.all (.alt 6 (.all (.alt 7 (.take 8 [9,10,19] (.all (.alt 9 (.all (.alt 10 (.take 11 [19] (.take 12 [19] (.take 13 [19] (.take 14 [19] (.take 15 [] (.all (.alt 16 (.take 17 [19] (.take 18 [19] (.all (.alt 19 (.take 20 [] .done) .nil)))) .nil))))))) (.alt 16 (.all (.alt 10 (.take 11 [19] (.take 12 [19] (.take 13 [19] (.take 14 [19] (.take 15 [] (.take 17 [19] (.take 18 [19] (.all (.alt 19 (.take 20 [] .done) .nil))))))))) .nil)) .nil))) (.alt 16 (.all (.alt 9 (.all (.alt 10 (.take 11 [19] (.take 12 [19] (.take 13 [19] (.take 14 [19] (.take 15 [] (.take 17 [19] (.take 18 [19] (.all (.alt 19 (.take 20 [] .done) .nil))))))))) .nil)) .nil)) .nil)))) (.alt 16 (.all (.alt 7 (.take 8 [9,10,19] (.all (.alt 9 (.all (.alt 10 (.take 11 [19] (.take 12 [19] (.take 13 [19] (.take 14 [19] (.take 15 [] (.take 17 [19] (.take 18 [19] (.all (.alt 19 (.take 20 [] .done) .nil))))))))) .nil)) .nil))) .nil)) .nil))) (.alt 7 (.take 8 [9,10,19] (.all (.alt 6 (.all (.alt 9 (.all (.alt 10 (.take 11 [19] (.take 12 [19] (.take 13 [19] (.take 14 [19] (.take 15 [] (.all (.alt 16 (.take 17 [19] (.take 18 [19] (.all (.alt 19 (.take 20 [] .done) .nil)))) .nil))))))) (.alt 16 (.all (.alt 10 (.take 11 [19] (.take 12 [19] (.take 13 [19] (.take 14 [19] (.take 15 [] (.take 17 [19] (.take 18 [19] (.all (.alt 19 (.take 20 [] .done) .nil))))))))) .nil)) .nil))) (.alt 16 (.all (.alt 9 (.all (.alt 10 (.take 11 [19] (.take 12 [19] (.take 13 [19] (.take 14 [19] (.take 15 [] (.take 17 [19] (.take 18 [19] (.all (.alt 19 (.take 20 [] .done) .nil))))))))) .nil)) .nil)) .nil))) (.alt 9 (.all (.alt 6 (.all (.alt 10 (.take 11 [19] (.take 12 [19] (.take 13 [19] (.take 14 [19] (.take 15 [] (.all (.alt 16 (.take 17 [19] (.take 18 [19] (.all (.alt 19 (.take 20 [] .done) .nil)))) .nil))))))) (.alt 16 (.all (.alt 10 (.take 11 [19] (.take 12 [19] (.take 13 [19] (.take 14 [19] (.take 15 [] (.take 17 [19] (.take 18 [19] (.all (.alt 19 (.take 20 [] .done) .nil))))))))) .nil)) .nil))) (.alt 16 (.all (.alt 6 (.all (.alt 10 (.take 11 [19] (.take 12 [19] (.take 13 [19] (.take 14 [19] (.take 15 [] (.take 17 [19] (.take 18 [19] (.all (.alt 19 (.take 20 [] .done) .nil))))))))) .nil)) .nil)) .nil))) (.alt 16 (.all (.alt 6 (.all (.alt 9 (.all (.alt 10 (.take 11 [19] (.take 12 [19] (.take 13 [19] (.take 14 [19] (.take 15 [] (.take 17 [19] (.take 18 [19] (.all (.alt 19 (.take 20 [] .done) .nil))))))))) .nil)) .nil)) (.alt 9 (.all (.alt 6 (.all (.alt 10 (.take 11 [19] (.take 12 [19] (.take 13 [19] (.take 14 [19] (.take 15 [] (.take 17 [19] (.take 18 [19] (.all (.alt 19 (.take 20 [] .done) .nil))))))))) .nil)) .nil)) .nil))) .nil))))) (.alt 16 (.all (.alt 6 (.all (.alt 7 (.take 8 [9,10,19] (.all (.alt 9 (.all (.alt 10 (.take 11 [19] (.take 12 [19] (.take 13 [19] (.take 14 [19] (.take 15 [] (.take 17 [19] (.take 18 [19] (.all (.alt 19 (.take 20 [] .done) .nil))))))))) .nil)) .nil))) .nil)) (.alt 7 (.take 8 [9,10,19] (.all (.alt 6 (.all (.alt 9 (.all (.alt 10 (.take 11 [19] (.take 12 [19] (.take 13 [19] (.take 14 [19] (.take 15 [] (.take 17 [19] (.take 18 [19] (.all (.alt 19 (.take 20 [] .done) .nil))))))))) .nil)) .nil)) (.alt 9 (.all (.alt 6 (.all (.alt 10 (.take 11 [19] (.take 12 [19] (.take 13 [19] (.take 14 [19] (.take 15 [] (.take 17 [19] (.take 18 [19] (.all (.alt 19 (.take 20 [] .done) .nil))))))))) .nil)) .nil)) .nil)))) .nil))) .nil))))) (.alt 7 (.take 8 [9,10,19] (.all (.alt 4 (.take 5 [6,10,19] (.all (.alt 6 (.all (.alt 9 (.all (.alt 10 (.take 11 [19] (.take 12 [19] (.take 13 [19] (.take 14 [19] (.take 15 [] (.all (.alt 16 (.take 17 [19] (.take 18 [19] (.all (.alt 19 (.take 20 [] .done) .nil)))) .nil))))))) (.alt 16 (.all (.alt 10 (.take 11 [19] (.take 12 [19] (.take 13 [19] (.take 14 [19] (.take 15 [] (.take 17 [19] (.take 18 [19] (.all (.alt 19 (.take 20 [] .done) .nil))))))))) .nil)) .nil))) (.alt 16 (.all (.alt 9 (.all (.alt 10 (.take 11 [19] (.take 12 [19] (.take 13 [19] (.take 14 [19] (.take 15 [] (.take 17 [19] (.take 18 [19] (.all (.alt 19 (.take 20 [] .done) .nil))))))))) .nil)) .nil)) .nil))) (.alt 9 (.all (.alt 6 (.all (.alt 10 (.take 11 [19] (.take 12 [19] (.take 13 [19] (.take 14 [19] (.take 15 [] (.all (.alt 16 (.take 17 [19] (.take 18 [19] (.all (.alt 19 (.take 20 [] .done) .nil)))) .nil))))))) (.alt 16 (.all (.alt 10 (.take 11 [19] (.take 12 [19] (.take 13 [19] (.take 14 [19] (.take 15 [] (.take 17 [19] (.take 18 [19] (.all (.alt 19 (.take 20 [] .done) .nil))))))))) .nil)) .nil))) (.alt 16 (.all (.alt 6 (.all (.alt 10 (.take 11 [19] (.take 12 [19] (.take 13 [19] (.take 14 [19] (.take 15 [] (.take 17 [19] (.take 18 [19] (.all (.alt 19 (.take 20 [] .done) .nil))))))))) .nil)) .nil)) .nil))) (.alt 16 (.all (.alt 6 (.all (.alt 9 (.all (.alt 10 (.take 11 [19] (.take 12 [19] (.take 13 [19] (.take 14 [19] (.take 15 [] (.take 17 [19] (.take 18 [19] (.all (.alt 19 (.take 20 [] .done) .nil))))))))) .nil)) .nil)) (.alt 9 (.all (.alt 6 (.all (.alt 10 (.take 11 [19] (.take 12 [19] (.take 13 [19] (.take 14 [19] (.take 15 [] (.take 17 [19] (.take 18 [19] (.all (.alt 19 (.take 20 [] .done) .nil))))))))) .nil)) .nil)) .nil))) .nil))))) (.alt 9 (.all (.alt 4 (.take 5 [6,10,19] (.all (.alt 6 (.all (.alt 10 (.take 11 [19] (.take 12 [19] (.take 13 [19] (.take 14 [19] (.take 15 [] (.all (.alt 16 (.take 17 [19] (.take 18 [19] (.all (.alt 19 (.take 20 [] .done) .nil)))) .nil))))))) (.alt 16 (.all (.alt 10 (.take 11 [19] (.take 12 [19] (.take 13 [19] (.take 14 [19] (.take 15 [] (.take 17 [19] (.take 18 [19] (.all (.alt 19 (.take 20 [] .done) .nil))))))))) .nil)) .nil))) (.alt 16 (.all (.alt 6 (.all (.alt 10 (.take 11 [19] (.take 12 [19] (.take 13 [19] (.take 14 [19] (.take 15 [] (.take 17 [19] (.take 18 [19] (.all (.alt 19 (.take 20 [] .done) .nil))))))))) .nil)) .nil)) .nil)))) (.alt 16 (.all (.alt 4 (.take 5 [6,10,19] (.all (.alt 6 (.all (.alt 10 (.take 11 [19] (.take 12 [19] (.take 13 [19] (.take 14 [19] (.take 15 [] (.take 17 [19] (.take 18 [19] (.all (.alt 19 (.take 20 [] .done) .nil))))))))) .nil)) .nil))) .nil)) .nil))) (.alt 16 (.all (.alt 4 (.take 5 [6,10,19] (.all (.alt 6 (.all (.alt 9 (.all (.alt 10 (.take 11 [19] (.take 12 [19] (.take 13 [19] (.take 14 [19] (.take 15 [] (.take 17 [19] (.take 18 [19] (.all (.alt 19 (.take 20 [] .done) .nil))))))))) .nil)) .nil)) (.alt 9 (.all (.alt 6 (.all (.alt 10 (.take 11 [19] (.take 12 [19] (.take 13 [19] (.take 14 [19] (.take 15 [] (.take 17 [19] (.take 18 [19] (.all (.alt 19 (.take 20 [] .done) .nil))))))))) .nil)) .nil)) .nil)))) (.alt 9 (.all (.alt 4 (.take 5 [6,10,19] (.all (.alt 6 (.all (.alt 10 (.take 11 [19] (.take 12 [19] (.take 13 [19] (.take 14 [19] (.take 15 [] (.take 17 [19] (.take 18 [19] (.all (.alt 19 (.take 20 [] .done) .nil))))))))) .nil)) .nil))) .nil)) .nil))) .nil))))) (.alt 16 (.all (.alt 4 (.take 5 [6,10,19] (.all (.alt 6 (.all (.alt 7 (.take 8 [9,10,19] (.all (.alt 9 (.all (.alt 10 (.take 11 [19] (.take 12 [19] (.take 13 [19] (.take 14 [19] (.take 15 [] (.take 17 [19] (.take 18 [19] (.all (.alt 19 (.take 20 [] .done) .nil))))))))) .nil)) .nil))) .nil)) (.alt 7 (.take 8 [9,10,19] (.all (.alt 6 (.all (.alt 9 (.all (.alt 10 (.take 11 [19] (.take 12 [19] (.take 13 [19] (.take 14 [19] (.take 15 [] (.take 17 [19] (.take 18 [19] (.all (.alt 19 (.take 20 [] .done) .nil))))))))) .nil)) .nil)) (.alt 9 (.all (.alt 6 (.all (.alt 10 (.take 11 [19] (.take 12 [19] (.take 13 [19] (.take 14 [19] (.take 15 [] (.take 17 [19] (.take 18 [19] (.all (.alt 19 (.take 20 [] .done) .nil))))))))) .nil)) .nil)) .nil)))) .nil)))) (.alt 7 (.take 8 [9,10,19] (.all (.alt 4 (.take 5 [6,10,19] (.all (.alt 6 (.all (.alt 9 (.all (.alt 10 (.take 11 [19] (.take 12 [19] (.take 13 [19] (.take 14 [19] (.take 15 [] (.take 17 [19] (.take 18 [19] (.all (.alt 19 (.take 20 [] .done) .nil))))))))) .nil)) .nil)) (.alt 9 (.all (.alt 6 (.all (.alt 10 (.take 11 [19] (.take 12 [19] (.take 13 [19] (.take 14 [19] (.take 15 [] (.take 17 [19] (.take 18 [19] (.all (.alt 19 (.take 20 [] .done) .nil))))))))) .nil)) .nil)) .nil)))) (.alt 9 (.all (.alt 4 (.take 5 [6,10,19] (.all (.alt 6 (.all (.alt 10 (.take 11 [19] (.take 12 [19] (.take 13 [19] (.take 14 [19] (.take 15 [] (.take 17 [19] (.take 18 [19] (.all (.alt 19 (.take 20 [] .done) .nil))))))))) .nil)) .nil))) .nil)) .nil)))) .nil))) .nil))))))))) (.seq .leaf .leaf))))
def src7 (K:Value→Hp→Prop):Src
  | 1,[],vals,h=>(tA fun s1=>tS fun l3=>tS fun n4=>tA fun r5=>tI .i64 fun e6=>tN (Tx.carlinglaw16_alive_K1 ρ (fun r0 h=>K (.bool r0) h) s1 l3 n4 r5 e6 h)) vals
  | _,_,_,_=>False
theorem ok7:SpecOk Try.prog 7 (Tx.carlinglaw16_alive_S ρ):=by
  refine spec_ok (c:=c7) agree (specsOk_cons ok19 (specsOk_cons ok8 (specsOk_cons ok4 specsOk_nil))) specsOk_nil mixed Try.func7 (by kernel_rfl) (by kernel_rfl) A7 (by kernel_rfl) (src7) ?_ ?_
  · intro args h K H
    unfold Tx.carlinglaw16_alive_S at H
    obtain ⟨rfl,H1⟩:=tN_elim H
    exact fin_and (by kernel_rfl) (by kernel_rfl) H1
  · intro K k inner vals h hk hin H
    rw [show pts A7=[1] from by kernel_rfl] at hk
    simp only [List.mem_cons,List.not_mem_nil,or_false] at hk
    rcases hk with rfl
    · rw [show depth 1 A7 = 0 from by kernel_rfl] at hin
      obtain rfl:=len0 hin
      have H:src7 K 1 [] vals h:=H
      simp only [src7] at H
      obtain ⟨s1,rr,rfl,H1⟩:=tA_elim H
      obtain ⟨l3,rr,rfl,H2⟩:=tS_elim H1
      obtain ⟨n4,rr,rfl,H3⟩:=tS_elim H2
      obtain ⟨r5,rr,rfl,H4⟩:=tA_elim H3
      obtain ⟨e6,rr,rfl,H5⟩:=tI_elim H4
      obtain ⟨rfl,H6⟩:=tN_elim H5
      exact cast (by kernel_rfl) H6
noncomputable def c23:Code:=Try.f23.body.getD .skip
def A23:Ann:=(.seq .leaf (.seq (.seq .leaf (.block (.loop 1 [0,1,5] (.seq (.seq .leaf (.cond .leaf .leaf)) (.seq (.block (.seq .leaf (.cond (.seq .leaf .leaf) .leaf))) .leaf))))) (.seq .leaf .leaf)))
def src23 (K:Value→Hp→Prop):Src
  | 1,[T1],vals,h=>(tS fun l0=>tI .i64 fun n1=>tI .i64 fun i5=>tN (Tx.carlingref16_has_B1 ρ (fun l0 n1 i5 hh=>T1 [(.slice l0.a l0.len l0.cap),(.int .i64 n1),(.int .i64 i5)] hh) (fun r0 h=>K (.bool r0) h) l0 n1 i5 h)) vals
  | _,_,_,_=>False
theorem ok23:SpecOk Try.prog 23 (Tx.carlingref16_has_S ρ):=by
  refine spec_ok (c:=c23) agree specsOk_nil specsOk_nil mixed Try.func23 (by kernel_rfl) (by kernel_rfl) A23 (by kernel_rfl) (src23) ?_ ?_
  · intro args h K H
    unfold Tx.carlingref16_has_S at H
    obtain ⟨l0,rr,rfl,H1⟩:=tS_elim H
    obtain ⟨n1,rr,rfl,H2⟩:=tI_elim H1
    obtain ⟨rfl,H3⟩:=tN_elim H2
    exact fin_and (by kernel_rfl) (by kernel_rfl) H3
  · intro K k inner vals h hk hin H
    rw [show pts A23=[1] from by kernel_rfl] at hk
    simp only [List.mem_cons,List.not_mem_nil,or_false] at hk
    rcases hk with rfl
    · rw [show depth 1 A23 = 1 from by kernel_rfl] at hin
      obtain ⟨T1,rfl⟩:=len1 hin
      have H:src23 K 1 [T1] vals h:=H
      simp only [src23] at H
      obtain ⟨l0,rr,rfl,H1⟩:=tS_elim H
      obtain ⟨n1,rr,rfl,H2⟩:=tI_elim H1
      obtain ⟨i5,rr,rfl,H3⟩:=tI_elim H2
      obtain ⟨rfl,H4⟩:=tN_elim H3
      exact cast (by kernel_rfl) H4
noncomputable def c46:Code:=Try.f46.body.getD .skip
def A46:Ann:=(.seq .leaf (.seq .leaf .leaf))
def src46 (_:Value→Hp→Prop):Src:=fun _ _ _ _=>False
theorem ok46:SpecOk Try.prog 46 (Tx.carlingref12_Shape_has_S ρ):=by
  refine spec_ok (c:=c46) agree specsOk_nil specsOk_nil mixed Try.func46 (by kernel_rfl) (by kernel_rfl) A46 (by kernel_rfl) (src46) ?_ ?_
  · intro args h K H
    unfold Tx.carlingref12_Shape_has_S at H
    obtain ⟨cc0,rr0,rfl,H1⟩:=tG_elim H
    obtain ⟨s0_0,qq,rfl,H2⟩:=tI_elim H1
    obtain ⟨s0_1,qq,rfl,H3⟩:=tS_elim H2
    obtain ⟨s0_2,qq,rfl,H4⟩:=tS_elim H3
    obtain ⟨rfl,H5⟩:=tN_elim H4
    obtain ⟨item1,rr,rfl,H6⟩:=tI_elim H5
    obtain ⟨rfl,H7⟩:=tN_elim H6
    exact fin_and (by kernel_rfl) (by kernel_rfl) H7
  · intro K k inner vals h hk hin H
    exact H.elim
noncomputable def c35:Code:=Try.f35.body.getD .skip
def A35:Ann:=(.seq .leaf (.seq .leaf (.seq (.join 1 [1,2,5,18] .leaf (.cond (.seq .leaf .leaf) .leaf)) (.seq (.seq .leaf (.block (.loop 2 [1,2,5,6] (.seq (.join 3 [1,2,5,6,45] (.plan (.take 0 [] (.take 1 [] (.take 2 [] (.take 3 [] (.take 4 [] (.take 5 [] (.take 6 [] (.take 7 [] (.take 8 [] (.take 9 [] (.take 10 [] (.take 11 [] (.take 12 [] (.take 13 [] (.take 14 [] (.take 15 [] (.take 16 [] (.take 17 [] (.take 18 [] (.take 19 [] (.take 20 [] (.take 21 [] .done))))))))))))))))))))))) (.cond .leaf .leaf)) (.seq (.block .leaf) .leaf))))) (.seq .leaf .leaf)))))
def src35 (K:Value→Hp→Prop):Src
  | 1,[],vals,h=>(tI .i64 fun item1=>tA fun s2=>tS fun out5=>tB fun v18=>tN (Tx.carlingref12_Shape_Kids_K1 ρ (fun r0 h=>K (.slice r0.a r0.len r0.cap) h) item1 s2 out5 v18 h)) vals
  | 2,[T2],vals,h=>(tI .i64 fun item1=>tA fun s2=>tS fun out5=>tI .i64 fun k6=>tN (Tx.carlingref12_Shape_Kids_B2 ρ (fun item1 s2 out5 k6 hh=>T2 [(.int .i64 item1),(.pointer (some s2)),(.slice out5.a out5.len out5.cap),(.int .i64 k6)] hh) (fun r0 h=>K (.slice r0.a r0.len r0.cap) h) item1 s2 out5 k6 h)) vals
  | 3,[T2],vals,h=>(tI .i64 fun item1=>tA fun s2=>tS fun out5=>tI .i64 fun k6=>tB fun v45=>tN (Tx.carlingref12_Shape_Kids_K3 ρ (fun item1 s2 out5 k6 hh=>T2 [(.int .i64 item1),(.pointer (some s2)),(.slice out5.a out5.len out5.cap),(.int .i64 k6)] hh) (fun r0 h=>K (.slice r0.a r0.len r0.cap) h) item1 s2 out5 k6 v45 h)) vals
  | _,_,_,_=>False
theorem ok35:SpecOk Try.prog 35 (Tx.carlingref12_Shape_Kids_S ρ):=by
  refine spec_ok (c:=c35) agree (specsOk_cons ok46 specsOk_nil) specsOk_nil mixed Try.func35 (by kernel_rfl) (by kernel_rfl) A35 (by kernel_rfl) (src35) ?_ ?_
  · intro args h K H
    unfold Tx.carlingref12_Shape_Kids_S at H
    obtain ⟨cc0,rr0,rfl,H1⟩:=tG_elim H
    obtain ⟨s0_0,qq,rfl,H2⟩:=tI_elim H1
    obtain ⟨s0_1,qq,rfl,H3⟩:=tS_elim H2
    obtain ⟨s0_2,qq,rfl,H4⟩:=tS_elim H3
    obtain ⟨rfl,H5⟩:=tN_elim H4
    obtain ⟨item1,rr,rfl,H6⟩:=tI_elim H5
    obtain ⟨rfl,H7⟩:=tN_elim H6
    exact fin_and (by kernel_rfl) (by kernel_rfl) H7
  · intro K k inner vals h hk hin H
    rw [show pts A35=[1,2,3] from by kernel_rfl] at hk
    simp only [List.mem_cons,List.not_mem_nil,or_false] at hk
    rcases hk with rfl | rfl | rfl
    · rw [show depth 1 A35 = 0 from by kernel_rfl] at hin
      obtain rfl:=len0 hin
      have H:src35 K 1 [] vals h:=H
      simp only [src35] at H
      obtain ⟨item1,rr,rfl,H1⟩:=tI_elim H
      obtain ⟨s2,rr,rfl,H2⟩:=tA_elim H1
      obtain ⟨out5,rr,rfl,H3⟩:=tS_elim H2
      obtain ⟨v18,rr,rfl,H4⟩:=tB_elim H3
      obtain ⟨rfl,H5⟩:=tN_elim H4
      exact cast (by kernel_rfl) H5
    · rw [show depth 2 A35 = 1 from by kernel_rfl] at hin
      obtain ⟨T2,rfl⟩:=len1 hin
      have H:src35 K 2 [T2] vals h:=H
      simp only [src35] at H
      obtain ⟨item1,rr,rfl,H1⟩:=tI_elim H
      obtain ⟨s2,rr,rfl,H2⟩:=tA_elim H1
      obtain ⟨out5,rr,rfl,H3⟩:=tS_elim H2
      obtain ⟨k6,rr,rfl,H4⟩:=tI_elim H3
      obtain ⟨rfl,H5⟩:=tN_elim H4
      exact cast (by kernel_rfl) H5
    · rw [show depth 3 A35 = 1 from by kernel_rfl] at hin
      obtain ⟨T2,rfl⟩:=len1 hin
      have H:src35 K 3 [T2] vals h:=H
      simp only [src35] at H
      obtain ⟨item1,rr,rfl,H1⟩:=tI_elim H
      obtain ⟨s2,rr,rfl,H2⟩:=tA_elim H1
      obtain ⟨out5,rr,rfl,H3⟩:=tS_elim H2
      obtain ⟨k6,rr,rfl,H4⟩:=tI_elim H3
      obtain ⟨v45,rr,rfl,H5⟩:=tB_elim H4
      obtain ⟨rfl,H6⟩:=tN_elim H5
      exact cast (by kernel_rfl) H6
noncomputable def c44:Code:=Try.f44.body.getD .skip
def A44:Ann:=(.seq .leaf (.seq (.seq .leaf (.block (.loop 1 [1,2,7] (.seq (.seq .leaf (.cond .leaf .leaf)) (.seq (.block (.seq .leaf (.seq .leaf (.block (.loop 2 [1,2,7,8,9] (.seq (.seq .leaf (.cond .leaf .leaf)) (.seq (.block (.seq .leaf (.cond (.seq .leaf .leaf) .leaf))) .leaf))))))) .leaf))))) (.seq .leaf .leaf)))
def src44 (K:Value→Hp→Prop):Src
  | 1,[T1],vals,h=>(tI .i64 fun item1=>tA fun s2=>tI .i64 fun p7=>tN (Tx.carlingref12_Shape_Parent_B1 ρ (fun item1 s2 p7 hh=>T1 [(.int .i64 item1),(.pointer (some s2)),(.int .i64 p7)] hh) (fun r0 r1 r2 h=>K (.tuple [(.int .i64 r0),(.int .i64 r1),(.bool r2)].toArray) h) item1 s2 p7 h)) vals
  | 2,[T2,T1],vals,h=>(tI .i64 fun item1=>tA fun s2=>tI .i64 fun p7=>tS fun l8=>tI .i64 fun i9=>tN (Tx.carlingref12_Shape_Parent_B2 ρ (fun item1 s2 p7 hh=>T1 [(.int .i64 item1),(.pointer (some s2)),(.int .i64 p7)] hh) (fun item1 s2 p7 l8 i9 hh=>T2 [(.int .i64 item1),(.pointer (some s2)),(.int .i64 p7),(.slice l8.a l8.len l8.cap),(.int .i64 i9)] hh) (fun r0 r1 r2 h=>K (.tuple [(.int .i64 r0),(.int .i64 r1),(.bool r2)].toArray) h) item1 s2 p7 l8 i9 h)) vals
  | _,_,_,_=>False
theorem ok44:SpecOk Try.prog 44 (Tx.carlingref12_Shape_Parent_S ρ):=by
  refine spec_ok (c:=c44) agree (specsOk_cons ok35 specsOk_nil) specsOk_nil mixed Try.func44 (by kernel_rfl) (by kernel_rfl) A44 (by kernel_rfl) (src44) ?_ ?_
  · intro args h K H
    unfold Tx.carlingref12_Shape_Parent_S at H
    obtain ⟨cc0,rr0,rfl,H1⟩:=tG_elim H
    obtain ⟨s0_0,qq,rfl,H2⟩:=tI_elim H1
    obtain ⟨s0_1,qq,rfl,H3⟩:=tS_elim H2
    obtain ⟨s0_2,qq,rfl,H4⟩:=tS_elim H3
    obtain ⟨rfl,H5⟩:=tN_elim H4
    obtain ⟨item1,rr,rfl,H6⟩:=tI_elim H5
    obtain ⟨rfl,H7⟩:=tN_elim H6
    exact fin_and (by kernel_rfl) (by kernel_rfl) H7
  · intro K k inner vals h hk hin H
    rw [show pts A44=[1,2] from by kernel_rfl] at hk
    simp only [List.mem_cons,List.not_mem_nil,or_false] at hk
    rcases hk with rfl | rfl
    · rw [show depth 1 A44 = 1 from by kernel_rfl] at hin
      obtain ⟨T1,rfl⟩:=len1 hin
      have H:src44 K 1 [T1] vals h:=H
      simp only [src44] at H
      obtain ⟨item1,rr,rfl,H1⟩:=tI_elim H
      obtain ⟨s2,rr,rfl,H2⟩:=tA_elim H1
      obtain ⟨p7,rr,rfl,H3⟩:=tI_elim H2
      obtain ⟨rfl,H4⟩:=tN_elim H3
      exact cast (by kernel_rfl) H4
    · rw [show depth 2 A44 = 2 from by kernel_rfl] at hin
      obtain ⟨T1,T2,rfl⟩:=len2 hin
      have H:src44 K 2 [T2,T1] vals h:=H
      simp only [src44] at H
      obtain ⟨item1,rr,rfl,H1⟩:=tI_elim H
      obtain ⟨s2,rr,rfl,H2⟩:=tA_elim H1
      obtain ⟨p7,rr,rfl,H3⟩:=tI_elim H2
      obtain ⟨l8,rr,rfl,H4⟩:=tS_elim H3
      obtain ⟨i9,rr,rfl,H5⟩:=tI_elim H4
      obtain ⟨rfl,H6⟩:=tN_elim H5
      exact cast (by kernel_rfl) H6
noncomputable def c24:Code:=Try.f24.body.getD .skip
def A24:Ann:=(.seq .leaf (.seq (.join 1 [1,2,17] .leaf (.cond (.seq .leaf .leaf) .leaf)) (.seq .leaf (.seq (.seq .leaf (.block (.loop 2 [2,5,6] (.seq (.seq .leaf (.cond .leaf .leaf)) (.seq (.block (.seq (.plan (.take 0 [7] (.take 1 [7] (.take 2 [7] (.take 3 [7] (.take 4 [7] (.take 5 [7] (.take 6 [7] (.all (.alt 7 (.take 8 [] (.take 9 [] (.take 10 [] (.take 11 [] (.take 12 [] (.take 13 [] (.take 14 [] .done))))))) .nil)))))))))) (.seq (.seq .leaf (.cond (.seq .leaf .leaf) .leaf)) .leaf))) .leaf))))) (.seq .leaf .leaf)))))
def src24 (K:Value→Hp→Prop):Src
  | 1,[],vals,h=>(tI .i64 fun page1=>tA fun s2=>tB fun v17=>tN (Tx.carlingref12_Shape_Path_K1 ρ (fun r0 h=>K (.slice r0.a r0.len r0.cap) h) page1 s2 v17 h)) vals
  | 2,[T2],vals,h=>(tA fun s2=>tS fun out5=>tI .i64 fun n6=>tN (Tx.carlingref12_Shape_Path_B2 ρ (fun s2 out5 n6 hh=>T2 [(.pointer (some s2)),(.slice out5.a out5.len out5.cap),(.int .i64 n6)] hh) (fun r0 h=>K (.slice r0.a r0.len r0.cap) h) s2 out5 n6 h)) vals
  | _,_,_,_=>False
theorem ok24:SpecOk Try.prog 24 (Tx.carlingref12_Shape_Path_S ρ):=by
  refine spec_ok (c:=c24) agree (specsOk_cons ok44 specsOk_nil) specsOk_nil mixed Try.func24 (by kernel_rfl) (by kernel_rfl) A24 (by kernel_rfl) (src24) ?_ ?_
  · intro args h K H
    unfold Tx.carlingref12_Shape_Path_S at H
    obtain ⟨cc0,rr0,rfl,H1⟩:=tG_elim H
    obtain ⟨s0_0,qq,rfl,H2⟩:=tI_elim H1
    obtain ⟨s0_1,qq,rfl,H3⟩:=tS_elim H2
    obtain ⟨s0_2,qq,rfl,H4⟩:=tS_elim H3
    obtain ⟨rfl,H5⟩:=tN_elim H4
    obtain ⟨page1,rr,rfl,H6⟩:=tI_elim H5
    obtain ⟨rfl,H7⟩:=tN_elim H6
    exact fin_and (by kernel_rfl) (by kernel_rfl) H7
  · intro K k inner vals h hk hin H
    rw [show pts A24=[1,2] from by kernel_rfl] at hk
    simp only [List.mem_cons,List.not_mem_nil,or_false] at hk
    rcases hk with rfl | rfl
    · rw [show depth 1 A24 = 0 from by kernel_rfl] at hin
      obtain rfl:=len0 hin
      have H:src24 K 1 [] vals h:=H
      simp only [src24] at H
      obtain ⟨page1,rr,rfl,H1⟩:=tI_elim H
      obtain ⟨s2,rr,rfl,H2⟩:=tA_elim H1
      obtain ⟨v17,rr,rfl,H3⟩:=tB_elim H2
      obtain ⟨rfl,H4⟩:=tN_elim H3
      exact cast (by kernel_rfl) H4
    · rw [show depth 2 A24 = 1 from by kernel_rfl] at hin
      obtain ⟨T2,rfl⟩:=len1 hin
      have H:src24 K 2 [T2] vals h:=H
      simp only [src24] at H
      obtain ⟨s2,rr,rfl,H1⟩:=tA_elim H
      obtain ⟨out5,rr,rfl,H2⟩:=tS_elim H1
      obtain ⟨n6,rr,rfl,H3⟩:=tI_elim H2
      obtain ⟨rfl,H4⟩:=tN_elim H3
      exact cast (by kernel_rfl) H4
noncomputable def c9:Code:=Try.f9.body.getD .skip
def A9:Ann:=(.seq .leaf (.seq .leaf (.seq (.seq .leaf (.block (.loop 1 [1,2,5,6] (.seq (.seq .leaf (.cond .leaf .leaf)) (.join 3 [1,2,5,6] (.block (.seq .leaf (.block (.loop 2 [1,2,5,6,7] (.seq (.seq .leaf (.cond .leaf .leaf)) (.seq (.block (.seq (.plan (.take 0 [5,7] (.take 1 [5,7] (.take 2 [5,7] (.take 3 [5,7] (.take 4 [5,7] (.take 6 [7] (.all (.alt 5 (.all (.alt 7 .done .nil)) .nil))))))))) (.cond (.seq .leaf .leaf) .leaf))) .leaf)))))) .leaf))))) (.seq .leaf .leaf))))
def src9 (K:Value→Hp→Prop):Src
  | 1,[T1],vals,h=>(tS fun pages1=>tA fun s2=>tS fun out5=>tI .i64 fun item6=>tN (Tx.carlingref16_Need_B1 ρ (fun pages1 s2 out5 item6 hh=>T1 [(.slice pages1.a pages1.len pages1.cap),(.pointer (some s2)),(.slice out5.a out5.len out5.cap),(.int .i64 item6)] hh) (fun r0 h=>K (.slice r0.a r0.len r0.cap) h) pages1 s2 out5 item6 h)) vals
  | 2,[T2,T1],vals,h=>(tS fun pages1=>tA fun s2=>tS fun out5=>tI .i64 fun item6=>tI .i64 fun i7=>tN (Tx.carlingref16_Need_B2 ρ (fun pages1 s2 out5 item6 hh=>T1 [(.slice pages1.a pages1.len pages1.cap),(.pointer (some s2)),(.slice out5.a out5.len out5.cap),(.int .i64 item6)] hh) (fun pages1 s2 out5 item6 i7 hh=>T2 [(.slice pages1.a pages1.len pages1.cap),(.pointer (some s2)),(.slice out5.a out5.len out5.cap),(.int .i64 item6),(.int .i64 i7)] hh) (fun r0 h=>K (.slice r0.a r0.len r0.cap) h) pages1 s2 out5 item6 i7 h)) vals
  | 3,[T1],vals,h=>(tS fun pages1=>tA fun s2=>tS fun out5=>tI .i64 fun item6=>tN (Tx.carlingref16_Need_K3 ρ (fun pages1 s2 out5 item6 hh=>T1 [(.slice pages1.a pages1.len pages1.cap),(.pointer (some s2)),(.slice out5.a out5.len out5.cap),(.int .i64 item6)] hh) (fun r0 h=>K (.slice r0.a r0.len r0.cap) h) pages1 s2 out5 item6 h)) vals
  | _,_,_,_=>False
theorem ok9:SpecOk Try.prog 9 (Tx.carlingref16_Need_S ρ):=by
  refine spec_ok (c:=c9) agree (specsOk_cons ok24 (specsOk_cons ok23 specsOk_nil)) specsOk_nil mixed Try.func9 (by kernel_rfl) (by kernel_rfl) A9 (by kernel_rfl) (src9) ?_ ?_
  · intro args h K H
    unfold Tx.carlingref16_Need_S at H
    obtain ⟨cc0,rr0,rfl,H1⟩:=tG_elim H
    obtain ⟨s0_0,qq,rfl,H2⟩:=tI_elim H1
    obtain ⟨s0_1,qq,rfl,H3⟩:=tS_elim H2
    obtain ⟨s0_2,qq,rfl,H4⟩:=tS_elim H3
    obtain ⟨rfl,H5⟩:=tN_elim H4
    obtain ⟨pages1,rr,rfl,H6⟩:=tS_elim H5
    obtain ⟨rfl,H7⟩:=tN_elim H6
    exact fin_and (by kernel_rfl) (by kernel_rfl) H7
  · intro K k inner vals h hk hin H
    rw [show pts A9=[1,3,2] from by kernel_rfl] at hk
    simp only [List.mem_cons,List.not_mem_nil,or_false] at hk
    rcases hk with rfl | rfl | rfl
    · rw [show depth 1 A9 = 1 from by kernel_rfl] at hin
      obtain ⟨T1,rfl⟩:=len1 hin
      have H:src9 K 1 [T1] vals h:=H
      simp only [src9] at H
      obtain ⟨pages1,rr,rfl,H1⟩:=tS_elim H
      obtain ⟨s2,rr,rfl,H2⟩:=tA_elim H1
      obtain ⟨out5,rr,rfl,H3⟩:=tS_elim H2
      obtain ⟨item6,rr,rfl,H4⟩:=tI_elim H3
      obtain ⟨rfl,H5⟩:=tN_elim H4
      exact cast (by kernel_rfl) H5
    · rw [show depth 3 A9 = 1 from by kernel_rfl] at hin
      obtain ⟨T1,rfl⟩:=len1 hin
      have H:src9 K 3 [T1] vals h:=H
      simp only [src9] at H
      obtain ⟨pages1,rr,rfl,H1⟩:=tS_elim H
      obtain ⟨s2,rr,rfl,H2⟩:=tA_elim H1
      obtain ⟨out5,rr,rfl,H3⟩:=tS_elim H2
      obtain ⟨item6,rr,rfl,H4⟩:=tI_elim H3
      obtain ⟨rfl,H5⟩:=tN_elim H4
      exact cast (by kernel_rfl) H5
    · rw [show depth 2 A9 = 2 from by kernel_rfl] at hin
      obtain ⟨T1,T2,rfl⟩:=len2 hin
      have H:src9 K 2 [T2,T1] vals h:=H
      simp only [src9] at H
      obtain ⟨pages1,rr,rfl,H1⟩:=tS_elim H
      obtain ⟨s2,rr,rfl,H2⟩:=tA_elim H1
      obtain ⟨out5,rr,rfl,H3⟩:=tS_elim H2
      obtain ⟨item6,rr,rfl,H4⟩:=tI_elim H3
      obtain ⟨i7,rr,rfl,H5⟩:=tI_elim H4
      obtain ⟨rfl,H6⟩:=tN_elim H5
      exact cast (by kernel_rfl) H6
noncomputable def c12:Code:=Try.f12.body.getD .skip
def A12:Ann:=(.seq .leaf (.seq .leaf (.seq (.seq .leaf (.block (.loop 1 [3,9,10,11] (.seq .leaf (.seq (.cond .leaf .leaf) (.seq (.block (.seq .leaf (.seq .leaf (.seq (.seq .leaf (.block (.loop 2 [3,6,9,10,11,19,20,21] (.seq .leaf (.seq (.cond .leaf .leaf) (.seq (.block (.seq .leaf .leaf)) .leaf)))))) .leaf)))) .leaf)))))) (.seq .leaf .leaf))))
def src12 (K:Value→Hp→Prop):Src
  | 1,[T1],vals,h=>(tS fun out3=>tS fun v9=>tI .i64 fun v10=>tI .i64 fun v11=>tN (Tx.carlinglaw16_theirs_B1 ρ (fun out3 v9 v10 v11 hh=>T1 [(.slice out3.a out3.len out3.cap),(.slice v9.a v9.len v9.cap),(.int .i64 v10),(.int .i64 v11)] hh) (fun r0 h=>K (.slice r0.a r0.len r0.cap) h) out3 v9 v10 v11 h)) vals
  | 2,[T2,T1],vals,h=>(tS fun out3=>tA fun x6=>tS fun v9=>tI .i64 fun v10=>tI .i64 fun v11=>tS fun v19=>tI .i64 fun v20=>tI .i64 fun v21=>tN (Tx.carlinglaw16_theirs_B2 ρ (fun out3 v9 v10 v11 hh=>T1 [(.slice out3.a out3.len out3.cap),(.slice v9.a v9.len v9.cap),(.int .i64 v10),(.int .i64 v11)] hh) (fun out3 x6 v9 v10 v11 v19 v20 v21 hh=>T2 [(.slice out3.a out3.len out3.cap),(.pointer (some x6)),(.slice v9.a v9.len v9.cap),(.int .i64 v10),(.int .i64 v11),(.slice v19.a v19.len v19.cap),(.int .i64 v20),(.int .i64 v21)] hh) (fun r0 h=>K (.slice r0.a r0.len r0.cap) h) out3 x6 v9 v10 v11 v19 v20 v21 h)) vals
  | _,_,_,_=>False
theorem ok12:SpecOk Try.prog 12 (Tx.carlinglaw16_theirs_S ρ):=by
  refine spec_ok (c:=c12) agree specsOk_nil specsOk_nil mixed Try.func12 (by kernel_rfl) (by kernel_rfl) A12 (by kernel_rfl) (src12) ?_ ?_
  · intro args h K H
    unfold Tx.carlinglaw16_theirs_S at H
    obtain ⟨l0,rr,rfl,H1⟩:=tS_elim H
    obtain ⟨rfl,H2⟩:=tN_elim H1
    exact fin_and (by kernel_rfl) (by kernel_rfl) H2
  · intro K k inner vals h hk hin H
    rw [show pts A12=[1,2] from by kernel_rfl] at hk
    simp only [List.mem_cons,List.not_mem_nil,or_false] at hk
    rcases hk with rfl | rfl
    · rw [show depth 1 A12 = 1 from by kernel_rfl] at hin
      obtain ⟨T1,rfl⟩:=len1 hin
      have H:src12 K 1 [T1] vals h:=H
      simp only [src12] at H
      obtain ⟨out3,rr,rfl,H1⟩:=tS_elim H
      obtain ⟨v9,rr,rfl,H2⟩:=tS_elim H1
      obtain ⟨v10,rr,rfl,H3⟩:=tI_elim H2
      obtain ⟨v11,rr,rfl,H4⟩:=tI_elim H3
      obtain ⟨rfl,H5⟩:=tN_elim H4
      exact cast (by kernel_rfl) H5
    · rw [show depth 2 A12 = 2 from by kernel_rfl] at hin
      obtain ⟨T1,T2,rfl⟩:=len2 hin
      have H:src12 K 2 [T2,T1] vals h:=H
      simp only [src12] at H
      obtain ⟨out3,rr,rfl,H1⟩:=tS_elim H
      obtain ⟨x6,rr,rfl,H2⟩:=tA_elim H1
      obtain ⟨v9,rr,rfl,H3⟩:=tS_elim H2
      obtain ⟨v10,rr,rfl,H4⟩:=tI_elim H3
      obtain ⟨v11,rr,rfl,H5⟩:=tI_elim H4
      obtain ⟨v19,rr,rfl,H6⟩:=tS_elim H5
      obtain ⟨v20,rr,rfl,H7⟩:=tI_elim H6
      obtain ⟨v21,rr,rfl,H8⟩:=tI_elim H7
      obtain ⟨rfl,H9⟩:=tN_elim H8
      exact cast (by kernel_rfl) H9
noncomputable def c13:Code:=Try.f13.body.getD .skip
def A13:Ann:=(.seq .leaf (.seq (.seq .leaf (.block (.loop 1 [0,1,6] (.seq (.seq .leaf (.cond .leaf .leaf)) (.seq (.block (.seq .leaf (.cond (.seq .leaf .leaf) .leaf))) .leaf))))) (.seq .leaf .leaf)))
def src13 (K:Value→Hp→Prop):Src
  | 1,[T1],vals,h=>(tS fun l0=>tI .i64 fun item1=>tI .i64 fun i6=>tN (Tx.carlingref16_Find_B1 ρ (fun l0 item1 i6 hh=>T1 [(.slice l0.a l0.len l0.cap),(.int .i64 item1),(.int .i64 i6)] hh) (fun r0 r1 h=>K (.tuple [(.slice r0.a r0.len r0.cap),(.bool r1)].toArray) h) l0 item1 i6 h)) vals
  | _,_,_,_=>False
theorem ok13:SpecOk Try.prog 13 (Tx.carlingref16_Find_S ρ):=by
  refine spec_ok (c:=c13) agree specsOk_nil specsOk_nil mixed Try.func13 (by kernel_rfl) (by kernel_rfl) A13 (by kernel_rfl) (src13) ?_ ?_
  · intro args h K H
    unfold Tx.carlingref16_Find_S at H
    obtain ⟨l0,rr,rfl,H1⟩:=tS_elim H
    obtain ⟨item1,rr,rfl,H2⟩:=tI_elim H1
    obtain ⟨rfl,H3⟩:=tN_elim H2
    exact fin_and (by kernel_rfl) (by kernel_rfl) H3
  · intro K k inner vals h hk hin H
    rw [show pts A13=[1] from by kernel_rfl] at hk
    simp only [List.mem_cons,List.not_mem_nil,or_false] at hk
    rcases hk with rfl
    · rw [show depth 1 A13 = 1 from by kernel_rfl] at hin
      obtain ⟨T1,rfl⟩:=len1 hin
      have H:src13 K 1 [T1] vals h:=H
      simp only [src13] at H
      obtain ⟨l0,rr,rfl,H1⟩:=tS_elim H
      obtain ⟨item1,rr,rfl,H2⟩:=tI_elim H1
      obtain ⟨i6,rr,rfl,H3⟩:=tI_elim H2
      obtain ⟨rfl,H4⟩:=tN_elim H3
      exact cast (by kernel_rfl) H4
noncomputable def c14:Code:=Try.f14.body.getD .skip
def A14:Ann:=(.seq .leaf (.seq (.seq .leaf (.cond (.seq .leaf .leaf) .leaf)) (.seq (.seq .leaf (.block (.loop 1 [0,1,14,15] (.seq .leaf (.seq (.cond .leaf .leaf) (.seq (.block (.seq .leaf (.seq (.join 2 [0,1,5,14,15,43] (.plan (.take 0 [] (.take 1 [] (.take 2 [] (.take 3 [] (.take 4 [] (.take 5 [] (.take 6 [] (.take 7 [] (.take 8 [] (.take 9 [] (.take 10 [] (.take 11 [] (.take 12 [] (.take 13 [] (.take 14 [] (.take 15 [] (.take 16 [] (.take 17 [] (.take 18 [] (.take 19 [] (.take 20 [] (.take 21 [] (.take 22 [] (.take 23 [] (.take 24 [] (.take 25 [] .done))))))))))))))))))))))))))) (.cond (.seq .leaf .leaf) .leaf)) (.seq .leaf (.block (.loop 3 [0,1,5,14,15,48,49,50] (.seq .leaf (.seq (.cond .leaf .leaf) (.seq (.block (.seq .leaf (.seq (.plan (.take 0 [] (.take 1 [] (.take 2 [] (.take 3 [] (.take 4 [] (.take 5 [] (.take 6 [] (.take 7 [] (.take 8 [] (.take 9 [] .done))))))))))) (.cond (.seq .leaf .leaf) .leaf)))) .leaf))))))))) .leaf)))))) (.seq .leaf .leaf))))
def src14 (K:Value→Hp→Prop):Src
  | 1,[T1],vals,h=>(tS fun a0=>tS fun b1=>tI .i64 fun v14=>tI .i64 fun v15=>tN (Tx.carlinglaw16_same_B1 ρ (fun a0 b1 v14 v15 hh=>T1 [(.slice a0.a a0.len a0.cap),(.slice b1.a b1.len b1.cap),(.int .i64 v14),(.int .i64 v15)] hh) (fun r0 h=>K (.bool r0) h) a0 b1 v14 v15 h)) vals
  | 2,[T1],vals,h=>(tS fun a0=>tS fun b1=>tI .i64 fun i5=>tI .i64 fun v14=>tI .i64 fun v15=>tB fun v43=>tN (Tx.carlinglaw16_same_K2 ρ (fun a0 b1 v14 v15 hh=>T1 [(.slice a0.a a0.len a0.cap),(.slice b1.a b1.len b1.cap),(.int .i64 v14),(.int .i64 v15)] hh) (fun r0 h=>K (.bool r0) h) a0 b1 i5 v14 v15 v43 h)) vals
  | 3,[T3,T1],vals,h=>(tS fun a0=>tS fun b1=>tI .i64 fun i5=>tI .i64 fun v14=>tI .i64 fun v15=>tS fun v48=>tI .i64 fun v49=>tI .i64 fun v50=>tN (Tx.carlinglaw16_same_B3 ρ (fun a0 b1 v14 v15 hh=>T1 [(.slice a0.a a0.len a0.cap),(.slice b1.a b1.len b1.cap),(.int .i64 v14),(.int .i64 v15)] hh) (fun a0 b1 i5 v14 v15 v48 v49 v50 hh=>T3 [(.slice a0.a a0.len a0.cap),(.slice b1.a b1.len b1.cap),(.int .i64 i5),(.int .i64 v14),(.int .i64 v15),(.slice v48.a v48.len v48.cap),(.int .i64 v49),(.int .i64 v50)] hh) (fun r0 h=>K (.bool r0) h) a0 b1 i5 v14 v15 v48 v49 v50 h)) vals
  | _,_,_,_=>False
theorem ok14:SpecOk Try.prog 14 (Tx.carlinglaw16_same_S ρ):=by
  refine spec_ok (c:=c14) agree specsOk_nil specsOk_nil mixed Try.func14 (by kernel_rfl) (by kernel_rfl) A14 (by kernel_rfl) (src14) ?_ ?_
  · intro args h K H
    unfold Tx.carlinglaw16_same_S at H
    obtain ⟨a0,rr,rfl,H1⟩:=tS_elim H
    obtain ⟨b1,rr,rfl,H2⟩:=tS_elim H1
    obtain ⟨rfl,H3⟩:=tN_elim H2
    exact fin_and (by kernel_rfl) (by kernel_rfl) H3
  · intro K k inner vals h hk hin H
    rw [show pts A14=[1,2,3] from by kernel_rfl] at hk
    simp only [List.mem_cons,List.not_mem_nil,or_false] at hk
    rcases hk with rfl | rfl | rfl
    · rw [show depth 1 A14 = 1 from by kernel_rfl] at hin
      obtain ⟨T1,rfl⟩:=len1 hin
      have H:src14 K 1 [T1] vals h:=H
      simp only [src14] at H
      obtain ⟨a0,rr,rfl,H1⟩:=tS_elim H
      obtain ⟨b1,rr,rfl,H2⟩:=tS_elim H1
      obtain ⟨v14,rr,rfl,H3⟩:=tI_elim H2
      obtain ⟨v15,rr,rfl,H4⟩:=tI_elim H3
      obtain ⟨rfl,H5⟩:=tN_elim H4
      exact cast (by kernel_rfl) H5
    · rw [show depth 2 A14 = 1 from by kernel_rfl] at hin
      obtain ⟨T1,rfl⟩:=len1 hin
      have H:src14 K 2 [T1] vals h:=H
      simp only [src14] at H
      obtain ⟨a0,rr,rfl,H1⟩:=tS_elim H
      obtain ⟨b1,rr,rfl,H2⟩:=tS_elim H1
      obtain ⟨i5,rr,rfl,H3⟩:=tI_elim H2
      obtain ⟨v14,rr,rfl,H4⟩:=tI_elim H3
      obtain ⟨v15,rr,rfl,H5⟩:=tI_elim H4
      obtain ⟨v43,rr,rfl,H6⟩:=tB_elim H5
      obtain ⟨rfl,H7⟩:=tN_elim H6
      exact cast (by kernel_rfl) H7
    · rw [show depth 3 A14 = 2 from by kernel_rfl] at hin
      obtain ⟨T1,T3,rfl⟩:=len2 hin
      have H:src14 K 3 [T3,T1] vals h:=H
      simp only [src14] at H
      obtain ⟨a0,rr,rfl,H1⟩:=tS_elim H
      obtain ⟨b1,rr,rfl,H2⟩:=tS_elim H1
      obtain ⟨i5,rr,rfl,H3⟩:=tI_elim H2
      obtain ⟨v14,rr,rfl,H4⟩:=tI_elim H3
      obtain ⟨v15,rr,rfl,H5⟩:=tI_elim H4
      obtain ⟨v48,rr,rfl,H6⟩:=tS_elim H5
      obtain ⟨v49,rr,rfl,H7⟩:=tI_elim H6
      obtain ⟨v50,rr,rfl,H8⟩:=tI_elim H7
      obtain ⟨rfl,H9⟩:=tN_elim H8
      exact cast (by kernel_rfl) H9
noncomputable def c16:Code:=Try.f16.body.getD .skip
def A16:Ann:=(.seq .leaf (.seq .leaf (.seq (.seq .leaf (.block (.loop 1 [3,6,7,8] (.seq .leaf (.seq (.cond .leaf .leaf) (.seq (.block (.seq .leaf .leaf)) .leaf)))))) (.seq .leaf .leaf))))
def src16 (K:Value→Hp→Prop):Src
  | 1,[T1],vals,h=>(tS fun out3=>tS fun v6=>tI .i64 fun v7=>tI .i64 fun v8=>tN (Tx.carlinglaw16_changed_B1 ρ (fun out3 v6 v7 v8 hh=>T1 [(.slice out3.a out3.len out3.cap),(.slice v6.a v6.len v6.cap),(.int .i64 v7),(.int .i64 v8)] hh) (fun r0 h=>K (.slice r0.a r0.len r0.cap) h) out3 v6 v7 v8 h)) vals
  | _,_,_,_=>False
theorem ok16:SpecOk Try.prog 16 (Tx.carlinglaw16_changed_S ρ):=by
  refine spec_ok (c:=c16) agree specsOk_nil specsOk_nil mixed Try.func16 (by kernel_rfl) (by kernel_rfl) A16 (by kernel_rfl) (src16) ?_ ?_
  · intro args h K H
    unfold Tx.carlinglaw16_changed_S at H
    obtain ⟨l0,rr,rfl,H1⟩:=tS_elim H
    obtain ⟨rfl,H2⟩:=tN_elim H1
    exact fin_and (by kernel_rfl) (by kernel_rfl) H2
  · intro K k inner vals h hk hin H
    rw [show pts A16=[1] from by kernel_rfl] at hk
    simp only [List.mem_cons,List.not_mem_nil,or_false] at hk
    rcases hk with rfl
    · rw [show depth 1 A16 = 1 from by kernel_rfl] at hin
      obtain ⟨T1,rfl⟩:=len1 hin
      have H:src16 K 1 [T1] vals h:=H
      simp only [src16] at H
      obtain ⟨out3,rr,rfl,H1⟩:=tS_elim H
      obtain ⟨v6,rr,rfl,H2⟩:=tS_elim H1
      obtain ⟨v7,rr,rfl,H3⟩:=tI_elim H2
      obtain ⟨v8,rr,rfl,H4⟩:=tI_elim H3
      obtain ⟨rfl,H5⟩:=tN_elim H4
      exact cast (by kernel_rfl) H5
noncomputable def c34:Code:=Try.f34.body.getD .skip
def A34:Ann:=(.seq .leaf (.seq .leaf (.seq (.seq .leaf (.block (.loop 1 [0,3,4] (.seq (.seq .leaf (.cond .leaf .leaf)) (.seq (.block .leaf) .leaf))))) (.seq .leaf .leaf))))
def src34 (K:Value→Hp→Prop):Src
  | 1,[T1],vals,h=>(tS fun l0=>tS fun out3=>tI .i64 fun i4=>tN (Tx.carlingref16_pages_B1 ρ (fun l0 out3 i4 hh=>T1 [(.slice l0.a l0.len l0.cap),(.slice out3.a out3.len out3.cap),(.int .i64 i4)] hh) (fun r0 h=>K (.slice r0.a r0.len r0.cap) h) l0 out3 i4 h)) vals
  | _,_,_,_=>False
theorem ok34:SpecOk Try.prog 34 (Tx.carlingref16_pages_S ρ):=by
  refine spec_ok (c:=c34) agree specsOk_nil specsOk_nil mixed Try.func34 (by kernel_rfl) (by kernel_rfl) A34 (by kernel_rfl) (src34) ?_ ?_
  · intro args h K H
    unfold Tx.carlingref16_pages_S at H
    obtain ⟨l0,rr,rfl,H1⟩:=tS_elim H
    obtain ⟨rfl,H2⟩:=tN_elim H1
    exact fin_and (by kernel_rfl) (by kernel_rfl) H2
  · intro K k inner vals h hk hin H
    rw [show pts A34=[1] from by kernel_rfl] at hk
    simp only [List.mem_cons,List.not_mem_nil,or_false] at hk
    rcases hk with rfl
    · rw [show depth 1 A34 = 1 from by kernel_rfl] at hin
      obtain ⟨T1,rfl⟩:=len1 hin
      have H:src34 K 1 [T1] vals h:=H
      simp only [src34] at H
      obtain ⟨l0,rr,rfl,H1⟩:=tS_elim H
      obtain ⟨out3,rr,rfl,H2⟩:=tS_elim H1
      obtain ⟨i4,rr,rfl,H3⟩:=tI_elim H2
      obtain ⟨rfl,H4⟩:=tN_elim H3
      exact cast (by kernel_rfl) H4
noncomputable def c36:Code:=Try.f36.body.getD .skip
def A36:Ann:=(.seq .leaf (.seq .leaf .leaf))
def src36 (_:Value→Hp→Prop):Src:=fun _ _ _ _=>False
theorem ok36:SpecOk Try.prog 36 (Tx.carlingref16_right_S ρ):=by
  refine spec_ok (c:=c36) agree specsOk_nil specsOk_nil mixed Try.func36 (by kernel_rfl) (by kernel_rfl) A36 (by kernel_rfl) (src36) ?_ ?_
  · intro args h K H
    unfold Tx.carlingref16_right_S at H
    obtain ⟨cc0,rr0,rfl,H1⟩:=tG_elim H
    obtain ⟨r0_0,qq,rfl,H2⟩:=tI_elim H1
    obtain ⟨r0_1,qq,rfl,H3⟩:=tI_elim H2
    obtain ⟨r0_2,qq,rfl,H4⟩:=tL_elim H3
    obtain ⟨rfl,H5⟩:=tN_elim H4
    obtain ⟨rfl,H6⟩:=tN_elim H5
    exact fin_and (by kernel_rfl) (by kernel_rfl) H6
  · intro K k inner vals h hk hin H
    exact H.elim
noncomputable def c17:Code:=Try.f17.body.getD .skip
def A17:Ann:=(.seq .leaf (.seq (.seq .leaf (.block (.loop 1 [1,2,3,7] (.seq (.seq .leaf (.cond .leaf .leaf)) (.seq (.block (.join 2 [1,2,3,7,61] (.plan (.take 0 [] (.take 1 [] (.take 2 [] (.take 3 [] (.take 4 [] (.take 5 [] (.take 6 [] (.take 7 [] (.take 8 [] (.take 9 [] (.take 10 [] (.take 11 [] (.take 12 [] (.take 13 [] (.take 14 [] (.take 15 [] (.take 16 [] (.take 17 [] (.take 18 [] (.take 19 [] (.take 20 [] (.take 21 [] (.take 22 [] (.take 23 [] (.take 24 [] (.take 25 [] (.take 26 [] (.take 27 [] (.take 28 [] (.take 29 [] (.take 30 [] (.take 31 [] (.take 32 [] (.take 33 [] (.take 34 [] (.take 35 [] (.take 36 [] (.take 37 [] (.take 38 [] (.take 39 [] (.take 40 [] (.take 41 [] (.take 42 [] .done)))))))))))))))))))))))))))))))))))))))))))) (.cond (.seq .leaf .leaf) .leaf))) .leaf))))) (.seq (.plan (.take 0 [3] (.take 1 [2,3] (.all (.alt 2 (.all (.alt 3 (.take 4 [] .done) .nil)) .nil))))) (.seq (.seq .leaf (.block (.loop 3 [1,3,8,9] (.seq (.seq .leaf (.cond .leaf .leaf)) (.seq (.block (.seq .leaf (.seq (.join 4 [1,3,8,9,10,94] (.plan (.take 0 [10] (.take 1 [10] (.take 2 [10] (.take 3 [] (.take 4 [] (.take 5 [10] (.take 6 [10] (.take 7 [10] (.take 8 [10] (.take 9 [10] (.all (.alt 10 (.take 11 [] (.take 12 [] (.take 13 [] .done))) .nil))))))))))))) (.cond (.seq .leaf .leaf) .leaf)) (.seq .leaf (.block (.loop 5 [1,3,8,9,10,12] (.seq (.seq .leaf (.cond .leaf .leaf)) (.seq (.block (.seq .leaf (.cond (.seq .leaf .leaf) .leaf))) .leaf)))))))) .leaf))))) (.seq .leaf .leaf)))))
def src17 (K:Value→Hp→Prop):Src
  | 1,[T1],vals,h=>(tS fun l1=>tS fun c2=>tA fun s3=>tI .i64 fun i7=>tN (Tx.carlingref16_May_B1 ρ (fun l1 c2 s3 i7 hh=>T1 [(.slice l1.a l1.len l1.cap),(.slice c2.a c2.len c2.cap),(.pointer (some s3)),(.int .i64 i7)] hh) (fun r0 h=>K (.bool r0) h) l1 c2 s3 i7 h)) vals
  | 2,[T1],vals,h=>(tS fun l1=>tS fun c2=>tA fun s3=>tI .i64 fun i7=>tB fun v61=>tN (Tx.carlingref16_May_K2 ρ (fun l1 c2 s3 i7 hh=>T1 [(.slice l1.a l1.len l1.cap),(.slice c2.a c2.len c2.cap),(.pointer (some s3)),(.int .i64 i7)] hh) (fun r0 h=>K (.bool r0) h) l1 c2 s3 i7 v61 h)) vals
  | 3,[T3],vals,h=>(tS fun l1=>tA fun s3=>tS fun need8=>tI .i64 fun i9=>tN (Tx.carlingref16_May_B3 ρ (fun l1 s3 need8 i9 hh=>T3 [(.slice l1.a l1.len l1.cap),(.pointer (some s3)),(.slice need8.a need8.len need8.cap),(.int .i64 i9)] hh) (fun r0 h=>K (.bool r0) h) l1 s3 need8 i9 h)) vals
  | 4,[T3],vals,h=>(tS fun l1=>tA fun s3=>tS fun need8=>tI .i64 fun i9=>tS fun refs10=>tB fun v94=>tN (Tx.carlingref16_May_K4 ρ (fun l1 s3 need8 i9 hh=>T3 [(.slice l1.a l1.len l1.cap),(.pointer (some s3)),(.slice need8.a need8.len need8.cap),(.int .i64 i9)] hh) (fun r0 h=>K (.bool r0) h) l1 s3 need8 i9 refs10 v94 h)) vals
  | 5,[T5,T3],vals,h=>(tS fun l1=>tA fun s3=>tS fun need8=>tI .i64 fun i9=>tS fun refs10=>tI .i64 fun k12=>tN (Tx.carlingref16_May_B5 ρ (fun l1 s3 need8 i9 hh=>T3 [(.slice l1.a l1.len l1.cap),(.pointer (some s3)),(.slice need8.a need8.len need8.cap),(.int .i64 i9)] hh) (fun l1 s3 need8 i9 refs10 k12 hh=>T5 [(.slice l1.a l1.len l1.cap),(.pointer (some s3)),(.slice need8.a need8.len need8.cap),(.int .i64 i9),(.slice refs10.a refs10.len refs10.cap),(.int .i64 k12)] hh) (fun r0 h=>K (.bool r0) h) l1 s3 need8 i9 refs10 k12 h)) vals
  | _,_,_,_=>False
theorem ok17:SpecOk Try.prog 17 (Tx.carlingref16_May_S ρ):=by
  refine spec_ok (c:=c17) agree (specsOk_cons ok36 (specsOk_cons ok35 (specsOk_cons ok34 (specsOk_cons ok13 (specsOk_cons ok9 specsOk_nil))))) specsOk_nil mixed Try.func17 (by kernel_rfl) (by kernel_rfl) A17 (by kernel_rfl) (src17) ?_ ?_
  · intro args h K H
    unfold Tx.carlingref16_May_S at H
    obtain ⟨cc0,rr0,rfl,H1⟩:=tG_elim H
    obtain ⟨s0_0,qq,rfl,H2⟩:=tI_elim H1
    obtain ⟨s0_1,qq,rfl,H3⟩:=tS_elim H2
    obtain ⟨s0_2,qq,rfl,H4⟩:=tS_elim H3
    obtain ⟨rfl,H5⟩:=tN_elim H4
    obtain ⟨l1,rr,rfl,H6⟩:=tS_elim H5
    obtain ⟨c2,rr,rfl,H7⟩:=tS_elim H6
    obtain ⟨rfl,H8⟩:=tN_elim H7
    exact fin_and (by kernel_rfl) (by kernel_rfl) H8
  · intro K k inner vals h hk hin H
    rw [show pts A17=[1,2,3,4,5] from by kernel_rfl] at hk
    simp only [List.mem_cons,List.not_mem_nil,or_false] at hk
    rcases hk with rfl | rfl | rfl | rfl | rfl
    · rw [show depth 1 A17 = 1 from by kernel_rfl] at hin
      obtain ⟨T1,rfl⟩:=len1 hin
      have H:src17 K 1 [T1] vals h:=H
      simp only [src17] at H
      obtain ⟨l1,rr,rfl,H1⟩:=tS_elim H
      obtain ⟨c2,rr,rfl,H2⟩:=tS_elim H1
      obtain ⟨s3,rr,rfl,H3⟩:=tA_elim H2
      obtain ⟨i7,rr,rfl,H4⟩:=tI_elim H3
      obtain ⟨rfl,H5⟩:=tN_elim H4
      exact cast (by kernel_rfl) H5
    · rw [show depth 2 A17 = 1 from by kernel_rfl] at hin
      obtain ⟨T1,rfl⟩:=len1 hin
      have H:src17 K 2 [T1] vals h:=H
      simp only [src17] at H
      obtain ⟨l1,rr,rfl,H1⟩:=tS_elim H
      obtain ⟨c2,rr,rfl,H2⟩:=tS_elim H1
      obtain ⟨s3,rr,rfl,H3⟩:=tA_elim H2
      obtain ⟨i7,rr,rfl,H4⟩:=tI_elim H3
      obtain ⟨v61,rr,rfl,H5⟩:=tB_elim H4
      obtain ⟨rfl,H6⟩:=tN_elim H5
      exact cast (by kernel_rfl) H6
    · rw [show depth 3 A17 = 1 from by kernel_rfl] at hin
      obtain ⟨T3,rfl⟩:=len1 hin
      have H:src17 K 3 [T3] vals h:=H
      simp only [src17] at H
      obtain ⟨l1,rr,rfl,H1⟩:=tS_elim H
      obtain ⟨s3,rr,rfl,H2⟩:=tA_elim H1
      obtain ⟨need8,rr,rfl,H3⟩:=tS_elim H2
      obtain ⟨i9,rr,rfl,H4⟩:=tI_elim H3
      obtain ⟨rfl,H5⟩:=tN_elim H4
      exact cast (by kernel_rfl) H5
    · rw [show depth 4 A17 = 1 from by kernel_rfl] at hin
      obtain ⟨T3,rfl⟩:=len1 hin
      have H:src17 K 4 [T3] vals h:=H
      simp only [src17] at H
      obtain ⟨l1,rr,rfl,H1⟩:=tS_elim H
      obtain ⟨s3,rr,rfl,H2⟩:=tA_elim H1
      obtain ⟨need8,rr,rfl,H3⟩:=tS_elim H2
      obtain ⟨i9,rr,rfl,H4⟩:=tI_elim H3
      obtain ⟨refs10,rr,rfl,H5⟩:=tS_elim H4
      obtain ⟨v94,rr,rfl,H6⟩:=tB_elim H5
      obtain ⟨rfl,H7⟩:=tN_elim H6
      exact cast (by kernel_rfl) H7
    · rw [show depth 5 A17 = 2 from by kernel_rfl] at hin
      obtain ⟨T3,T5,rfl⟩:=len2 hin
      have H:src17 K 5 [T5,T3] vals h:=H
      simp only [src17] at H
      obtain ⟨l1,rr,rfl,H1⟩:=tS_elim H
      obtain ⟨s3,rr,rfl,H2⟩:=tA_elim H1
      obtain ⟨need8,rr,rfl,H3⟩:=tS_elim H2
      obtain ⟨i9,rr,rfl,H4⟩:=tI_elim H3
      obtain ⟨refs10,rr,rfl,H5⟩:=tS_elim H4
      obtain ⟨k12,rr,rfl,H6⟩:=tI_elim H5
      obtain ⟨rfl,H7⟩:=tN_elim H6
      exact cast (by kernel_rfl) H7
noncomputable def c18:Code:=Try.f18.body.getD .skip
def A18:Ann:=(.seq .leaf (.seq .leaf (.seq (.seq .leaf (.block (.loop 1 [3,7,8,9] (.seq .leaf (.seq (.cond .leaf .leaf) (.seq (.block (.seq .leaf (.seq .leaf (.seq .leaf .leaf)))) .leaf)))))) (.seq .leaf .leaf))))
def src18 (K:Value→Hp→Prop):Src
  | 1,[T1],vals,h=>(tS fun out3=>tS fun v7=>tI .i64 fun v8=>tI .i64 fun v9=>tN (Tx.carlinglaw16_full_B1 ρ (fun out3 v7 v8 v9 hh=>T1 [(.slice out3.a out3.len out3.cap),(.slice v7.a v7.len v7.cap),(.int .i64 v8),(.int .i64 v9)] hh) (fun r0 h=>K (.slice r0.a r0.len r0.cap) h) out3 v7 v8 v9 h)) vals
  | _,_,_,_=>False
theorem ok18:SpecOk Try.prog 18 (Tx.carlinglaw16_full_S ρ):=by
  refine spec_ok (c:=c18) agree specsOk_nil specsOk_nil mixed Try.func18 (by kernel_rfl) (by kernel_rfl) A18 (by kernel_rfl) (src18) ?_ ?_
  · intro args h K H
    unfold Tx.carlinglaw16_full_S at H
    obtain ⟨l0,rr,rfl,H1⟩:=tS_elim H
    obtain ⟨rfl,H2⟩:=tN_elim H1
    exact fin_and (by kernel_rfl) (by kernel_rfl) H2
  · intro K k inner vals h hk hin H
    rw [show pts A18=[1] from by kernel_rfl] at hk
    simp only [List.mem_cons,List.not_mem_nil,or_false] at hk
    rcases hk with rfl
    · rw [show depth 1 A18 = 1 from by kernel_rfl] at hin
      obtain ⟨T1,rfl⟩:=len1 hin
      have H:src18 K 1 [T1] vals h:=H
      simp only [src18] at H
      obtain ⟨out3,rr,rfl,H1⟩:=tS_elim H
      obtain ⟨v7,rr,rfl,H2⟩:=tS_elim H1
      obtain ⟨v8,rr,rfl,H3⟩:=tI_elim H2
      obtain ⟨v9,rr,rfl,H4⟩:=tI_elim H3
      obtain ⟨rfl,H5⟩:=tN_elim H4
      exact cast (by kernel_rfl) H5
noncomputable def c3:Code:=Try.f3.body.getD .skip
def A3:Ann:=(.seq .leaf (.seq .leaf (.seq .leaf (.seq .leaf (.seq (.join 1 [1,2,8,9,10,43] .leaf (.cond (.seq .leaf .leaf) .leaf)) (.seq .leaf (.seq (.seq .leaf (.block (.loop 2 [1,2,8,10,12,49,50,51] (.seq .leaf (.seq (.cond .leaf .leaf) (.seq (.block (.seq .leaf .leaf)) .leaf)))))) (.seq (.plan (.take 0 [2,5] (.take 1 [2,5] (.take 3 [5] (.take 4 [5] (.all (.alt 2 (.all (.alt 5 (.take 6 [] (.take 7 [] .done)) .nil)) .nil))))))) (.seq (.seq .leaf (.cond (.seq .leaf .leaf) .leaf)) (.seq (.seq .leaf (.block (.loop 3 [1,2,8,10,15,16,73,74] (.seq .leaf (.seq (.cond .leaf .leaf) (.seq (.block (.seq .leaf (.seq (.plan (.take 0 [] (.take 1 [] (.take 2 [] (.take 3 [] (.take 4 [] (.take 5 [] (.take 6 [] (.take 7 [] (.take 8 [] .done)))))))))) (.cond (.seq .leaf .leaf) .leaf)))) .leaf)))))) (.seq (.seq .leaf (.block (.loop 4 [1,2,8,10,89,90] (.seq .leaf (.seq (.cond .leaf .leaf) (.seq (.block (.seq .leaf (.seq .leaf (.seq .leaf (.join 5 [1,2,8,10,89,90,118] .leaf (.cond (.seq .leaf .leaf) .leaf)))))) .leaf)))))) (.seq (.plan (.take 0 [5,9,14,16,17,18,22,23,27] (.take 1 [2,4,5,9,14,16,17,18,22,23,27] (.take 3 [4,5,9,14,16,17,18,22,23,27] (.take 6 [9,14,16,17,18,22,23,27] (.take 7 [9,14,16,17,18,22,23,27] (.take 8 [9,14,16,17,18,22,23,27] (.all (.alt 2 (.all (.alt 4 (.all (.alt 5 (.all (.alt 9 (.take 10 [14,16,17,18,22,23,27] (.take 11 [14,16,17,18,22,23,27] (.take 12 [18,22,23,27] (.take 13 [14,16,17,18,22,23,27] (.take 15 [16,17,18,22,23,27] (.take 19 [23,27] (.take 20 [23,27] (.take 21 [22,23,27] (.all (.alt 14 (.all (.alt 16 (.all (.alt 17 (.all (.alt 18 (.all (.alt 22 (.all (.alt 23 (.take 24 [27] (.take 25 [27] (.take 26 [27] (.all (.alt 27 (.take 28 [] (.take 29 [] .done)) .nil))))) .nil)) .nil)) .nil)) .nil)) .nil)) .nil)))))))))) .nil)) .nil)) .nil)) .nil))))))))) .leaf))))))))))))
def src3 (K:Value→Hp→Prop):Src
  | 1,[],vals,h=>(tS fun l1=>tS fun c2=>tA fun s8=>tI .i64 fun e9=>tA fun h10=>tB fun v43=>tN (Tx.carlinglaw16_CommitNeeds_K1 ρ (fun r0 h=>K (.bool r0) h) l1 c2 s8 e9 h10 v43 h)) vals
  | 2,[T2],vals,h=>(tS fun l1=>tS fun c2=>tA fun s8=>tA fun h10=>tS fun list12=>tS fun v49=>tI .i64 fun v50=>tI .i64 fun v51=>tN (Tx.carlinglaw16_CommitNeeds_B2 ρ (fun l1 c2 s8 h10 list12 v49 v50 v51 hh=>T2 [(.slice l1.a l1.len l1.cap),(.slice c2.a c2.len c2.cap),(.pointer (some s8)),(.pointer (some h10)),(.slice list12.a list12.len list12.cap),(.slice v49.a v49.len v49.cap),(.int .i64 v50),(.int .i64 v51)] hh) (fun r0 h=>K (.bool r0) h) l1 c2 s8 h10 list12 v49 v50 v51 h)) vals
  | 3,[T3],vals,h=>(tS fun l1=>tS fun c2=>tA fun s8=>tA fun h10=>tS fun a15=>tS fun b16=>tI .i64 fun v73=>tI .i64 fun v74=>tN (Tx.carlinglaw16_CommitNeeds_B3 ρ (fun l1 c2 s8 h10 a15 b16 v73 v74 hh=>T3 [(.slice l1.a l1.len l1.cap),(.slice c2.a c2.len c2.cap),(.pointer (some s8)),(.pointer (some h10)),(.slice a15.a a15.len a15.cap),(.slice b16.a b16.len b16.cap),(.int .i64 v73),(.int .i64 v74)] hh) (fun r0 h=>K (.bool r0) h) l1 c2 s8 h10 a15 b16 v73 v74 h)) vals
  | 4,[T4],vals,h=>(tS fun l1=>tS fun c2=>tA fun s8=>tA fun h10=>tI .i64 fun v89=>tI .i64 fun v90=>tN (Tx.carlinglaw16_CommitNeeds_B4 ρ (fun l1 c2 s8 h10 v89 v90 hh=>T4 [(.slice l1.a l1.len l1.cap),(.slice c2.a c2.len c2.cap),(.pointer (some s8)),(.pointer (some h10)),(.int .i64 v89),(.int .i64 v90)] hh) (fun r0 h=>K (.bool r0) h) l1 c2 s8 h10 v89 v90 h)) vals
  | 5,[T4],vals,h=>(tS fun l1=>tS fun c2=>tA fun s8=>tA fun h10=>tI .i64 fun v89=>tI .i64 fun v90=>tB fun v118=>tN (Tx.carlinglaw16_CommitNeeds_K5 ρ (fun l1 c2 s8 h10 v89 v90 hh=>T4 [(.slice l1.a l1.len l1.cap),(.slice c2.a c2.len c2.cap),(.pointer (some s8)),(.pointer (some h10)),(.int .i64 v89),(.int .i64 v90)] hh) (fun r0 h=>K (.bool r0) h) l1 c2 s8 h10 v89 v90 v118 h)) vals
  | _,_,_,_=>False
theorem ok3:SpecOk Try.prog 3 (Tx.carlinglaw16_CommitNeeds_S ρ):=by
  refine spec_ok (c:=c3) agree (specsOk_cons ok18 (specsOk_cons ok17 (specsOk_cons ok16 (specsOk_cons ok15 (specsOk_cons ok14 (specsOk_cons ok13 (specsOk_cons ok12 (specsOk_cons ok11 (specsOk_cons ok10 (specsOk_cons ok9 (specsOk_cons ok8 (specsOk_cons ok7 (specsOk_cons ok6 (specsOk_cons ok5 (specsOk_cons ok4 specsOk_nil))))))))))))))) specsOk_nil mixed Try.func3 (by kernel_rfl) (by kernel_rfl) A3 (by kernel_rfl) (src3) ?_ ?_
  · intro args h K H
    unfold Tx.carlinglaw16_CommitNeeds_S at H
    obtain ⟨pages0,rr,rfl,H1⟩:=tI_elim H
    obtain ⟨l1,rr,rfl,H2⟩:=tS_elim H1
    obtain ⟨c2,rr,rfl,H3⟩:=tS_elim H2
    obtain ⟨rfl,H4⟩:=tN_elim H3
    exact fin_and (by kernel_rfl) (by kernel_rfl) H4
  · intro K k inner vals h hk hin H
    rw [show pts A3=[1,2,3,4,5] from by kernel_rfl] at hk
    simp only [List.mem_cons,List.not_mem_nil,or_false] at hk
    rcases hk with rfl | rfl | rfl | rfl | rfl
    · rw [show depth 1 A3 = 0 from by kernel_rfl] at hin
      obtain rfl:=len0 hin
      have H:src3 K 1 [] vals h:=H
      simp only [src3] at H
      obtain ⟨l1,rr,rfl,H1⟩:=tS_elim H
      obtain ⟨c2,rr,rfl,H2⟩:=tS_elim H1
      obtain ⟨s8,rr,rfl,H3⟩:=tA_elim H2
      obtain ⟨e9,rr,rfl,H4⟩:=tI_elim H3
      obtain ⟨h10,rr,rfl,H5⟩:=tA_elim H4
      obtain ⟨v43,rr,rfl,H6⟩:=tB_elim H5
      obtain ⟨rfl,H7⟩:=tN_elim H6
      exact cast (by kernel_rfl) H7
    · rw [show depth 2 A3 = 1 from by kernel_rfl] at hin
      obtain ⟨T2,rfl⟩:=len1 hin
      have H:src3 K 2 [T2] vals h:=H
      simp only [src3] at H
      obtain ⟨l1,rr,rfl,H1⟩:=tS_elim H
      obtain ⟨c2,rr,rfl,H2⟩:=tS_elim H1
      obtain ⟨s8,rr,rfl,H3⟩:=tA_elim H2
      obtain ⟨h10,rr,rfl,H4⟩:=tA_elim H3
      obtain ⟨list12,rr,rfl,H5⟩:=tS_elim H4
      obtain ⟨v49,rr,rfl,H6⟩:=tS_elim H5
      obtain ⟨v50,rr,rfl,H7⟩:=tI_elim H6
      obtain ⟨v51,rr,rfl,H8⟩:=tI_elim H7
      obtain ⟨rfl,H9⟩:=tN_elim H8
      exact cast (by kernel_rfl) H9
    · rw [show depth 3 A3 = 1 from by kernel_rfl] at hin
      obtain ⟨T3,rfl⟩:=len1 hin
      have H:src3 K 3 [T3] vals h:=H
      simp only [src3] at H
      obtain ⟨l1,rr,rfl,H1⟩:=tS_elim H
      obtain ⟨c2,rr,rfl,H2⟩:=tS_elim H1
      obtain ⟨s8,rr,rfl,H3⟩:=tA_elim H2
      obtain ⟨h10,rr,rfl,H4⟩:=tA_elim H3
      obtain ⟨a15,rr,rfl,H5⟩:=tS_elim H4
      obtain ⟨b16,rr,rfl,H6⟩:=tS_elim H5
      obtain ⟨v73,rr,rfl,H7⟩:=tI_elim H6
      obtain ⟨v74,rr,rfl,H8⟩:=tI_elim H7
      obtain ⟨rfl,H9⟩:=tN_elim H8
      exact cast (by kernel_rfl) H9
    · rw [show depth 4 A3 = 1 from by kernel_rfl] at hin
      obtain ⟨T4,rfl⟩:=len1 hin
      have H:src3 K 4 [T4] vals h:=H
      simp only [src3] at H
      obtain ⟨l1,rr,rfl,H1⟩:=tS_elim H
      obtain ⟨c2,rr,rfl,H2⟩:=tS_elim H1
      obtain ⟨s8,rr,rfl,H3⟩:=tA_elim H2
      obtain ⟨h10,rr,rfl,H4⟩:=tA_elim H3
      obtain ⟨v89,rr,rfl,H5⟩:=tI_elim H4
      obtain ⟨v90,rr,rfl,H6⟩:=tI_elim H5
      obtain ⟨rfl,H7⟩:=tN_elim H6
      exact cast (by kernel_rfl) H7
    · rw [show depth 5 A3 = 1 from by kernel_rfl] at hin
      obtain ⟨T4,rfl⟩:=len1 hin
      have H:src3 K 5 [T4] vals h:=H
      simp only [src3] at H
      obtain ⟨l1,rr,rfl,H1⟩:=tS_elim H
      obtain ⟨c2,rr,rfl,H2⟩:=tS_elim H1
      obtain ⟨s8,rr,rfl,H3⟩:=tA_elim H2
      obtain ⟨h10,rr,rfl,H4⟩:=tA_elim H3
      obtain ⟨v89,rr,rfl,H5⟩:=tI_elim H4
      obtain ⟨v90,rr,rfl,H6⟩:=tI_elim H5
      obtain ⟨v118,rr,rfl,H7⟩:=tB_elim H6
      obtain ⟨rfl,H8⟩:=tN_elim H7
      exact cast (by kernel_rfl) H8
end Go.Proofs.Ytpjehkdneiclnaa.Lk
