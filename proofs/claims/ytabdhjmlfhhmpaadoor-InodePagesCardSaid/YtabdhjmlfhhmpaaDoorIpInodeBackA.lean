import Derived.Test.YtabdhjmlfhhmpaaDoorIpInodeParseR
set_option linter.unusedSimpArgs false
set_option linter.unusedVariables false
namespace Go.Pt
open Go Go.Wc Go.Pu

theorem bytesS_len (n : inode_Inode) : (bytesS n).length = 64 := by simp [bytesS, leB_length]

theorem parse_lay {n : inode_Inode} (hm : mayS n = true) (ht : n.Time < 9223372036854775808) : parseS (bytesS n) = (n, 0) := by
  obtain ⟨a1, a2, a3, a4, a5, a6, a7, a8, a9, a10, a11⟩ := may_rng hm
  have h32 : n.Pages.toList.length = 32 := by simp
  have d17 : ((bytesS n).drop 17) = n.Pages.toList ++ List.replicate 15 0 := rfl
  have d49 : ((bytesS n).drop 49) = List.replicate 15 0 := by
    rw [show 49 = 17 + 32 from rfl, ← List.drop_drop, d17, List.drop_left' h32]
  have t17 : ((bytesS n).drop 17).take 32 = n.Pages.toList := by rw [d17, List.take_left' h32]
  have p2 : (256 : Int) ^ 2 = 65536 := by decide
  have p4 : (256 : Int) ^ 4 = 4294967296 := by decide
  have p8 : (256 : Int) ^ 8 = 18446744073709551616 := by decide
  have e2 : valB (((bytesS n).drop 2).take 2) = n.Links := by
    have : ((bytesS n).drop 2).take 2 = leB 2 n.Links := rfl
    rw [this, valB_le a5 (by omega)]
  have e4 : valB (((bytesS n).drop 4).take 4) = n.Size := by
    have : ((bytesS n).drop 4).take 4 = leB 4 n.Size := rfl
    rw [this, valB_le a7 (by omega)]
  have e8 : valB (((bytesS n).drop 8).take 8) = n.Time := by
    have : ((bytesS n).drop 8).take 8 = leB 8 n.Time := rfl
    rw [this, valB_le a9 (by omega)]
  have er : rawS (bytesS n) = n := by
    unfold rawS
    rw [e2, e4, e8, t17, wrap64 (n := n.Time) (by omega) ht]
    have ev : v32 n.Pages.toList = n.Pages := by rw [← Vector.toList_inj, v32_toList h32]
    rw [ev]
    rfl
  have hz : allZ ((bytesS n).drop 49) := by
    rw [d49]
    intro x hx
    exact (List.mem_replicate.1 hx).2
  unfold parseS
  rw [if_pos (bytesS_len n), er, if_pos ⟨hm, hz⟩]

theorem bytesS_bytes {n : inode_Inode} (hm : mayS n = true) (hP : bytesL n.Pages.toList) : bytesL (bytesS n) := by
  obtain ⟨a1, a2, a3, a4, a5, a6, a7, a8, a9, a10, a11⟩ := may_rng hm
  unfold bytesS
  intro x hx
  simp only [List.mem_append, List.mem_cons, List.not_mem_nil, or_false, List.mem_replicate] at hx
  rcases hx with ((((((rfl | rfl) | h) | h) | h) | rfl) | h) | h
  all_goals first | omega | exact leB_bytes _ _ _ h | exact hP _ h | skip

end Go.Pt
