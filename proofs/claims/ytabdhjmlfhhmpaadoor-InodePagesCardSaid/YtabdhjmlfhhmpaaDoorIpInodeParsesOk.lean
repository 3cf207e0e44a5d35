import Derived.Test.YtabdhjmlfhhmpaaDoorIpPo
import Derived.Test.YtabdhjmlfhhmpaaDoorIpInodeAlive
set_option linter.unusedSimpArgs false
set_option linter.unusedVariables false
namespace Go.Pt
open Go Go.Wc Go.Pu Go.Laws

theorem u8_bytes {b : List Int} (h : ∀ x ∈ b, (fun n : Int => (Lit.int .u8 n).wf = true) x) : bytesL b := by
  intro x hx
  have := h x hx
  have e1 : IntKind.min .u8 = 0 := by decide
  have e2 : IntKind.max .u8 = 255 := by decide
  simp only [Lit.wf, e1, e2, Bool.and_eq_true, decide_eq_true_eq] at this
  omega

theorem same_cells (n : inode_Inode) : ((n.Kind == (fromI n).Kind) && ((n.Mode == (fromI n).Mode) && ((n.Links == (fromI n).Links) && ((n.Size == (fromI n).Size) && ((n.Time == (fromI n).Time) && ((n.Attr == (fromI n).Attr) && ((n.Pages.toList == (fromI n).Pages.toList) && true))))))) = true := by
  simp [fromI]

theorem carlinglaw21_InodeParses_ok (b : List Int) (n : b.length ≤ maxLen ∧ ∀ x ∈ b, (fun n : Int => (Lit.int .u8 n).wf = true) x) : carlinglaw21_InodeParses b st0 (fun b _ => b = true) := by
  have hb := u8_bytes n.2
  unfold carlinglaw21_InodeParses
  refine parse_spec hb fun σ1 => parseR_spec hb ?_
  unfold carlinglaw21_ours
  have e := same_cells (parseS b).1
  refine (show br ((parseS b).1.Kind == (fromI (parseS b).1).Kind && _) _ _ from ?_)
  rw [e, br_true, beq_self_eq_true, br_true]
  exact alive_spec fun _ => rfl

end Go.Pt
