import Derived.Test.YtabdhjmlfhhmpaaDoorIpInodeBackA
set_option linter.unusedSimpArgs false
set_option linter.unusedVariables false
namespace Go.Pt
open Go Go.Wc Go.Pu

def oneI : inode_Inode := ⟨1, 6, 1, 300, 0, 9, (Vector.replicate 32 (0 : Int)).setIfInBounds (Int.toNat (1 : Int)) (7 : Int)⟩
theorem one_used : usedS 9 oneI.Pages.toList = [7, 9] := by decide +kernel
theorem one_may : mayS oneI = true := by decide +kernel
theorem one_bytes : bytesL oneI.Pages.toList := by
  have : (oneI.Pages.toList.all fun x => decide (0 ≤ x ∧ x < 256)) = true := by decide +kernel
  intro x hx
  have := List.all_eq_true.1 this x hx
  simpa using this
theorem zeros_parse : parseS (List.replicate 64 0) = (zeroI, 0) := by decide +kernel

theorem alive_spec {σ : St Obj} {Q : Bool → St Obj → Prop} (H : ∀ σ', Q true σ') : carlinglaw21_alive σ Q := by
  unfold carlinglaw21_alive
  refine ixP_of (x := 0) (by decide) (by decide +kernel) ?_
  refine lay_spec (n := oneI) one_bytes (by decide) ?_
  have hl : layS oneI = (bytesS oneI, 0) := by unfold layS; rw [one_may, if_pos rfl]
  rw [hl]
  refine parse_spec (bytesS_bytes one_may one_bytes) fun σ1 => ?_
  rw [parse_lay one_may (by decide)]
  refine used_spec (n := oneI) one_bytes ?_
  have hz : bytesL (List.replicate (Int.toNat (64 : Int)) (0 : Int)) := fun x hx => by rw [(List.mem_replicate.1 hx).2]; omega
  refine parse_spec hz fun σ2 => ?_
  rw [show parseS (List.replicate (Int.toNat (64 : Int)) 0) = (zeroI, 0) from zeros_parse]
  rw [show usedS oneI.Attr oneI.Pages.toList = [7, 9] from one_used]
  dsimp only
  rw [beq_self_eq_true, br_true, bytesS_len]
  show br true _ _
  rw [br_true]
  have e1 : ((oneI.Kind == (1 : Int)) && ((oneI.Mode == (6 : Int)) && ((oneI.Links == (1 : Int)) && ((oneI.Size == (300 : Int)) && ((oneI.Time == (0 : Int)) && ((oneI.Attr == (9 : Int)) && ((oneI.Pages.toList == ((Vector.replicate 32 (0 : Int)).setIfInBounds (Int.toNat (1 : Int)) (7 : Int)).toList) && true))))))) = true := by decide +kernel
  rw [e1, br_true, br_true]
  show br true _ _
  rw [br_true]
  refine ixP_of (x := 7) (by decide) rfl ?_
  rw [beq_self_eq_true, br_true]
  refine ixP_of (x := 9) (by decide) rfl ?_
  rw [beq_self_eq_true, br_true]
  show br true _ _
  rw [br_true]
  exact H _

end Go.Pt
