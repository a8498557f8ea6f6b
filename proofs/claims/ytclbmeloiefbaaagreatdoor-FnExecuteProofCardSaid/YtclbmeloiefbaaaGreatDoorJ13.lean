/- Parts of the framework and of the proof: The row of the law FnExecuteProof. -/
import Derived.Test.YtclbmeloiefbaaaGreatDoorJ6
import Derived.Test.YtclbmeloiefbaaaGreatDoorJ12
set_option linter.all false
namespace Go.Proofs.YtclbmeloiefbaaaGreatDoor
open Go Go.ChangeShapes Go.WideShapes Go.ChangeAt Go.RowKit Fw
theorem z96:Rows.FnExecuteProofSaid :=
 OpenClaim.holds_of_wide 4 Tryz.f4 rfl rfl rfl rfl rfl rfl rfl ⟨rfl,rfl,rfl,rfl,rfl⟩ rfl rfl rfl rfl rfl (by kernel_rfl) Tryz.func4 yer
  (of_decide_eq_true (by kernel_rfl)) (by unfold Func.isWrapper; first | (rw [if_pos (by decide +kernel)]; kernel_rfl) | (rw [if_neg (by decide +kernel)]; exact ⟨rfl,rfl⟩))
  (fun os started H enc _=>z39 os started H enc)
end Go.Proofs.YtclbmeloiefbaaaGreatDoor
