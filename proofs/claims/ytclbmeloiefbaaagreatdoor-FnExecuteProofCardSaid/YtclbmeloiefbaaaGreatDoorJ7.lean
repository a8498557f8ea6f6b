/- Parts of the framework and of the proof: A fact of the row of FnExecuteProof: what is called in place. -/
import Derived.Test.YtclbmeloiefbaaaGreatDoorJ6
import Derived.Test.YtclbmeloiefbaaaGreatDoorRows
import Derived.JoinedOf
import Derived.KernelRfl
set_option linter.all false
namespace Go.Proofs.YtclbmeloiefbaaaGreatDoor
open Go
set_option maxRecDepth 100000
theorem yfn:(Rows.fnExecuteProofRow.inPlace == Tryz.pinned.checked.prog.inPlace 4)=true:=by kernel_rfl
end Go.Proofs.YtclbmeloiefbaaaGreatDoor
