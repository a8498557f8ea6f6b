/- Parts of the framework and of the proof: A fact of the row of FnExecuteProof: the variables named. -/
import Derived.Test.YtclbmeloiefbaaaGreatDoorJ9
import Derived.Test.YtclbmeloiefbaaaGreatDoorRows
import Derived.JoinedOf
import Derived.KernelRfl
set_option linter.all false
namespace Go.Proofs.YtclbmeloiefbaaaGreatDoor
open Go
set_option maxRecDepth 100000
theorem yfu:(Rows.fnExecuteProofRow.named == Tryz.pinned.checked.prog.varsNamed 4)=true:=by kernel_rfl
end Go.Proofs.YtclbmeloiefbaaaGreatDoor
