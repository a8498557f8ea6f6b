/- Parts of the framework and of the proof: A fact of the row of FnExecuteProof: what calls itself. -/
import Derived.Test.YtclbmeloiefbaaaGreatDoorJ8
import Derived.Test.YtclbmeloiefbaaaGreatDoorRows
import Derived.JoinedOf
import Derived.KernelRfl
set_option linter.all false
namespace Go.Proofs.YtclbmeloiefbaaaGreatDoor
open Go
set_option maxRecDepth 100000
theorem yfw:(Rows.fnExecuteProofRow.recurses == Tryz.pinned.checked.prog.recurses 4)=true:=by kernel_rfl
end Go.Proofs.YtclbmeloiefbaaaGreatDoor
