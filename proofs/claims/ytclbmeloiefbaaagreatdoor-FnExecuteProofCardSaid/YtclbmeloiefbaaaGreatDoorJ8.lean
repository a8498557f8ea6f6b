/- Parts of the framework and of the proof: A fact of the row of FnExecuteProof: what is not followed. -/
import Derived.Test.YtclbmeloiefbaaaGreatDoorJ7
import Derived.Test.YtclbmeloiefbaaaGreatDoorRows
import Derived.JoinedOf
import Derived.KernelRfl
set_option linter.all false
namespace Go.Proofs.YtclbmeloiefbaaaGreatDoor
open Go
set_option maxRecDepth 100000
theorem yfy:(Rows.fnExecuteProofRow.unfollowed == Tryz.pinned.checked.prog.unfollowed 4)=true:=by kernel_rfl
end Go.Proofs.YtclbmeloiefbaaaGreatDoor
