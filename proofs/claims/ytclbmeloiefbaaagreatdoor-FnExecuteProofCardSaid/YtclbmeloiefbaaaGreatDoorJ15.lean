/- Parts of the framework and of the proof: A fact of the card of FnExecuteProof: no call goes by. -/
import Derived.Test.YtclbmeloiefbaaaGreatDoorJ14
import Derived.Test.YtclbmeloiefbaaaGreatDoorRows
import Derived.SevenTiedAt
import Derived.KernelRfl
set_option linter.all false
namespace Go.Proofs.YtclbmeloiefbaaaGreatDoor
open Go
set_option maxRecDepth 100000
theorem yfm:false=Rows.fnExecuteProofRow.goesBy Tryz.pinned.checked.prog:=by kernel_rfl
end Go.Proofs.YtclbmeloiefbaaaGreatDoor
