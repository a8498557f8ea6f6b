/- Parts of the framework and of the proof: A fact of the card of FnExecuteProof: the looks. -/
import Derived.Test.YtclbmeloiefbaaaGreatDoorJ13
import Derived.Test.YtclbmeloiefbaaaGreatDoorRows
import Derived.SevenTiedAt
import Derived.KernelRfl
set_option linter.all false
namespace Go.Proofs.YtclbmeloiefbaaaGreatDoor
open Go
set_option maxRecDepth 100000
theorem yfp:true=Tryz.pinned.checked.prog.looks []:=by kernel_rfl
end Go.Proofs.YtclbmeloiefbaaaGreatDoor
