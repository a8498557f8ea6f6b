/- Parts of the framework and of the proof: A fact of the row of FnExecuteCut: what is called in place. -/
import Derived.Test.YtclbmeloiefbaaaGreatDoorJ6
import Derived.Test.YtclbmeloiefbaaaGreatDoorRows
import Derived.JoinedOf
import Derived.KernelRfl
set_option linter.all false
namespace Go.Proofs.YtclbmeloiefbaaaGreatDoor
open Go
set_option maxRecDepth 100000
theorem yej:(Rows.fnExecuteCutRow.inPlace == Tryz.pinned.checked.prog.inPlace 3)=true:=by kernel_rfl
end Go.Proofs.YtclbmeloiefbaaaGreatDoor
