/- Parts of the framework and of the proof: A fact of the card of FnExecuteTidy: the looks. -/
import Derived.Test.YthbombjjioojeaaGreatDoorJ12
import Derived.Test.YthbombjjioojeaaGreatDoorRows
import Derived.SevenTiedAt
import Derived.KernelRfl
set_option linter.all false
namespace Go.Proofs.YthbombjjioojeaaGreatDoor
open Go
set_option maxRecDepth 100000
theorem z9d:true=Tryz.pinned.checked.prog.looks []:=by kernel_rfl
end Go.Proofs.YthbombjjioojeaaGreatDoor
