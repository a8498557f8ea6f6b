/- Parts of the framework and of the proof: A fact of the row of FnExecuteTidy: what calls itself. -/
import Derived.Test.YthbombjjioojeaaGreatDoorJ7
import Derived.Test.YthbombjjioojeaaGreatDoorRows
import Derived.JoinedOf
import Derived.KernelRfl
set_option linter.all false
namespace Go.Proofs.YthbombjjioojeaaGreatDoor
open Go
set_option maxRecDepth 100000
theorem z9k:(Rows.fnExecuteTidyRow.recurses == Tryz.pinned.checked.prog.recurses 3)=true:=by kernel_rfl
end Go.Proofs.YthbombjjioojeaaGreatDoor
