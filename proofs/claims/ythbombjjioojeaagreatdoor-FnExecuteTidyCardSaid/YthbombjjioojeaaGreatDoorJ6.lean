/- Parts of the framework and of the proof: A fact of the row of FnExecuteTidy: what is called in place. -/
import Derived.Test.YthbombjjioojeaaGreatDoorJ5
import Derived.Test.YthbombjjioojeaaGreatDoorRows
import Derived.JoinedOf
import Derived.KernelRfl
set_option linter.all false
namespace Go.Proofs.YthbombjjioojeaaGreatDoor
open Go
set_option maxRecDepth 100000
theorem z9b:(Rows.fnExecuteTidyRow.inPlace == Tryz.pinned.checked.prog.inPlace 3)=true:=by kernel_rfl
end Go.Proofs.YthbombjjioojeaaGreatDoor
