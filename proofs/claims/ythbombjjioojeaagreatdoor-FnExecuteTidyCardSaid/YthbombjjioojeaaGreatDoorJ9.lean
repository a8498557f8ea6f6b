/- Parts of the framework and of the proof: A fact of the row of FnExecuteTidy: the variables named. -/
import Derived.Test.YthbombjjioojeaaGreatDoorJ8
import Derived.Test.YthbombjjioojeaaGreatDoorRows
import Derived.JoinedOf
import Derived.KernelRfl
set_option linter.all false
namespace Go.Proofs.YthbombjjioojeaaGreatDoor
open Go
set_option maxRecDepth 100000
theorem z9i:(Rows.fnExecuteTidyRow.named == Tryz.pinned.checked.prog.varsNamed 3)=true:=by kernel_rfl
end Go.Proofs.YthbombjjioojeaaGreatDoor
