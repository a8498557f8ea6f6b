/- Parts of the framework and of the proof: A fact of the card of FnExecuteTidy: no call goes by. -/
import Derived.Test.YthbombjjioojeaaGreatDoorJ13
import Derived.Test.YthbombjjioojeaaGreatDoorRows
import Derived.SevenTiedAt
import Derived.KernelRfl
set_option linter.all false
namespace Go.Proofs.YthbombjjioojeaaGreatDoor
open Go
set_option maxRecDepth 100000
theorem z9a:false=Rows.fnExecuteTidyRow.goesBy Tryz.pinned.checked.prog:=by kernel_rfl
end Go.Proofs.YthbombjjioojeaaGreatDoor
