/- Parts of the framework and of the proof: Facts of the card of FnExecuteTidy. -/
import Derived.Test.YthbombjjioojeaaGreatDoorJ14
import Derived.Test.YthbombjjioojeaaGreatDoorRows
import Derived.SevenTiedAt
import Derived.KernelRfl
set_option linter.all false
namespace Go.Proofs.YthbombjjioojeaaGreatDoor
open Go
set_option maxRecDepth 100000
theorem z9n:Rows.fnExecuteTidyRow.wfByText (OpenSpec.ofChange Rows.fnExecuteTidySpec)=true:=by kernel_rfl
theorem z9g : Tryz.pinned.checked.prog.mainIs = some ((true, "35bf50c9a5a57f34ae6e1e86276087dfefe32be33a080879abcf6bccd6732327").1, ((true, "35bf50c9a5a57f34ae6e1e86276087dfefe32be33a080879abcf6bccd6732327") : Bool × String).2.toList) := by kernel_rfl
theorem z89:Tryz.pinned.checked.prog.funcNamed Rows.fnExecuteTidyRow.func=some 3:=by kernel_rfl
theorem z9o:Tryz.pinned.checked.prog.wantsStandIn 22=false:=by kernel_rfl
end Go.Proofs.YthbombjjioojeaaGreatDoor
