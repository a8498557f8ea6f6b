/- Parts of the framework and of the proof: Facts of the row of FnExecuteTidy, of the whole program. -/
import Derived.Test.YthbombjjioojeaaGreatDoorJ9
import Derived.Test.YthbombjjioojeaaGreatDoorRows
import Derived.JoinedOf
import Derived.KernelRfl
set_option linter.all false
namespace Go.Proofs.YthbombjjioojeaaGreatDoor
open Go
set_option maxRecDepth 100000
theorem z9e:laidOutB Tryz.pinned.checked.prog=true:=by kernel_rfl
theorem z9h:mapsRowed Tryz.pinned.checked.prog=true:=by kernel_rfl
theorem z9j:(Rows.fnExecuteTidyRow.plainKeys == Tryz.pinned.checked.prog.plainKeys)=true:=by kernel_rfl
theorem z9c:(Rows.fnExecuteTidyRow.lifted == Tryz.pinned.checked.prog.liftsFinal)=true:=by kernel_rfl
theorem z9l:Tryz.pinned.checked.prog.stopsHeard=true:=by kernel_rfl
theorem z9f:Tryz.pinned.checked.prog.mayEnter=true:=by kernel_rfl
end Go.Proofs.YthbombjjioojeaaGreatDoor
