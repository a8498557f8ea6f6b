/- Parts of the framework and of the proof: Facts of the row of FnExecuteProof, of the whole program. -/
import Derived.Test.YtclbmeloiefbaaaGreatDoorJ10
import Derived.Test.YtclbmeloiefbaaaGreatDoorRows
import Derived.JoinedOf
import Derived.KernelRfl
set_option linter.all false
namespace Go.Proofs.YtclbmeloiefbaaaGreatDoor
open Go
set_option maxRecDepth 100000
theorem yfq:laidOutB Tryz.pinned.checked.prog=true:=by kernel_rfl
theorem yft:mapsRowed Tryz.pinned.checked.prog=true:=by kernel_rfl
theorem yfv:(Rows.fnExecuteProofRow.plainKeys == Tryz.pinned.checked.prog.plainKeys)=true:=by kernel_rfl
theorem yfo:(Rows.fnExecuteProofRow.lifted == Tryz.pinned.checked.prog.liftsFinal)=true:=by kernel_rfl
theorem yfx:Tryz.pinned.checked.prog.stopsHeard=true:=by kernel_rfl
theorem yfr:Tryz.pinned.checked.prog.mayEnter=true:=by kernel_rfl
end Go.Proofs.YtclbmeloiefbaaaGreatDoor
