/- Parts of the framework and of the proof: Facts of the card of FnExecuteProof. -/
import Derived.Test.YtclbmeloiefbaaaGreatDoorJ15
import Derived.Test.YtclbmeloiefbaaaGreatDoorRows
import Derived.SevenTiedAt
import Derived.KernelRfl
set_option linter.all false
namespace Go.Proofs.YtclbmeloiefbaaaGreatDoor
open Go
set_option maxRecDepth 100000
theorem yfz:Rows.fnExecuteProofRow.wfByText (OpenSpec.ofChange Rows.fnExecuteProofSpec)=true:=by kernel_rfl
theorem yfs : Tryz.pinned.checked.prog.mainIs = some ((true, "fb847702a1589724f0c76eab250143ac362a1f09c57d02b971c4c9f679146793").1, ((true, "fb847702a1589724f0c76eab250143ac362a1f09c57d02b971c4c9f679146793") : Bool × String).2.toList) := by kernel_rfl
theorem yfl:Tryz.pinned.checked.prog.funcNamed Rows.fnExecuteProofRow.func=some 4:=by kernel_rfl
theorem yf0:Tryz.pinned.checked.prog.wantsStandIn 22=false:=by kernel_rfl
end Go.Proofs.YtclbmeloiefbaaaGreatDoor
