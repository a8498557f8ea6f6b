/- Parts of the framework and of the proof: The facts of the row of FnExecuteProof. -/
import Derived.Test.YtclbmeloiefbaaaGreatDoorJ7
import Derived.Test.YtclbmeloiefbaaaGreatDoorJ8
import Derived.Test.YtclbmeloiefbaaaGreatDoorJ9
import Derived.Test.YtclbmeloiefbaaaGreatDoorJ10
import Derived.Test.YtclbmeloiefbaaaGreatDoorJ11
set_option linter.all false
namespace Go.Proofs.YtclbmeloiefbaaaGreatDoor
open Go
set_option maxRecDepth 100000
theorem yer:joinedFacts Tryz.pinned.checked.prog 4 Tryz.f4 Rows.fnExecuteProofSpec Rows.fnExecuteProofRow=true:=by
 unfold joinedFacts
 rw [yfn,yfy,yfw,yfu,yfq,yft,yfv,yfo,yfx,yfr]
 kernel_rfl
end Go.Proofs.YtclbmeloiefbaaaGreatDoor
