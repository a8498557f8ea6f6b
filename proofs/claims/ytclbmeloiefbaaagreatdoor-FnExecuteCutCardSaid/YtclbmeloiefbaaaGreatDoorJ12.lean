/- Parts of the framework and of the proof: The facts of the row of FnExecuteCut. -/
import Derived.Test.YtclbmeloiefbaaaGreatDoorJ7
import Derived.Test.YtclbmeloiefbaaaGreatDoorJ8
import Derived.Test.YtclbmeloiefbaaaGreatDoorJ9
import Derived.Test.YtclbmeloiefbaaaGreatDoorJ10
import Derived.Test.YtclbmeloiefbaaaGreatDoorJ11
set_option linter.all false
namespace Go.Proofs.YtclbmeloiefbaaaGreatDoor
open Go
set_option maxRecDepth 100000
theorem ydo:joinedFacts Tryz.pinned.checked.prog 3 Tryz.f3 Rows.fnExecuteCutSpec Rows.fnExecuteCutRow=true:=by
 unfold joinedFacts
 rw [yej,yev,yet,yeq,yem,yep,yer,yek,yeu,yen]
 kernel_rfl
end Go.Proofs.YtclbmeloiefbaaaGreatDoor
