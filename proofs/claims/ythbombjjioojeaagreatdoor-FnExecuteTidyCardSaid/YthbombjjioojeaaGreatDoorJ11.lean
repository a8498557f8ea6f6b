/- Parts of the framework and of the proof: The facts of the row of FnExecuteTidy. -/
import Derived.Test.YthbombjjioojeaaGreatDoorJ6
import Derived.Test.YthbombjjioojeaaGreatDoorJ7
import Derived.Test.YthbombjjioojeaaGreatDoorJ8
import Derived.Test.YthbombjjioojeaaGreatDoorJ9
import Derived.Test.YthbombjjioojeaaGreatDoorJ10
set_option linter.all false
namespace Go.Proofs.YthbombjjioojeaaGreatDoor
open Go
set_option maxRecDepth 100000
theorem z79:joinedFacts Tryz.pinned.checked.prog 3 Tryz.f3 Rows.fnExecuteTidySpec Rows.fnExecuteTidyRow=true:=by
 unfold joinedFacts
 rw [z9b,z9m,z9k,z9i,z9e,z9h,z9j,z9c,z9l,z9f]
 kernel_rfl
end Go.Proofs.YthbombjjioojeaaGreatDoor
