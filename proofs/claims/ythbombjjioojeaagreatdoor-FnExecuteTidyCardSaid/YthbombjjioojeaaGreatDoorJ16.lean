/- The tied card of the law FnExecuteTidy. -/
import Derived.Test.YthbombjjioojeaaGreatDoorJ12
import Derived.Test.YthbombjjioojeaaGreatDoorJ13
import Derived.Test.YthbombjjioojeaaGreatDoorJ14
import Derived.Test.YthbombjjioojeaaGreatDoorJ15
set_option linter.all false
namespace Go.Proofs.YthbombjjioojeaaGreatDoor
open Go Go.ChangeShapes Go.WideShapes Go.ChangeAt Go.RowKit Fw
theorem rpa_holds:Rows.FnExecuteTidyCardSaid :=
 Claim7.holds_tied_plain_at .later [] [.data, .data, .data, .data, .sentinel, .sentinel, .pinned] true (true, "35bf50c9a5a57f34ae6e1e86276087dfefe32be33a080879abcf6bccd6732327") true z3n (fun _ h => by cases h) z9n (fun _ h => by cases h) fnExecuteTidy_row_tie rfl ⟨rfl, rfl⟩ z9g rfl
  (fun f fn hf hfn=>by
   obtain rfl:f=3:=Option.some.inj (z89.symm.trans hf) |>.symm
   obtain rfl:fn=Tryz.f3:=(Option.some.inj (Tryz.func3.symm.trans hfn)).symm
   exact ⟨z9d,fun j t ht=>by
    rw [Tryz.params3]at ht
    have hm:t∈[22]:=by simpa using Array.mem_of_getElem? ht
    rw [List.mem_singleton]at hm
    subst hm
    exact z9o⟩)
  z9a
end Go.Proofs.YthbombjjioojeaaGreatDoor
