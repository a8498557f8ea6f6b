/- The tied card of the law FnExecuteCut. -/
import Derived.Test.YtclbmeloiefbaaaGreatDoorJ13
import Derived.Test.YtclbmeloiefbaaaGreatDoorJ14
import Derived.Test.YtclbmeloiefbaaaGreatDoorJ15
import Derived.Test.YtclbmeloiefbaaaGreatDoorJ16
set_option linter.all false
namespace Go.Proofs.YtclbmeloiefbaaaGreatDoor
open Go Go.ChangeShapes Go.WideShapes Go.ChangeAt Go.RowKit Fw
theorem rta_holds:Rows.FnExecuteCutCardSaid :=
 Claim7.holds_tied_plain_at .later [] [.data, .data, .data, .data, .sentinel, .sentinel, .pinned] true (true, "fb847702a1589724f0c76eab250143ac362a1f09c57d02b971c4c9f679146793") true z84 (fun _ h => by cases h) yew (fun _ h => by cases h) fnExecuteCut_row_tie rfl ⟨rfl, rfl⟩ yeo rfl
  (fun f fn hf hfn=>by
   obtain rfl:f=3:=Option.some.inj (yeh.symm.trans hf) |>.symm
   obtain rfl:fn=Tryz.f3:=(Option.some.inj (Tryz.func3.symm.trans hfn)).symm
   exact ⟨yel,fun j t ht=>by
    rw [Tryz.params3]at ht
    have hm:t∈[22]:=by simpa using Array.mem_of_getElem? ht
    rw [List.mem_singleton]at hm
    subst hm
    exact yex⟩)
  yei
end Go.Proofs.YtclbmeloiefbaaaGreatDoor
