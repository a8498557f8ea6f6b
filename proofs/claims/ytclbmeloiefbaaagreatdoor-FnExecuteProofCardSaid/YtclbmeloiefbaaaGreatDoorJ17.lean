/- The tied card of the law FnExecuteProof. -/
import Derived.Test.YtclbmeloiefbaaaGreatDoorJ13
import Derived.Test.YtclbmeloiefbaaaGreatDoorJ14
import Derived.Test.YtclbmeloiefbaaaGreatDoorJ15
import Derived.Test.YtclbmeloiefbaaaGreatDoorJ16
set_option linter.all false
namespace Go.Proofs.YtclbmeloiefbaaaGreatDoor
open Go Go.ChangeShapes Go.WideShapes Go.ChangeAt Go.RowKit Fw
theorem rva_holds:Rows.FnExecuteProofCardSaid :=
 Claim7.holds_tied_plain_at .later [] [.data, .data, .data, .data, .sentinel, .sentinel, .pinned] true (true, "fb847702a1589724f0c76eab250143ac362a1f09c57d02b971c4c9f679146793") true z96 (fun _ h => by cases h) yfz (fun _ h => by cases h) fnExecuteProof_row_tie rfl ⟨rfl, rfl⟩ yfs rfl
  (fun f fn hf hfn=>by
   obtain rfl:f=4:=Option.some.inj (yfl.symm.trans hf) |>.symm
   obtain rfl:fn=Tryz.f4:=(Option.some.inj (Tryz.func4.symm.trans hfn)).symm
   exact ⟨yfp,fun j t ht=>by
    rw [Tryz.params4]at ht
    have hm:t∈[22]:=by simpa using Array.mem_of_getElem? ht
    rw [List.mem_singleton]at hm
    subst hm
    exact yf0⟩)
  yfm
end Go.Proofs.YtclbmeloiefbaaaGreatDoor
