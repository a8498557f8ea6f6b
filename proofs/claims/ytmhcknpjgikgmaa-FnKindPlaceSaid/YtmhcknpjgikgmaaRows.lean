/-
  No cell of these rows narrows 'for every input' (looked for: loops, veiled, ifaces, maps, wideKeys, modest, calm, conditions, laid).
  DERIVED. THE GIVEN ROWS OF THIS SEAT. 10 by the template 'for every input the law returns true; each argument reads behind the call as it read before'; 0 by the template 'total and deterministic' (their statements: YtmhcknpjgikgmaaTotals.lean).
  GIVEN WITH THE SEED: the statements are not yours to turn. If you find one false, say at which input.
  Laid BY PROGRAM, IN A SANDBOX (cutbox-rows.mjs): the forced cells as the released guide's own fill.sh prints them over the translation fd51a5be7e8468e0… (all of the seat's roots in one cut). By AI agents, Wed Nov 11 2026. No macro, syntax, notation, axiom, sorry.
-/
import Derived.Test.YtmhcknpjgikgmaaChecked
import GoSem.Claim
import GoSem.ClaimJoined
import GoSem.ClaimMapViews
import Derived.JoinedTies
import Derived.KernelRfl
namespace Go.Proofs.Ytmhcknpjgikgmaa
/- THE CELL 'sum', in the pinned program and in every row, IS THE sha256 OF THE DUMP (.gsa) THAT YtmhcknpjgikgmaaProg.lean LOADS. Nothing in Lean hashes anything: it is a label: what it is worth is what the hold of that sum in a sandbox is worth. -/
noncomputable def Try.pinned : Pinned := { name := "ytmhcknpjgikgmaa", sum := "fd51a5be7e8468e01b8acc29d8dd687c8e65625e7d0461e4bbce9dac64947e1f", checked := Try.checked }
namespace Rows
def none {H : Type} : Left H := { results := [], args := [] }

/-- 'laws.FnLeft': WHATEVER THE INPUT: true; the input reads as it did. -/
def fnLeftSpec : ChangeSpec := { name := "fnLeft", fn := fun _ => fun
  | [d] => { results := [.lit (.bool true)], args := [d] }
  | _ => none }
def fnLeftRow : OpenClaim := { program := "ytmhcknpjgikgmaa", sum := "fd51a5be7e8468e01b8acc29d8dd687c8e65625e7d0461e4bbce9dac64947e1f", func := "loop.example/floorrooms/laws.FnLeft", spec := "fnLeft", inPlace := ["internal/abi.NoEscape"], unfollowed := true, recurses := true, apart := false }
def FnLeftSaid : Prop := fnLeftRow.holds Try.pinned (OpenSpec.ofChange fnLeftSpec)

/-- ITS FALSE NEIGHBOUR: 'it returns false'. Refute it at one input. -/
def fnLeftWrong : ChangeSpec := { name := "fnLeft", fn := fun _ => fun
  | [d] => { results := [.lit (.bool false)], args := [d] }
  | _ => none }
def FnLeftWrongFalsely : Prop := fnLeftRow.holds Try.pinned (OpenSpec.ofChange fnLeftWrong)

/-- 'laws.FnExactSizePlaces': WHATEVER THE INPUT: true; the input reads as it did. -/
def fnExactSizePlacesSpec : ChangeSpec := { name := "fnExactSizePlaces", fn := fun _ => fun
  | [d1, d2] => { results := [.lit (.bool true)], args := [d1, d2] }
  | _ => none }
def fnExactSizePlacesRow : OpenClaim := { program := "ytmhcknpjgikgmaa", sum := "fd51a5be7e8468e01b8acc29d8dd687c8e65625e7d0461e4bbce9dac64947e1f", func := "loop.example/floorrooms/laws.FnExactSizePlaces", spec := "fnExactSizePlaces", inPlace := ["internal/abi.NoEscape"], unfollowed := true, recurses := true, apart := false }
def FnExactSizePlacesSaid : Prop := fnExactSizePlacesRow.holds Try.pinned (OpenSpec.ofChange fnExactSizePlacesSpec)

/-- ITS FALSE NEIGHBOUR: 'it returns false'. Refute it at one input. -/
def fnExactSizePlacesWrong : ChangeSpec := { name := "fnExactSizePlaces", fn := fun _ => fun
  | [d1, d2] => { results := [.lit (.bool false)], args := [d1, d2] }
  | _ => none }
def FnExactSizePlacesWrongFalsely : Prop := fnExactSizePlacesRow.holds Try.pinned (OpenSpec.ofChange fnExactSizePlacesWrong)

/-- 'laws.FnAbove': WHATEVER THE INPUT: true; the input reads as it did. -/
def fnAboveSpec : ChangeSpec := { name := "fnAbove", fn := fun _ => fun
  | [d] => { results := [.lit (.bool true)], args := [d] }
  | _ => none }
def fnAboveRow : OpenClaim := { program := "ytmhcknpjgikgmaa", sum := "fd51a5be7e8468e01b8acc29d8dd687c8e65625e7d0461e4bbce9dac64947e1f", func := "loop.example/floorrooms/laws.FnAbove", spec := "fnAbove", inPlace := ["internal/abi.NoEscape"], unfollowed := true, recurses := true, apart := false }
def FnAboveSaid : Prop := fnAboveRow.holds Try.pinned (OpenSpec.ofChange fnAboveSpec)

/-- ITS FALSE NEIGHBOUR: 'it returns false'. Refute it at one input. -/
def fnAboveWrong : ChangeSpec := { name := "fnAbove", fn := fun _ => fun
  | [d] => { results := [.lit (.bool false)], args := [d] }
  | _ => none }
def FnAboveWrongFalsely : Prop := fnAboveRow.holds Try.pinned (OpenSpec.ofChange fnAboveWrong)

/-- 'laws.FnKind': WHATEVER THE INPUT: true; the input reads as it did. -/
def fnKindSpec : ChangeSpec := { name := "fnKind", fn := fun _ => fun
  | [d] => { results := [.lit (.bool true)], args := [d] }
  | _ => none }
def fnKindRow : OpenClaim := { program := "ytmhcknpjgikgmaa", sum := "fd51a5be7e8468e01b8acc29d8dd687c8e65625e7d0461e4bbce9dac64947e1f", func := "loop.example/floorrooms/laws.FnKind", spec := "fnKind", inPlace := ["internal/abi.NoEscape"], unfollowed := true, recurses := true, apart := false }
def FnKindSaid : Prop := fnKindRow.holds Try.pinned (OpenSpec.ofChange fnKindSpec)

/-- ITS FALSE NEIGHBOUR: 'it returns false'. Refute it at one input. -/
def fnKindWrong : ChangeSpec := { name := "fnKind", fn := fun _ => fun
  | [d] => { results := [.lit (.bool false)], args := [d] }
  | _ => none }
def FnKindWrongFalsely : Prop := fnKindRow.holds Try.pinned (OpenSpec.ofChange fnKindWrong)

/-- 'laws.FnKindPlace': WHATEVER THE INPUT: true; the input reads as it did. -/
def fnKindPlaceSpec : ChangeSpec := { name := "fnKindPlace", fn := fun _ => fun
  | [d] => { results := [.lit (.bool true)], args := [d] }
  | _ => none }
def fnKindPlaceRow : OpenClaim := { program := "ytmhcknpjgikgmaa", sum := "fd51a5be7e8468e01b8acc29d8dd687c8e65625e7d0461e4bbce9dac64947e1f", func := "loop.example/floorrooms/laws.FnKindPlace", spec := "fnKindPlace", inPlace := ["internal/abi.NoEscape"], unfollowed := true, recurses := true, apart := false }
def FnKindPlaceSaid : Prop := fnKindPlaceRow.holds Try.pinned (OpenSpec.ofChange fnKindPlaceSpec)

/-- ITS FALSE NEIGHBOUR: 'it returns false'. Refute it at one input. -/
def fnKindPlaceWrong : ChangeSpec := { name := "fnKindPlace", fn := fun _ => fun
  | [d] => { results := [.lit (.bool false)], args := [d] }
  | _ => none }
def FnKindPlaceWrongFalsely : Prop := fnKindPlaceRow.holds Try.pinned (OpenSpec.ofChange fnKindPlaceWrong)

/-- 'laws.FnExactSizeSlack': WHATEVER THE INPUT: true; the input reads as it did. -/
def fnExactSizeSlackSpec : ChangeSpec := { name := "fnExactSizeSlack", fn := fun _ => fun
  | [d1, d2] => { results := [.lit (.bool true)], args := [d1, d2] }
  | _ => none }
def fnExactSizeSlackRow : OpenClaim := { program := "ytmhcknpjgikgmaa", sum := "fd51a5be7e8468e01b8acc29d8dd687c8e65625e7d0461e4bbce9dac64947e1f", func := "loop.example/floorrooms/laws.FnExactSizeSlack", spec := "fnExactSizeSlack", inPlace := ["internal/abi.NoEscape"], unfollowed := true, recurses := true, apart := false }
def FnExactSizeSlackSaid : Prop := fnExactSizeSlackRow.holds Try.pinned (OpenSpec.ofChange fnExactSizeSlackSpec)

/-- ITS FALSE NEIGHBOUR: 'it returns false'. Refute it at one input. -/
def fnExactSizeSlackWrong : ChangeSpec := { name := "fnExactSizeSlack", fn := fun _ => fun
  | [d1, d2] => { results := [.lit (.bool false)], args := [d1, d2] }
  | _ => none }
def FnExactSizeSlackWrongFalsely : Prop := fnExactSizeSlackRow.holds Try.pinned (OpenSpec.ofChange fnExactSizeSlackWrong)

/-- 'laws.FnExactShapeTry': WHATEVER THE INPUT: true; the input reads as it did. -/
def fnExactShapeTrySpec : ChangeSpec := { name := "fnExactShapeTry", fn := fun _ => fun
  | [d1, d2, d3] => { results := [.lit (.bool true)], args := [d1, d2, d3] }
  | _ => none }
def fnExactShapeTryRow : OpenClaim := { program := "ytmhcknpjgikgmaa", sum := "fd51a5be7e8468e01b8acc29d8dd687c8e65625e7d0461e4bbce9dac64947e1f", func := "loop.example/floorrooms/laws.FnExactShapeTry", spec := "fnExactShapeTry", inPlace := ["internal/abi.NoEscape"], unfollowed := true, recurses := true, apart := false }
def FnExactShapeTrySaid : Prop := fnExactShapeTryRow.holds Try.pinned (OpenSpec.ofChange fnExactShapeTrySpec)

/-- ITS FALSE NEIGHBOUR: 'it returns false'. Refute it at one input. -/
def fnExactShapeTryWrong : ChangeSpec := { name := "fnExactShapeTry", fn := fun _ => fun
  | [d1, d2, d3] => { results := [.lit (.bool false)], args := [d1, d2, d3] }
  | _ => none }
def FnExactShapeTryWrongFalsely : Prop := fnExactShapeTryRow.holds Try.pinned (OpenSpec.ofChange fnExactShapeTryWrong)

/-- 'laws.FnExactShapeTurned': WHATEVER THE INPUT: true; the input reads as it did. -/
def fnExactShapeTurnedSpec : ChangeSpec := { name := "fnExactShapeTurned", fn := fun _ => fun
  | [d1, d2, d3] => { results := [.lit (.bool true)], args := [d1, d2, d3] }
  | _ => none }
def fnExactShapeTurnedRow : OpenClaim := { program := "ytmhcknpjgikgmaa", sum := "fd51a5be7e8468e01b8acc29d8dd687c8e65625e7d0461e4bbce9dac64947e1f", func := "loop.example/floorrooms/laws.FnExactShapeTurned", spec := "fnExactShapeTurned", inPlace := ["internal/abi.NoEscape"], unfollowed := true, recurses := true, apart := false }
def FnExactShapeTurnedSaid : Prop := fnExactShapeTurnedRow.holds Try.pinned (OpenSpec.ofChange fnExactShapeTurnedSpec)

/-- ITS FALSE NEIGHBOUR: 'it returns false'. Refute it at one input. -/
def fnExactShapeTurnedWrong : ChangeSpec := { name := "fnExactShapeTurned", fn := fun _ => fun
  | [d1, d2, d3] => { results := [.lit (.bool false)], args := [d1, d2, d3] }
  | _ => none }
def FnExactShapeTurnedWrongFalsely : Prop := fnExactShapeTurnedRow.holds Try.pinned (OpenSpec.ofChange fnExactShapeTurnedWrong)

/-- 'laws.FnExactShapeSquare': WHATEVER THE INPUT: true; the input reads as it did. -/
def fnExactShapeSquareSpec : ChangeSpec := { name := "fnExactShapeSquare", fn := fun _ => fun
  | [d1, d2, d3] => { results := [.lit (.bool true)], args := [d1, d2, d3] }
  | _ => none }
def fnExactShapeSquareRow : OpenClaim := { program := "ytmhcknpjgikgmaa", sum := "fd51a5be7e8468e01b8acc29d8dd687c8e65625e7d0461e4bbce9dac64947e1f", func := "loop.example/floorrooms/laws.FnExactShapeSquare", spec := "fnExactShapeSquare", inPlace := ["internal/abi.NoEscape"], unfollowed := true, recurses := true, apart := false }
def FnExactShapeSquareSaid : Prop := fnExactShapeSquareRow.holds Try.pinned (OpenSpec.ofChange fnExactShapeSquareSpec)

/-- ITS FALSE NEIGHBOUR: 'it returns false'. Refute it at one input. -/
def fnExactShapeSquareWrong : ChangeSpec := { name := "fnExactShapeSquare", fn := fun _ => fun
  | [d1, d2, d3] => { results := [.lit (.bool false)], args := [d1, d2, d3] }
  | _ => none }
def FnExactShapeSquareWrongFalsely : Prop := fnExactShapeSquareRow.holds Try.pinned (OpenSpec.ofChange fnExactShapeSquareWrong)

/-- 'laws.FnExactOrderFirst': WHATEVER THE INPUT: true; the input reads as it did. -/
def fnExactOrderFirstSpec : ChangeSpec := { name := "fnExactOrderFirst", fn := fun _ => fun
  | [d] => { results := [.lit (.bool true)], args := [d] }
  | _ => none }
def fnExactOrderFirstRow : OpenClaim := { program := "ytmhcknpjgikgmaa", sum := "fd51a5be7e8468e01b8acc29d8dd687c8e65625e7d0461e4bbce9dac64947e1f", func := "loop.example/floorrooms/laws.FnExactOrderFirst", spec := "fnExactOrderFirst", inPlace := ["internal/abi.NoEscape"], unfollowed := true, recurses := true, apart := false }
def FnExactOrderFirstSaid : Prop := fnExactOrderFirstRow.holds Try.pinned (OpenSpec.ofChange fnExactOrderFirstSpec)

/-- ITS FALSE NEIGHBOUR: 'it returns false'. Refute it at one input. -/
def fnExactOrderFirstWrong : ChangeSpec := { name := "fnExactOrderFirst", fn := fun _ => fun
  | [d] => { results := [.lit (.bool false)], args := [d] }
  | _ => none }
def FnExactOrderFirstWrongFalsely : Prop := fnExactOrderFirstRow.holds Try.pinned (OpenSpec.ofChange fnExactOrderFirstWrong)

/- THE SECOND FORM. 'bulk': how many values and letters a reading holds, each counted each time it is reached (what is shared counts as often as it is met; a slice's spare places count too). A statement '..UptoSaid' is the law's where the arguments, and the package variables that the reading takes, are together of bulk at most 1048576: NARROWER than '..Said'. Prove '..Said' where nothing that the law and all that it calls make is longer than what came in: it says more and counts as full. Else prove '..UptoSaid'. A law counts once. -/
mutual
def uptoBulk {H : Type} : DataW H → Nat
  | .lit (.string bytes) => bytes.length + 1
  | .lit _ => 1
  | .nil => 1
  | .ptr d => uptoBulk d + 1
  | .slice elems spare => uptoBulkAll elems + uptoBulkAll spare + 1
  | .agg parts => uptoBulkAll parts + 1
  | .iface _ d => uptoBulk d + 1
  | .map entries => uptoBulkEntries entries + 1
  | .held _ => 1
def uptoBulkAll {H : Type} : List (DataW H) → Nat
  | [] => 0
  | d :: r => uptoBulk d + uptoBulkAll r
def uptoBulkEntries {H : Type} : List (Lit × DataW H) → Nat
  | [] => 0
  | x :: r => uptoBulkEntry x + uptoBulkEntries r
def uptoBulkEntry {H : Type} : Lit × DataW H → Nat
  | (.string bytes, d) => bytes.length + uptoBulk d + 1
  | (_, d) => uptoBulk d + 1
 end
def uptoSmall : (H : Type) → List (DataW H) → Bool := fun _ ds => decide (uptoBulkAll ds ≤ 1048576)
def OpenSpec.upto (s : _root_.Go.ChangeSpec) : _root_.Go.OpenSpec := { _root_.Go.OpenSpec.ofChange s with cond := some uptoSmall }

/-- 'laws.FnLeft', WHERE WHAT IT READS IS OF BULK AT MOST 1048576: true; the input reads as it did. -/
def fnLeftUptoRow : OpenClaim := { program := "ytmhcknpjgikgmaa", sum := "fd51a5be7e8468e01b8acc29d8dd687c8e65625e7d0461e4bbce9dac64947e1f", func := "loop.example/floorrooms/laws.FnLeft", spec := "fnLeft", inPlace := ["internal/abi.NoEscape"], unfollowed := true, recurses := true, apart := false, narrowed := true }
def FnLeftUptoSaid : Prop := fnLeftUptoRow.holds Try.pinned (OpenSpec.upto fnLeftSpec)

/-- 'laws.FnExactSizePlaces', WHERE WHAT IT READS IS OF BULK AT MOST 1048576: true; the input reads as it did. -/
def fnExactSizePlacesUptoRow : OpenClaim := { program := "ytmhcknpjgikgmaa", sum := "fd51a5be7e8468e01b8acc29d8dd687c8e65625e7d0461e4bbce9dac64947e1f", func := "loop.example/floorrooms/laws.FnExactSizePlaces", spec := "fnExactSizePlaces", inPlace := ["internal/abi.NoEscape"], unfollowed := true, recurses := true, apart := false, narrowed := true }
def FnExactSizePlacesUptoSaid : Prop := fnExactSizePlacesUptoRow.holds Try.pinned (OpenSpec.upto fnExactSizePlacesSpec)

/-- 'laws.FnAbove', WHERE WHAT IT READS IS OF BULK AT MOST 1048576: true; the input reads as it did. -/
def fnAboveUptoRow : OpenClaim := { program := "ytmhcknpjgikgmaa", sum := "fd51a5be7e8468e01b8acc29d8dd687c8e65625e7d0461e4bbce9dac64947e1f", func := "loop.example/floorrooms/laws.FnAbove", spec := "fnAbove", inPlace := ["internal/abi.NoEscape"], unfollowed := true, recurses := true, apart := false, narrowed := true }
def FnAboveUptoSaid : Prop := fnAboveUptoRow.holds Try.pinned (OpenSpec.upto fnAboveSpec)

/-- 'laws.FnKind', WHERE WHAT IT READS IS OF BULK AT MOST 1048576: true; the input reads as it did. -/
def fnKindUptoRow : OpenClaim := { program := "ytmhcknpjgikgmaa", sum := "fd51a5be7e8468e01b8acc29d8dd687c8e65625e7d0461e4bbce9dac64947e1f", func := "loop.example/floorrooms/laws.FnKind", spec := "fnKind", inPlace := ["internal/abi.NoEscape"], unfollowed := true, recurses := true, apart := false, narrowed := true }
def FnKindUptoSaid : Prop := fnKindUptoRow.holds Try.pinned (OpenSpec.upto fnKindSpec)

/-- 'laws.FnKindPlace', WHERE WHAT IT READS IS OF BULK AT MOST 1048576: true; the input reads as it did. -/
def fnKindPlaceUptoRow : OpenClaim := { program := "ytmhcknpjgikgmaa", sum := "fd51a5be7e8468e01b8acc29d8dd687c8e65625e7d0461e4bbce9dac64947e1f", func := "loop.example/floorrooms/laws.FnKindPlace", spec := "fnKindPlace", inPlace := ["internal/abi.NoEscape"], unfollowed := true, recurses := true, apart := false, narrowed := true }
def FnKindPlaceUptoSaid : Prop := fnKindPlaceUptoRow.holds Try.pinned (OpenSpec.upto fnKindPlaceSpec)

/-- 'laws.FnExactSizeSlack', WHERE WHAT IT READS IS OF BULK AT MOST 1048576: true; the input reads as it did. -/
def fnExactSizeSlackUptoRow : OpenClaim := { program := "ytmhcknpjgikgmaa", sum := "fd51a5be7e8468e01b8acc29d8dd687c8e65625e7d0461e4bbce9dac64947e1f", func := "loop.example/floorrooms/laws.FnExactSizeSlack", spec := "fnExactSizeSlack", inPlace := ["internal/abi.NoEscape"], unfollowed := true, recurses := true, apart := false, narrowed := true }
def FnExactSizeSlackUptoSaid : Prop := fnExactSizeSlackUptoRow.holds Try.pinned (OpenSpec.upto fnExactSizeSlackSpec)

/-- 'laws.FnExactShapeTry', WHERE WHAT IT READS IS OF BULK AT MOST 1048576: true; the input reads as it did. -/
def fnExactShapeTryUptoRow : OpenClaim := { program := "ytmhcknpjgikgmaa", sum := "fd51a5be7e8468e01b8acc29d8dd687c8e65625e7d0461e4bbce9dac64947e1f", func := "loop.example/floorrooms/laws.FnExactShapeTry", spec := "fnExactShapeTry", inPlace := ["internal/abi.NoEscape"], unfollowed := true, recurses := true, apart := false, narrowed := true }
def FnExactShapeTryUptoSaid : Prop := fnExactShapeTryUptoRow.holds Try.pinned (OpenSpec.upto fnExactShapeTrySpec)

/-- 'laws.FnExactShapeTurned', WHERE WHAT IT READS IS OF BULK AT MOST 1048576: true; the input reads as it did. -/
def fnExactShapeTurnedUptoRow : OpenClaim := { program := "ytmhcknpjgikgmaa", sum := "fd51a5be7e8468e01b8acc29d8dd687c8e65625e7d0461e4bbce9dac64947e1f", func := "loop.example/floorrooms/laws.FnExactShapeTurned", spec := "fnExactShapeTurned", inPlace := ["internal/abi.NoEscape"], unfollowed := true, recurses := true, apart := false, narrowed := true }
def FnExactShapeTurnedUptoSaid : Prop := fnExactShapeTurnedUptoRow.holds Try.pinned (OpenSpec.upto fnExactShapeTurnedSpec)

/-- 'laws.FnExactShapeSquare', WHERE WHAT IT READS IS OF BULK AT MOST 1048576: true; the input reads as it did. -/
def fnExactShapeSquareUptoRow : OpenClaim := { program := "ytmhcknpjgikgmaa", sum := "fd51a5be7e8468e01b8acc29d8dd687c8e65625e7d0461e4bbce9dac64947e1f", func := "loop.example/floorrooms/laws.FnExactShapeSquare", spec := "fnExactShapeSquare", inPlace := ["internal/abi.NoEscape"], unfollowed := true, recurses := true, apart := false, narrowed := true }
def FnExactShapeSquareUptoSaid : Prop := fnExactShapeSquareUptoRow.holds Try.pinned (OpenSpec.upto fnExactShapeSquareSpec)

/-- 'laws.FnExactOrderFirst', WHERE WHAT IT READS IS OF BULK AT MOST 1048576: true; the input reads as it did. -/
def fnExactOrderFirstUptoRow : OpenClaim := { program := "ytmhcknpjgikgmaa", sum := "fd51a5be7e8468e01b8acc29d8dd687c8e65625e7d0461e4bbce9dac64947e1f", func := "loop.example/floorrooms/laws.FnExactOrderFirst", spec := "fnExactOrderFirst", inPlace := ["internal/abi.NoEscape"], unfollowed := true, recurses := true, apart := false, narrowed := true }
def FnExactOrderFirstUptoSaid : Prop := fnExactOrderFirstUptoRow.holds Try.pinned (OpenSpec.upto fnExactOrderFirstSpec)

end Rows
end Go.Proofs.Ytmhcknpjgikgmaa
