/-
  No cell of these rows narrows 'for every input' (looked for: loops, veiled, ifaces, maps, wideKeys, modest, calm, conditions, laid).
  DERIVED. THE GIVEN ROWS OF THIS SEAT. 12 by the template 'for every input the law returns true; each argument reads behind the call as it read before'; 0 by the template 'total and deterministic' (their statements: YtcglmbijpjhbmaaGreatTotals.lean).
  GIVEN WITH THE SEED: the statements are not yours to turn. If you find one false, say at which input.
  Laid BY PROGRAM, IN A SANDBOX (cutbox-rows.mjs): the forced cells as the released guide's own fill.sh prints them over the translation c57617345bc9ac2a… (all of the seat's roots in one cut). By AI agents, Wed Nov 11 2026. No macro, syntax, notation, axiom, sorry.
-/
import Derived.Test.YtcglmbijpjhbmaaGreatChecked
import GoSem.Claim
import GoSem.ClaimJoined
import GoSem.ClaimMapViews
import Derived.JoinedTies
import Derived.KernelRfl
namespace Go.Proofs.YtcglmbijpjhbmaaGreat
/- THE CELL 'sum', in the pinned program and in every row, IS THE sha256 OF THE DUMP (.gsa) THAT YtcglmbijpjhbmaaGreatProg.lean LOADS. Nothing in Lean hashes anything: it is a label: what it is worth is what the hold of that sum in a sandbox is worth. -/
noncomputable def Tryz.pinned : Pinned := { name := "ytcglmbijpjhbmaagreat", sum := "c57617345bc9ac2a22eea0073882261cd35b43aecee3dea8cbacab1060107039", checked := Tryz.checked }
namespace Rows
def none {H : Type} : Left H := { results := [], args := [] }

/-- 'laws.FnSizeArea': WHATEVER THE INPUT: true; the input reads as it did. -/
def fnSizeAreaSpec : ChangeSpec := { name := "fnSizeArea", fn := fun _ => fun
  | [d] => { results := [.lit (.bool true)], args := [d] }
  | _ => none }
def fnSizeAreaRow : OpenClaim := { program := "ytcglmbijpjhbmaagreat", sum := "c57617345bc9ac2a22eea0073882261cd35b43aecee3dea8cbacab1060107039", func := "loop.example/floorrooms/laws.FnSizeArea", spec := "fnSizeArea", inPlace := ["internal/abi.NoEscape"], unfollowed := true, recurses := true, apart := false }
def FnSizeAreaSaid : Prop := fnSizeAreaRow.holds Tryz.pinned (OpenSpec.ofChange fnSizeAreaSpec)

/-- ITS FALSE NEIGHBOUR: 'it returns false'. Refute it at one input. -/
def fnSizeAreaWrong : ChangeSpec := { name := "fnSizeArea", fn := fun _ => fun
  | [d] => { results := [.lit (.bool false)], args := [d] }
  | _ => none }
def FnSizeAreaWrongFalsely : Prop := fnSizeAreaRow.holds Tryz.pinned (OpenSpec.ofChange fnSizeAreaWrong)

/-- 'laws.FnPlaces': WHATEVER THE INPUT: true; the input reads as it did. -/
def fnPlacesSpec : ChangeSpec := { name := "fnPlaces", fn := fun _ => fun
  | [d] => { results := [.lit (.bool true)], args := [d] }
  | _ => none }
def fnPlacesRow : OpenClaim := { program := "ytcglmbijpjhbmaagreat", sum := "c57617345bc9ac2a22eea0073882261cd35b43aecee3dea8cbacab1060107039", func := "loop.example/floorrooms/laws.FnPlaces", spec := "fnPlaces", inPlace := ["internal/abi.NoEscape"], unfollowed := true, recurses := true, apart := false }
def FnPlacesSaid : Prop := fnPlacesRow.holds Tryz.pinned (OpenSpec.ofChange fnPlacesSpec)

/-- ITS FALSE NEIGHBOUR: 'it returns false'. Refute it at one input. -/
def fnPlacesWrong : ChangeSpec := { name := "fnPlaces", fn := fun _ => fun
  | [d] => { results := [.lit (.bool false)], args := [d] }
  | _ => none }
def FnPlacesWrongFalsely : Prop := fnPlacesRow.holds Tryz.pinned (OpenSpec.ofChange fnPlacesWrong)

/-- 'laws.FnSlack': WHATEVER THE INPUT: true; the input reads as it did. -/
def fnSlackSpec : ChangeSpec := { name := "fnSlack", fn := fun _ => fun
  | [d] => { results := [.lit (.bool true)], args := [d] }
  | _ => none }
def fnSlackRow : OpenClaim := { program := "ytcglmbijpjhbmaagreat", sum := "c57617345bc9ac2a22eea0073882261cd35b43aecee3dea8cbacab1060107039", func := "loop.example/floorrooms/laws.FnSlack", spec := "fnSlack", inPlace := ["internal/abi.NoEscape"], unfollowed := true, recurses := true, apart := false }
def FnSlackSaid : Prop := fnSlackRow.holds Tryz.pinned (OpenSpec.ofChange fnSlackSpec)

/-- ITS FALSE NEIGHBOUR: 'it returns false'. Refute it at one input. -/
def fnSlackWrong : ChangeSpec := { name := "fnSlack", fn := fun _ => fun
  | [d] => { results := [.lit (.bool false)], args := [d] }
  | _ => none }
def FnSlackWrongFalsely : Prop := fnSlackRow.holds Tryz.pinned (OpenSpec.ofChange fnSlackWrong)

/-- 'laws.FnWideNeeds': WHATEVER THE INPUT: true; the input reads as it did. -/
def fnWideNeedsSpec : ChangeSpec := { name := "fnWideNeeds", fn := fun _ => fun
  | [d] => { results := [.lit (.bool true)], args := [d] }
  | _ => none }
def fnWideNeedsRow : OpenClaim := { program := "ytcglmbijpjhbmaagreat", sum := "c57617345bc9ac2a22eea0073882261cd35b43aecee3dea8cbacab1060107039", func := "loop.example/floorrooms/laws.FnWideNeeds", spec := "fnWideNeeds", inPlace := ["internal/abi.NoEscape"], unfollowed := true, recurses := true, apart := false }
def FnWideNeedsSaid : Prop := fnWideNeedsRow.holds Tryz.pinned (OpenSpec.ofChange fnWideNeedsSpec)

/-- ITS FALSE NEIGHBOUR: 'it returns false'. Refute it at one input. -/
def fnWideNeedsWrong : ChangeSpec := { name := "fnWideNeeds", fn := fun _ => fun
  | [d] => { results := [.lit (.bool false)], args := [d] }
  | _ => none }
def FnWideNeedsWrongFalsely : Prop := fnWideNeedsRow.holds Tryz.pinned (OpenSpec.ofChange fnWideNeedsWrong)

/-- 'laws.FnTurned': WHATEVER THE INPUT: true; the input reads as it did. -/
def fnTurnedSpec : ChangeSpec := { name := "fnTurned", fn := fun _ => fun
  | [d] => { results := [.lit (.bool true)], args := [d] }
  | _ => none }
def fnTurnedRow : OpenClaim := { program := "ytcglmbijpjhbmaagreat", sum := "c57617345bc9ac2a22eea0073882261cd35b43aecee3dea8cbacab1060107039", func := "loop.example/floorrooms/laws.FnTurned", spec := "fnTurned", inPlace := ["internal/abi.NoEscape"], unfollowed := true, recurses := true, apart := false }
def FnTurnedSaid : Prop := fnTurnedRow.holds Tryz.pinned (OpenSpec.ofChange fnTurnedSpec)

/-- ITS FALSE NEIGHBOUR: 'it returns false'. Refute it at one input. -/
def fnTurnedWrong : ChangeSpec := { name := "fnTurned", fn := fun _ => fun
  | [d] => { results := [.lit (.bool false)], args := [d] }
  | _ => none }
def FnTurnedWrongFalsely : Prop := fnTurnedRow.holds Tryz.pinned (OpenSpec.ofChange fnTurnedWrong)

/-- 'laws.FnExactOrderSame': WHATEVER THE INPUT: true; the input reads as it did. -/
def fnExactOrderSameSpec : ChangeSpec := { name := "fnExactOrderSame", fn := fun _ => fun
  | [d1, d2] => { results := [.lit (.bool true)], args := [d1, d2] }
  | _ => none }
def fnExactOrderSameRow : OpenClaim := { program := "ytcglmbijpjhbmaagreat", sum := "c57617345bc9ac2a22eea0073882261cd35b43aecee3dea8cbacab1060107039", func := "loop.example/floorrooms/laws.FnExactOrderSame", spec := "fnExactOrderSame", inPlace := ["internal/abi.NoEscape"], unfollowed := true, recurses := true, apart := false }
def FnExactOrderSameSaid : Prop := fnExactOrderSameRow.holds Tryz.pinned (OpenSpec.ofChange fnExactOrderSameSpec)

/-- ITS FALSE NEIGHBOUR: 'it returns false'. Refute it at one input. -/
def fnExactOrderSameWrong : ChangeSpec := { name := "fnExactOrderSame", fn := fun _ => fun
  | [d1, d2] => { results := [.lit (.bool false)], args := [d1, d2] }
  | _ => none }
def FnExactOrderSameWrongFalsely : Prop := fnExactOrderSameRow.holds Tryz.pinned (OpenSpec.ofChange fnExactOrderSameWrong)

/-- 'laws.FnExactOrderSecond': WHATEVER THE INPUT: true; the input reads as it did. -/
def fnExactOrderSecondSpec : ChangeSpec := { name := "fnExactOrderSecond", fn := fun _ => fun
  | [d] => { results := [.lit (.bool true)], args := [d] }
  | _ => none }
def fnExactOrderSecondRow : OpenClaim := { program := "ytcglmbijpjhbmaagreat", sum := "c57617345bc9ac2a22eea0073882261cd35b43aecee3dea8cbacab1060107039", func := "loop.example/floorrooms/laws.FnExactOrderSecond", spec := "fnExactOrderSecond", inPlace := ["internal/abi.NoEscape"], unfollowed := true, recurses := true, apart := false }
def FnExactOrderSecondSaid : Prop := fnExactOrderSecondRow.holds Tryz.pinned (OpenSpec.ofChange fnExactOrderSecondSpec)

/-- ITS FALSE NEIGHBOUR: 'it returns false'. Refute it at one input. -/
def fnExactOrderSecondWrong : ChangeSpec := { name := "fnExactOrderSecond", fn := fun _ => fun
  | [d] => { results := [.lit (.bool false)], args := [d] }
  | _ => none }
def FnExactOrderSecondWrongFalsely : Prop := fnExactOrderSecondRow.holds Tryz.pinned (OpenSpec.ofChange fnExactOrderSecondWrong)

/-- 'laws.FnExactOrderPerm': WHATEVER THE INPUT: true; the input reads as it did. -/
def fnExactOrderPermSpec : ChangeSpec := { name := "fnExactOrderPerm", fn := fun _ => fun
  | [d] => { results := [.lit (.bool true)], args := [d] }
  | _ => none }
def fnExactOrderPermRow : OpenClaim := { program := "ytcglmbijpjhbmaagreat", sum := "c57617345bc9ac2a22eea0073882261cd35b43aecee3dea8cbacab1060107039", func := "loop.example/floorrooms/laws.FnExactOrderPerm", spec := "fnExactOrderPerm", inPlace := ["internal/abi.NoEscape"], unfollowed := true, recurses := true, apart := false }
def FnExactOrderPermSaid : Prop := fnExactOrderPermRow.holds Tryz.pinned (OpenSpec.ofChange fnExactOrderPermSpec)

/-- ITS FALSE NEIGHBOUR: 'it returns false'. Refute it at one input. -/
def fnExactOrderPermWrong : ChangeSpec := { name := "fnExactOrderPerm", fn := fun _ => fun
  | [d] => { results := [.lit (.bool false)], args := [d] }
  | _ => none }
def FnExactOrderPermWrongFalsely : Prop := fnExactOrderPermRow.holds Tryz.pinned (OpenSpec.ofChange fnExactOrderPermWrong)

/-- 'laws.FnKindOrders': WHATEVER THE INPUT: true; the input reads as it did. -/
def fnKindOrdersSpec : ChangeSpec := { name := "fnKindOrders", fn := fun _ => fun
  | [d] => { results := [.lit (.bool true)], args := [d] }
  | _ => none }
def fnKindOrdersRow : OpenClaim := { program := "ytcglmbijpjhbmaagreat", sum := "c57617345bc9ac2a22eea0073882261cd35b43aecee3dea8cbacab1060107039", func := "loop.example/floorrooms/laws.FnKindOrders", spec := "fnKindOrders", inPlace := ["internal/abi.NoEscape"], unfollowed := true, recurses := true, apart := false }
def FnKindOrdersSaid : Prop := fnKindOrdersRow.holds Tryz.pinned (OpenSpec.ofChange fnKindOrdersSpec)

/-- ITS FALSE NEIGHBOUR: 'it returns false'. Refute it at one input. -/
def fnKindOrdersWrong : ChangeSpec := { name := "fnKindOrders", fn := fun _ => fun
  | [d] => { results := [.lit (.bool false)], args := [d] }
  | _ => none }
def FnKindOrdersWrongFalsely : Prop := fnKindOrdersRow.holds Tryz.pinned (OpenSpec.ofChange fnKindOrdersWrong)

/-- 'laws.FnSecond': WHATEVER THE INPUT: true; the input reads as it did. -/
def fnSecondSpec : ChangeSpec := { name := "fnSecond", fn := fun _ => fun
  | [d] => { results := [.lit (.bool true)], args := [d] }
  | _ => none }
def fnSecondRow : OpenClaim := { program := "ytcglmbijpjhbmaagreat", sum := "c57617345bc9ac2a22eea0073882261cd35b43aecee3dea8cbacab1060107039", func := "loop.example/floorrooms/laws.FnSecond", spec := "fnSecond", inPlace := ["internal/abi.NoEscape"], unfollowed := true, recurses := true, apart := false }
def FnSecondSaid : Prop := fnSecondRow.holds Tryz.pinned (OpenSpec.ofChange fnSecondSpec)

/-- ITS FALSE NEIGHBOUR: 'it returns false'. Refute it at one input. -/
def fnSecondWrong : ChangeSpec := { name := "fnSecond", fn := fun _ => fun
  | [d] => { results := [.lit (.bool false)], args := [d] }
  | _ => none }
def FnSecondWrongFalsely : Prop := fnSecondRow.holds Tryz.pinned (OpenSpec.ofChange fnSecondWrong)

/-- 'laws.FnFirst': WHATEVER THE INPUT: true; the input reads as it did. -/
def fnFirstSpec : ChangeSpec := { name := "fnFirst", fn := fun _ => fun
  | [d] => { results := [.lit (.bool true)], args := [d] }
  | _ => none }
def fnFirstRow : OpenClaim := { program := "ytcglmbijpjhbmaagreat", sum := "c57617345bc9ac2a22eea0073882261cd35b43aecee3dea8cbacab1060107039", func := "loop.example/floorrooms/laws.FnFirst", spec := "fnFirst", inPlace := ["internal/abi.NoEscape"], unfollowed := true, recurses := true, apart := false }
def FnFirstSaid : Prop := fnFirstRow.holds Tryz.pinned (OpenSpec.ofChange fnFirstSpec)

/-- ITS FALSE NEIGHBOUR: 'it returns false'. Refute it at one input. -/
def fnFirstWrong : ChangeSpec := { name := "fnFirst", fn := fun _ => fun
  | [d] => { results := [.lit (.bool false)], args := [d] }
  | _ => none }
def FnFirstWrongFalsely : Prop := fnFirstRow.holds Tryz.pinned (OpenSpec.ofChange fnFirstWrong)

/-- 'laws.FnLongPerm': WHATEVER THE INPUT: true; the input reads as it did. -/
def fnLongPermSpec : ChangeSpec := { name := "fnLongPerm", fn := fun _ => fun
  | [d] => { results := [.lit (.bool true)], args := [d] }
  | _ => none }
def fnLongPermRow : OpenClaim := { program := "ytcglmbijpjhbmaagreat", sum := "c57617345bc9ac2a22eea0073882261cd35b43aecee3dea8cbacab1060107039", func := "loop.example/floorrooms/laws.FnLongPerm", spec := "fnLongPerm", inPlace := ["internal/abi.NoEscape"], unfollowed := true, recurses := true, apart := false }
def FnLongPermSaid : Prop := fnLongPermRow.holds Tryz.pinned (OpenSpec.ofChange fnLongPermSpec)

/-- ITS FALSE NEIGHBOUR: 'it returns false'. Refute it at one input. -/
def fnLongPermWrong : ChangeSpec := { name := "fnLongPerm", fn := fun _ => fun
  | [d] => { results := [.lit (.bool false)], args := [d] }
  | _ => none }
def FnLongPermWrongFalsely : Prop := fnLongPermRow.holds Tryz.pinned (OpenSpec.ofChange fnLongPermWrong)

/- THE SECOND FORM. 'bulk': how many values and letters a reading holds, each counted each time it is reached (what is shared counts as often as it is met; a slice's spare places count too). A statement '..UptoSaid' is the law's where the arguments, and the package variables that the reading takes, are together of bulk at most 1048576: NARROWER than '..Said'. Prove '..Said' where nothing that the law and all that it calls make is longer than what came in: it says more and counts as full. Else prove '..UptoSaid'. A law counts once. -/
mutual
def uptoBulk {H : Type} : DataW H → Nat
  | .lit (.string bytes) => bytes.length + 1
  | .lit _ => 1
  | .nil => 1
  | .ptr d => uptoBulk d + 1
  | .slice elems spare => uptoBulkAll elems + uptoBulkAll spare + 1
  | .agg parts => uptoBulkAll parts + 1
  | .iface _ d => uptoBulk d + 1
  | .map entries => uptoBulkEntries entries + 1
  | .held _ => 1
def uptoBulkAll {H : Type} : List (DataW H) → Nat
  | [] => 0
  | d :: r => uptoBulk d + uptoBulkAll r
def uptoBulkEntries {H : Type} : List (Lit × DataW H) → Nat
  | [] => 0
  | x :: r => uptoBulkEntry x + uptoBulkEntries r
def uptoBulkEntry {H : Type} : Lit × DataW H → Nat
  | (.string bytes, d) => bytes.length + uptoBulk d + 1
  | (_, d) => uptoBulk d + 1
 end
def uptoSmall : (H : Type) → List (DataW H) → Bool := fun _ ds => decide (uptoBulkAll ds ≤ 1048576)
def OpenSpec.upto (s : _root_.Go.ChangeSpec) : _root_.Go.OpenSpec := { _root_.Go.OpenSpec.ofChange s with cond := some uptoSmall }

/-- 'laws.FnSizeArea', WHERE WHAT IT READS IS OF BULK AT MOST 1048576: true; the input reads as it did. -/
def fnSizeAreaUptoRow : OpenClaim := { program := "ytcglmbijpjhbmaagreat", sum := "c57617345bc9ac2a22eea0073882261cd35b43aecee3dea8cbacab1060107039", func := "loop.example/floorrooms/laws.FnSizeArea", spec := "fnSizeArea", inPlace := ["internal/abi.NoEscape"], unfollowed := true, recurses := true, apart := false, narrowed := true }
def FnSizeAreaUptoSaid : Prop := fnSizeAreaUptoRow.holds Tryz.pinned (OpenSpec.upto fnSizeAreaSpec)

/-- 'laws.FnPlaces', WHERE WHAT IT READS IS OF BULK AT MOST 1048576: true; the input reads as it did. -/
def fnPlacesUptoRow : OpenClaim := { program := "ytcglmbijpjhbmaagreat", sum := "c57617345bc9ac2a22eea0073882261cd35b43aecee3dea8cbacab1060107039", func := "loop.example/floorrooms/laws.FnPlaces", spec := "fnPlaces", inPlace := ["internal/abi.NoEscape"], unfollowed := true, recurses := true, apart := false, narrowed := true }
def FnPlacesUptoSaid : Prop := fnPlacesUptoRow.holds Tryz.pinned (OpenSpec.upto fnPlacesSpec)

/-- 'laws.FnSlack', WHERE WHAT IT READS IS OF BULK AT MOST 1048576: true; the input reads as it did. -/
def fnSlackUptoRow : OpenClaim := { program := "ytcglmbijpjhbmaagreat", sum := "c57617345bc9ac2a22eea0073882261cd35b43aecee3dea8cbacab1060107039", func := "loop.example/floorrooms/laws.FnSlack", spec := "fnSlack", inPlace := ["internal/abi.NoEscape"], unfollowed := true, recurses := true, apart := false, narrowed := true }
def FnSlackUptoSaid : Prop := fnSlackUptoRow.holds Tryz.pinned (OpenSpec.upto fnSlackSpec)

/-- 'laws.FnWideNeeds', WHERE WHAT IT READS IS OF BULK AT MOST 1048576: true; the input reads as it did. -/
def fnWideNeedsUptoRow : OpenClaim := { program := "ytcglmbijpjhbmaagreat", sum := "c57617345bc9ac2a22eea0073882261cd35b43aecee3dea8cbacab1060107039", func := "loop.example/floorrooms/laws.FnWideNeeds", spec := "fnWideNeeds", inPlace := ["internal/abi.NoEscape"], unfollowed := true, recurses := true, apart := false, narrowed := true }
def FnWideNeedsUptoSaid : Prop := fnWideNeedsUptoRow.holds Tryz.pinned (OpenSpec.upto fnWideNeedsSpec)

/-- 'laws.FnTurned', WHERE WHAT IT READS IS OF BULK AT MOST 1048576: true; the input reads as it did. -/
def fnTurnedUptoRow : OpenClaim := { program := "ytcglmbijpjhbmaagreat", sum := "c57617345bc9ac2a22eea0073882261cd35b43aecee3dea8cbacab1060107039", func := "loop.example/floorrooms/laws.FnTurned", spec := "fnTurned", inPlace := ["internal/abi.NoEscape"], unfollowed := true, recurses := true, apart := false, narrowed := true }
def FnTurnedUptoSaid : Prop := fnTurnedUptoRow.holds Tryz.pinned (OpenSpec.upto fnTurnedSpec)

/-- 'laws.FnExactOrderSame', WHERE WHAT IT READS IS OF BULK AT MOST 1048576: true; the input reads as it did. -/
def fnExactOrderSameUptoRow : OpenClaim := { program := "ytcglmbijpjhbmaagreat", sum := "c57617345bc9ac2a22eea0073882261cd35b43aecee3dea8cbacab1060107039", func := "loop.example/floorrooms/laws.FnExactOrderSame", spec := "fnExactOrderSame", inPlace := ["internal/abi.NoEscape"], unfollowed := true, recurses := true, apart := false, narrowed := true }
def FnExactOrderSameUptoSaid : Prop := fnExactOrderSameUptoRow.holds Tryz.pinned (OpenSpec.upto fnExactOrderSameSpec)

/-- 'laws.FnExactOrderSecond', WHERE WHAT IT READS IS OF BULK AT MOST 1048576: true; the input reads as it did. -/
def fnExactOrderSecondUptoRow : OpenClaim := { program := "ytcglmbijpjhbmaagreat", sum := "c57617345bc9ac2a22eea0073882261cd35b43aecee3dea8cbacab1060107039", func := "loop.example/floorrooms/laws.FnExactOrderSecond", spec := "fnExactOrderSecond", inPlace := ["internal/abi.NoEscape"], unfollowed := true, recurses := true, apart := false, narrowed := true }
def FnExactOrderSecondUptoSaid : Prop := fnExactOrderSecondUptoRow.holds Tryz.pinned (OpenSpec.upto fnExactOrderSecondSpec)

/-- 'laws.FnExactOrderPerm', WHERE WHAT IT READS IS OF BULK AT MOST 1048576: true; the input reads as it did. -/
def fnExactOrderPermUptoRow : OpenClaim := { program := "ytcglmbijpjhbmaagreat", sum := "c57617345bc9ac2a22eea0073882261cd35b43aecee3dea8cbacab1060107039", func := "loop.example/floorrooms/laws.FnExactOrderPerm", spec := "fnExactOrderPerm", inPlace := ["internal/abi.NoEscape"], unfollowed := true, recurses := true, apart := false, narrowed := true }
def FnExactOrderPermUptoSaid : Prop := fnExactOrderPermUptoRow.holds Tryz.pinned (OpenSpec.upto fnExactOrderPermSpec)

/-- 'laws.FnKindOrders', WHERE WHAT IT READS IS OF BULK AT MOST 1048576: true; the input reads as it did. -/
def fnKindOrdersUptoRow : OpenClaim := { program := "ytcglmbijpjhbmaagreat", sum := "c57617345bc9ac2a22eea0073882261cd35b43aecee3dea8cbacab1060107039", func := "loop.example/floorrooms/laws.FnKindOrders", spec := "fnKindOrders", inPlace := ["internal/abi.NoEscape"], unfollowed := true, recurses := true, apart := false, narrowed := true }
def FnKindOrdersUptoSaid : Prop := fnKindOrdersUptoRow.holds Tryz.pinned (OpenSpec.upto fnKindOrdersSpec)

/-- 'laws.FnSecond', WHERE WHAT IT READS IS OF BULK AT MOST 1048576: true; the input reads as it did. -/
def fnSecondUptoRow : OpenClaim := { program := "ytcglmbijpjhbmaagreat", sum := "c57617345bc9ac2a22eea0073882261cd35b43aecee3dea8cbacab1060107039", func := "loop.example/floorrooms/laws.FnSecond", spec := "fnSecond", inPlace := ["internal/abi.NoEscape"], unfollowed := true, recurses := true, apart := false, narrowed := true }
def FnSecondUptoSaid : Prop := fnSecondUptoRow.holds Tryz.pinned (OpenSpec.upto fnSecondSpec)

/-- 'laws.FnFirst', WHERE WHAT IT READS IS OF BULK AT MOST 1048576: true; the input reads as it did. -/
def fnFirstUptoRow : OpenClaim := { program := "ytcglmbijpjhbmaagreat", sum := "c57617345bc9ac2a22eea0073882261cd35b43aecee3dea8cbacab1060107039", func := "loop.example/floorrooms/laws.FnFirst", spec := "fnFirst", inPlace := ["internal/abi.NoEscape"], unfollowed := true, recurses := true, apart := false, narrowed := true }
def FnFirstUptoSaid : Prop := fnFirstUptoRow.holds Tryz.pinned (OpenSpec.upto fnFirstSpec)

/-- 'laws.FnLongPerm', WHERE WHAT IT READS IS OF BULK AT MOST 1048576: true; the input reads as it did. -/
def fnLongPermUptoRow : OpenClaim := { program := "ytcglmbijpjhbmaagreat", sum := "c57617345bc9ac2a22eea0073882261cd35b43aecee3dea8cbacab1060107039", func := "loop.example/floorrooms/laws.FnLongPerm", spec := "fnLongPerm", inPlace := ["internal/abi.NoEscape"], unfollowed := true, recurses := true, apart := false, narrowed := true }
def FnLongPermUptoSaid : Prop := fnLongPermUptoRow.holds Tryz.pinned (OpenSpec.upto fnLongPermSpec)

end Rows
end Go.Proofs.YtcglmbijpjhbmaaGreat
