/-
  No cell of these rows narrows 'for every input' (looked for: loops, veiled, ifaces, maps, wideKeys, modest, calm, conditions, laid).
  DERIVED. THE GIVEN ROWS OF THIS SEAT. 10 by the template 'for every input the law returns true; each argument reads behind the call as it read before'; 0 by the template 'total and deterministic' (their statements: YtclmfemhboogpaaGreatTotals.lean).
  GIVEN WITH THE SEED: the statements are not yours to turn. If you find one false, say at which input.
  Laid BY PROGRAM, IN A SANDBOX (cutbox-rows.mjs): the forced cells as the released guide's own fill.sh prints them over the translation a2b4d04044a5c871… (all of the seat's roots in one cut). By AI agents, Wed Nov 11 2026. No macro, syntax, notation, axiom, sorry.
-/
import Derived.Test.YtclmfemhboogpaaGreatChecked
import GoSem.Claim
import GoSem.ClaimJoined
import GoSem.ClaimMapViews
import Derived.JoinedTies
import Derived.KernelRfl
namespace Go.Proofs.YtclmfemhboogpaaGreat
/- THE CELL 'sum', in the pinned program and in every row, IS THE sha256 OF THE DUMP (.gsa) THAT YtclmfemhboogpaaGreatProg.lean LOADS. Nothing in Lean hashes anything: it is a label: what it is worth is what the hold of that sum in a sandbox is worth. -/
noncomputable def Tryz.pinned : Pinned := { name := "ytclmfemhboogpaagreat", sum := "a2b4d04044a5c871f4d1c1c13a25cec9c2f6ab6e37b941fab04236d2f42c73a1", checked := Tryz.checked }
namespace Rows
def none {H : Type} : Left H := { results := [], args := [] }

/-- 'laws.FnHighNeeds': WHATEVER THE INPUT: true; the input reads as it did. -/
def fnHighNeedsSpec : ChangeSpec := { name := "fnHighNeeds", fn := fun _ => fun
  | [d] => { results := [.lit (.bool true)], args := [d] }
  | _ => none }
def fnHighNeedsRow : OpenClaim := { program := "ytclmfemhboogpaagreat", sum := "a2b4d04044a5c871f4d1c1c13a25cec9c2f6ab6e37b941fab04236d2f42c73a1", func := "loop.example/floorrooms/laws.FnHighNeeds", spec := "fnHighNeeds", inPlace := ["internal/abi.NoEscape"], unfollowed := true, recurses := true, apart := false }
def FnHighNeedsSaid : Prop := fnHighNeedsRow.holds Tryz.pinned (OpenSpec.ofChange fnHighNeedsSpec)

/-- ITS FALSE NEIGHBOUR: 'it returns false'. Refute it at one input. -/
def fnHighNeedsWrong : ChangeSpec := { name := "fnHighNeeds", fn := fun _ => fun
  | [d] => { results := [.lit (.bool false)], args := [d] }
  | _ => none }
def FnHighNeedsWrongFalsely : Prop := fnHighNeedsRow.holds Tryz.pinned (OpenSpec.ofChange fnHighNeedsWrong)

/-- 'laws.FnSizeCut': WHATEVER THE INPUT: true; the input reads as it did. -/
def fnSizeCutSpec : ChangeSpec := { name := "fnSizeCut", fn := fun _ => fun
  | [d] => { results := [.lit (.bool true)], args := [d] }
  | _ => none }
def fnSizeCutRow : OpenClaim := { program := "ytclmfemhboogpaagreat", sum := "a2b4d04044a5c871f4d1c1c13a25cec9c2f6ab6e37b941fab04236d2f42c73a1", func := "loop.example/floorrooms/laws.FnSizeCut", spec := "fnSizeCut", inPlace := ["internal/abi.NoEscape"], unfollowed := true, recurses := true, apart := false }
def FnSizeCutSaid : Prop := fnSizeCutRow.holds Tryz.pinned (OpenSpec.ofChange fnSizeCutSpec)

/-- ITS FALSE NEIGHBOUR: 'it returns false'. Refute it at one input. -/
def fnSizeCutWrong : ChangeSpec := { name := "fnSizeCut", fn := fun _ => fun
  | [d] => { results := [.lit (.bool false)], args := [d] }
  | _ => none }
def FnSizeCutWrongFalsely : Prop := fnSizeCutRow.holds Tryz.pinned (OpenSpec.ofChange fnSizeCutWrong)

/-- 'laws.FnPermCut': WHATEVER THE INPUT: true; the input reads as it did. -/
def fnPermCutSpec : ChangeSpec := { name := "fnPermCut", fn := fun _ => fun
  | [d] => { results := [.lit (.bool true)], args := [d] }
  | _ => none }
def fnPermCutRow : OpenClaim := { program := "ytclmfemhboogpaagreat", sum := "a2b4d04044a5c871f4d1c1c13a25cec9c2f6ab6e37b941fab04236d2f42c73a1", func := "loop.example/floorrooms/laws.FnPermCut", spec := "fnPermCut", inPlace := ["internal/abi.NoEscape"], unfollowed := true, recurses := true, apart := false }
def FnPermCutSaid : Prop := fnPermCutRow.holds Tryz.pinned (OpenSpec.ofChange fnPermCutSpec)

/-- ITS FALSE NEIGHBOUR: 'it returns false'. Refute it at one input. -/
def fnPermCutWrong : ChangeSpec := { name := "fnPermCut", fn := fun _ => fun
  | [d] => { results := [.lit (.bool false)], args := [d] }
  | _ => none }
def FnPermCutWrongFalsely : Prop := fnPermCutRow.holds Tryz.pinned (OpenSpec.ofChange fnPermCutWrong)

/-- 'laws.FnPermTrans': WHATEVER THE INPUT: true; the input reads as it did. -/
def fnPermTransSpec : ChangeSpec := { name := "fnPermTrans", fn := fun _ => fun
  | [d] => { results := [.lit (.bool true)], args := [d] }
  | _ => none }
def fnPermTransRow : OpenClaim := { program := "ytclmfemhboogpaagreat", sum := "a2b4d04044a5c871f4d1c1c13a25cec9c2f6ab6e37b941fab04236d2f42c73a1", func := "loop.example/floorrooms/laws.FnPermTrans", spec := "fnPermTrans", inPlace := ["internal/abi.NoEscape"], unfollowed := true, recurses := true, apart := false }
def FnPermTransSaid : Prop := fnPermTransRow.holds Tryz.pinned (OpenSpec.ofChange fnPermTransSpec)

/-- ITS FALSE NEIGHBOUR: 'it returns false'. Refute it at one input. -/
def fnPermTransWrong : ChangeSpec := { name := "fnPermTrans", fn := fun _ => fun
  | [d] => { results := [.lit (.bool false)], args := [d] }
  | _ => none }
def FnPermTransWrongFalsely : Prop := fnPermTransRow.holds Tryz.pinned (OpenSpec.ofChange fnPermTransWrong)

/-- 'laws.FnPerm': WHATEVER THE INPUT: true; the input reads as it did. -/
def fnPermSpec : ChangeSpec := { name := "fnPerm", fn := fun _ => fun
  | [d] => { results := [.lit (.bool true)], args := [d] }
  | _ => none }
def fnPermRow : OpenClaim := { program := "ytclmfemhboogpaagreat", sum := "a2b4d04044a5c871f4d1c1c13a25cec9c2f6ab6e37b941fab04236d2f42c73a1", func := "loop.example/floorrooms/laws.FnPerm", spec := "fnPerm", inPlace := ["internal/abi.NoEscape"], unfollowed := true, recurses := true, apart := false }
def FnPermSaid : Prop := fnPermRow.holds Tryz.pinned (OpenSpec.ofChange fnPermSpec)

/-- ITS FALSE NEIGHBOUR: 'it returns false'. Refute it at one input. -/
def fnPermWrong : ChangeSpec := { name := "fnPerm", fn := fun _ => fun
  | [d] => { results := [.lit (.bool false)], args := [d] }
  | _ => none }
def FnPermWrongFalsely : Prop := fnPermRow.holds Tryz.pinned (OpenSpec.ofChange fnPermWrong)

/-- 'laws.FnExactShapeAll': WHATEVER THE INPUT: true; the input reads as it did. -/
def fnExactShapeAllSpec : ChangeSpec := { name := "fnExactShapeAll", fn := fun _ => fun
  | [d1, d2, d3] => { results := [.lit (.bool true)], args := [d1, d2, d3] }
  | _ => none }
def fnExactShapeAllRow : OpenClaim := { program := "ytclmfemhboogpaagreat", sum := "a2b4d04044a5c871f4d1c1c13a25cec9c2f6ab6e37b941fab04236d2f42c73a1", func := "loop.example/floorrooms/laws.FnExactShapeAll", spec := "fnExactShapeAll", inPlace := ["internal/abi.NoEscape"], unfollowed := true, recurses := true, apart := false }
def FnExactShapeAllSaid : Prop := fnExactShapeAllRow.holds Tryz.pinned (OpenSpec.ofChange fnExactShapeAllSpec)

/-- ITS FALSE NEIGHBOUR: 'it returns false'. Refute it at one input. -/
def fnExactShapeAllWrong : ChangeSpec := { name := "fnExactShapeAll", fn := fun _ => fun
  | [d1, d2, d3] => { results := [.lit (.bool false)], args := [d1, d2, d3] }
  | _ => none }
def FnExactShapeAllWrongFalsely : Prop := fnExactShapeAllRow.holds Tryz.pinned (OpenSpec.ofChange fnExactShapeAllWrong)

/-- 'laws.FnOrderSame': WHATEVER THE INPUT: true; the input reads as it did. -/
def fnOrderSameSpec : ChangeSpec := { name := "fnOrderSame", fn := fun _ => fun
  | [d] => { results := [.lit (.bool true)], args := [d] }
  | _ => none }
def fnOrderSameRow : OpenClaim := { program := "ytclmfemhboogpaagreat", sum := "a2b4d04044a5c871f4d1c1c13a25cec9c2f6ab6e37b941fab04236d2f42c73a1", func := "loop.example/floorrooms/laws.FnOrderSame", spec := "fnOrderSame", inPlace := ["internal/abi.NoEscape"], unfollowed := true, recurses := true, apart := false }
def FnOrderSameSaid : Prop := fnOrderSameRow.holds Tryz.pinned (OpenSpec.ofChange fnOrderSameSpec)

/-- ITS FALSE NEIGHBOUR: 'it returns false'. Refute it at one input. -/
def fnOrderSameWrong : ChangeSpec := { name := "fnOrderSame", fn := fun _ => fun
  | [d] => { results := [.lit (.bool false)], args := [d] }
  | _ => none }
def FnOrderSameWrongFalsely : Prop := fnOrderSameRow.holds Tryz.pinned (OpenSpec.ofChange fnOrderSameWrong)

/-- 'laws.FnShapeAll': WHATEVER THE INPUT: true; the input reads as it did. -/
def fnShapeAllSpec : ChangeSpec := { name := "fnShapeAll", fn := fun _ => fun
  | [d] => { results := [.lit (.bool true)], args := [d] }
  | _ => none }
def fnShapeAllRow : OpenClaim := { program := "ytclmfemhboogpaagreat", sum := "a2b4d04044a5c871f4d1c1c13a25cec9c2f6ab6e37b941fab04236d2f42c73a1", func := "loop.example/floorrooms/laws.FnShapeAll", spec := "fnShapeAll", inPlace := ["internal/abi.NoEscape"], unfollowed := true, recurses := true, apart := false }
def FnShapeAllSaid : Prop := fnShapeAllRow.holds Tryz.pinned (OpenSpec.ofChange fnShapeAllSpec)

/-- ITS FALSE NEIGHBOUR: 'it returns false'. Refute it at one input. -/
def fnShapeAllWrong : ChangeSpec := { name := "fnShapeAll", fn := fun _ => fun
  | [d] => { results := [.lit (.bool false)], args := [d] }
  | _ => none }
def FnShapeAllWrongFalsely : Prop := fnShapeAllRow.holds Tryz.pinned (OpenSpec.ofChange fnShapeAllWrong)

/-- 'laws.FnShapeTry': WHATEVER THE INPUT: true; the input reads as it did. -/
def fnShapeTrySpec : ChangeSpec := { name := "fnShapeTry", fn := fun _ => fun
  | [d] => { results := [.lit (.bool true)], args := [d] }
  | _ => none }
def fnShapeTryRow : OpenClaim := { program := "ytclmfemhboogpaagreat", sum := "a2b4d04044a5c871f4d1c1c13a25cec9c2f6ab6e37b941fab04236d2f42c73a1", func := "loop.example/floorrooms/laws.FnShapeTry", spec := "fnShapeTry", inPlace := ["internal/abi.NoEscape"], unfollowed := true, recurses := true, apart := false }
def FnShapeTrySaid : Prop := fnShapeTryRow.holds Tryz.pinned (OpenSpec.ofChange fnShapeTrySpec)

/-- ITS FALSE NEIGHBOUR: 'it returns false'. Refute it at one input. -/
def fnShapeTryWrong : ChangeSpec := { name := "fnShapeTry", fn := fun _ => fun
  | [d] => { results := [.lit (.bool false)], args := [d] }
  | _ => none }
def FnShapeTryWrongFalsely : Prop := fnShapeTryRow.holds Tryz.pinned (OpenSpec.ofChange fnShapeTryWrong)

/-- 'laws.FnSquare': WHATEVER THE INPUT: true; the input reads as it did. -/
def fnSquareSpec : ChangeSpec := { name := "fnSquare", fn := fun _ => fun
  | [d] => { results := [.lit (.bool true)], args := [d] }
  | _ => none }
def fnSquareRow : OpenClaim := { program := "ytclmfemhboogpaagreat", sum := "a2b4d04044a5c871f4d1c1c13a25cec9c2f6ab6e37b941fab04236d2f42c73a1", func := "loop.example/floorrooms/laws.FnSquare", spec := "fnSquare", inPlace := ["internal/abi.NoEscape"], unfollowed := true, recurses := true, apart := false }
def FnSquareSaid : Prop := fnSquareRow.holds Tryz.pinned (OpenSpec.ofChange fnSquareSpec)

/-- ITS FALSE NEIGHBOUR: 'it returns false'. Refute it at one input. -/
def fnSquareWrong : ChangeSpec := { name := "fnSquare", fn := fun _ => fun
  | [d] => { results := [.lit (.bool false)], args := [d] }
  | _ => none }
def FnSquareWrongFalsely : Prop := fnSquareRow.holds Tryz.pinned (OpenSpec.ofChange fnSquareWrong)

/- THE SECOND FORM. 'bulk': how many values and letters a reading holds, each counted each time it is reached (what is shared counts as often as it is met; a slice's spare places count too). A statement '..UptoSaid' is the law's where the arguments, and the package variables that the reading takes, are together of bulk at most 1048576: NARROWER than '..Said'. Prove '..Said' where nothing that the law and all that it calls make is longer than what came in: it says more and counts as full. Else prove '..UptoSaid'. A law counts once. -/
mutual
def uptoBulk {H : Type} : DataW H → Nat
  | .lit (.string bytes) => bytes.length + 1
  | .lit _ => 1
  | .nil => 1
  | .ptr d => uptoBulk d + 1
  | .slice elems spare => uptoBulkAll elems + uptoBulkAll spare + 1
  | .agg parts => uptoBulkAll parts + 1
  | .iface _ d => uptoBulk d + 1
  | .map entries => uptoBulkEntries entries + 1
  | .held _ => 1
def uptoBulkAll {H : Type} : List (DataW H) → Nat
  | [] => 0
  | d :: r => uptoBulk d + uptoBulkAll r
def uptoBulkEntries {H : Type} : List (Lit × DataW H) → Nat
  | [] => 0
  | x :: r => uptoBulkEntry x + uptoBulkEntries r
def uptoBulkEntry {H : Type} : Lit × DataW H → Nat
  | (.string bytes, d) => bytes.length + uptoBulk d + 1
  | (_, d) => uptoBulk d + 1
 end
def uptoSmall : (H : Type) → List (DataW H) → Bool := fun _ ds => decide (uptoBulkAll ds ≤ 1048576)
def OpenSpec.upto (s : _root_.Go.ChangeSpec) : _root_.Go.OpenSpec := { _root_.Go.OpenSpec.ofChange s with cond := some uptoSmall }

/-- 'laws.FnHighNeeds', WHERE WHAT IT READS IS OF BULK AT MOST 1048576: true; the input reads as it did. -/
def fnHighNeedsUptoRow : OpenClaim := { program := "ytclmfemhboogpaagreat", sum := "a2b4d04044a5c871f4d1c1c13a25cec9c2f6ab6e37b941fab04236d2f42c73a1", func := "loop.example/floorrooms/laws.FnHighNeeds", spec := "fnHighNeeds", inPlace := ["internal/abi.NoEscape"], unfollowed := true, recurses := true, apart := false, narrowed := true }
def FnHighNeedsUptoSaid : Prop := fnHighNeedsUptoRow.holds Tryz.pinned (OpenSpec.upto fnHighNeedsSpec)

/-- 'laws.FnSizeCut', WHERE WHAT IT READS IS OF BULK AT MOST 1048576: true; the input reads as it did. -/
def fnSizeCutUptoRow : OpenClaim := { program := "ytclmfemhboogpaagreat", sum := "a2b4d04044a5c871f4d1c1c13a25cec9c2f6ab6e37b941fab04236d2f42c73a1", func := "loop.example/floorrooms/laws.FnSizeCut", spec := "fnSizeCut", inPlace := ["internal/abi.NoEscape"], unfollowed := true, recurses := true, apart := false, narrowed := true }
def FnSizeCutUptoSaid : Prop := fnSizeCutUptoRow.holds Tryz.pinned (OpenSpec.upto fnSizeCutSpec)

/-- 'laws.FnPermCut', WHERE WHAT IT READS IS OF BULK AT MOST 1048576: true; the input reads as it did. -/
def fnPermCutUptoRow : OpenClaim := { program := "ytclmfemhboogpaagreat", sum := "a2b4d04044a5c871f4d1c1c13a25cec9c2f6ab6e37b941fab04236d2f42c73a1", func := "loop.example/floorrooms/laws.FnPermCut", spec := "fnPermCut", inPlace := ["internal/abi.NoEscape"], unfollowed := true, recurses := true, apart := false, narrowed := true }
def FnPermCutUptoSaid : Prop := fnPermCutUptoRow.holds Tryz.pinned (OpenSpec.upto fnPermCutSpec)

/-- 'laws.FnPermTrans', WHERE WHAT IT READS IS OF BULK AT MOST 1048576: true; the input reads as it did. -/
def fnPermTransUptoRow : OpenClaim := { program := "ytclmfemhboogpaagreat", sum := "a2b4d04044a5c871f4d1c1c13a25cec9c2f6ab6e37b941fab04236d2f42c73a1", func := "loop.example/floorrooms/laws.FnPermTrans", spec := "fnPermTrans", inPlace := ["internal/abi.NoEscape"], unfollowed := true, recurses := true, apart := false, narrowed := true }
def FnPermTransUptoSaid : Prop := fnPermTransUptoRow.holds Tryz.pinned (OpenSpec.upto fnPermTransSpec)

/-- 'laws.FnPerm', WHERE WHAT IT READS IS OF BULK AT MOST 1048576: true; the input reads as it did. -/
def fnPermUptoRow : OpenClaim := { program := "ytclmfemhboogpaagreat", sum := "a2b4d04044a5c871f4d1c1c13a25cec9c2f6ab6e37b941fab04236d2f42c73a1", func := "loop.example/floorrooms/laws.FnPerm", spec := "fnPerm", inPlace := ["internal/abi.NoEscape"], unfollowed := true, recurses := true, apart := false, narrowed := true }
def FnPermUptoSaid : Prop := fnPermUptoRow.holds Tryz.pinned (OpenSpec.upto fnPermSpec)

/-- 'laws.FnExactShapeAll', WHERE WHAT IT READS IS OF BULK AT MOST 1048576: true; the input reads as it did. -/
def fnExactShapeAllUptoRow : OpenClaim := { program := "ytclmfemhboogpaagreat", sum := "a2b4d04044a5c871f4d1c1c13a25cec9c2f6ab6e37b941fab04236d2f42c73a1", func := "loop.example/floorrooms/laws.FnExactShapeAll", spec := "fnExactShapeAll", inPlace := ["internal/abi.NoEscape"], unfollowed := true, recurses := true, apart := false, narrowed := true }
def FnExactShapeAllUptoSaid : Prop := fnExactShapeAllUptoRow.holds Tryz.pinned (OpenSpec.upto fnExactShapeAllSpec)

/-- 'laws.FnOrderSame', WHERE WHAT IT READS IS OF BULK AT MOST 1048576: true; the input reads as it did. -/
def fnOrderSameUptoRow : OpenClaim := { program := "ytclmfemhboogpaagreat", sum := "a2b4d04044a5c871f4d1c1c13a25cec9c2f6ab6e37b941fab04236d2f42c73a1", func := "loop.example/floorrooms/laws.FnOrderSame", spec := "fnOrderSame", inPlace := ["internal/abi.NoEscape"], unfollowed := true, recurses := true, apart := false, narrowed := true }
def FnOrderSameUptoSaid : Prop := fnOrderSameUptoRow.holds Tryz.pinned (OpenSpec.upto fnOrderSameSpec)

/-- 'laws.FnShapeAll', WHERE WHAT IT READS IS OF BULK AT MOST 1048576: true; the input reads as it did. -/
def fnShapeAllUptoRow : OpenClaim := { program := "ytclmfemhboogpaagreat", sum := "a2b4d04044a5c871f4d1c1c13a25cec9c2f6ab6e37b941fab04236d2f42c73a1", func := "loop.example/floorrooms/laws.FnShapeAll", spec := "fnShapeAll", inPlace := ["internal/abi.NoEscape"], unfollowed := true, recurses := true, apart := false, narrowed := true }
def FnShapeAllUptoSaid : Prop := fnShapeAllUptoRow.holds Tryz.pinned (OpenSpec.upto fnShapeAllSpec)

/-- 'laws.FnShapeTry', WHERE WHAT IT READS IS OF BULK AT MOST 1048576: true; the input reads as it did. -/
def fnShapeTryUptoRow : OpenClaim := { program := "ytclmfemhboogpaagreat", sum := "a2b4d04044a5c871f4d1c1c13a25cec9c2f6ab6e37b941fab04236d2f42c73a1", func := "loop.example/floorrooms/laws.FnShapeTry", spec := "fnShapeTry", inPlace := ["internal/abi.NoEscape"], unfollowed := true, recurses := true, apart := false, narrowed := true }
def FnShapeTryUptoSaid : Prop := fnShapeTryUptoRow.holds Tryz.pinned (OpenSpec.upto fnShapeTrySpec)

/-- 'laws.FnSquare', WHERE WHAT IT READS IS OF BULK AT MOST 1048576: true; the input reads as it did. -/
def fnSquareUptoRow : OpenClaim := { program := "ytclmfemhboogpaagreat", sum := "a2b4d04044a5c871f4d1c1c13a25cec9c2f6ab6e37b941fab04236d2f42c73a1", func := "loop.example/floorrooms/laws.FnSquare", spec := "fnSquare", inPlace := ["internal/abi.NoEscape"], unfollowed := true, recurses := true, apart := false, narrowed := true }
def FnSquareUptoSaid : Prop := fnSquareUptoRow.holds Tryz.pinned (OpenSpec.upto fnSquareSpec)

end Rows
end Go.Proofs.YtclmfemhboogpaaGreat
