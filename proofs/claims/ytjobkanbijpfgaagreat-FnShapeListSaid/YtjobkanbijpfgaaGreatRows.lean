/-
  No cell of these rows narrows 'for every input' (looked for: loops, veiled, ifaces, maps, wideKeys, modest, calm, conditions, laid).
  DERIVED. THE GIVEN ROWS OF THIS SEAT. 4 by the template 'for every input the law returns true; each argument reads behind the call as it read before'; 0 by the template 'total and deterministic' (their statements: YtjobkanbijpfgaaGreatTotals.lean).
  GIVEN WITH THE SEED: the statements are not yours to turn. If you find one false, say at which input.
  Laid BY PROGRAM, IN A SANDBOX (cutbox-rows.mjs): the forced cells as the released guide's own fill.sh prints them over the translation 16cf9408c0a526cd… (all of the seat's roots in one cut). By AI agents, Wed Nov 11 2026. No macro, syntax, notation, axiom, sorry.
-/
import Derived.Test.YtjobkanbijpfgaaGreatChecked
import GoSem.Claim
import GoSem.ClaimJoined
import GoSem.ClaimMapViews
import Derived.JoinedTies
import Derived.KernelRfl
namespace Go.Proofs.YtjobkanbijpfgaaGreat
/- THE CELL 'sum', in the pinned program and in every row, IS THE sha256 OF THE DUMP (.gsa) THAT YtjobkanbijpfgaaGreatProg.lean LOADS. Nothing in Lean hashes anything: it is a label: what it is worth is what the hold of that sum in a sandbox is worth. -/
noncomputable def Tryz.pinned : Pinned := { name := "ytjobkanbijpfgaagreat", sum := "16cf9408c0a526cdabaef9bdacc4e0092ffeb23cf7974714e65b95de678b2a39", checked := Tryz.checked }
namespace Rows
def none {H : Type} : Left H := { results := [], args := [] }

/-- 'laws.FnSizeCut': WHATEVER THE INPUT: true; the input reads as it did. -/
def fnSizeCutSpec : ChangeSpec := { name := "fnSizeCut", fn := fun _ => fun
  | [d] => { results := [.lit (.bool true)], args := [d] }
  | _ => none }
def fnSizeCutRow : OpenClaim := { program := "ytjobkanbijpfgaagreat", sum := "16cf9408c0a526cdabaef9bdacc4e0092ffeb23cf7974714e65b95de678b2a39", func := "loop.example/floorrooms/laws.FnSizeCut", spec := "fnSizeCut", inPlace := ["internal/abi.NoEscape"], unfollowed := true, recurses := true, apart := false }
def FnSizeCutSaid : Prop := fnSizeCutRow.holds Tryz.pinned (OpenSpec.ofChange fnSizeCutSpec)

/-- ITS FALSE NEIGHBOUR: 'it returns false'. Refute it at one input. -/
def fnSizeCutWrong : ChangeSpec := { name := "fnSizeCut", fn := fun _ => fun
  | [d] => { results := [.lit (.bool false)], args := [d] }
  | _ => none }
def FnSizeCutWrongFalsely : Prop := fnSizeCutRow.holds Tryz.pinned (OpenSpec.ofChange fnSizeCutWrong)

/-- 'laws.FnOrderSame': WHATEVER THE INPUT: true; the input reads as it did. -/
def fnOrderSameSpec : ChangeSpec := { name := "fnOrderSame", fn := fun _ => fun
  | [d] => { results := [.lit (.bool true)], args := [d] }
  | _ => none }
def fnOrderSameRow : OpenClaim := { program := "ytjobkanbijpfgaagreat", sum := "16cf9408c0a526cdabaef9bdacc4e0092ffeb23cf7974714e65b95de678b2a39", func := "loop.example/floorrooms/laws.FnOrderSame", spec := "fnOrderSame", inPlace := ["internal/abi.NoEscape"], unfollowed := true, recurses := true, apart := false }
def FnOrderSameSaid : Prop := fnOrderSameRow.holds Tryz.pinned (OpenSpec.ofChange fnOrderSameSpec)

/-- ITS FALSE NEIGHBOUR: 'it returns false'. Refute it at one input. -/
def fnOrderSameWrong : ChangeSpec := { name := "fnOrderSame", fn := fun _ => fun
  | [d] => { results := [.lit (.bool false)], args := [d] }
  | _ => none }
def FnOrderSameWrongFalsely : Prop := fnOrderSameRow.holds Tryz.pinned (OpenSpec.ofChange fnOrderSameWrong)

/-- 'laws.FnExactShapeList': WHATEVER THE INPUT: true; the input reads as it did. -/
def fnExactShapeListSpec : ChangeSpec := { name := "fnExactShapeList", fn := fun _ => fun
  | [d1, d2, d3] => { results := [.lit (.bool true)], args := [d1, d2, d3] }
  | _ => none }
def fnExactShapeListRow : OpenClaim := { program := "ytjobkanbijpfgaagreat", sum := "16cf9408c0a526cdabaef9bdacc4e0092ffeb23cf7974714e65b95de678b2a39", func := "loop.example/floorrooms/laws.FnExactShapeList", spec := "fnExactShapeList", inPlace := ["internal/abi.NoEscape"], unfollowed := true, recurses := true, apart := false }
def FnExactShapeListSaid : Prop := fnExactShapeListRow.holds Tryz.pinned (OpenSpec.ofChange fnExactShapeListSpec)

/-- ITS FALSE NEIGHBOUR: 'it returns false'. Refute it at one input. -/
def fnExactShapeListWrong : ChangeSpec := { name := "fnExactShapeList", fn := fun _ => fun
  | [d1, d2, d3] => { results := [.lit (.bool false)], args := [d1, d2, d3] }
  | _ => none }
def FnExactShapeListWrongFalsely : Prop := fnExactShapeListRow.holds Tryz.pinned (OpenSpec.ofChange fnExactShapeListWrong)

/-- 'laws.FnShapeList': WHATEVER THE INPUT: true; the input reads as it did. -/
def fnShapeListSpec : ChangeSpec := { name := "fnShapeList", fn := fun _ => fun
  | [d] => { results := [.lit (.bool true)], args := [d] }
  | _ => none }
def fnShapeListRow : OpenClaim := { program := "ytjobkanbijpfgaagreat", sum := "16cf9408c0a526cdabaef9bdacc4e0092ffeb23cf7974714e65b95de678b2a39", func := "loop.example/floorrooms/laws.FnShapeList", spec := "fnShapeList", inPlace := ["internal/abi.NoEscape"], unfollowed := true, recurses := true, apart := false }
def FnShapeListSaid : Prop := fnShapeListRow.holds Tryz.pinned (OpenSpec.ofChange fnShapeListSpec)

/-- ITS FALSE NEIGHBOUR: 'it returns false'. Refute it at one input. -/
def fnShapeListWrong : ChangeSpec := { name := "fnShapeList", fn := fun _ => fun
  | [d] => { results := [.lit (.bool false)], args := [d] }
  | _ => none }
def FnShapeListWrongFalsely : Prop := fnShapeListRow.holds Tryz.pinned (OpenSpec.ofChange fnShapeListWrong)

/- THE SECOND FORM. 'bulk': how many values and letters a reading holds, each counted each time it is reached (what is shared counts as often as it is met; a slice's spare places count too). A statement '..UptoSaid' is the law's where the arguments, and the package variables that the reading takes, are together of bulk at most 1048576: NARROWER than '..Said'. Prove '..Said' where nothing that the law and all that it calls make is longer than what came in: it says more and counts as full. Else prove '..UptoSaid'. A law counts once. -/
mutual
def uptoBulk {H : Type} : DataW H → Nat
  | .lit (.string bytes) => bytes.length + 1
  | .lit _ => 1
  | .nil => 1
  | .ptr d => uptoBulk d + 1
  | .slice elems spare => uptoBulkAll elems + uptoBulkAll spare + 1
  | .agg parts => uptoBulkAll parts + 1
  | .iface _ d => uptoBulk d + 1
  | .map entries => uptoBulkEntries entries + 1
  | .held _ => 1
def uptoBulkAll {H : Type} : List (DataW H) → Nat
  | [] => 0
  | d :: r => uptoBulk d + uptoBulkAll r
def uptoBulkEntries {H : Type} : List (Lit × DataW H) → Nat
  | [] => 0
  | x :: r => uptoBulkEntry x + uptoBulkEntries r
def uptoBulkEntry {H : Type} : Lit × DataW H → Nat
  | (.string bytes, d) => bytes.length + uptoBulk d + 1
  | (_, d) => uptoBulk d + 1
 end
def uptoSmall : (H : Type) → List (DataW H) → Bool := fun _ ds => decide (uptoBulkAll ds ≤ 1048576)
def OpenSpec.upto (s : _root_.Go.ChangeSpec) : _root_.Go.OpenSpec := { _root_.Go.OpenSpec.ofChange s with cond := some uptoSmall }

/-- 'laws.FnSizeCut', WHERE WHAT IT READS IS OF BULK AT MOST 1048576: true; the input reads as it did. -/
def fnSizeCutUptoRow : OpenClaim := { program := "ytjobkanbijpfgaagreat", sum := "16cf9408c0a526cdabaef9bdacc4e0092ffeb23cf7974714e65b95de678b2a39", func := "loop.example/floorrooms/laws.FnSizeCut", spec := "fnSizeCut", inPlace := ["internal/abi.NoEscape"], unfollowed := true, recurses := true, apart := false, narrowed := true }
def FnSizeCutUptoSaid : Prop := fnSizeCutUptoRow.holds Tryz.pinned (OpenSpec.upto fnSizeCutSpec)

/-- 'laws.FnOrderSame', WHERE WHAT IT READS IS OF BULK AT MOST 1048576: true; the input reads as it did. -/
def fnOrderSameUptoRow : OpenClaim := { program := "ytjobkanbijpfgaagreat", sum := "16cf9408c0a526cdabaef9bdacc4e0092ffeb23cf7974714e65b95de678b2a39", func := "loop.example/floorrooms/laws.FnOrderSame", spec := "fnOrderSame", inPlace := ["internal/abi.NoEscape"], unfollowed := true, recurses := true, apart := false, narrowed := true }
def FnOrderSameUptoSaid : Prop := fnOrderSameUptoRow.holds Tryz.pinned (OpenSpec.upto fnOrderSameSpec)

/-- 'laws.FnExactShapeList', WHERE WHAT IT READS IS OF BULK AT MOST 1048576: true; the input reads as it did. -/
def fnExactShapeListUptoRow : OpenClaim := { program := "ytjobkanbijpfgaagreat", sum := "16cf9408c0a526cdabaef9bdacc4e0092ffeb23cf7974714e65b95de678b2a39", func := "loop.example/floorrooms/laws.FnExactShapeList", spec := "fnExactShapeList", inPlace := ["internal/abi.NoEscape"], unfollowed := true, recurses := true, apart := false, narrowed := true }
def FnExactShapeListUptoSaid : Prop := fnExactShapeListUptoRow.holds Tryz.pinned (OpenSpec.upto fnExactShapeListSpec)

/-- 'laws.FnShapeList', WHERE WHAT IT READS IS OF BULK AT MOST 1048576: true; the input reads as it did. -/
def fnShapeListUptoRow : OpenClaim := { program := "ytjobkanbijpfgaagreat", sum := "16cf9408c0a526cdabaef9bdacc4e0092ffeb23cf7974714e65b95de678b2a39", func := "loop.example/floorrooms/laws.FnShapeList", spec := "fnShapeList", inPlace := ["internal/abi.NoEscape"], unfollowed := true, recurses := true, apart := false, narrowed := true }
def FnShapeListUptoSaid : Prop := fnShapeListUptoRow.holds Tryz.pinned (OpenSpec.upto fnShapeListSpec)

end Rows
end Go.Proofs.YtjobkanbijpfgaaGreat
