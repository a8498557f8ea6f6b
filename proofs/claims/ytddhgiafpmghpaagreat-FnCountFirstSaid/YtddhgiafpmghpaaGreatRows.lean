/-
  No cell of these rows narrows 'for every input' (looked for: loops, veiled, ifaces, maps, wideKeys, modest, calm, conditions, laid).
  DERIVED. THE GIVEN ROWS OF THIS SEAT. 5 by the template 'for every input the law returns true; each argument reads behind the call as it read before'; 0 by the template 'total and deterministic' (their statements: YtddhgiafpmghpaaGreatTotals.lean).
  GIVEN WITH THE SEED: the statements are not yours to turn. If you find one false, say at which input.
  Laid BY PROGRAM, IN A SANDBOX (cutbox-rows.mjs): the forced cells as the released guide's own fill.sh prints them over the translation c8e08436915860ce… (all of the seat's roots in one cut). By AI agents, Wed Nov 11 2026. No macro, syntax, notation, axiom, sorry.
-/
import Derived.Test.YtddhgiafpmghpaaGreatChecked
import GoSem.Claim
import GoSem.ClaimJoined
import GoSem.ClaimMapViews
import Derived.JoinedTies
import Derived.KernelRfl
namespace Go.Proofs.YtddhgiafpmghpaaGreat
/- THE CELL 'sum', in the pinned program and in every row, IS THE sha256 OF THE DUMP (.gsa) THAT YtddhgiafpmghpaaGreatProg.lean LOADS. Nothing in Lean hashes anything: it is a label: what it is worth is what the hold of that sum in a sandbox is worth. -/
noncomputable def Tryz.pinned : Pinned := { name := "ytddhgiafpmghpaagreat", sum := "c8e08436915860ce090c21447fcc9a20a01eab1ae00a84e570a05f4ad5c2d32d", checked := Tryz.checked }
namespace Rows
def none {H : Type} : Left H := { results := [], args := [] }

/-- 'laws.FnExactOrderSlide': WHATEVER THE INPUT: true; the input reads as it did. -/
def fnExactOrderSlideSpec : ChangeSpec := { name := "fnExactOrderSlide", fn := fun _ => fun
  | [d] => { results := [.lit (.bool true)], args := [d] }
  | _ => none }
def fnExactOrderSlideRow : OpenClaim := { program := "ytddhgiafpmghpaagreat", sum := "c8e08436915860ce090c21447fcc9a20a01eab1ae00a84e570a05f4ad5c2d32d", func := "loop.example/floorrooms/laws.FnExactOrderSlide", spec := "fnExactOrderSlide", inPlace := ["internal/abi.NoEscape"], unfollowed := true, recurses := true, apart := false }
def FnExactOrderSlideSaid : Prop := fnExactOrderSlideRow.holds Tryz.pinned (OpenSpec.ofChange fnExactOrderSlideSpec)

/-- ITS FALSE NEIGHBOUR: 'it returns false'. Refute it at one input. -/
def fnExactOrderSlideWrong : ChangeSpec := { name := "fnExactOrderSlide", fn := fun _ => fun
  | [d] => { results := [.lit (.bool false)], args := [d] }
  | _ => none }
def FnExactOrderSlideWrongFalsely : Prop := fnExactOrderSlideRow.holds Tryz.pinned (OpenSpec.ofChange fnExactOrderSlideWrong)

/-- 'laws.FnOrderSlide': WHATEVER THE INPUT: true; the input reads as it did. -/
def fnOrderSlideSpec : ChangeSpec := { name := "fnOrderSlide", fn := fun _ => fun
  | [d] => { results := [.lit (.bool true)], args := [d] }
  | _ => none }
def fnOrderSlideRow : OpenClaim := { program := "ytddhgiafpmghpaagreat", sum := "c8e08436915860ce090c21447fcc9a20a01eab1ae00a84e570a05f4ad5c2d32d", func := "loop.example/floorrooms/laws.FnOrderSlide", spec := "fnOrderSlide", inPlace := ["internal/abi.NoEscape"], unfollowed := true, recurses := true, apart := false }
def FnOrderSlideSaid : Prop := fnOrderSlideRow.holds Tryz.pinned (OpenSpec.ofChange fnOrderSlideSpec)

/-- ITS FALSE NEIGHBOUR: 'it returns false'. Refute it at one input. -/
def fnOrderSlideWrong : ChangeSpec := { name := "fnOrderSlide", fn := fun _ => fun
  | [d] => { results := [.lit (.bool false)], args := [d] }
  | _ => none }
def FnOrderSlideWrongFalsely : Prop := fnOrderSlideRow.holds Tryz.pinned (OpenSpec.ofChange fnOrderSlideWrong)

/-- 'laws.FnExactCountFirst': WHATEVER THE INPUT: true; the input reads as it did. -/
def fnExactCountFirstSpec : ChangeSpec := { name := "fnExactCountFirst", fn := fun _ => fun
  | [d1, d2, d3] => { results := [.lit (.bool true)], args := [d1, d2, d3] }
  | _ => none }
def fnExactCountFirstRow : OpenClaim := { program := "ytddhgiafpmghpaagreat", sum := "c8e08436915860ce090c21447fcc9a20a01eab1ae00a84e570a05f4ad5c2d32d", func := "loop.example/floorrooms/laws.FnExactCountFirst", spec := "fnExactCountFirst", inPlace := ["internal/abi.NoEscape"], unfollowed := true, recurses := true, apart := false }
def FnExactCountFirstSaid : Prop := fnExactCountFirstRow.holds Tryz.pinned (OpenSpec.ofChange fnExactCountFirstSpec)

/-- ITS FALSE NEIGHBOUR: 'it returns false'. Refute it at one input. -/
def fnExactCountFirstWrong : ChangeSpec := { name := "fnExactCountFirst", fn := fun _ => fun
  | [d1, d2, d3] => { results := [.lit (.bool false)], args := [d1, d2, d3] }
  | _ => none }
def FnExactCountFirstWrongFalsely : Prop := fnExactCountFirstRow.holds Tryz.pinned (OpenSpec.ofChange fnExactCountFirstWrong)

/-- 'laws.FnCountFirst': WHATEVER THE INPUT: true; the input reads as it did. -/
def fnCountFirstSpec : ChangeSpec := { name := "fnCountFirst", fn := fun _ => fun
  | [d] => { results := [.lit (.bool true)], args := [d] }
  | _ => none }
def fnCountFirstRow : OpenClaim := { program := "ytddhgiafpmghpaagreat", sum := "c8e08436915860ce090c21447fcc9a20a01eab1ae00a84e570a05f4ad5c2d32d", func := "loop.example/floorrooms/laws.FnCountFirst", spec := "fnCountFirst", inPlace := ["internal/abi.NoEscape"], unfollowed := true, recurses := true, apart := false }
def FnCountFirstSaid : Prop := fnCountFirstRow.holds Tryz.pinned (OpenSpec.ofChange fnCountFirstSpec)

/-- ITS FALSE NEIGHBOUR: 'it returns false'. Refute it at one input. -/
def fnCountFirstWrong : ChangeSpec := { name := "fnCountFirst", fn := fun _ => fun
  | [d] => { results := [.lit (.bool false)], args := [d] }
  | _ => none }
def FnCountFirstWrongFalsely : Prop := fnCountFirstRow.holds Tryz.pinned (OpenSpec.ofChange fnCountFirstWrong)

/-- 'laws.FnPlanWhole': WHATEVER THE INPUT: true; the input reads as it did. -/
def fnPlanWholeSpec : ChangeSpec := { name := "fnPlanWhole", fn := fun _ => fun
  | [d] => { results := [.lit (.bool true)], args := [d] }
  | _ => none }
def fnPlanWholeRow : OpenClaim := { program := "ytddhgiafpmghpaagreat", sum := "c8e08436915860ce090c21447fcc9a20a01eab1ae00a84e570a05f4ad5c2d32d", func := "loop.example/floorrooms/laws.FnPlanWhole", spec := "fnPlanWhole", inPlace := ["internal/abi.NoEscape"], unfollowed := true, recurses := true, apart := false }
def FnPlanWholeSaid : Prop := fnPlanWholeRow.holds Tryz.pinned (OpenSpec.ofChange fnPlanWholeSpec)

/-- ITS FALSE NEIGHBOUR: 'it returns false'. Refute it at one input. -/
def fnPlanWholeWrong : ChangeSpec := { name := "fnPlanWhole", fn := fun _ => fun
  | [d] => { results := [.lit (.bool false)], args := [d] }
  | _ => none }
def FnPlanWholeWrongFalsely : Prop := fnPlanWholeRow.holds Tryz.pinned (OpenSpec.ofChange fnPlanWholeWrong)

/- THE SECOND FORM. 'bulk': how many values and letters a reading holds, each counted each time it is reached (what is shared counts as often as it is met; a slice's spare places count too). A statement '..UptoSaid' is the law's where the arguments, and the package variables that the reading takes, are together of bulk at most 1048576: NARROWER than '..Said'. Prove '..Said' where nothing that the law and all that it calls make is longer than what came in: it says more and counts as full. Else prove '..UptoSaid'. A law counts once. -/
mutual
def uptoBulk {H : Type} : DataW H → Nat
  | .lit (.string bytes) => bytes.length + 1
  | .lit _ => 1
  | .nil => 1
  | .ptr d => uptoBulk d + 1
  | .slice elems spare => uptoBulkAll elems + uptoBulkAll spare + 1
  | .agg parts => uptoBulkAll parts + 1
  | .iface _ d => uptoBulk d + 1
  | .map entries => uptoBulkEntries entries + 1
  | .held _ => 1
def uptoBulkAll {H : Type} : List (DataW H) → Nat
  | [] => 0
  | d :: r => uptoBulk d + uptoBulkAll r
def uptoBulkEntries {H : Type} : List (Lit × DataW H) → Nat
  | [] => 0
  | x :: r => uptoBulkEntry x + uptoBulkEntries r
def uptoBulkEntry {H : Type} : Lit × DataW H → Nat
  | (.string bytes, d) => bytes.length + uptoBulk d + 1
  | (_, d) => uptoBulk d + 1
 end
def uptoSmall : (H : Type) → List (DataW H) → Bool := fun _ ds => decide (uptoBulkAll ds ≤ 1048576)
def OpenSpec.upto (s : _root_.Go.ChangeSpec) : _root_.Go.OpenSpec := { _root_.Go.OpenSpec.ofChange s with cond := some uptoSmall }

/-- 'laws.FnExactOrderSlide', WHERE WHAT IT READS IS OF BULK AT MOST 1048576: true; the input reads as it did. -/
def fnExactOrderSlideUptoRow : OpenClaim := { program := "ytddhgiafpmghpaagreat", sum := "c8e08436915860ce090c21447fcc9a20a01eab1ae00a84e570a05f4ad5c2d32d", func := "loop.example/floorrooms/laws.FnExactOrderSlide", spec := "fnExactOrderSlide", inPlace := ["internal/abi.NoEscape"], unfollowed := true, recurses := true, apart := false, narrowed := true }
def FnExactOrderSlideUptoSaid : Prop := fnExactOrderSlideUptoRow.holds Tryz.pinned (OpenSpec.upto fnExactOrderSlideSpec)

/-- 'laws.FnOrderSlide', WHERE WHAT IT READS IS OF BULK AT MOST 1048576: true; the input reads as it did. -/
def fnOrderSlideUptoRow : OpenClaim := { program := "ytddhgiafpmghpaagreat", sum := "c8e08436915860ce090c21447fcc9a20a01eab1ae00a84e570a05f4ad5c2d32d", func := "loop.example/floorrooms/laws.FnOrderSlide", spec := "fnOrderSlide", inPlace := ["internal/abi.NoEscape"], unfollowed := true, recurses := true, apart := false, narrowed := true }
def FnOrderSlideUptoSaid : Prop := fnOrderSlideUptoRow.holds Tryz.pinned (OpenSpec.upto fnOrderSlideSpec)

/-- 'laws.FnExactCountFirst', WHERE WHAT IT READS IS OF BULK AT MOST 1048576: true; the input reads as it did. -/
def fnExactCountFirstUptoRow : OpenClaim := { program := "ytddhgiafpmghpaagreat", sum := "c8e08436915860ce090c21447fcc9a20a01eab1ae00a84e570a05f4ad5c2d32d", func := "loop.example/floorrooms/laws.FnExactCountFirst", spec := "fnExactCountFirst", inPlace := ["internal/abi.NoEscape"], unfollowed := true, recurses := true, apart := false, narrowed := true }
def FnExactCountFirstUptoSaid : Prop := fnExactCountFirstUptoRow.holds Tryz.pinned (OpenSpec.upto fnExactCountFirstSpec)

/-- 'laws.FnCountFirst', WHERE WHAT IT READS IS OF BULK AT MOST 1048576: true; the input reads as it did. -/
def fnCountFirstUptoRow : OpenClaim := { program := "ytddhgiafpmghpaagreat", sum := "c8e08436915860ce090c21447fcc9a20a01eab1ae00a84e570a05f4ad5c2d32d", func := "loop.example/floorrooms/laws.FnCountFirst", spec := "fnCountFirst", inPlace := ["internal/abi.NoEscape"], unfollowed := true, recurses := true, apart := false, narrowed := true }
def FnCountFirstUptoSaid : Prop := fnCountFirstUptoRow.holds Tryz.pinned (OpenSpec.upto fnCountFirstSpec)

/-- 'laws.FnPlanWhole', WHERE WHAT IT READS IS OF BULK AT MOST 1048576: true; the input reads as it did. -/
def fnPlanWholeUptoRow : OpenClaim := { program := "ytddhgiafpmghpaagreat", sum := "c8e08436915860ce090c21447fcc9a20a01eab1ae00a84e570a05f4ad5c2d32d", func := "loop.example/floorrooms/laws.FnPlanWhole", spec := "fnPlanWhole", inPlace := ["internal/abi.NoEscape"], unfollowed := true, recurses := true, apart := false, narrowed := true }
def FnPlanWholeUptoSaid : Prop := fnPlanWholeUptoRow.holds Tryz.pinned (OpenSpec.upto fnPlanWholeSpec)

end Rows
end Go.Proofs.YtddhgiafpmghpaaGreat
