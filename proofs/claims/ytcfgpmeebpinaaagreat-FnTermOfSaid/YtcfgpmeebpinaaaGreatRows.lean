/-
  No cell of these rows narrows 'for every input' (looked for: loops, veiled, ifaces, maps, wideKeys, modest, calm, conditions, laid).
  DERIVED. THE GIVEN ROWS OF THIS SEAT. 3 by the template 'for every input the law returns true; each argument reads behind the call as it read before'; 0 by the template 'total and deterministic' (their statements: YtcfgpmeebpinaaaGreatTotals.lean).
  GIVEN WITH THE SEED: the statements are not yours to turn. If you find one false, say at which input.
  Laid BY PROGRAM, IN A SANDBOX (cutbox-rows.mjs): the forced cells as the released guide's own fill.sh prints them over the translation 8630bc85a3f55251… (all of the seat's roots in one cut). By AI agents, Wed Nov 11 2026. No macro, syntax, notation, axiom, sorry.
-/
import Derived.Test.YtcfgpmeebpinaaaGreatChecked
import GoSem.Claim
import GoSem.ClaimJoined
import GoSem.ClaimMapViews
import Derived.JoinedTies
import Derived.KernelRfl
namespace Go.Proofs.YtcfgpmeebpinaaaGreat
/- THE CELL 'sum', in the pinned program and in every row, IS THE sha256 OF THE DUMP (.gsa) THAT YtcfgpmeebpinaaaGreatProg.lean LOADS. Nothing in Lean hashes anything: it is a label: what it is worth is what the hold of that sum in a sandbox is worth. -/
noncomputable def Tryz.pinned : Pinned := { name := "ytcfgpmeebpinaaagreat", sum := "8630bc85a3f55251440b86fc35d15f9027fccc4f227b476dcbb69a07a8a3cfa2", checked := Tryz.checked }
namespace Rows
def none {H : Type} : Left H := { results := [], args := [] }

/-- 'laws.FnTermPlan': WHATEVER THE INPUT: true; the input reads as it did. -/
def fnTermPlanSpec : ChangeSpec := { name := "fnTermPlan", fn := fun _ => fun
  | [d] => { results := [.lit (.bool true)], args := [d] }
  | _ => none }
def fnTermPlanRow : OpenClaim := { program := "ytcfgpmeebpinaaagreat", sum := "8630bc85a3f55251440b86fc35d15f9027fccc4f227b476dcbb69a07a8a3cfa2", func := "loop.example/floorrooms/laws.FnTermPlan", spec := "fnTermPlan", inPlace := ["internal/bytealg.CountString", "internal/bytealg.IndexByteString", "internal/bytealg.IndexString", "internal/abi.NoEscape"], unfollowed := true, recurses := true, named := ["internal/bytealg.MaxLen"], apart := false }
def FnTermPlanSaid : Prop := fnTermPlanRow.holds Tryz.pinned (OpenSpec.ofChange fnTermPlanSpec)

/-- ITS FALSE NEIGHBOUR: 'it returns false'. Refute it at one input. -/
def fnTermPlanWrong : ChangeSpec := { name := "fnTermPlan", fn := fun _ => fun
  | [d] => { results := [.lit (.bool false)], args := [d] }
  | _ => none }
def FnTermPlanWrongFalsely : Prop := fnTermPlanRow.holds Tryz.pinned (OpenSpec.ofChange fnTermPlanWrong)

/-- 'laws.FnTermPerm': WHATEVER THE INPUT: true; the input reads as it did. -/
def fnTermPermSpec : ChangeSpec := { name := "fnTermPerm", fn := fun _ => fun
  | [d] => { results := [.lit (.bool true)], args := [d] }
  | _ => none }
def fnTermPermRow : OpenClaim := { program := "ytcfgpmeebpinaaagreat", sum := "8630bc85a3f55251440b86fc35d15f9027fccc4f227b476dcbb69a07a8a3cfa2", func := "loop.example/floorrooms/laws.FnTermPerm", spec := "fnTermPerm", inPlace := ["internal/bytealg.CountString", "internal/bytealg.IndexByteString", "internal/bytealg.IndexString", "internal/abi.NoEscape"], unfollowed := true, recurses := true, named := ["internal/bytealg.MaxLen"], apart := false }
def FnTermPermSaid : Prop := fnTermPermRow.holds Tryz.pinned (OpenSpec.ofChange fnTermPermSpec)

/-- ITS FALSE NEIGHBOUR: 'it returns false'. Refute it at one input. -/
def fnTermPermWrong : ChangeSpec := { name := "fnTermPerm", fn := fun _ => fun
  | [d] => { results := [.lit (.bool false)], args := [d] }
  | _ => none }
def FnTermPermWrongFalsely : Prop := fnTermPermRow.holds Tryz.pinned (OpenSpec.ofChange fnTermPermWrong)

/-- 'laws.FnTermOf': WHATEVER THE INPUT: true; the input reads as it did. -/
def fnTermOfSpec : ChangeSpec := { name := "fnTermOf", fn := fun _ => fun
  | [d] => { results := [.lit (.bool true)], args := [d] }
  | _ => none }
def fnTermOfRow : OpenClaim := { program := "ytcfgpmeebpinaaagreat", sum := "8630bc85a3f55251440b86fc35d15f9027fccc4f227b476dcbb69a07a8a3cfa2", func := "loop.example/floorrooms/laws.FnTermOf", spec := "fnTermOf", inPlace := ["internal/abi.NoEscape", "internal/bytealg.CountString", "internal/bytealg.IndexByteString", "internal/bytealg.IndexString"], unfollowed := true, recurses := true, named := ["internal/bytealg.MaxLen"], apart := false }
def FnTermOfSaid : Prop := fnTermOfRow.holds Tryz.pinned (OpenSpec.ofChange fnTermOfSpec)

/-- ITS FALSE NEIGHBOUR: 'it returns false'. Refute it at one input. -/
def fnTermOfWrong : ChangeSpec := { name := "fnTermOf", fn := fun _ => fun
  | [d] => { results := [.lit (.bool false)], args := [d] }
  | _ => none }
def FnTermOfWrongFalsely : Prop := fnTermOfRow.holds Tryz.pinned (OpenSpec.ofChange fnTermOfWrong)

/- THE SECOND FORM. 'bulk': how many values and letters a reading holds, each counted each time it is reached (what is shared counts as often as it is met; a slice's spare places count too). A statement '..UptoSaid' is the law's where the arguments, and the package variables that the reading takes, are together of bulk at most 1048576: NARROWER than '..Said'. Prove '..Said' where nothing that the law and all that it calls make is longer than what came in: it says more and counts as full. Else prove '..UptoSaid'. A law counts once. -/
mutual
def uptoBulk {H : Type} : DataW H → Nat
  | .lit (.string bytes) => bytes.length + 1
  | .lit _ => 1
  | .nil => 1
  | .ptr d => uptoBulk d + 1
  | .slice elems spare => uptoBulkAll elems + uptoBulkAll spare + 1
  | .agg parts => uptoBulkAll parts + 1
  | .iface _ d => uptoBulk d + 1
  | .map entries => uptoBulkEntries entries + 1
  | .held _ => 1
def uptoBulkAll {H : Type} : List (DataW H) → Nat
  | [] => 0
  | d :: r => uptoBulk d + uptoBulkAll r
def uptoBulkEntries {H : Type} : List (Lit × DataW H) → Nat
  | [] => 0
  | x :: r => uptoBulkEntry x + uptoBulkEntries r
def uptoBulkEntry {H : Type} : Lit × DataW H → Nat
  | (.string bytes, d) => bytes.length + uptoBulk d + 1
  | (_, d) => uptoBulk d + 1
 end
def uptoSmall : (H : Type) → List (DataW H) → Bool := fun _ ds => decide (uptoBulkAll ds ≤ 1048576)
def OpenSpec.upto (s : _root_.Go.ChangeSpec) : _root_.Go.OpenSpec := { _root_.Go.OpenSpec.ofChange s with cond := some uptoSmall }

/-- 'laws.FnTermPlan', WHERE WHAT IT READS IS OF BULK AT MOST 1048576: true; the input reads as it did. -/
def fnTermPlanUptoRow : OpenClaim := { program := "ytcfgpmeebpinaaagreat", sum := "8630bc85a3f55251440b86fc35d15f9027fccc4f227b476dcbb69a07a8a3cfa2", func := "loop.example/floorrooms/laws.FnTermPlan", spec := "fnTermPlan", inPlace := ["internal/bytealg.CountString", "internal/bytealg.IndexByteString", "internal/bytealg.IndexString", "internal/abi.NoEscape"], unfollowed := true, recurses := true, named := ["internal/bytealg.MaxLen"], apart := false, narrowed := true }
def FnTermPlanUptoSaid : Prop := fnTermPlanUptoRow.holds Tryz.pinned (OpenSpec.upto fnTermPlanSpec)

/-- 'laws.FnTermPerm', WHERE WHAT IT READS IS OF BULK AT MOST 1048576: true; the input reads as it did. -/
def fnTermPermUptoRow : OpenClaim := { program := "ytcfgpmeebpinaaagreat", sum := "8630bc85a3f55251440b86fc35d15f9027fccc4f227b476dcbb69a07a8a3cfa2", func := "loop.example/floorrooms/laws.FnTermPerm", spec := "fnTermPerm", inPlace := ["internal/bytealg.CountString", "internal/bytealg.IndexByteString", "internal/bytealg.IndexString", "internal/abi.NoEscape"], unfollowed := true, recurses := true, named := ["internal/bytealg.MaxLen"], apart := false, narrowed := true }
def FnTermPermUptoSaid : Prop := fnTermPermUptoRow.holds Tryz.pinned (OpenSpec.upto fnTermPermSpec)

/-- 'laws.FnTermOf', WHERE WHAT IT READS IS OF BULK AT MOST 1048576: true; the input reads as it did. -/
def fnTermOfUptoRow : OpenClaim := { program := "ytcfgpmeebpinaaagreat", sum := "8630bc85a3f55251440b86fc35d15f9027fccc4f227b476dcbb69a07a8a3cfa2", func := "loop.example/floorrooms/laws.FnTermOf", spec := "fnTermOf", inPlace := ["internal/abi.NoEscape", "internal/bytealg.CountString", "internal/bytealg.IndexByteString", "internal/bytealg.IndexString"], unfollowed := true, recurses := true, named := ["internal/bytealg.MaxLen"], apart := false, narrowed := true }
def FnTermOfUptoSaid : Prop := fnTermOfUptoRow.holds Tryz.pinned (OpenSpec.upto fnTermOfSpec)

end Rows
end Go.Proofs.YtcfgpmeebpinaaaGreat
