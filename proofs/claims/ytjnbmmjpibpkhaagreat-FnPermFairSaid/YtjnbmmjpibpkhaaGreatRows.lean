/-
  No cell of these rows narrows 'for every input' (looked for: loops, veiled, ifaces, maps, wideKeys, modest, calm, conditions, laid).
  DERIVED. THE GIVEN ROWS OF THIS SEAT. 3 by the template 'for every input the law returns true; each argument reads behind the call as it read before'; 0 by the template 'total and deterministic' (their statements: YtjnbmmjpibpkhaaGreatTotals.lean).
  GIVEN WITH THE SEED: the statements are not yours to turn. If you find one false, say at which input.
  Laid BY PROGRAM, IN A SANDBOX (cutbox-rows.mjs): the forced cells as the released guide's own fill.sh prints them over the translation e21f2f78250a4daf… (all of the seat's roots in one cut). By AI agents, Wed Nov 11 2026. No macro, syntax, notation, axiom, sorry.
-/
import Derived.Test.YtjnbmmjpibpkhaaGreatChecked
import GoSem.Claim
import GoSem.ClaimJoined
import GoSem.ClaimMapViews
import Derived.JoinedTies
import Derived.KernelRfl
namespace Go.Proofs.YtjnbmmjpibpkhaaGreat
/- THE CELL 'sum', in the pinned program and in every row, IS THE sha256 OF THE DUMP (.gsa) THAT YtjnbmmjpibpkhaaGreatProg.lean LOADS. Nothing in Lean hashes anything: it is a label: what it is worth is what the hold of that sum in a sandbox is worth. -/
noncomputable def Tryz.pinned : Pinned := { name := "ytjnbmmjpibpkhaagreat", sum := "e21f2f78250a4daf8d56f65cf61a8bebd90b43ec7a9bba9927f13cc444fce86a", checked := Tryz.checked }
namespace Rows
def none {H : Type} : Left H := { results := [], args := [] }

/-- 'laws.FnExactOrderSlide': WHATEVER THE INPUT: true; the input reads as it did. -/
def fnExactOrderSlideSpec : ChangeSpec := { name := "fnExactOrderSlide", fn := fun _ => fun
  | [d] => { results := [.lit (.bool true)], args := [d] }
  | _ => none }
def fnExactOrderSlideRow : OpenClaim := { program := "ytjnbmmjpibpkhaagreat", sum := "e21f2f78250a4daf8d56f65cf61a8bebd90b43ec7a9bba9927f13cc444fce86a", func := "loop.example/floorrooms/laws.FnExactOrderSlide", spec := "fnExactOrderSlide", inPlace := ["internal/abi.NoEscape"], unfollowed := true, recurses := true, apart := false }
def FnExactOrderSlideSaid : Prop := fnExactOrderSlideRow.holds Tryz.pinned (OpenSpec.ofChange fnExactOrderSlideSpec)

/-- ITS FALSE NEIGHBOUR: 'it returns false'. Refute it at one input. -/
def fnExactOrderSlideWrong : ChangeSpec := { name := "fnExactOrderSlide", fn := fun _ => fun
  | [d] => { results := [.lit (.bool false)], args := [d] }
  | _ => none }
def FnExactOrderSlideWrongFalsely : Prop := fnExactOrderSlideRow.holds Tryz.pinned (OpenSpec.ofChange fnExactOrderSlideWrong)

/-- 'laws.FnOrderSlide': WHATEVER THE INPUT: true; the input reads as it did. -/
def fnOrderSlideSpec : ChangeSpec := { name := "fnOrderSlide", fn := fun _ => fun
  | [d] => { results := [.lit (.bool true)], args := [d] }
  | _ => none }
def fnOrderSlideRow : OpenClaim := { program := "ytjnbmmjpibpkhaagreat", sum := "e21f2f78250a4daf8d56f65cf61a8bebd90b43ec7a9bba9927f13cc444fce86a", func := "loop.example/floorrooms/laws.FnOrderSlide", spec := "fnOrderSlide", inPlace := ["internal/abi.NoEscape"], unfollowed := true, recurses := true, apart := false }
def FnOrderSlideSaid : Prop := fnOrderSlideRow.holds Tryz.pinned (OpenSpec.ofChange fnOrderSlideSpec)

/-- ITS FALSE NEIGHBOUR: 'it returns false'. Refute it at one input. -/
def fnOrderSlideWrong : ChangeSpec := { name := "fnOrderSlide", fn := fun _ => fun
  | [d] => { results := [.lit (.bool false)], args := [d] }
  | _ => none }
def FnOrderSlideWrongFalsely : Prop := fnOrderSlideRow.holds Tryz.pinned (OpenSpec.ofChange fnOrderSlideWrong)

/-- 'laws.FnPermFair': WHATEVER THE INPUT: true; the input reads as it did. -/
def fnPermFairSpec : ChangeSpec := { name := "fnPermFair", fn := fun _ => fun
  | [d] => { results := [.lit (.bool true)], args := [d] }
  | _ => none }
def fnPermFairRow : OpenClaim := { program := "ytjnbmmjpibpkhaagreat", sum := "e21f2f78250a4daf8d56f65cf61a8bebd90b43ec7a9bba9927f13cc444fce86a", func := "loop.example/floorrooms/laws.FnPermFair", spec := "fnPermFair", inPlace := ["internal/abi.NoEscape"], unfollowed := true, recurses := true, apart := false }
def FnPermFairSaid : Prop := fnPermFairRow.holds Tryz.pinned (OpenSpec.ofChange fnPermFairSpec)

/-- ITS FALSE NEIGHBOUR: 'it returns false'. Refute it at one input. -/
def fnPermFairWrong : ChangeSpec := { name := "fnPermFair", fn := fun _ => fun
  | [d] => { results := [.lit (.bool false)], args := [d] }
  | _ => none }
def FnPermFairWrongFalsely : Prop := fnPermFairRow.holds Tryz.pinned (OpenSpec.ofChange fnPermFairWrong)

/- THE SECOND FORM. 'bulk': how many values and letters a reading holds, each counted each time it is reached (what is shared counts as often as it is met; a slice's spare places count too). A statement '..UptoSaid' is the law's where the arguments, and the package variables that the reading takes, are together of bulk at most 1048576: NARROWER than '..Said'. Prove '..Said' where nothing that the law and all that it calls make is longer than what came in: it says more and counts as full. Else prove '..UptoSaid'. A law counts once. -/
mutual
def uptoBulk {H : Type} : DataW H → Nat
  | .lit (.string bytes) => bytes.length + 1
  | .lit _ => 1
  | .nil => 1
  | .ptr d => uptoBulk d + 1
  | .slice elems spare => uptoBulkAll elems + uptoBulkAll spare + 1
  | .agg parts => uptoBulkAll parts + 1
  | .iface _ d => uptoBulk d + 1
  | .map entries => uptoBulkEntries entries + 1
  | .held _ => 1
def uptoBulkAll {H : Type} : List (DataW H) → Nat
  | [] => 0
  | d :: r => uptoBulk d + uptoBulkAll r
def uptoBulkEntries {H : Type} : List (Lit × DataW H) → Nat
  | [] => 0
  | x :: r => uptoBulkEntry x + uptoBulkEntries r
def uptoBulkEntry {H : Type} : Lit × DataW H → Nat
  | (.string bytes, d) => bytes.length + uptoBulk d + 1
  | (_, d) => uptoBulk d + 1
 end
def uptoSmall : (H : Type) → List (DataW H) → Bool := fun _ ds => decide (uptoBulkAll ds ≤ 1048576)
def OpenSpec.upto (s : _root_.Go.ChangeSpec) : _root_.Go.OpenSpec := { _root_.Go.OpenSpec.ofChange s with cond := some uptoSmall }

/-- 'laws.FnExactOrderSlide', WHERE WHAT IT READS IS OF BULK AT MOST 1048576: true; the input reads as it did. -/
def fnExactOrderSlideUptoRow : OpenClaim := { program := "ytjnbmmjpibpkhaagreat", sum := "e21f2f78250a4daf8d56f65cf61a8bebd90b43ec7a9bba9927f13cc444fce86a", func := "loop.example/floorrooms/laws.FnExactOrderSlide", spec := "fnExactOrderSlide", inPlace := ["internal/abi.NoEscape"], unfollowed := true, recurses := true, apart := false, narrowed := true }
def FnExactOrderSlideUptoSaid : Prop := fnExactOrderSlideUptoRow.holds Tryz.pinned (OpenSpec.upto fnExactOrderSlideSpec)

/-- 'laws.FnOrderSlide', WHERE WHAT IT READS IS OF BULK AT MOST 1048576: true; the input reads as it did. -/
def fnOrderSlideUptoRow : OpenClaim := { program := "ytjnbmmjpibpkhaagreat", sum := "e21f2f78250a4daf8d56f65cf61a8bebd90b43ec7a9bba9927f13cc444fce86a", func := "loop.example/floorrooms/laws.FnOrderSlide", spec := "fnOrderSlide", inPlace := ["internal/abi.NoEscape"], unfollowed := true, recurses := true, apart := false, narrowed := true }
def FnOrderSlideUptoSaid : Prop := fnOrderSlideUptoRow.holds Tryz.pinned (OpenSpec.upto fnOrderSlideSpec)

/-- 'laws.FnPermFair', WHERE WHAT IT READS IS OF BULK AT MOST 1048576: true; the input reads as it did. -/
def fnPermFairUptoRow : OpenClaim := { program := "ytjnbmmjpibpkhaagreat", sum := "e21f2f78250a4daf8d56f65cf61a8bebd90b43ec7a9bba9927f13cc444fce86a", func := "loop.example/floorrooms/laws.FnPermFair", spec := "fnPermFair", inPlace := ["internal/abi.NoEscape"], unfollowed := true, recurses := true, apart := false, narrowed := true }
def FnPermFairUptoSaid : Prop := fnPermFairUptoRow.holds Tryz.pinned (OpenSpec.upto fnPermFairSpec)

end Rows
end Go.Proofs.YtjnbmmjpibpkhaaGreat
