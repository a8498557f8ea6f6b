/-
  DERIVED. GIVEN WITH THE SEED: THE CARDS: each row of YtclbmeloiefbaaaGreatDoorRows.lean that lists a variable, with what it lists TIED to the program's text (the seventh form; the later family's looks); each row that meets fmt, with fmt's text TOLD by the authors' own Lean function (tested against real Go, not proved from fmt's source: count such statements apart). THE CARD IS WHAT COUNTS. Prove the row's statement (the work); the ties are given (YtclbmeloiefbaaaGreatDoorTie.lean); close each card by the builder's one call (the guide's Derived/Test/ToyasCard.lean, 'card_holds'). Laid BY PROGRAM, IN A SANDBOX (cutbox-door.mjs). By AI agents, Wed Nov 11 2026. No macro, syntax, notation, axiom, sorry.
-/
import Derived.Test.YtclbmeloiefbaaaGreatDoorRows
import GoSem.ClaimSeven
namespace Go.Proofs.YtclbmeloiefbaaaGreatDoor
namespace Rows

/-- THE TIED CARD OF 'laws.FnExecuteCut'. -/
def fnExecuteCutCard : Claim7 := { stood := { row := fnExecuteCutRow, standIns := [], harness := (true, "fb847702a1589724f0c76eab250143ac362a1f09c57d02b971c4c9f679146793"), looks := true }, kinds := [], alts := [], laidByText := true, laidKinds := [.data, .data, .data, .data, .sentinel, .sentinel, .pinned], laidTests := true, laidLooks := .later }
def FnExecuteCutCardSaid : Prop := Claim7.holds Tryz.pinned (.plain (OpenSpec.ofChange fnExecuteCutSpec)) fnExecuteCutCard

/-- THE TIED CARD OF 'laws.FnExecuteProof'. -/
def fnExecuteProofCard : Claim7 := { stood := { row := fnExecuteProofRow, standIns := [], harness := (true, "fb847702a1589724f0c76eab250143ac362a1f09c57d02b971c4c9f679146793"), looks := true }, kinds := [], alts := [], laidByText := true, laidKinds := [.data, .data, .data, .data, .sentinel, .sentinel, .pinned], laidTests := true, laidLooks := .later }
def FnExecuteProofCardSaid : Prop := Claim7.holds Tryz.pinned (.plain (OpenSpec.ofChange fnExecuteProofSpec)) fnExecuteProofCard

/-- THE SECOND FORM's CARD OF 'laws.FnExecuteCut'. -/
def fnExecuteCutUptoCard : Claim7 := { stood := { row := fnExecuteCutUptoRow, standIns := [], harness := (true, "fb847702a1589724f0c76eab250143ac362a1f09c57d02b971c4c9f679146793"), looks := true }, kinds := [], alts := [], laidByText := true, laidKinds := [.data, .data, .data, .data, .sentinel, .sentinel, .pinned], laidTests := true, laidLooks := .later }
def FnExecuteCutUptoCardSaid : Prop := Claim7.holds Tryz.pinned (.plain (OpenSpec.upto fnExecuteCutSpec)) fnExecuteCutUptoCard

/-- THE SECOND FORM's CARD OF 'laws.FnExecuteProof'. -/
def fnExecuteProofUptoCard : Claim7 := { stood := { row := fnExecuteProofUptoRow, standIns := [], harness := (true, "fb847702a1589724f0c76eab250143ac362a1f09c57d02b971c4c9f679146793"), looks := true }, kinds := [], alts := [], laidByText := true, laidKinds := [.data, .data, .data, .data, .sentinel, .sentinel, .pinned], laidTests := true, laidLooks := .later }
def FnExecuteProofUptoCardSaid : Prop := Claim7.holds Tryz.pinned (.plain (OpenSpec.upto fnExecuteProofSpec)) fnExecuteProofUptoCard
end Rows
end Go.Proofs.YtclbmeloiefbaaaGreatDoor
