/-
  DERIVED. GIVEN WITH THE SEED: THE CARDS: each row of YtkoljbncokmeaaaGreatDoorRows.lean that lists a variable, with what it lists TIED to the program's text (the seventh form; the later family's looks); each row that meets fmt, with fmt's text TOLD by the authors' own Lean function (tested against real Go, not proved from fmt's source: count such statements apart). THE CARD IS WHAT COUNTS. Prove the row's statement (the work); the ties are given (YtkoljbncokmeaaaGreatDoorTie.lean); close each card by the builder's one call (the guide's Derived/Test/ToyasCard.lean, 'card_holds'). Laid BY PROGRAM, IN A SANDBOX (cutbox-door.mjs). By AI agents, Wed Nov 11 2026. No macro, syntax, notation, axiom, sorry.
-/
import Derived.Test.YtkoljbncokmeaaaGreatDoorRows
import GoSem.ClaimSeven
namespace Go.Proofs.YtkoljbncokmeaaaGreatDoor
namespace Rows

/-- THE TIED CARD OF 'laws.FnTwists'. -/
def fnTwistsCard : Claim7 := { stood := { row := fnTwistsRow, standIns := [], harness := (true, "f330a9e9e8586937a3c9ebda364682809ae942941c6f919d0fb1d04503386375"), looks := false }, kinds := [], alts := [], laidByText := true, laidKinds := [.data, .data, .data], laidTests := true, laidLooks := .later }
def FnTwistsCardSaid : Prop := Claim7.holds Tryz.pinned (.plain (OpenSpec.ofChange fnTwistsSpec)) fnTwistsCard

/-- THE SECOND FORM's CARD OF 'laws.FnTwists'. -/
def fnTwistsUptoCard : Claim7 := { stood := { row := fnTwistsUptoRow, standIns := [], harness := (true, "f330a9e9e8586937a3c9ebda364682809ae942941c6f919d0fb1d04503386375"), looks := false }, kinds := [], alts := [], laidByText := true, laidKinds := [.data, .data, .data], laidTests := true, laidLooks := .later }
def FnTwistsUptoCardSaid : Prop := Claim7.holds Tryz.pinned (.plain (OpenSpec.upto fnTwistsSpec)) fnTwistsUptoCard
end Rows
end Go.Proofs.YtkoljbncokmeaaaGreatDoor
