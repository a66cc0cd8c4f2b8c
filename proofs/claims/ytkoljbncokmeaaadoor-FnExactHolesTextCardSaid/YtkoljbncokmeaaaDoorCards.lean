/-
  DERIVED. GIVEN WITH THE SEED: THE CARDS: each row of YtkoljbncokmeaaaDoorRows.lean that lists a variable, with what it lists TIED to the program's text (the seventh form; the later family's looks); each row that meets fmt, with fmt's text TOLD by the authors' own Lean function (tested against real Go, not proved from fmt's source: count such statements apart). THE CARD IS WHAT COUNTS. Prove the row's statement (the work); the ties are given (YtkoljbncokmeaaaDoorTie.lean); close each card by the builder's one call (the guide's Derived/Test/ToyasCard.lean, 'card_holds'). Laid BY PROGRAM, IN A SANDBOX (cutbox-door.mjs). By AI agents, Wed Nov 11 2026. No macro, syntax, notation, axiom, sorry.
-/
import Derived.Test.YtkoljbncokmeaaaDoorRows
import GoSem.ClaimSeven
namespace Go.Proofs.YtkoljbncokmeaaaDoor
namespace Rows

/-- THE TIED CARD OF 'laws.FnExactHolesText'. -/
def fnExactHolesTextCard : Claim7 := { stood := { row := fnExactHolesTextRow, standIns := [], harness := (true, "7294dc93f653ebc4fb727c7484eae4e4097ac6d5dca45e50a6f2e540b8e0e7f1"), looks := false }, kinds := [], alts := [], laidByText := true, laidKinds := [.data, .data, .data], laidTests := true, laidLooks := .later }
def FnExactHolesTextCardSaid : Prop := Claim7.holds Tryd.pinned (.plain (OpenSpec.ofChange fnExactHolesTextSpec)) fnExactHolesTextCard

/-- THE SECOND FORM's CARD OF 'laws.FnExactHolesText'. -/
def fnExactHolesTextUptoCard : Claim7 := { stood := { row := fnExactHolesTextUptoRow, standIns := [], harness := (true, "7294dc93f653ebc4fb727c7484eae4e4097ac6d5dca45e50a6f2e540b8e0e7f1"), looks := false }, kinds := [], alts := [], laidByText := true, laidKinds := [.data, .data, .data], laidTests := true, laidLooks := .later }
def FnExactHolesTextUptoCardSaid : Prop := Claim7.holds Tryd.pinned (.plain (OpenSpec.upto fnExactHolesTextSpec)) fnExactHolesTextUptoCard
end Rows
end Go.Proofs.YtkoljbncokmeaaaDoor
