/-
  DERIVED. GIVEN WITH THE SEED: THE CARDS: each row of YtiibadganlincaaDoorRows.lean that lists a variable, with what it lists TIED to the program's text (the seventh form; the later family's looks); each row that meets fmt, with fmt's text TOLD by the authors' own Lean function (tested against real Go, not proved from fmt's source: count such statements apart). THE CARD IS WHAT COUNTS. Prove the row's statement (the work); the ties are given (YtiibadganlincaaDoorTie.lean); close each card by the builder's one call (the guide's Derived/Test/ToyasCard.lean, 'card_holds'). Laid BY PROGRAM, IN A SANDBOX (cutbox-door.mjs). By AI agents, Wed Nov 11 2026. No macro, syntax, notation, axiom, sorry.
-/
import Derived.Test.YtiibadganlincaaDoorRows
import GoSem.ClaimSeven
namespace Go.Proofs.YtiibadganlincaaDoor
namespace Rows

/-- THE TIED CARD OF 'larderwicklaw3.CountPlays'. -/
def countPlaysCard : Claim7 := { stood := { row := countPlaysRow, standIns := [], harness := (true, "6fd50705516ef88e4bd9b19b1211131052b102546274f6bf3a179ddc3864352a"), looks := true }, kinds := [], alts := [], laidByText := true, laidKinds := [.handle], laidTests := true, laidLooks := .later }
def CountPlaysCardSaid : Prop := Claim7.holds Tryd.pinned (.plain (OpenSpec.ofChange countPlaysSpec)) countPlaysCard

/-- THE SECOND FORM's CARD OF 'larderwicklaw3.CountPlays'. -/
def countPlaysUptoCard : Claim7 := { stood := { row := countPlaysUptoRow, standIns := [], harness := (true, "6fd50705516ef88e4bd9b19b1211131052b102546274f6bf3a179ddc3864352a"), looks := true }, kinds := [], alts := [], laidByText := true, laidKinds := [.handle], laidTests := true, laidLooks := .later }
def CountPlaysUptoCardSaid : Prop := Claim7.holds Tryd.pinned (.plain (OpenSpec.upto countPlaysSpec)) countPlaysUptoCard
end Rows
end Go.Proofs.YtiibadganlincaaDoor
