/-
  DERIVED. GIVEN WITH THE SEED: THE CARDS: each row of YtibdddkcjijlaaaDoorRows.lean that lists a variable, with what it lists TIED to the program's text (the seventh form; the later family's looks); each row that meets fmt, with fmt's text TOLD by the authors' own Lean function (tested against real Go, not proved from fmt's source: count such statements apart). THE CARD IS WHAT COUNTS. Prove the row's statement (the work); the ties are given (YtibdddkcjijlaaaDoorTie.lean); close each card by the builder's one call (the guide's Derived/Test/ToyasCard.lean, 'card_holds'). Laid BY PROGRAM, IN A SANDBOX (cutbox-door.mjs). By AI agents, Wed Nov 11 2026. No macro, syntax, notation, axiom, sorry.
-/
import Derived.Test.YtibdddkcjijlaaaDoorRows
import GoSem.ClaimSeven
namespace Go.Proofs.YtibdddkcjijlaaaDoor
namespace Rows

/-- THE TIED CARD OF 'larderwicklaw3.FitPlays'. -/
def fitPlaysCard : Claim7 := { stood := { row := fitPlaysRow, standIns := [], harness := (true, "262fccaf0c6a80b8d91177bf003f160dacf8f724397f60d46824665738b40659"), looks := true }, kinds := [], alts := [], laidByText := true, laidKinds := [.handle], laidTests := true, laidLooks := .later }
def FitPlaysCardSaid : Prop := Claim7.holds Tryd.pinned (.plain (OpenSpec.ofChange fitPlaysSpec)) fitPlaysCard

/-- THE TIED CARD OF 'larderwicklaw3.BuddyPlays'. -/
def buddyPlaysCard : Claim7 := { stood := { row := buddyPlaysRow, standIns := [], harness := (true, "262fccaf0c6a80b8d91177bf003f160dacf8f724397f60d46824665738b40659"), looks := true }, kinds := [], alts := [], laidByText := true, laidKinds := [.handle], laidTests := true, laidLooks := .later }
def BuddyPlaysCardSaid : Prop := Claim7.holds Tryd.pinned (.plain (OpenSpec.ofChange buddyPlaysSpec)) buddyPlaysCard

/-- THE SECOND FORM's CARD OF 'larderwicklaw3.FitPlays'. -/
def fitPlaysUptoCard : Claim7 := { stood := { row := fitPlaysUptoRow, standIns := [], harness := (true, "262fccaf0c6a80b8d91177bf003f160dacf8f724397f60d46824665738b40659"), looks := true }, kinds := [], alts := [], laidByText := true, laidKinds := [.handle], laidTests := true, laidLooks := .later }
def FitPlaysUptoCardSaid : Prop := Claim7.holds Tryd.pinned (.plain (OpenSpec.upto fitPlaysSpec)) fitPlaysUptoCard

/-- THE SECOND FORM's CARD OF 'larderwicklaw3.BuddyPlays'. -/
def buddyPlaysUptoCard : Claim7 := { stood := { row := buddyPlaysUptoRow, standIns := [], harness := (true, "262fccaf0c6a80b8d91177bf003f160dacf8f724397f60d46824665738b40659"), looks := true }, kinds := [], alts := [], laidByText := true, laidKinds := [.handle], laidTests := true, laidLooks := .later }
def BuddyPlaysUptoCardSaid : Prop := Claim7.holds Tryd.pinned (.plain (OpenSpec.upto buddyPlaysSpec)) buddyPlaysUptoCard
end Rows
end Go.Proofs.YtibdddkcjijlaaaDoor
