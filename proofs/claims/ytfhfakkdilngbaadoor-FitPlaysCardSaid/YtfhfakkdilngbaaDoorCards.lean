/-
  DERIVED. GIVEN WITH THE SEED: THE CARDS: each row of YtfhfakkdilngbaaDoorRows.lean that lists a variable, with what it lists TIED to the program's text (the seventh form; the later family's looks); each row that meets fmt, with fmt's text TOLD by the authors' own Lean function (tested against real Go, not proved from fmt's source: count such statements apart). THE CARD IS WHAT COUNTS. Prove the row's statement (the work); the ties are given (YtfhfakkdilngbaaDoorTie.lean); close each card by the builder's one call (the guide's Derived/Test/ToyasCard.lean, 'card_holds'). Laid BY PROGRAM, IN A SANDBOX (cutbox-door.mjs). By AI agents, Wed Nov 11 2026. No macro, syntax, notation, axiom, sorry.
-/
import Derived.Test.YtfhfakkdilngbaaDoorRows
import GoSem.ClaimSeven
namespace Go.Proofs.YtfhfakkdilngbaaDoor
namespace Rows

/-- THE TIED CARD OF 'larderwicklaw3.FitFirst'. -/
def fitFirstCard : Claim7 := { stood := { row := fitFirstRow, standIns := [], harness := (true, "5dd08914b89a1d577fb937f3fd724eff743bde32c9f43ad871ff2af28711d06a"), looks := true }, kinds := [], alts := [], laidByText := true, laidKinds := [.handle], laidTests := true, laidLooks := .later }
def FitFirstCardSaid : Prop := Claim7.holds Tryd.pinned (.plain (OpenSpec.ofChange fitFirstSpec)) fitFirstCard

/-- THE TIED CARD OF 'larderwicklaw3.FitPlays'. -/
def fitPlaysCard : Claim7 := { stood := { row := fitPlaysRow, standIns := [], harness := (true, "5dd08914b89a1d577fb937f3fd724eff743bde32c9f43ad871ff2af28711d06a"), looks := true }, kinds := [], alts := [], laidByText := true, laidKinds := [.handle], laidTests := true, laidLooks := .later }
def FitPlaysCardSaid : Prop := Claim7.holds Tryd.pinned (.plain (OpenSpec.ofChange fitPlaysSpec)) fitPlaysCard

/-- THE TIED CARD OF 'larderwicklaw3.BuddyFull'. -/
def buddyFullCard : Claim7 := { stood := { row := buddyFullRow, standIns := [], harness := (true, "5dd08914b89a1d577fb937f3fd724eff743bde32c9f43ad871ff2af28711d06a"), looks := true }, kinds := [], alts := [], laidByText := true, laidKinds := [.handle], laidTests := true, laidLooks := .later }
def BuddyFullCardSaid : Prop := Claim7.holds Tryd.pinned (.plain (OpenSpec.ofChange buddyFullSpec)) buddyFullCard

/-- THE TIED CARD OF 'larderwicklaw3.BuddyPlays'. -/
def buddyPlaysCard : Claim7 := { stood := { row := buddyPlaysRow, standIns := [], harness := (true, "5dd08914b89a1d577fb937f3fd724eff743bde32c9f43ad871ff2af28711d06a"), looks := true }, kinds := [], alts := [], laidByText := true, laidKinds := [.handle], laidTests := true, laidLooks := .later }
def BuddyPlaysCardSaid : Prop := Claim7.holds Tryd.pinned (.plain (OpenSpec.ofChange buddyPlaysSpec)) buddyPlaysCard

/-- THE SECOND FORM's CARD OF 'larderwicklaw3.FitFirst'. -/
def fitFirstUptoCard : Claim7 := { stood := { row := fitFirstUptoRow, standIns := [], harness := (true, "5dd08914b89a1d577fb937f3fd724eff743bde32c9f43ad871ff2af28711d06a"), looks := true }, kinds := [], alts := [], laidByText := true, laidKinds := [.handle], laidTests := true, laidLooks := .later }
def FitFirstUptoCardSaid : Prop := Claim7.holds Tryd.pinned (.plain (OpenSpec.upto fitFirstSpec)) fitFirstUptoCard

/-- THE SECOND FORM's CARD OF 'larderwicklaw3.FitPlays'. -/
def fitPlaysUptoCard : Claim7 := { stood := { row := fitPlaysUptoRow, standIns := [], harness := (true, "5dd08914b89a1d577fb937f3fd724eff743bde32c9f43ad871ff2af28711d06a"), looks := true }, kinds := [], alts := [], laidByText := true, laidKinds := [.handle], laidTests := true, laidLooks := .later }
def FitPlaysUptoCardSaid : Prop := Claim7.holds Tryd.pinned (.plain (OpenSpec.upto fitPlaysSpec)) fitPlaysUptoCard

/-- THE SECOND FORM's CARD OF 'larderwicklaw3.BuddyFull'. -/
def buddyFullUptoCard : Claim7 := { stood := { row := buddyFullUptoRow, standIns := [], harness := (true, "5dd08914b89a1d577fb937f3fd724eff743bde32c9f43ad871ff2af28711d06a"), looks := true }, kinds := [], alts := [], laidByText := true, laidKinds := [.handle], laidTests := true, laidLooks := .later }
def BuddyFullUptoCardSaid : Prop := Claim7.holds Tryd.pinned (.plain (OpenSpec.upto buddyFullSpec)) buddyFullUptoCard

/-- THE SECOND FORM's CARD OF 'larderwicklaw3.BuddyPlays'. -/
def buddyPlaysUptoCard : Claim7 := { stood := { row := buddyPlaysUptoRow, standIns := [], harness := (true, "5dd08914b89a1d577fb937f3fd724eff743bde32c9f43ad871ff2af28711d06a"), looks := true }, kinds := [], alts := [], laidByText := true, laidKinds := [.handle], laidTests := true, laidLooks := .later }
def BuddyPlaysUptoCardSaid : Prop := Claim7.holds Tryd.pinned (.plain (OpenSpec.upto buddyPlaysSpec)) buddyPlaysUptoCard
end Rows
end Go.Proofs.YtfhfakkdilngbaaDoor
