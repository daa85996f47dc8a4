/-
  DERIVED. GIVEN WITH THE SEED: THE CARDS: each row of YtgbdjidjbcbhjaaDoorRows.lean that lists a variable, with what it lists TIED to the program's text (the seventh form; the later family's looks); each row that meets fmt, with fmt's text TOLD by the authors' own Lean function (tested against real Go, not proved from fmt's source: count such statements apart). THE CARD IS WHAT COUNTS. Prove the row's statement (the work); the ties are given (YtgbdjidjbcbhjaaDoorTie.lean); close each card by the builder's one call (the guide's Derived/Test/ToyasCard.lean, 'card_holds'). Laid BY PROGRAM, IN A SANDBOX (cutbox-door.mjs). By AI agents, Wed Nov 11 2026. No macro, syntax, notation, axiom, sorry.
-/
import Derived.Test.YtgbdjidjbcbhjaaDoorRows
import GoSem.ClaimSeven
namespace Go.Proofs.YtgbdjidjbcbhjaaDoor
namespace Rows

/-- THE TIED CARD OF 'larderwicklaw3.CheneySays'. -/
def cheneySaysCard : Claim7 := { stood := { row := cheneySaysRow, standIns := [], harness := (true, "4a647e7e388d42896a7327d1a1ce7f395f25dd0968ac3346dfc86a666dcb673d"), looks := true }, kinds := [], alts := [], laidByText := true, laidKinds := [.handle], laidTests := true, laidLooks := .later }
def CheneySaysCardSaid : Prop := Claim7.holds Tryd.pinned (.plain (OpenSpec.ofChange cheneySaysSpec)) cheneySaysCard

/-- THE TIED CARD OF 'larderwicklaw3.GraphSays'. -/
def graphSaysCard : Claim7 := { stood := { row := graphSaysRow, standIns := [], harness := (true, "4a647e7e388d42896a7327d1a1ce7f395f25dd0968ac3346dfc86a666dcb673d"), looks := true }, kinds := [], alts := [], laidByText := true, laidKinds := [.handle], laidTests := true, laidLooks := .later }
def GraphSaysCardSaid : Prop := Claim7.holds Tryd.pinned (.plain (OpenSpec.ofChange graphSaysSpec)) graphSaysCard

/-- THE TIED CARD OF 'larderwicklaw3.TrialSays'. -/
def trialSaysCard : Claim7 := { stood := { row := trialSaysRow, standIns := [], harness := (true, "4a647e7e388d42896a7327d1a1ce7f395f25dd0968ac3346dfc86a666dcb673d"), looks := true }, kinds := [], alts := [], laidByText := true, laidKinds := [.handle], laidTests := true, laidLooks := .later }
def TrialSaysCardSaid : Prop := Claim7.holds Tryd.pinned (.plain (OpenSpec.ofChange trialSaysSpec)) trialSaysCard

/-- THE TIED CARD OF 'larderwicklaw3.CountPlays'. -/
def countPlaysCard : Claim7 := { stood := { row := countPlaysRow, standIns := [], harness := (true, "4a647e7e388d42896a7327d1a1ce7f395f25dd0968ac3346dfc86a666dcb673d"), looks := true }, kinds := [], alts := [], laidByText := true, laidKinds := [.handle], laidTests := true, laidLooks := .later }
def CountPlaysCardSaid : Prop := Claim7.holds Tryd.pinned (.plain (OpenSpec.ofChange countPlaysSpec)) countPlaysCard

/-- THE TIED CARD OF 'larderwicklaw3.ColorPlays'. -/
def colorPlaysCard : Claim7 := { stood := { row := colorPlaysRow, standIns := [], harness := (true, "4a647e7e388d42896a7327d1a1ce7f395f25dd0968ac3346dfc86a666dcb673d"), looks := true }, kinds := [], alts := [], laidByText := true, laidKinds := [.handle], laidTests := true, laidLooks := .later }
def ColorPlaysCardSaid : Prop := Claim7.holds Tryd.pinned (.plain (OpenSpec.ofChange colorPlaysSpec)) colorPlaysCard

/-- THE TIED CARD OF 'larderwicklaw3.SweepSays'. -/
def sweepSaysCard : Claim7 := { stood := { row := sweepSaysRow, standIns := [], harness := (true, "4a647e7e388d42896a7327d1a1ce7f395f25dd0968ac3346dfc86a666dcb673d"), looks := true }, kinds := [], alts := [], laidByText := true, laidKinds := [.handle], laidTests := true, laidLooks := .later }
def SweepSaysCardSaid : Prop := Claim7.holds Tryd.pinned (.plain (OpenSpec.ofChange sweepSaysSpec)) sweepSaysCard

/-- THE SECOND FORM's CARD OF 'larderwicklaw3.CheneySays'. -/
def cheneySaysUptoCard : Claim7 := { stood := { row := cheneySaysUptoRow, standIns := [], harness := (true, "4a647e7e388d42896a7327d1a1ce7f395f25dd0968ac3346dfc86a666dcb673d"), looks := true }, kinds := [], alts := [], laidByText := true, laidKinds := [.handle], laidTests := true, laidLooks := .later }
def CheneySaysUptoCardSaid : Prop := Claim7.holds Tryd.pinned (.plain (OpenSpec.upto cheneySaysSpec)) cheneySaysUptoCard

/-- THE SECOND FORM's CARD OF 'larderwicklaw3.GraphSays'. -/
def graphSaysUptoCard : Claim7 := { stood := { row := graphSaysUptoRow, standIns := [], harness := (true, "4a647e7e388d42896a7327d1a1ce7f395f25dd0968ac3346dfc86a666dcb673d"), looks := true }, kinds := [], alts := [], laidByText := true, laidKinds := [.handle], laidTests := true, laidLooks := .later }
def GraphSaysUptoCardSaid : Prop := Claim7.holds Tryd.pinned (.plain (OpenSpec.upto graphSaysSpec)) graphSaysUptoCard

/-- THE SECOND FORM's CARD OF 'larderwicklaw3.TrialSays'. -/
def trialSaysUptoCard : Claim7 := { stood := { row := trialSaysUptoRow, standIns := [], harness := (true, "4a647e7e388d42896a7327d1a1ce7f395f25dd0968ac3346dfc86a666dcb673d"), looks := true }, kinds := [], alts := [], laidByText := true, laidKinds := [.handle], laidTests := true, laidLooks := .later }
def TrialSaysUptoCardSaid : Prop := Claim7.holds Tryd.pinned (.plain (OpenSpec.upto trialSaysSpec)) trialSaysUptoCard

/-- THE SECOND FORM's CARD OF 'larderwicklaw3.CountPlays'. -/
def countPlaysUptoCard : Claim7 := { stood := { row := countPlaysUptoRow, standIns := [], harness := (true, "4a647e7e388d42896a7327d1a1ce7f395f25dd0968ac3346dfc86a666dcb673d"), looks := true }, kinds := [], alts := [], laidByText := true, laidKinds := [.handle], laidTests := true, laidLooks := .later }
def CountPlaysUptoCardSaid : Prop := Claim7.holds Tryd.pinned (.plain (OpenSpec.upto countPlaysSpec)) countPlaysUptoCard

/-- THE SECOND FORM's CARD OF 'larderwicklaw3.ColorPlays'. -/
def colorPlaysUptoCard : Claim7 := { stood := { row := colorPlaysUptoRow, standIns := [], harness := (true, "4a647e7e388d42896a7327d1a1ce7f395f25dd0968ac3346dfc86a666dcb673d"), looks := true }, kinds := [], alts := [], laidByText := true, laidKinds := [.handle], laidTests := true, laidLooks := .later }
def ColorPlaysUptoCardSaid : Prop := Claim7.holds Tryd.pinned (.plain (OpenSpec.upto colorPlaysSpec)) colorPlaysUptoCard

/-- THE SECOND FORM's CARD OF 'larderwicklaw3.SweepSays'. -/
def sweepSaysUptoCard : Claim7 := { stood := { row := sweepSaysUptoRow, standIns := [], harness := (true, "4a647e7e388d42896a7327d1a1ce7f395f25dd0968ac3346dfc86a666dcb673d"), looks := true }, kinds := [], alts := [], laidByText := true, laidKinds := [.handle], laidTests := true, laidLooks := .later }
def SweepSaysUptoCardSaid : Prop := Claim7.holds Tryd.pinned (.plain (OpenSpec.upto sweepSaysSpec)) sweepSaysUptoCard
end Rows
end Go.Proofs.YtgbdjidjbcbhjaaDoor
