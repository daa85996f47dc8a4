/-
  No cell of these rows narrows 'for every input' (looked for: loops, veiled, ifaces, maps, wideKeys, modest, calm, conditions, laid).
  DERIVED. THE GIVEN ROWS OF THIS SEAT. 19 by the template 'for every input the law returns true; each argument reads behind the call as it read before'; 0 by the template 'total and deterministic' (their statements: YtkfibfacfgiplaaTotals.lean).
  GIVEN WITH THE SEED: the statements are not yours to turn. If you find one false, say at which input.
  Laid BY PROGRAM, IN A SANDBOX (cutbox-rows.mjs): the forced cells as the released guide's own fill.sh prints them over the translation 560cda3b7cf363cd… (all of the seat's roots in one cut). By AI agents, Wed Nov 11 2026. No macro, syntax, notation, axiom, sorry.
-/
import Derived.Test.YtkfibfacfgiplaaChecked
import GoSem.Claim
import GoSem.ClaimJoined
import GoSem.ClaimMapViews
import Derived.JoinedTies
import Derived.KernelRfl
namespace Go.Proofs.Ytkfibfacfgiplaa
/- THE CELL 'sum', in the pinned program and in every row, IS THE sha256 OF THE DUMP (.gsa) THAT YtkfibfacfgiplaaProg.lean LOADS. Nothing in Lean hashes anything: it is a label: what it is worth is what the hold of that sum in a sandbox is worth. -/
noncomputable def Try.pinned : Pinned := { name := "ytkfibfacfgiplaa", sum := "560cda3b7cf363cd96ad37ebee931621f1e0d059b0ef12b9a813fbcb3a81c988", checked := Try.checked }
namespace Rows
def none {H : Type} : Left H := { results := [], args := [] }

/-- 'larderwicklaw3.CheneyTwice': WHATEVER THE INPUT: true; the input reads as it did. -/
def cheneyTwiceSpec : ChangeSpec := { name := "cheneyTwice", fn := fun _ => fun
  | [d] => { results := [.lit (.bool true)], args := [d] }
  | _ => none }
def cheneyTwiceRow : OpenClaim := { program := "ytkfibfacfgiplaa", sum := "560cda3b7cf363cd96ad37ebee931621f1e0d059b0ef12b9a813fbcb3a81c988", func := "larderwick/larderwicklaw3.CheneyTwice", spec := "cheneyTwice", unfollowed := true, recurses := true, apart := false }
def CheneyTwiceSaid : Prop := cheneyTwiceRow.holds Try.pinned (OpenSpec.ofChange cheneyTwiceSpec)

/-- ITS FALSE NEIGHBOUR: 'it returns false'. Refute it at one input. -/
def cheneyTwiceWrong : ChangeSpec := { name := "cheneyTwice", fn := fun _ => fun
  | [d] => { results := [.lit (.bool false)], args := [d] }
  | _ => none }
def CheneyTwiceWrongFalsely : Prop := cheneyTwiceRow.holds Try.pinned (OpenSpec.ofChange cheneyTwiceWrong)

/-- 'larderwicklaw3.GraphFlow': WHATEVER THE INPUT: true; the input reads as it did. -/
def graphFlowSpec : ChangeSpec := { name := "graphFlow", fn := fun _ => fun
  | [d1, d2] => { results := [.lit (.bool true)], args := [d1, d2] }
  | _ => none }
def graphFlowRow : OpenClaim := { program := "ytkfibfacfgiplaa", sum := "560cda3b7cf363cd96ad37ebee931621f1e0d059b0ef12b9a813fbcb3a81c988", func := "larderwick/larderwicklaw3.GraphFlow", spec := "graphFlow", unfollowed := true, recurses := true, apart := false }
def GraphFlowSaid : Prop := graphFlowRow.holds Try.pinned (OpenSpec.ofChange graphFlowSpec)

/-- ITS FALSE NEIGHBOUR: 'it returns false'. Refute it at one input. -/
def graphFlowWrong : ChangeSpec := { name := "graphFlow", fn := fun _ => fun
  | [d1, d2] => { results := [.lit (.bool false)], args := [d1, d2] }
  | _ => none }
def GraphFlowWrongFalsely : Prop := graphFlowRow.holds Try.pinned (OpenSpec.ofChange graphFlowWrong)

/-- 'larderwicklaw3.GraphSorts': WHATEVER THE INPUT: true; the input reads as it did. -/
def graphSortsSpec : ChangeSpec := { name := "graphSorts", fn := fun _ => fun
  | [d] => { results := [.lit (.bool true)], args := [d] }
  | _ => none }
def graphSortsRow : OpenClaim := { program := "ytkfibfacfgiplaa", sum := "560cda3b7cf363cd96ad37ebee931621f1e0d059b0ef12b9a813fbcb3a81c988", func := "larderwick/larderwicklaw3.GraphSorts", spec := "graphSorts", unfollowed := true, recurses := true, apart := false }
def GraphSortsSaid : Prop := graphSortsRow.holds Try.pinned (OpenSpec.ofChange graphSortsSpec)

/-- ITS FALSE NEIGHBOUR: 'it returns false'. Refute it at one input. -/
def graphSortsWrong : ChangeSpec := { name := "graphSorts", fn := fun _ => fun
  | [d] => { results := [.lit (.bool false)], args := [d] }
  | _ => none }
def GraphSortsWrongFalsely : Prop := graphSortsRow.holds Try.pinned (OpenSpec.ofChange graphSortsWrong)

/-- 'larderwicklaw3.CheneySame': WHATEVER THE INPUT: true; the input reads as it did. -/
def cheneySameSpec : ChangeSpec := { name := "cheneySame", fn := fun _ => fun
  | [d] => { results := [.lit (.bool true)], args := [d] }
  | _ => none }
def cheneySameRow : OpenClaim := { program := "ytkfibfacfgiplaa", sum := "560cda3b7cf363cd96ad37ebee931621f1e0d059b0ef12b9a813fbcb3a81c988", func := "larderwick/larderwicklaw3.CheneySame", spec := "cheneySame", unfollowed := true, recurses := true, apart := false }
def CheneySameSaid : Prop := cheneySameRow.holds Try.pinned (OpenSpec.ofChange cheneySameSpec)

/-- ITS FALSE NEIGHBOUR: 'it returns false'. Refute it at one input. -/
def cheneySameWrong : ChangeSpec := { name := "cheneySame", fn := fun _ => fun
  | [d] => { results := [.lit (.bool false)], args := [d] }
  | _ => none }
def CheneySameWrongFalsely : Prop := cheneySameRow.holds Try.pinned (OpenSpec.ofChange cheneySameWrong)

/-- 'larderwicklaw3.TrialSafe': WHATEVER THE INPUT: true; the input reads as it did. -/
def trialSafeSpec : ChangeSpec := { name := "trialSafe", fn := fun _ => fun
  | [d1, d2] => { results := [.lit (.bool true)], args := [d1, d2] }
  | _ => none }
def trialSafeRow : OpenClaim := { program := "ytkfibfacfgiplaa", sum := "560cda3b7cf363cd96ad37ebee931621f1e0d059b0ef12b9a813fbcb3a81c988", func := "larderwick/larderwicklaw3.TrialSafe", spec := "trialSafe", unfollowed := true, recurses := true, apart := false }
def TrialSafeSaid : Prop := trialSafeRow.holds Try.pinned (OpenSpec.ofChange trialSafeSpec)

/-- ITS FALSE NEIGHBOUR: 'it returns false'. Refute it at one input. -/
def trialSafeWrong : ChangeSpec := { name := "trialSafe", fn := fun _ => fun
  | [d1, d2] => { results := [.lit (.bool false)], args := [d1, d2] }
  | _ => none }
def TrialSafeWrongFalsely : Prop := trialSafeRow.holds Try.pinned (OpenSpec.ofChange trialSafeWrong)

/-- 'larderwicklaw3.TrialAll': WHATEVER THE INPUT: true; the input reads as it did. -/
def trialAllSpec : ChangeSpec := { name := "trialAll", fn := fun _ => fun
  | [d1, d2] => { results := [.lit (.bool true)], args := [d1, d2] }
  | _ => none }
def trialAllRow : OpenClaim := { program := "ytkfibfacfgiplaa", sum := "560cda3b7cf363cd96ad37ebee931621f1e0d059b0ef12b9a813fbcb3a81c988", func := "larderwick/larderwicklaw3.TrialAll", spec := "trialAll", unfollowed := true, recurses := true, apart := false }
def TrialAllSaid : Prop := trialAllRow.holds Try.pinned (OpenSpec.ofChange trialAllSpec)

/-- ITS FALSE NEIGHBOUR: 'it returns false'. Refute it at one input. -/
def trialAllWrong : ChangeSpec := { name := "trialAll", fn := fun _ => fun
  | [d1, d2] => { results := [.lit (.bool false)], args := [d1, d2] }
  | _ => none }
def TrialAllWrongFalsely : Prop := trialAllRow.holds Try.pinned (OpenSpec.ofChange trialAllWrong)

/-- 'larderwicklaw3.ColorMany': WHATEVER THE INPUT: true; the input reads as it did. -/
def colorManySpec : ChangeSpec := { name := "colorMany", fn := fun _ => fun
  | [d] => { results := [.lit (.bool true)], args := [d] }
  | _ => none }
def colorManyRow : OpenClaim := { program := "ytkfibfacfgiplaa", sum := "560cda3b7cf363cd96ad37ebee931621f1e0d059b0ef12b9a813fbcb3a81c988", func := "larderwick/larderwicklaw3.ColorMany", spec := "colorMany", unfollowed := true, recurses := true, apart := false }
def ColorManySaid : Prop := colorManyRow.holds Try.pinned (OpenSpec.ofChange colorManySpec)

/-- ITS FALSE NEIGHBOUR: 'it returns false'. Refute it at one input. -/
def colorManyWrong : ChangeSpec := { name := "colorMany", fn := fun _ => fun
  | [d] => { results := [.lit (.bool false)], args := [d] }
  | _ => none }
def ColorManyWrongFalsely : Prop := colorManyRow.holds Try.pinned (OpenSpec.ofChange colorManyWrong)

/-- 'larderwicklaw3.ColorJust': WHATEVER THE INPUT: true; the input reads as it did. -/
def colorJustSpec : ChangeSpec := { name := "colorJust", fn := fun _ => fun
  | [d] => { results := [.lit (.bool true)], args := [d] }
  | _ => none }
def colorJustRow : OpenClaim := { program := "ytkfibfacfgiplaa", sum := "560cda3b7cf363cd96ad37ebee931621f1e0d059b0ef12b9a813fbcb3a81c988", func := "larderwick/larderwicklaw3.ColorJust", spec := "colorJust", unfollowed := true, recurses := true, apart := false }
def ColorJustSaid : Prop := colorJustRow.holds Try.pinned (OpenSpec.ofChange colorJustSpec)

/-- ITS FALSE NEIGHBOUR: 'it returns false'. Refute it at one input. -/
def colorJustWrong : ChangeSpec := { name := "colorJust", fn := fun _ => fun
  | [d] => { results := [.lit (.bool false)], args := [d] }
  | _ => none }
def ColorJustWrongFalsely : Prop := colorJustRow.holds Try.pinned (OpenSpec.ofChange colorJustWrong)

/-- 'larderwicklaw3.CountTrue': WHATEVER THE INPUT: true; the input reads as it did. -/
def countTrueSpec : ChangeSpec := { name := "countTrue", fn := fun _ => fun
  | [d] => { results := [.lit (.bool true)], args := [d] }
  | _ => none }
def countTrueRow : OpenClaim := { program := "ytkfibfacfgiplaa", sum := "560cda3b7cf363cd96ad37ebee931621f1e0d059b0ef12b9a813fbcb3a81c988", func := "larderwick/larderwicklaw3.CountTrue", spec := "countTrue", recurses := true, apart := false }
def CountTrueSaid : Prop := countTrueRow.holds Try.pinned (OpenSpec.ofChange countTrueSpec)

/-- ITS FALSE NEIGHBOUR: 'it returns false'. Refute it at one input. -/
def countTrueWrong : ChangeSpec := { name := "countTrue", fn := fun _ => fun
  | [d] => { results := [.lit (.bool false)], args := [d] }
  | _ => none }
def CountTrueWrongFalsely : Prop := countTrueRow.holds Try.pinned (OpenSpec.ofChange countTrueWrong)

/-- 'larderwicklaw3.CountBack': WHATEVER THE INPUT: true; the input reads as it did. -/
def countBackSpec : ChangeSpec := { name := "countBack", fn := fun _ => fun
  | [d1, d2, d3] => { results := [.lit (.bool true)], args := [d1, d2, d3] }
  | _ => none }
def countBackRow : OpenClaim := { program := "ytkfibfacfgiplaa", sum := "560cda3b7cf363cd96ad37ebee931621f1e0d059b0ef12b9a813fbcb3a81c988", func := "larderwick/larderwicklaw3.CountBack", spec := "countBack", recurses := true, apart := false }
def CountBackSaid : Prop := countBackRow.holds Try.pinned (OpenSpec.ofChange countBackSpec)

/-- ITS FALSE NEIGHBOUR: 'it returns false'. Refute it at one input. -/
def countBackWrong : ChangeSpec := { name := "countBack", fn := fun _ => fun
  | [d1, d2, d3] => { results := [.lit (.bool false)], args := [d1, d2, d3] }
  | _ => none }
def CountBackWrongFalsely : Prop := countBackRow.holds Try.pinned (OpenSpec.ofChange countBackWrong)

/-- 'larderwicklaw3.ColorBlack': WHATEVER THE INPUT: true; the input reads as it did. -/
def colorBlackSpec : ChangeSpec := { name := "colorBlack", fn := fun _ => fun
  | [d1, d2] => { results := [.lit (.bool true)], args := [d1, d2] }
  | _ => none }
def colorBlackRow : OpenClaim := { program := "ytkfibfacfgiplaa", sum := "560cda3b7cf363cd96ad37ebee931621f1e0d059b0ef12b9a813fbcb3a81c988", func := "larderwick/larderwicklaw3.ColorBlack", spec := "colorBlack", unfollowed := true, recurses := true, apart := false }
def ColorBlackSaid : Prop := colorBlackRow.holds Try.pinned (OpenSpec.ofChange colorBlackSpec)

/-- ITS FALSE NEIGHBOUR: 'it returns false'. Refute it at one input. -/
def colorBlackWrong : ChangeSpec := { name := "colorBlack", fn := fun _ => fun
  | [d1, d2] => { results := [.lit (.bool false)], args := [d1, d2] }
  | _ => none }
def ColorBlackWrongFalsely : Prop := colorBlackRow.holds Try.pinned (OpenSpec.ofChange colorBlackWrong)

/-- 'larderwicklaw3.ColorSafe': WHATEVER THE INPUT: true; the input reads as it did. -/
def colorSafeSpec : ChangeSpec := { name := "colorSafe", fn := fun _ => fun
  | [d1, d2] => { results := [.lit (.bool true)], args := [d1, d2] }
  | _ => none }
def colorSafeRow : OpenClaim := { program := "ytkfibfacfgiplaa", sum := "560cda3b7cf363cd96ad37ebee931621f1e0d059b0ef12b9a813fbcb3a81c988", func := "larderwick/larderwicklaw3.ColorSafe", spec := "colorSafe", unfollowed := true, recurses := true, apart := false }
def ColorSafeSaid : Prop := colorSafeRow.holds Try.pinned (OpenSpec.ofChange colorSafeSpec)

/-- ITS FALSE NEIGHBOUR: 'it returns false'. Refute it at one input. -/
def colorSafeWrong : ChangeSpec := { name := "colorSafe", fn := fun _ => fun
  | [d1, d2] => { results := [.lit (.bool false)], args := [d1, d2] }
  | _ => none }
def ColorSafeWrongFalsely : Prop := colorSafeRow.holds Try.pinned (OpenSpec.ofChange colorSafeWrong)

/-- 'larderwicktop.TopHeaps': WHATEVER THE INPUT: true; the input reads as it did. -/
def topHeapsSpec : ChangeSpec := { name := "topHeaps", fn := fun _ => fun
  | [d] => { results := [.lit (.bool true)], args := [d] }
  | _ => none }
def topHeapsRow : OpenClaim := { program := "ytkfibfacfgiplaa", sum := "560cda3b7cf363cd96ad37ebee931621f1e0d059b0ef12b9a813fbcb3a81c988", func := "larderwick/larderwicktop.TopHeaps", spec := "topHeaps", unfollowed := true, recurses := true, apart := false }
def TopHeapsSaid : Prop := topHeapsRow.holds Try.pinned (OpenSpec.ofChange topHeapsSpec)

/-- ITS FALSE NEIGHBOUR: 'it returns false'. Refute it at one input. -/
def topHeapsWrong : ChangeSpec := { name := "topHeaps", fn := fun _ => fun
  | [d] => { results := [.lit (.bool false)], args := [d] }
  | _ => none }
def TopHeapsWrongFalsely : Prop := topHeapsRow.holds Try.pinned (OpenSpec.ofChange topHeapsWrong)

/-- 'larderwicklaw3.SweepMark': WHATEVER THE INPUT: true; the input reads as it did. -/
def sweepMarkSpec : ChangeSpec := { name := "sweepMark", fn := fun _ => fun
  | [d] => { results := [.lit (.bool true)], args := [d] }
  | _ => none }
def sweepMarkRow : OpenClaim := { program := "ytkfibfacfgiplaa", sum := "560cda3b7cf363cd96ad37ebee931621f1e0d059b0ef12b9a813fbcb3a81c988", func := "larderwick/larderwicklaw3.SweepMark", spec := "sweepMark", unfollowed := true, recurses := true, apart := false }
def SweepMarkSaid : Prop := sweepMarkRow.holds Try.pinned (OpenSpec.ofChange sweepMarkSpec)

/-- ITS FALSE NEIGHBOUR: 'it returns false'. Refute it at one input. -/
def sweepMarkWrong : ChangeSpec := { name := "sweepMark", fn := fun _ => fun
  | [d] => { results := [.lit (.bool false)], args := [d] }
  | _ => none }
def SweepMarkWrongFalsely : Prop := sweepMarkRow.holds Try.pinned (OpenSpec.ofChange sweepMarkWrong)

/-- 'larderwicklaw3.SweepClean': WHATEVER THE INPUT: true; the input reads as it did. -/
def sweepCleanSpec : ChangeSpec := { name := "sweepClean", fn := fun _ => fun
  | [d] => { results := [.lit (.bool true)], args := [d] }
  | _ => none }
def sweepCleanRow : OpenClaim := { program := "ytkfibfacfgiplaa", sum := "560cda3b7cf363cd96ad37ebee931621f1e0d059b0ef12b9a813fbcb3a81c988", func := "larderwick/larderwicklaw3.SweepClean", spec := "sweepClean", unfollowed := true, recurses := true, apart := false }
def SweepCleanSaid : Prop := sweepCleanRow.holds Try.pinned (OpenSpec.ofChange sweepCleanSpec)

/-- ITS FALSE NEIGHBOUR: 'it returns false'. Refute it at one input. -/
def sweepCleanWrong : ChangeSpec := { name := "sweepClean", fn := fun _ => fun
  | [d] => { results := [.lit (.bool false)], args := [d] }
  | _ => none }
def SweepCleanWrongFalsely : Prop := sweepCleanRow.holds Try.pinned (OpenSpec.ofChange sweepCleanWrong)

/-- 'larderwicklaw3.SweepTurn': WHATEVER THE INPUT: true; the input reads as it did. -/
def sweepTurnSpec : ChangeSpec := { name := "sweepTurn", fn := fun _ => fun
  | [d] => { results := [.lit (.bool true)], args := [d] }
  | _ => none }
def sweepTurnRow : OpenClaim := { program := "ytkfibfacfgiplaa", sum := "560cda3b7cf363cd96ad37ebee931621f1e0d059b0ef12b9a813fbcb3a81c988", func := "larderwick/larderwicklaw3.SweepTurn", spec := "sweepTurn", unfollowed := true, recurses := true, apart := false }
def SweepTurnSaid : Prop := sweepTurnRow.holds Try.pinned (OpenSpec.ofChange sweepTurnSpec)

/-- ITS FALSE NEIGHBOUR: 'it returns false'. Refute it at one input. -/
def sweepTurnWrong : ChangeSpec := { name := "sweepTurn", fn := fun _ => fun
  | [d] => { results := [.lit (.bool false)], args := [d] }
  | _ => none }
def SweepTurnWrongFalsely : Prop := sweepTurnRow.holds Try.pinned (OpenSpec.ofChange sweepTurnWrong)

/-- 'larderwicklaw3.CountSafe': WHATEVER THE INPUT: true; the input reads as it did. -/
def countSafeSpec : ChangeSpec := { name := "countSafe", fn := fun _ => fun
  | [d] => { results := [.lit (.bool true)], args := [d] }
  | _ => none }
def countSafeRow : OpenClaim := { program := "ytkfibfacfgiplaa", sum := "560cda3b7cf363cd96ad37ebee931621f1e0d059b0ef12b9a813fbcb3a81c988", func := "larderwick/larderwicklaw3.CountSafe", spec := "countSafe", unfollowed := true, recurses := true, apart := false }
def CountSafeSaid : Prop := countSafeRow.holds Try.pinned (OpenSpec.ofChange countSafeSpec)

/-- ITS FALSE NEIGHBOUR: 'it returns false'. Refute it at one input. -/
def countSafeWrong : ChangeSpec := { name := "countSafe", fn := fun _ => fun
  | [d] => { results := [.lit (.bool false)], args := [d] }
  | _ => none }
def CountSafeWrongFalsely : Prop := countSafeRow.holds Try.pinned (OpenSpec.ofChange countSafeWrong)

/-- 'larderwicklaw3.CountEmpty': WHATEVER THE INPUT: true; the input reads as it did. -/
def countEmptySpec : ChangeSpec := { name := "countEmpty", fn := fun _ => fun
  | [d] => { results := [.lit (.bool true)], args := [d] }
  | _ => none }
def countEmptyRow : OpenClaim := { program := "ytkfibfacfgiplaa", sum := "560cda3b7cf363cd96ad37ebee931621f1e0d059b0ef12b9a813fbcb3a81c988", func := "larderwick/larderwicklaw3.CountEmpty", spec := "countEmpty", unfollowed := true, recurses := true, apart := false }
def CountEmptySaid : Prop := countEmptyRow.holds Try.pinned (OpenSpec.ofChange countEmptySpec)

/-- ITS FALSE NEIGHBOUR: 'it returns false'. Refute it at one input. -/
def countEmptyWrong : ChangeSpec := { name := "countEmpty", fn := fun _ => fun
  | [d] => { results := [.lit (.bool false)], args := [d] }
  | _ => none }
def CountEmptyWrongFalsely : Prop := countEmptyRow.holds Try.pinned (OpenSpec.ofChange countEmptyWrong)

/-- 'larderwicktop.TopRings': WHATEVER THE INPUT: true; the input reads as it did. -/
def topRingsSpec : ChangeSpec := { name := "topRings", fn := fun _ => fun
  | [d] => { results := [.lit (.bool true)], args := [d] }
  | _ => none }
def topRingsRow : OpenClaim := { program := "ytkfibfacfgiplaa", sum := "560cda3b7cf363cd96ad37ebee931621f1e0d059b0ef12b9a813fbcb3a81c988", func := "larderwick/larderwicktop.TopRings", spec := "topRings", unfollowed := true, recurses := true, apart := false }
def TopRingsSaid : Prop := topRingsRow.holds Try.pinned (OpenSpec.ofChange topRingsSpec)

/-- ITS FALSE NEIGHBOUR: 'it returns false'. Refute it at one input. -/
def topRingsWrong : ChangeSpec := { name := "topRings", fn := fun _ => fun
  | [d] => { results := [.lit (.bool false)], args := [d] }
  | _ => none }
def TopRingsWrongFalsely : Prop := topRingsRow.holds Try.pinned (OpenSpec.ofChange topRingsWrong)

/- THE SECOND FORM. 'bulk': how many values and letters a reading holds, each counted each time it is reached (what is shared counts as often as it is met; a slice's spare places count too). A statement '..UptoSaid' is the law's where the arguments, and the package variables that the reading takes, are together of bulk at most 1048576: NARROWER than '..Said'. Prove '..Said' where nothing that the law and all that it calls make is longer than what came in: it says more and counts as full. Else prove '..UptoSaid'. A law counts once. -/
mutual
def uptoBulk {H : Type} : DataW H → Nat
  | .lit (.string bytes) => bytes.length + 1
  | .lit _ => 1
  | .nil => 1
  | .ptr d => uptoBulk d + 1
  | .slice elems spare => uptoBulkAll elems + uptoBulkAll spare + 1
  | .agg parts => uptoBulkAll parts + 1
  | .iface _ d => uptoBulk d + 1
  | .map entries => uptoBulkEntries entries + 1
  | .held _ => 1
def uptoBulkAll {H : Type} : List (DataW H) → Nat
  | [] => 0
  | d :: r => uptoBulk d + uptoBulkAll r
def uptoBulkEntries {H : Type} : List (Lit × DataW H) → Nat
  | [] => 0
  | x :: r => uptoBulkEntry x + uptoBulkEntries r
def uptoBulkEntry {H : Type} : Lit × DataW H → Nat
  | (.string bytes, d) => bytes.length + uptoBulk d + 1
  | (_, d) => uptoBulk d + 1
 end
def uptoSmall : (H : Type) → List (DataW H) → Bool := fun _ ds => decide (uptoBulkAll ds ≤ 1048576)
def OpenSpec.upto (s : _root_.Go.ChangeSpec) : _root_.Go.OpenSpec := { _root_.Go.OpenSpec.ofChange s with cond := some uptoSmall }

/-- 'larderwicklaw3.CheneyTwice', WHERE WHAT IT READS IS OF BULK AT MOST 1048576: true; the input reads as it did. -/
def cheneyTwiceUptoRow : OpenClaim := { program := "ytkfibfacfgiplaa", sum := "560cda3b7cf363cd96ad37ebee931621f1e0d059b0ef12b9a813fbcb3a81c988", func := "larderwick/larderwicklaw3.CheneyTwice", spec := "cheneyTwice", unfollowed := true, recurses := true, apart := false, narrowed := true }
def CheneyTwiceUptoSaid : Prop := cheneyTwiceUptoRow.holds Try.pinned (OpenSpec.upto cheneyTwiceSpec)

/-- 'larderwicklaw3.GraphFlow', WHERE WHAT IT READS IS OF BULK AT MOST 1048576: true; the input reads as it did. -/
def graphFlowUptoRow : OpenClaim := { program := "ytkfibfacfgiplaa", sum := "560cda3b7cf363cd96ad37ebee931621f1e0d059b0ef12b9a813fbcb3a81c988", func := "larderwick/larderwicklaw3.GraphFlow", spec := "graphFlow", unfollowed := true, recurses := true, apart := false, narrowed := true }
def GraphFlowUptoSaid : Prop := graphFlowUptoRow.holds Try.pinned (OpenSpec.upto graphFlowSpec)

/-- 'larderwicklaw3.GraphSorts', WHERE WHAT IT READS IS OF BULK AT MOST 1048576: true; the input reads as it did. -/
def graphSortsUptoRow : OpenClaim := { program := "ytkfibfacfgiplaa", sum := "560cda3b7cf363cd96ad37ebee931621f1e0d059b0ef12b9a813fbcb3a81c988", func := "larderwick/larderwicklaw3.GraphSorts", spec := "graphSorts", unfollowed := true, recurses := true, apart := false, narrowed := true }
def GraphSortsUptoSaid : Prop := graphSortsUptoRow.holds Try.pinned (OpenSpec.upto graphSortsSpec)

/-- 'larderwicklaw3.CheneySame', WHERE WHAT IT READS IS OF BULK AT MOST 1048576: true; the input reads as it did. -/
def cheneySameUptoRow : OpenClaim := { program := "ytkfibfacfgiplaa", sum := "560cda3b7cf363cd96ad37ebee931621f1e0d059b0ef12b9a813fbcb3a81c988", func := "larderwick/larderwicklaw3.CheneySame", spec := "cheneySame", unfollowed := true, recurses := true, apart := false, narrowed := true }
def CheneySameUptoSaid : Prop := cheneySameUptoRow.holds Try.pinned (OpenSpec.upto cheneySameSpec)

/-- 'larderwicklaw3.TrialSafe', WHERE WHAT IT READS IS OF BULK AT MOST 1048576: true; the input reads as it did. -/
def trialSafeUptoRow : OpenClaim := { program := "ytkfibfacfgiplaa", sum := "560cda3b7cf363cd96ad37ebee931621f1e0d059b0ef12b9a813fbcb3a81c988", func := "larderwick/larderwicklaw3.TrialSafe", spec := "trialSafe", unfollowed := true, recurses := true, apart := false, narrowed := true }
def TrialSafeUptoSaid : Prop := trialSafeUptoRow.holds Try.pinned (OpenSpec.upto trialSafeSpec)

/-- 'larderwicklaw3.TrialAll', WHERE WHAT IT READS IS OF BULK AT MOST 1048576: true; the input reads as it did. -/
def trialAllUptoRow : OpenClaim := { program := "ytkfibfacfgiplaa", sum := "560cda3b7cf363cd96ad37ebee931621f1e0d059b0ef12b9a813fbcb3a81c988", func := "larderwick/larderwicklaw3.TrialAll", spec := "trialAll", unfollowed := true, recurses := true, apart := false, narrowed := true }
def TrialAllUptoSaid : Prop := trialAllUptoRow.holds Try.pinned (OpenSpec.upto trialAllSpec)

/-- 'larderwicklaw3.ColorMany', WHERE WHAT IT READS IS OF BULK AT MOST 1048576: true; the input reads as it did. -/
def colorManyUptoRow : OpenClaim := { program := "ytkfibfacfgiplaa", sum := "560cda3b7cf363cd96ad37ebee931621f1e0d059b0ef12b9a813fbcb3a81c988", func := "larderwick/larderwicklaw3.ColorMany", spec := "colorMany", unfollowed := true, recurses := true, apart := false, narrowed := true }
def ColorManyUptoSaid : Prop := colorManyUptoRow.holds Try.pinned (OpenSpec.upto colorManySpec)

/-- 'larderwicklaw3.ColorJust', WHERE WHAT IT READS IS OF BULK AT MOST 1048576: true; the input reads as it did. -/
def colorJustUptoRow : OpenClaim := { program := "ytkfibfacfgiplaa", sum := "560cda3b7cf363cd96ad37ebee931621f1e0d059b0ef12b9a813fbcb3a81c988", func := "larderwick/larderwicklaw3.ColorJust", spec := "colorJust", unfollowed := true, recurses := true, apart := false, narrowed := true }
def ColorJustUptoSaid : Prop := colorJustUptoRow.holds Try.pinned (OpenSpec.upto colorJustSpec)

/-- 'larderwicklaw3.CountTrue', WHERE WHAT IT READS IS OF BULK AT MOST 1048576: true; the input reads as it did. -/
def countTrueUptoRow : OpenClaim := { program := "ytkfibfacfgiplaa", sum := "560cda3b7cf363cd96ad37ebee931621f1e0d059b0ef12b9a813fbcb3a81c988", func := "larderwick/larderwicklaw3.CountTrue", spec := "countTrue", recurses := true, apart := false, narrowed := true }
def CountTrueUptoSaid : Prop := countTrueUptoRow.holds Try.pinned (OpenSpec.upto countTrueSpec)

/-- 'larderwicklaw3.CountBack', WHERE WHAT IT READS IS OF BULK AT MOST 1048576: true; the input reads as it did. -/
def countBackUptoRow : OpenClaim := { program := "ytkfibfacfgiplaa", sum := "560cda3b7cf363cd96ad37ebee931621f1e0d059b0ef12b9a813fbcb3a81c988", func := "larderwick/larderwicklaw3.CountBack", spec := "countBack", recurses := true, apart := false, narrowed := true }
def CountBackUptoSaid : Prop := countBackUptoRow.holds Try.pinned (OpenSpec.upto countBackSpec)

/-- 'larderwicklaw3.ColorBlack', WHERE WHAT IT READS IS OF BULK AT MOST 1048576: true; the input reads as it did. -/
def colorBlackUptoRow : OpenClaim := { program := "ytkfibfacfgiplaa", sum := "560cda3b7cf363cd96ad37ebee931621f1e0d059b0ef12b9a813fbcb3a81c988", func := "larderwick/larderwicklaw3.ColorBlack", spec := "colorBlack", unfollowed := true, recurses := true, apart := false, narrowed := true }
def ColorBlackUptoSaid : Prop := colorBlackUptoRow.holds Try.pinned (OpenSpec.upto colorBlackSpec)

/-- 'larderwicklaw3.ColorSafe', WHERE WHAT IT READS IS OF BULK AT MOST 1048576: true; the input reads as it did. -/
def colorSafeUptoRow : OpenClaim := { program := "ytkfibfacfgiplaa", sum := "560cda3b7cf363cd96ad37ebee931621f1e0d059b0ef12b9a813fbcb3a81c988", func := "larderwick/larderwicklaw3.ColorSafe", spec := "colorSafe", unfollowed := true, recurses := true, apart := false, narrowed := true }
def ColorSafeUptoSaid : Prop := colorSafeUptoRow.holds Try.pinned (OpenSpec.upto colorSafeSpec)

/-- 'larderwicktop.TopHeaps', WHERE WHAT IT READS IS OF BULK AT MOST 1048576: true; the input reads as it did. -/
def topHeapsUptoRow : OpenClaim := { program := "ytkfibfacfgiplaa", sum := "560cda3b7cf363cd96ad37ebee931621f1e0d059b0ef12b9a813fbcb3a81c988", func := "larderwick/larderwicktop.TopHeaps", spec := "topHeaps", unfollowed := true, recurses := true, apart := false, narrowed := true }
def TopHeapsUptoSaid : Prop := topHeapsUptoRow.holds Try.pinned (OpenSpec.upto topHeapsSpec)

/-- 'larderwicklaw3.SweepMark', WHERE WHAT IT READS IS OF BULK AT MOST 1048576: true; the input reads as it did. -/
def sweepMarkUptoRow : OpenClaim := { program := "ytkfibfacfgiplaa", sum := "560cda3b7cf363cd96ad37ebee931621f1e0d059b0ef12b9a813fbcb3a81c988", func := "larderwick/larderwicklaw3.SweepMark", spec := "sweepMark", unfollowed := true, recurses := true, apart := false, narrowed := true }
def SweepMarkUptoSaid : Prop := sweepMarkUptoRow.holds Try.pinned (OpenSpec.upto sweepMarkSpec)

/-- 'larderwicklaw3.SweepClean', WHERE WHAT IT READS IS OF BULK AT MOST 1048576: true; the input reads as it did. -/
def sweepCleanUptoRow : OpenClaim := { program := "ytkfibfacfgiplaa", sum := "560cda3b7cf363cd96ad37ebee931621f1e0d059b0ef12b9a813fbcb3a81c988", func := "larderwick/larderwicklaw3.SweepClean", spec := "sweepClean", unfollowed := true, recurses := true, apart := false, narrowed := true }
def SweepCleanUptoSaid : Prop := sweepCleanUptoRow.holds Try.pinned (OpenSpec.upto sweepCleanSpec)

/-- 'larderwicklaw3.SweepTurn', WHERE WHAT IT READS IS OF BULK AT MOST 1048576: true; the input reads as it did. -/
def sweepTurnUptoRow : OpenClaim := { program := "ytkfibfacfgiplaa", sum := "560cda3b7cf363cd96ad37ebee931621f1e0d059b0ef12b9a813fbcb3a81c988", func := "larderwick/larderwicklaw3.SweepTurn", spec := "sweepTurn", unfollowed := true, recurses := true, apart := false, narrowed := true }
def SweepTurnUptoSaid : Prop := sweepTurnUptoRow.holds Try.pinned (OpenSpec.upto sweepTurnSpec)

/-- 'larderwicklaw3.CountSafe', WHERE WHAT IT READS IS OF BULK AT MOST 1048576: true; the input reads as it did. -/
def countSafeUptoRow : OpenClaim := { program := "ytkfibfacfgiplaa", sum := "560cda3b7cf363cd96ad37ebee931621f1e0d059b0ef12b9a813fbcb3a81c988", func := "larderwick/larderwicklaw3.CountSafe", spec := "countSafe", unfollowed := true, recurses := true, apart := false, narrowed := true }
def CountSafeUptoSaid : Prop := countSafeUptoRow.holds Try.pinned (OpenSpec.upto countSafeSpec)

/-- 'larderwicklaw3.CountEmpty', WHERE WHAT IT READS IS OF BULK AT MOST 1048576: true; the input reads as it did. -/
def countEmptyUptoRow : OpenClaim := { program := "ytkfibfacfgiplaa", sum := "560cda3b7cf363cd96ad37ebee931621f1e0d059b0ef12b9a813fbcb3a81c988", func := "larderwick/larderwicklaw3.CountEmpty", spec := "countEmpty", unfollowed := true, recurses := true, apart := false, narrowed := true }
def CountEmptyUptoSaid : Prop := countEmptyUptoRow.holds Try.pinned (OpenSpec.upto countEmptySpec)

/-- 'larderwicktop.TopRings', WHERE WHAT IT READS IS OF BULK AT MOST 1048576: true; the input reads as it did. -/
def topRingsUptoRow : OpenClaim := { program := "ytkfibfacfgiplaa", sum := "560cda3b7cf363cd96ad37ebee931621f1e0d059b0ef12b9a813fbcb3a81c988", func := "larderwick/larderwicktop.TopRings", spec := "topRings", unfollowed := true, recurses := true, apart := false, narrowed := true }
def TopRingsUptoSaid : Prop := topRingsUptoRow.holds Try.pinned (OpenSpec.upto topRingsSpec)

end Rows
end Go.Proofs.Ytkfibfacfgiplaa
