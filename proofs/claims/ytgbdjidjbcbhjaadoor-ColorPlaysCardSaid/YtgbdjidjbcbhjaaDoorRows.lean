/-
  NARROWER THAN 'FOR EVERY INPUT', by the rows' own cells (each row's printed sentence says how): CheneySays: laid · GraphSays: laid · TrialSays: laid · CountPlays: laid · ColorPlays: laid · SweepSays: laid.
  DERIVED. THE GIVEN ROWS OF THIS SEAT. 6 by the template 'for every input the law returns true; each argument reads behind the call as it read before'; 0 by the template 'total and deterministic' (their statements: YtgbdjidjbcbhjaaDoorTotals.lean).
  GIVEN WITH THE SEED: the statements are not yours to turn. If you find one false, say at which input.
  Laid BY PROGRAM, IN A SANDBOX (cutbox-rows.mjs): the forced cells as the released guide's own fill.sh prints them over the translation 531bcfc222452ebe… (all of the seat's roots in one cut). By AI agents, Wed Nov 11 2026. No macro, syntax, notation, axiom, sorry.
-/
import Derived.Test.YtgbdjidjbcbhjaaDoorChecked
import GoSem.Claim
import GoSem.ClaimJoined
import GoSem.ClaimMapViews
import Derived.JoinedTies
import Derived.KernelRfl
namespace Go.Proofs.YtgbdjidjbcbhjaaDoor
/- THE CELL 'sum', in the pinned program and in every row, IS THE sha256 OF THE DUMP (.gsa) THAT YtgbdjidjbcbhjaaDoorProg.lean LOADS. Nothing in Lean hashes anything: it is a label: what it is worth is what the hold of that sum in a sandbox is worth. -/
noncomputable def Tryd.pinned : Pinned := { name := "ytgbdjidjbcbhjaadoor", sum := "531bcfc222452ebe7bd18c2dbe3f9acf4286e32320f9ac67756509f8fc0194e8", checked := Tryd.checked }
namespace Rows
def none {H : Type} : Left H := { results := [], args := [] }

/- WHAT THE LISTED PACKAGE-LEVEL VARIABLES READ AS WHEN THE CALL BEGINS. Each datum BY PROGRAM (the guide's laid-datum.mjs) off the statement by which the dump's own 'gosem.cut.vars' lays the variable. In a bare row this is a premise. The card (YtgbdjidjbcbhjaaDoorCards.lean) ties it to the program's text. -/
def laid_errors_errorType {H : Type} : DataW H := .iface "internal/reflectlite.rtype" (.agg [.ptr (.lit (.string [101, 114, 114, 111, 114]))])

/-- 'larderwicklaw3.CheneySays': WHATEVER THE INPUT: true; the input reads as it did. -/
def cheneySaysSpec : ChangeSpec := { name := "cheneySays", fn := fun _ => fun
  | [d] => { results := [.lit (.bool true)], args := [d] }
  | _ => none }
def cheneySaysRow : OpenClaim := { program := "ytgbdjidjbcbhjaadoor", sum := "531bcfc222452ebe7bd18c2dbe3f9acf4286e32320f9ac67756509f8fc0194e8", func := "larderwick/larderwicklaw3.CheneySays", spec := "cheneySays", inPlace := ["internal/reflectlite.ValueOf", "(internal/reflectlite.Value).Type", "(internal/reflectlite.Value).IsNil", "internal/reflectlite.TypeOf", "(internal/reflectlite.Value).Elem", "(internal/reflectlite.Value).Set"], unfollowed := true, recurses := true, named := ["errors.errorType"], apart := false, laid := [("errors.errorType", laid_errors_errorType)] }
def CheneySaysSaid : Prop := cheneySaysRow.holds Tryd.pinned (OpenSpec.ofChange cheneySaysSpec)

/-- ITS FALSE NEIGHBOUR: 'it returns false'. Refute it at one input. -/
def cheneySaysWrong : ChangeSpec := { name := "cheneySays", fn := fun _ => fun
  | [d] => { results := [.lit (.bool false)], args := [d] }
  | _ => none }
def CheneySaysWrongFalsely : Prop := cheneySaysRow.holds Tryd.pinned (OpenSpec.ofChange cheneySaysWrong)

/-- 'larderwicklaw3.GraphSays': WHATEVER THE INPUT: true; the input reads as it did. -/
def graphSaysSpec : ChangeSpec := { name := "graphSays", fn := fun _ => fun
  | [d] => { results := [.lit (.bool true)], args := [d] }
  | _ => none }
def graphSaysRow : OpenClaim := { program := "ytgbdjidjbcbhjaadoor", sum := "531bcfc222452ebe7bd18c2dbe3f9acf4286e32320f9ac67756509f8fc0194e8", func := "larderwick/larderwicklaw3.GraphSays", spec := "graphSays", inPlace := ["internal/reflectlite.ValueOf", "(internal/reflectlite.Value).Type", "(internal/reflectlite.Value).IsNil", "internal/reflectlite.TypeOf", "(internal/reflectlite.Value).Elem", "(internal/reflectlite.Value).Set"], unfollowed := true, recurses := true, named := ["errors.errorType"], apart := false, laid := [("errors.errorType", laid_errors_errorType)] }
def GraphSaysSaid : Prop := graphSaysRow.holds Tryd.pinned (OpenSpec.ofChange graphSaysSpec)

/-- ITS FALSE NEIGHBOUR: 'it returns false'. Refute it at one input. -/
def graphSaysWrong : ChangeSpec := { name := "graphSays", fn := fun _ => fun
  | [d] => { results := [.lit (.bool false)], args := [d] }
  | _ => none }
def GraphSaysWrongFalsely : Prop := graphSaysRow.holds Tryd.pinned (OpenSpec.ofChange graphSaysWrong)

/-- 'larderwicklaw3.TrialSays': WHATEVER THE INPUT: true; the input reads as it did. -/
def trialSaysSpec : ChangeSpec := { name := "trialSays", fn := fun _ => fun
  | [d1, d2] => { results := [.lit (.bool true)], args := [d1, d2] }
  | _ => none }
def trialSaysRow : OpenClaim := { program := "ytgbdjidjbcbhjaadoor", sum := "531bcfc222452ebe7bd18c2dbe3f9acf4286e32320f9ac67756509f8fc0194e8", func := "larderwick/larderwicklaw3.TrialSays", spec := "trialSays", inPlace := ["internal/reflectlite.ValueOf", "(internal/reflectlite.Value).Type", "(internal/reflectlite.Value).IsNil", "internal/reflectlite.TypeOf", "(internal/reflectlite.Value).Elem", "(internal/reflectlite.Value).Set"], unfollowed := true, recurses := true, named := ["errors.errorType"], apart := false, laid := [("errors.errorType", laid_errors_errorType)] }
def TrialSaysSaid : Prop := trialSaysRow.holds Tryd.pinned (OpenSpec.ofChange trialSaysSpec)

/-- ITS FALSE NEIGHBOUR: 'it returns false'. Refute it at one input. -/
def trialSaysWrong : ChangeSpec := { name := "trialSays", fn := fun _ => fun
  | [d1, d2] => { results := [.lit (.bool false)], args := [d1, d2] }
  | _ => none }
def TrialSaysWrongFalsely : Prop := trialSaysRow.holds Tryd.pinned (OpenSpec.ofChange trialSaysWrong)

/-- 'larderwicklaw3.CountPlays': WHATEVER THE INPUT: true; the input reads as it did. -/
def countPlaysSpec : ChangeSpec := { name := "countPlays", fn := fun _ => fun
  | [d] => { results := [.lit (.bool true)], args := [d] }
  | _ => none }
def countPlaysRow : OpenClaim := { program := "ytgbdjidjbcbhjaadoor", sum := "531bcfc222452ebe7bd18c2dbe3f9acf4286e32320f9ac67756509f8fc0194e8", func := "larderwick/larderwicklaw3.CountPlays", spec := "countPlays", inPlace := ["internal/reflectlite.ValueOf", "(internal/reflectlite.Value).Type", "(internal/reflectlite.Value).IsNil", "internal/reflectlite.TypeOf", "(internal/reflectlite.Value).Elem", "(internal/reflectlite.Value).Set"], unfollowed := true, recurses := true, named := ["errors.errorType"], apart := false, laid := [("errors.errorType", laid_errors_errorType)] }
def CountPlaysSaid : Prop := countPlaysRow.holds Tryd.pinned (OpenSpec.ofChange countPlaysSpec)

/-- ITS FALSE NEIGHBOUR: 'it returns false'. Refute it at one input. -/
def countPlaysWrong : ChangeSpec := { name := "countPlays", fn := fun _ => fun
  | [d] => { results := [.lit (.bool false)], args := [d] }
  | _ => none }
def CountPlaysWrongFalsely : Prop := countPlaysRow.holds Tryd.pinned (OpenSpec.ofChange countPlaysWrong)

/-- 'larderwicklaw3.ColorPlays': WHATEVER THE INPUT: true; the input reads as it did. -/
def colorPlaysSpec : ChangeSpec := { name := "colorPlays", fn := fun _ => fun
  | [d1, d2] => { results := [.lit (.bool true)], args := [d1, d2] }
  | _ => none }
def colorPlaysRow : OpenClaim := { program := "ytgbdjidjbcbhjaadoor", sum := "531bcfc222452ebe7bd18c2dbe3f9acf4286e32320f9ac67756509f8fc0194e8", func := "larderwick/larderwicklaw3.ColorPlays", spec := "colorPlays", inPlace := ["internal/reflectlite.ValueOf", "(internal/reflectlite.Value).Type", "(internal/reflectlite.Value).IsNil", "internal/reflectlite.TypeOf", "(internal/reflectlite.Value).Elem", "(internal/reflectlite.Value).Set"], unfollowed := true, recurses := true, named := ["errors.errorType"], apart := false, laid := [("errors.errorType", laid_errors_errorType)] }
def ColorPlaysSaid : Prop := colorPlaysRow.holds Tryd.pinned (OpenSpec.ofChange colorPlaysSpec)

/-- ITS FALSE NEIGHBOUR: 'it returns false'. Refute it at one input. -/
def colorPlaysWrong : ChangeSpec := { name := "colorPlays", fn := fun _ => fun
  | [d1, d2] => { results := [.lit (.bool false)], args := [d1, d2] }
  | _ => none }
def ColorPlaysWrongFalsely : Prop := colorPlaysRow.holds Tryd.pinned (OpenSpec.ofChange colorPlaysWrong)

/-- 'larderwicklaw3.SweepSays': WHATEVER THE INPUT: true; the input reads as it did. -/
def sweepSaysSpec : ChangeSpec := { name := "sweepSays", fn := fun _ => fun
  | [d] => { results := [.lit (.bool true)], args := [d] }
  | _ => none }
def sweepSaysRow : OpenClaim := { program := "ytgbdjidjbcbhjaadoor", sum := "531bcfc222452ebe7bd18c2dbe3f9acf4286e32320f9ac67756509f8fc0194e8", func := "larderwick/larderwicklaw3.SweepSays", spec := "sweepSays", inPlace := ["internal/reflectlite.ValueOf", "(internal/reflectlite.Value).Type", "(internal/reflectlite.Value).IsNil", "internal/reflectlite.TypeOf", "(internal/reflectlite.Value).Elem", "(internal/reflectlite.Value).Set"], unfollowed := true, recurses := true, named := ["errors.errorType"], apart := false, laid := [("errors.errorType", laid_errors_errorType)] }
def SweepSaysSaid : Prop := sweepSaysRow.holds Tryd.pinned (OpenSpec.ofChange sweepSaysSpec)

/-- ITS FALSE NEIGHBOUR: 'it returns false'. Refute it at one input. -/
def sweepSaysWrong : ChangeSpec := { name := "sweepSays", fn := fun _ => fun
  | [d] => { results := [.lit (.bool false)], args := [d] }
  | _ => none }
def SweepSaysWrongFalsely : Prop := sweepSaysRow.holds Tryd.pinned (OpenSpec.ofChange sweepSaysWrong)

/- THE SECOND FORM. 'bulk': how many values and letters a reading holds, each counted each time it is reached (what is shared counts as often as it is met; a slice's spare places count too). A statement '..UptoSaid' is the law's where the arguments, and the package variables that the reading takes, are together of bulk at most 1048576: NARROWER than '..Said'. Prove '..Said' where nothing that the law and all that it calls make is longer than what came in: it says more and counts as full. Else prove '..UptoSaid'. A law counts once. -/
mutual
def uptoBulk {H : Type} : DataW H → Nat
  | .lit (.string bytes) => bytes.length + 1
  | .lit _ => 1
  | .nil => 1
  | .ptr d => uptoBulk d + 1
  | .slice elems spare => uptoBulkAll elems + uptoBulkAll spare + 1
  | .agg parts => uptoBulkAll parts + 1
  | .iface _ d => uptoBulk d + 1
  | .map entries => uptoBulkEntries entries + 1
  | .held _ => 1
def uptoBulkAll {H : Type} : List (DataW H) → Nat
  | [] => 0
  | d :: r => uptoBulk d + uptoBulkAll r
def uptoBulkEntries {H : Type} : List (Lit × DataW H) → Nat
  | [] => 0
  | x :: r => uptoBulkEntry x + uptoBulkEntries r
def uptoBulkEntry {H : Type} : Lit × DataW H → Nat
  | (.string bytes, d) => bytes.length + uptoBulk d + 1
  | (_, d) => uptoBulk d + 1
 end
def uptoSmall : (H : Type) → List (DataW H) → Bool := fun _ ds => decide (uptoBulkAll ds ≤ 1048576)
def OpenSpec.upto (s : _root_.Go.ChangeSpec) : _root_.Go.OpenSpec := { _root_.Go.OpenSpec.ofChange s with cond := some uptoSmall }

/-- 'larderwicklaw3.CheneySays', WHERE WHAT IT READS IS OF BULK AT MOST 1048576: true; the input reads as it did. -/
def cheneySaysUptoRow : OpenClaim := { program := "ytgbdjidjbcbhjaadoor", sum := "531bcfc222452ebe7bd18c2dbe3f9acf4286e32320f9ac67756509f8fc0194e8", func := "larderwick/larderwicklaw3.CheneySays", spec := "cheneySays", inPlace := ["internal/reflectlite.ValueOf", "(internal/reflectlite.Value).Type", "(internal/reflectlite.Value).IsNil", "internal/reflectlite.TypeOf", "(internal/reflectlite.Value).Elem", "(internal/reflectlite.Value).Set"], unfollowed := true, recurses := true, named := ["errors.errorType"], apart := false, laid := [("errors.errorType", laid_errors_errorType)], narrowed := true }
def CheneySaysUptoSaid : Prop := cheneySaysUptoRow.holds Tryd.pinned (OpenSpec.upto cheneySaysSpec)

/-- 'larderwicklaw3.GraphSays', WHERE WHAT IT READS IS OF BULK AT MOST 1048576: true; the input reads as it did. -/
def graphSaysUptoRow : OpenClaim := { program := "ytgbdjidjbcbhjaadoor", sum := "531bcfc222452ebe7bd18c2dbe3f9acf4286e32320f9ac67756509f8fc0194e8", func := "larderwick/larderwicklaw3.GraphSays", spec := "graphSays", inPlace := ["internal/reflectlite.ValueOf", "(internal/reflectlite.Value).Type", "(internal/reflectlite.Value).IsNil", "internal/reflectlite.TypeOf", "(internal/reflectlite.Value).Elem", "(internal/reflectlite.Value).Set"], unfollowed := true, recurses := true, named := ["errors.errorType"], apart := false, laid := [("errors.errorType", laid_errors_errorType)], narrowed := true }
def GraphSaysUptoSaid : Prop := graphSaysUptoRow.holds Tryd.pinned (OpenSpec.upto graphSaysSpec)

/-- 'larderwicklaw3.TrialSays', WHERE WHAT IT READS IS OF BULK AT MOST 1048576: true; the input reads as it did. -/
def trialSaysUptoRow : OpenClaim := { program := "ytgbdjidjbcbhjaadoor", sum := "531bcfc222452ebe7bd18c2dbe3f9acf4286e32320f9ac67756509f8fc0194e8", func := "larderwick/larderwicklaw3.TrialSays", spec := "trialSays", inPlace := ["internal/reflectlite.ValueOf", "(internal/reflectlite.Value).Type", "(internal/reflectlite.Value).IsNil", "internal/reflectlite.TypeOf", "(internal/reflectlite.Value).Elem", "(internal/reflectlite.Value).Set"], unfollowed := true, recurses := true, named := ["errors.errorType"], apart := false, laid := [("errors.errorType", laid_errors_errorType)], narrowed := true }
def TrialSaysUptoSaid : Prop := trialSaysUptoRow.holds Tryd.pinned (OpenSpec.upto trialSaysSpec)

/-- 'larderwicklaw3.CountPlays', WHERE WHAT IT READS IS OF BULK AT MOST 1048576: true; the input reads as it did. -/
def countPlaysUptoRow : OpenClaim := { program := "ytgbdjidjbcbhjaadoor", sum := "531bcfc222452ebe7bd18c2dbe3f9acf4286e32320f9ac67756509f8fc0194e8", func := "larderwick/larderwicklaw3.CountPlays", spec := "countPlays", inPlace := ["internal/reflectlite.ValueOf", "(internal/reflectlite.Value).Type", "(internal/reflectlite.Value).IsNil", "internal/reflectlite.TypeOf", "(internal/reflectlite.Value).Elem", "(internal/reflectlite.Value).Set"], unfollowed := true, recurses := true, named := ["errors.errorType"], apart := false, laid := [("errors.errorType", laid_errors_errorType)], narrowed := true }
def CountPlaysUptoSaid : Prop := countPlaysUptoRow.holds Tryd.pinned (OpenSpec.upto countPlaysSpec)

/-- 'larderwicklaw3.ColorPlays', WHERE WHAT IT READS IS OF BULK AT MOST 1048576: true; the input reads as it did. -/
def colorPlaysUptoRow : OpenClaim := { program := "ytgbdjidjbcbhjaadoor", sum := "531bcfc222452ebe7bd18c2dbe3f9acf4286e32320f9ac67756509f8fc0194e8", func := "larderwick/larderwicklaw3.ColorPlays", spec := "colorPlays", inPlace := ["internal/reflectlite.ValueOf", "(internal/reflectlite.Value).Type", "(internal/reflectlite.Value).IsNil", "internal/reflectlite.TypeOf", "(internal/reflectlite.Value).Elem", "(internal/reflectlite.Value).Set"], unfollowed := true, recurses := true, named := ["errors.errorType"], apart := false, laid := [("errors.errorType", laid_errors_errorType)], narrowed := true }
def ColorPlaysUptoSaid : Prop := colorPlaysUptoRow.holds Tryd.pinned (OpenSpec.upto colorPlaysSpec)

/-- 'larderwicklaw3.SweepSays', WHERE WHAT IT READS IS OF BULK AT MOST 1048576: true; the input reads as it did. -/
def sweepSaysUptoRow : OpenClaim := { program := "ytgbdjidjbcbhjaadoor", sum := "531bcfc222452ebe7bd18c2dbe3f9acf4286e32320f9ac67756509f8fc0194e8", func := "larderwick/larderwicklaw3.SweepSays", spec := "sweepSays", inPlace := ["internal/reflectlite.ValueOf", "(internal/reflectlite.Value).Type", "(internal/reflectlite.Value).IsNil", "internal/reflectlite.TypeOf", "(internal/reflectlite.Value).Elem", "(internal/reflectlite.Value).Set"], unfollowed := true, recurses := true, named := ["errors.errorType"], apart := false, laid := [("errors.errorType", laid_errors_errorType)], narrowed := true }
def SweepSaysUptoSaid : Prop := sweepSaysUptoRow.holds Tryd.pinned (OpenSpec.upto sweepSaysSpec)

end Rows
end Go.Proofs.YtgbdjidjbcbhjaaDoor
