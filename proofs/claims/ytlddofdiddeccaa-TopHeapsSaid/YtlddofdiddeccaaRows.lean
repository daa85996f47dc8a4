/-
  No cell of these rows narrows 'for every input' (looked for: loops, veiled, ifaces, maps, wideKeys, modest, calm, conditions, laid).
  DERIVED. THE GIVEN ROWS OF THIS SEAT. 4 by the template 'for every input the law returns true; each argument reads behind the call as it read before'; 0 by the template 'total and deterministic' (their statements: YtlddofdiddeccaaTotals.lean).
  GIVEN WITH THE SEED: the statements are not yours to turn. If you find one false, say at which input.
  Laid BY PROGRAM, IN A SANDBOX (cutbox-rows.mjs): the forced cells as the released guide's own fill.sh prints them over the translation 71dbdbf7759d9c6d… (all of the seat's roots in one cut). By AI agents, Wed Nov 11 2026. No macro, syntax, notation, axiom, sorry.
-/
import Derived.Test.YtlddofdiddeccaaChecked
import GoSem.Claim
import GoSem.ClaimJoined
import GoSem.ClaimMapViews
import Derived.JoinedTies
import Derived.KernelRfl
namespace Go.Proofs.Ytlddofdiddeccaa
/- THE CELL 'sum', in the pinned program and in every row, IS THE sha256 OF THE DUMP (.gsa) THAT YtlddofdiddeccaaProg.lean LOADS. Nothing in Lean hashes anything: it is a label: what it is worth is what the hold of that sum in a sandbox is worth. -/
noncomputable def Try.pinned : Pinned := { name := "ytlddofdiddeccaa", sum := "71dbdbf7759d9c6d081fea3dccffafe87f09461d338c31a483e49ada907247ac", checked := Try.checked }
namespace Rows
def none {H : Type} : Left H := { results := [], args := [] }

/-- 'larderwicktop.TopHeaps': WHATEVER THE INPUT: true; the input reads as it did. -/
def topHeapsSpec : ChangeSpec := { name := "topHeaps", fn := fun _ => fun
  | [d] => { results := [.lit (.bool true)], args := [d] }
  | _ => none }
def topHeapsRow : OpenClaim := { program := "ytlddofdiddeccaa", sum := "71dbdbf7759d9c6d081fea3dccffafe87f09461d338c31a483e49ada907247ac", func := "larderwick/larderwicktop.TopHeaps", spec := "topHeaps", unfollowed := true, recurses := true, apart := false }
def TopHeapsSaid : Prop := topHeapsRow.holds Try.pinned (OpenSpec.ofChange topHeapsSpec)

/-- ITS FALSE NEIGHBOUR: 'it returns false'. Refute it at one input. -/
def topHeapsWrong : ChangeSpec := { name := "topHeaps", fn := fun _ => fun
  | [d] => { results := [.lit (.bool false)], args := [d] }
  | _ => none }
def TopHeapsWrongFalsely : Prop := topHeapsRow.holds Try.pinned (OpenSpec.ofChange topHeapsWrong)

/-- 'larderwicklaw3.SweepMark': WHATEVER THE INPUT: true; the input reads as it did. -/
def sweepMarkSpec : ChangeSpec := { name := "sweepMark", fn := fun _ => fun
  | [d] => { results := [.lit (.bool true)], args := [d] }
  | _ => none }
def sweepMarkRow : OpenClaim := { program := "ytlddofdiddeccaa", sum := "71dbdbf7759d9c6d081fea3dccffafe87f09461d338c31a483e49ada907247ac", func := "larderwick/larderwicklaw3.SweepMark", spec := "sweepMark", unfollowed := true, recurses := true, apart := false }
def SweepMarkSaid : Prop := sweepMarkRow.holds Try.pinned (OpenSpec.ofChange sweepMarkSpec)

/-- ITS FALSE NEIGHBOUR: 'it returns false'. Refute it at one input. -/
def sweepMarkWrong : ChangeSpec := { name := "sweepMark", fn := fun _ => fun
  | [d] => { results := [.lit (.bool false)], args := [d] }
  | _ => none }
def SweepMarkWrongFalsely : Prop := sweepMarkRow.holds Try.pinned (OpenSpec.ofChange sweepMarkWrong)

/-- 'larderwicklaw3.SweepClean': WHATEVER THE INPUT: true; the input reads as it did. -/
def sweepCleanSpec : ChangeSpec := { name := "sweepClean", fn := fun _ => fun
  | [d] => { results := [.lit (.bool true)], args := [d] }
  | _ => none }
def sweepCleanRow : OpenClaim := { program := "ytlddofdiddeccaa", sum := "71dbdbf7759d9c6d081fea3dccffafe87f09461d338c31a483e49ada907247ac", func := "larderwick/larderwicklaw3.SweepClean", spec := "sweepClean", unfollowed := true, recurses := true, apart := false }
def SweepCleanSaid : Prop := sweepCleanRow.holds Try.pinned (OpenSpec.ofChange sweepCleanSpec)

/-- ITS FALSE NEIGHBOUR: 'it returns false'. Refute it at one input. -/
def sweepCleanWrong : ChangeSpec := { name := "sweepClean", fn := fun _ => fun
  | [d] => { results := [.lit (.bool false)], args := [d] }
  | _ => none }
def SweepCleanWrongFalsely : Prop := sweepCleanRow.holds Try.pinned (OpenSpec.ofChange sweepCleanWrong)

/-- 'larderwicklaw3.SweepTurn': WHATEVER THE INPUT: true; the input reads as it did. -/
def sweepTurnSpec : ChangeSpec := { name := "sweepTurn", fn := fun _ => fun
  | [d] => { results := [.lit (.bool true)], args := [d] }
  | _ => none }
def sweepTurnRow : OpenClaim := { program := "ytlddofdiddeccaa", sum := "71dbdbf7759d9c6d081fea3dccffafe87f09461d338c31a483e49ada907247ac", func := "larderwick/larderwicklaw3.SweepTurn", spec := "sweepTurn", unfollowed := true, recurses := true, apart := false }
def SweepTurnSaid : Prop := sweepTurnRow.holds Try.pinned (OpenSpec.ofChange sweepTurnSpec)

/-- ITS FALSE NEIGHBOUR: 'it returns false'. Refute it at one input. -/
def sweepTurnWrong : ChangeSpec := { name := "sweepTurn", fn := fun _ => fun
  | [d] => { results := [.lit (.bool false)], args := [d] }
  | _ => none }
def SweepTurnWrongFalsely : Prop := sweepTurnRow.holds Try.pinned (OpenSpec.ofChange sweepTurnWrong)

/- THE SECOND FORM. 'bulk': how many values and letters a reading holds, each counted each time it is reached (what is shared counts as often as it is met; a slice's spare places count too). A statement '..UptoSaid' is the law's where the arguments, and the package variables that the reading takes, are together of bulk at most 1048576: NARROWER than '..Said'. Prove '..Said' where nothing that the law and all that it calls make is longer than what came in: it says more and counts as full. Else prove '..UptoSaid'. A law counts once. -/
mutual
def uptoBulk {H : Type} : DataW H → Nat
  | .lit (.string bytes) => bytes.length + 1
  | .lit _ => 1
  | .nil => 1
  | .ptr d => uptoBulk d + 1
  | .slice elems spare => uptoBulkAll elems + uptoBulkAll spare + 1
  | .agg parts => uptoBulkAll parts + 1
  | .iface _ d => uptoBulk d + 1
  | .map entries => uptoBulkEntries entries + 1
  | .held _ => 1
def uptoBulkAll {H : Type} : List (DataW H) → Nat
  | [] => 0
  | d :: r => uptoBulk d + uptoBulkAll r
def uptoBulkEntries {H : Type} : List (Lit × DataW H) → Nat
  | [] => 0
  | x :: r => uptoBulkEntry x + uptoBulkEntries r
def uptoBulkEntry {H : Type} : Lit × DataW H → Nat
  | (.string bytes, d) => bytes.length + uptoBulk d + 1
  | (_, d) => uptoBulk d + 1
 end
def uptoSmall : (H : Type) → List (DataW H) → Bool := fun _ ds => decide (uptoBulkAll ds ≤ 1048576)
def OpenSpec.upto (s : _root_.Go.ChangeSpec) : _root_.Go.OpenSpec := { _root_.Go.OpenSpec.ofChange s with cond := some uptoSmall }

/-- 'larderwicktop.TopHeaps', WHERE WHAT IT READS IS OF BULK AT MOST 1048576: true; the input reads as it did. -/
def topHeapsUptoRow : OpenClaim := { program := "ytlddofdiddeccaa", sum := "71dbdbf7759d9c6d081fea3dccffafe87f09461d338c31a483e49ada907247ac", func := "larderwick/larderwicktop.TopHeaps", spec := "topHeaps", unfollowed := true, recurses := true, apart := false, narrowed := true }
def TopHeapsUptoSaid : Prop := topHeapsUptoRow.holds Try.pinned (OpenSpec.upto topHeapsSpec)

/-- 'larderwicklaw3.SweepMark', WHERE WHAT IT READS IS OF BULK AT MOST 1048576: true; the input reads as it did. -/
def sweepMarkUptoRow : OpenClaim := { program := "ytlddofdiddeccaa", sum := "71dbdbf7759d9c6d081fea3dccffafe87f09461d338c31a483e49ada907247ac", func := "larderwick/larderwicklaw3.SweepMark", spec := "sweepMark", unfollowed := true, recurses := true, apart := false, narrowed := true }
def SweepMarkUptoSaid : Prop := sweepMarkUptoRow.holds Try.pinned (OpenSpec.upto sweepMarkSpec)

/-- 'larderwicklaw3.SweepClean', WHERE WHAT IT READS IS OF BULK AT MOST 1048576: true; the input reads as it did. -/
def sweepCleanUptoRow : OpenClaim := { program := "ytlddofdiddeccaa", sum := "71dbdbf7759d9c6d081fea3dccffafe87f09461d338c31a483e49ada907247ac", func := "larderwick/larderwicklaw3.SweepClean", spec := "sweepClean", unfollowed := true, recurses := true, apart := false, narrowed := true }
def SweepCleanUptoSaid : Prop := sweepCleanUptoRow.holds Try.pinned (OpenSpec.upto sweepCleanSpec)

/-- 'larderwicklaw3.SweepTurn', WHERE WHAT IT READS IS OF BULK AT MOST 1048576: true; the input reads as it did. -/
def sweepTurnUptoRow : OpenClaim := { program := "ytlddofdiddeccaa", sum := "71dbdbf7759d9c6d081fea3dccffafe87f09461d338c31a483e49ada907247ac", func := "larderwick/larderwicklaw3.SweepTurn", spec := "sweepTurn", unfollowed := true, recurses := true, apart := false, narrowed := true }
def SweepTurnUptoSaid : Prop := sweepTurnUptoRow.holds Try.pinned (OpenSpec.upto sweepTurnSpec)

end Rows
end Go.Proofs.Ytlddofdiddeccaa
