/-
  No cell of these rows narrows 'for every input' (looked for: loops, veiled, ifaces, maps, wideKeys, modest, calm, conditions, laid).
  DERIVED. THE GIVEN ROWS OF THIS SEAT. 5 by the template 'for every input the law returns true; each argument reads behind the call as it read before'; 0 by the template 'total and deterministic' (their statements: YtjcabgbleohdcaaTotals.lean).
  GIVEN WITH THE SEED: the statements are not yours to turn. If you find one false, say at which input.
  Laid BY PROGRAM, IN A SANDBOX (cutbox-rows.mjs): the forced cells as the released guide's own fill.sh prints them over the translation 32a88096679b1aca… (all of the seat's roots in one cut). By AI agents, Wed Nov 11 2026. No macro, syntax, notation, axiom, sorry.
-/
import Derived.Test.YtjcabgbleohdcaaChecked
import GoSem.Claim
import GoSem.ClaimJoined
import GoSem.ClaimMapViews
import Derived.JoinedTies
import Derived.KernelRfl
namespace Go.Proofs.Ytjcabgbleohdcaa
/- THE CELL 'sum', in the pinned program and in every row, IS THE sha256 OF THE DUMP (.gsa) THAT YtjcabgbleohdcaaProg.lean LOADS. Nothing in Lean hashes anything: it is a label: what it is worth is what the hold of that sum in a sandbox is worth. -/
noncomputable def Try.pinned : Pinned := { name := "ytjcabgbleohdcaa", sum := "32a88096679b1acac5aea9f0f19f71837fcdb7cc9ddc95938fc98bc9bd8e0083", checked := Try.checked }
namespace Rows
def none {H : Type} : Left H := { results := [], args := [] }

/-- 'larderwicklaw3.CountTrue': WHATEVER THE INPUT: true; the input reads as it did. -/
def countTrueSpec : ChangeSpec := { name := "countTrue", fn := fun _ => fun
  | [d] => { results := [.lit (.bool true)], args := [d] }
  | _ => none }
def countTrueRow : OpenClaim := { program := "ytjcabgbleohdcaa", sum := "32a88096679b1acac5aea9f0f19f71837fcdb7cc9ddc95938fc98bc9bd8e0083", func := "larderwick/larderwicklaw3.CountTrue", spec := "countTrue", recurses := true, apart := false }
def CountTrueSaid : Prop := countTrueRow.holds Try.pinned (OpenSpec.ofChange countTrueSpec)

/-- ITS FALSE NEIGHBOUR: 'it returns false'. Refute it at one input. -/
def countTrueWrong : ChangeSpec := { name := "countTrue", fn := fun _ => fun
  | [d] => { results := [.lit (.bool false)], args := [d] }
  | _ => none }
def CountTrueWrongFalsely : Prop := countTrueRow.holds Try.pinned (OpenSpec.ofChange countTrueWrong)

/-- 'larderwicklaw3.CountBack': WHATEVER THE INPUT: true; the input reads as it did. -/
def countBackSpec : ChangeSpec := { name := "countBack", fn := fun _ => fun
  | [d1, d2, d3] => { results := [.lit (.bool true)], args := [d1, d2, d3] }
  | _ => none }
def countBackRow : OpenClaim := { program := "ytjcabgbleohdcaa", sum := "32a88096679b1acac5aea9f0f19f71837fcdb7cc9ddc95938fc98bc9bd8e0083", func := "larderwick/larderwicklaw3.CountBack", spec := "countBack", recurses := true, apart := false }
def CountBackSaid : Prop := countBackRow.holds Try.pinned (OpenSpec.ofChange countBackSpec)

/-- ITS FALSE NEIGHBOUR: 'it returns false'. Refute it at one input. -/
def countBackWrong : ChangeSpec := { name := "countBack", fn := fun _ => fun
  | [d1, d2, d3] => { results := [.lit (.bool false)], args := [d1, d2, d3] }
  | _ => none }
def CountBackWrongFalsely : Prop := countBackRow.holds Try.pinned (OpenSpec.ofChange countBackWrong)

/-- 'larderwicklaw3.CountSafe': WHATEVER THE INPUT: true; the input reads as it did. -/
def countSafeSpec : ChangeSpec := { name := "countSafe", fn := fun _ => fun
  | [d] => { results := [.lit (.bool true)], args := [d] }
  | _ => none }
def countSafeRow : OpenClaim := { program := "ytjcabgbleohdcaa", sum := "32a88096679b1acac5aea9f0f19f71837fcdb7cc9ddc95938fc98bc9bd8e0083", func := "larderwick/larderwicklaw3.CountSafe", spec := "countSafe", unfollowed := true, recurses := true, apart := false }
def CountSafeSaid : Prop := countSafeRow.holds Try.pinned (OpenSpec.ofChange countSafeSpec)

/-- ITS FALSE NEIGHBOUR: 'it returns false'. Refute it at one input. -/
def countSafeWrong : ChangeSpec := { name := "countSafe", fn := fun _ => fun
  | [d] => { results := [.lit (.bool false)], args := [d] }
  | _ => none }
def CountSafeWrongFalsely : Prop := countSafeRow.holds Try.pinned (OpenSpec.ofChange countSafeWrong)

/-- 'larderwicklaw3.CountEmpty': WHATEVER THE INPUT: true; the input reads as it did. -/
def countEmptySpec : ChangeSpec := { name := "countEmpty", fn := fun _ => fun
  | [d] => { results := [.lit (.bool true)], args := [d] }
  | _ => none }
def countEmptyRow : OpenClaim := { program := "ytjcabgbleohdcaa", sum := "32a88096679b1acac5aea9f0f19f71837fcdb7cc9ddc95938fc98bc9bd8e0083", func := "larderwick/larderwicklaw3.CountEmpty", spec := "countEmpty", unfollowed := true, recurses := true, apart := false }
def CountEmptySaid : Prop := countEmptyRow.holds Try.pinned (OpenSpec.ofChange countEmptySpec)

/-- ITS FALSE NEIGHBOUR: 'it returns false'. Refute it at one input. -/
def countEmptyWrong : ChangeSpec := { name := "countEmpty", fn := fun _ => fun
  | [d] => { results := [.lit (.bool false)], args := [d] }
  | _ => none }
def CountEmptyWrongFalsely : Prop := countEmptyRow.holds Try.pinned (OpenSpec.ofChange countEmptyWrong)

/-- 'larderwicktop.TopRings': WHATEVER THE INPUT: true; the input reads as it did. -/
def topRingsSpec : ChangeSpec := { name := "topRings", fn := fun _ => fun
  | [d] => { results := [.lit (.bool true)], args := [d] }
  | _ => none }
def topRingsRow : OpenClaim := { program := "ytjcabgbleohdcaa", sum := "32a88096679b1acac5aea9f0f19f71837fcdb7cc9ddc95938fc98bc9bd8e0083", func := "larderwick/larderwicktop.TopRings", spec := "topRings", unfollowed := true, recurses := true, apart := false }
def TopRingsSaid : Prop := topRingsRow.holds Try.pinned (OpenSpec.ofChange topRingsSpec)

/-- ITS FALSE NEIGHBOUR: 'it returns false'. Refute it at one input. -/
def topRingsWrong : ChangeSpec := { name := "topRings", fn := fun _ => fun
  | [d] => { results := [.lit (.bool false)], args := [d] }
  | _ => none }
def TopRingsWrongFalsely : Prop := topRingsRow.holds Try.pinned (OpenSpec.ofChange topRingsWrong)

/- THE SECOND FORM. 'bulk': how many values and letters a reading holds, each counted each time it is reached (what is shared counts as often as it is met; a slice's spare places count too). A statement '..UptoSaid' is the law's where the arguments, and the package variables that the reading takes, are together of bulk at most 1048576: NARROWER than '..Said'. Prove '..Said' where nothing that the law and all that it calls make is longer than what came in: it says more and counts as full. Else prove '..UptoSaid'. A law counts once. -/
mutual
def uptoBulk {H : Type} : DataW H → Nat
  | .lit (.string bytes) => bytes.length + 1
  | .lit _ => 1
  | .nil => 1
  | .ptr d => uptoBulk d + 1
  | .slice elems spare => uptoBulkAll elems + uptoBulkAll spare + 1
  | .agg parts => uptoBulkAll parts + 1
  | .iface _ d => uptoBulk d + 1
  | .map entries => uptoBulkEntries entries + 1
  | .held _ => 1
def uptoBulkAll {H : Type} : List (DataW H) → Nat
  | [] => 0
  | d :: r => uptoBulk d + uptoBulkAll r
def uptoBulkEntries {H : Type} : List (Lit × DataW H) → Nat
  | [] => 0
  | x :: r => uptoBulkEntry x + uptoBulkEntries r
def uptoBulkEntry {H : Type} : Lit × DataW H → Nat
  | (.string bytes, d) => bytes.length + uptoBulk d + 1
  | (_, d) => uptoBulk d + 1
 end
def uptoSmall : (H : Type) → List (DataW H) → Bool := fun _ ds => decide (uptoBulkAll ds ≤ 1048576)
def OpenSpec.upto (s : _root_.Go.ChangeSpec) : _root_.Go.OpenSpec := { _root_.Go.OpenSpec.ofChange s with cond := some uptoSmall }

/-- 'larderwicklaw3.CountTrue', WHERE WHAT IT READS IS OF BULK AT MOST 1048576: true; the input reads as it did. -/
def countTrueUptoRow : OpenClaim := { program := "ytjcabgbleohdcaa", sum := "32a88096679b1acac5aea9f0f19f71837fcdb7cc9ddc95938fc98bc9bd8e0083", func := "larderwick/larderwicklaw3.CountTrue", spec := "countTrue", recurses := true, apart := false, narrowed := true }
def CountTrueUptoSaid : Prop := countTrueUptoRow.holds Try.pinned (OpenSpec.upto countTrueSpec)

/-- 'larderwicklaw3.CountBack', WHERE WHAT IT READS IS OF BULK AT MOST 1048576: true; the input reads as it did. -/
def countBackUptoRow : OpenClaim := { program := "ytjcabgbleohdcaa", sum := "32a88096679b1acac5aea9f0f19f71837fcdb7cc9ddc95938fc98bc9bd8e0083", func := "larderwick/larderwicklaw3.CountBack", spec := "countBack", recurses := true, apart := false, narrowed := true }
def CountBackUptoSaid : Prop := countBackUptoRow.holds Try.pinned (OpenSpec.upto countBackSpec)

/-- 'larderwicklaw3.CountSafe', WHERE WHAT IT READS IS OF BULK AT MOST 1048576: true; the input reads as it did. -/
def countSafeUptoRow : OpenClaim := { program := "ytjcabgbleohdcaa", sum := "32a88096679b1acac5aea9f0f19f71837fcdb7cc9ddc95938fc98bc9bd8e0083", func := "larderwick/larderwicklaw3.CountSafe", spec := "countSafe", unfollowed := true, recurses := true, apart := false, narrowed := true }
def CountSafeUptoSaid : Prop := countSafeUptoRow.holds Try.pinned (OpenSpec.upto countSafeSpec)

/-- 'larderwicklaw3.CountEmpty', WHERE WHAT IT READS IS OF BULK AT MOST 1048576: true; the input reads as it did. -/
def countEmptyUptoRow : OpenClaim := { program := "ytjcabgbleohdcaa", sum := "32a88096679b1acac5aea9f0f19f71837fcdb7cc9ddc95938fc98bc9bd8e0083", func := "larderwick/larderwicklaw3.CountEmpty", spec := "countEmpty", unfollowed := true, recurses := true, apart := false, narrowed := true }
def CountEmptyUptoSaid : Prop := countEmptyUptoRow.holds Try.pinned (OpenSpec.upto countEmptySpec)

/-- 'larderwicktop.TopRings', WHERE WHAT IT READS IS OF BULK AT MOST 1048576: true; the input reads as it did. -/
def topRingsUptoRow : OpenClaim := { program := "ytjcabgbleohdcaa", sum := "32a88096679b1acac5aea9f0f19f71837fcdb7cc9ddc95938fc98bc9bd8e0083", func := "larderwick/larderwicktop.TopRings", spec := "topRings", unfollowed := true, recurses := true, apart := false, narrowed := true }
def TopRingsUptoSaid : Prop := topRingsUptoRow.holds Try.pinned (OpenSpec.upto topRingsSpec)

end Rows
end Go.Proofs.Ytjcabgbleohdcaa
