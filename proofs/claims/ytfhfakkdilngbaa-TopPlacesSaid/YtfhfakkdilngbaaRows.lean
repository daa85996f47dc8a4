/-
  No cell of these rows narrows 'for every input' (looked for: loops, veiled, ifaces, maps, wideKeys, modest, calm, conditions, laid).
  DERIVED. THE GIVEN ROWS OF THIS SEAT. 5 by the template 'for every input the law returns true; each argument reads behind the call as it read before'; 0 by the template 'total and deterministic' (their statements: YtfhfakkdilngbaaTotals.lean).
  GIVEN WITH THE SEED: the statements are not yours to turn. If you find one false, say at which input.
  Laid BY PROGRAM, IN A SANDBOX (cutbox-rows.mjs): the forced cells as the released guide's own fill.sh prints them over the translation 6c38cd3a57841e65… (all of the seat's roots in one cut). By AI agents, Wed Nov 11 2026. No macro, syntax, notation, axiom, sorry.
-/
import Derived.Test.YtfhfakkdilngbaaChecked
import GoSem.Claim
import GoSem.ClaimJoined
import GoSem.ClaimMapViews
import Derived.JoinedTies
import Derived.KernelRfl
namespace Go.Proofs.Ytfhfakkdilngbaa
/- THE CELL 'sum', in the pinned program and in every row, IS THE sha256 OF THE DUMP (.gsa) THAT YtfhfakkdilngbaaProg.lean LOADS. Nothing in Lean hashes anything: it is a label: what it is worth is what the hold of that sum in a sandbox is worth. -/
noncomputable def Try.pinned : Pinned := { name := "ytfhfakkdilngbaa", sum := "6c38cd3a57841e65e53acb5698034950559509a5bbb97c721746e239584a7312", checked := Try.checked }
namespace Rows
def none {H : Type} : Left H := { results := [], args := [] }

/-- 'larderwicklaw3.FitApart': WHATEVER THE INPUT: true; the input reads as it did. -/
def fitApartSpec : ChangeSpec := { name := "fitApart", fn := fun _ => fun
  | [d] => { results := [.lit (.bool true)], args := [d] }
  | _ => none }
def fitApartRow : OpenClaim := { program := "ytfhfakkdilngbaa", sum := "6c38cd3a57841e65e53acb5698034950559509a5bbb97c721746e239584a7312", func := "larderwick/larderwicklaw3.FitApart", spec := "fitApart", inPlace := ["slices.overlaps[larderwick/fit.block]"], unfollowed := true, recurses := true, apart := false }
def FitApartSaid : Prop := fitApartRow.holds Try.pinned (OpenSpec.ofChange fitApartSpec)

/-- ITS FALSE NEIGHBOUR: 'it returns false'. Refute it at one input. -/
def fitApartWrong : ChangeSpec := { name := "fitApart", fn := fun _ => fun
  | [d] => { results := [.lit (.bool false)], args := [d] }
  | _ => none }
def FitApartWrongFalsely : Prop := fitApartRow.holds Try.pinned (OpenSpec.ofChange fitApartWrong)

/-- 'larderwicklaw3.FitPack': WHATEVER THE INPUT: true; the input reads as it did. -/
def fitPackSpec : ChangeSpec := { name := "fitPack", fn := fun _ => fun
  | [d] => { results := [.lit (.bool true)], args := [d] }
  | _ => none }
def fitPackRow : OpenClaim := { program := "ytfhfakkdilngbaa", sum := "6c38cd3a57841e65e53acb5698034950559509a5bbb97c721746e239584a7312", func := "larderwick/larderwicklaw3.FitPack", spec := "fitPack", inPlace := ["slices.overlaps[larderwick/fit.block]"], unfollowed := true, recurses := true, apart := false }
def FitPackSaid : Prop := fitPackRow.holds Try.pinned (OpenSpec.ofChange fitPackSpec)

/-- ITS FALSE NEIGHBOUR: 'it returns false'. Refute it at one input. -/
def fitPackWrong : ChangeSpec := { name := "fitPack", fn := fun _ => fun
  | [d] => { results := [.lit (.bool false)], args := [d] }
  | _ => none }
def FitPackWrongFalsely : Prop := fitPackRow.holds Try.pinned (OpenSpec.ofChange fitPackWrong)

/-- 'larderwicklaw3.BuddyApart': WHATEVER THE INPUT: true; the input reads as it did. -/
def buddyApartSpec : ChangeSpec := { name := "buddyApart", fn := fun _ => fun
  | [d] => { results := [.lit (.bool true)], args := [d] }
  | _ => none }
def buddyApartRow : OpenClaim := { program := "ytfhfakkdilngbaa", sum := "6c38cd3a57841e65e53acb5698034950559509a5bbb97c721746e239584a7312", func := "larderwick/larderwicklaw3.BuddyApart", spec := "buddyApart", inPlace := ["slices.overlaps[int]"], apart := false }
def BuddyApartSaid : Prop := buddyApartRow.holds Try.pinned (OpenSpec.ofChange buddyApartSpec)

/-- ITS FALSE NEIGHBOUR: 'it returns false'. Refute it at one input. -/
def buddyApartWrong : ChangeSpec := { name := "buddyApart", fn := fun _ => fun
  | [d] => { results := [.lit (.bool false)], args := [d] }
  | _ => none }
def BuddyApartWrongFalsely : Prop := buddyApartRow.holds Try.pinned (OpenSpec.ofChange buddyApartWrong)

/-- 'larderwicklaw3.BuddyBack': WHATEVER THE INPUT: true; the input reads as it did. -/
def buddyBackSpec : ChangeSpec := { name := "buddyBack", fn := fun _ => fun
  | [d1, d2] => { results := [.lit (.bool true)], args := [d1, d2] }
  | _ => none }
def buddyBackRow : OpenClaim := { program := "ytfhfakkdilngbaa", sum := "6c38cd3a57841e65e53acb5698034950559509a5bbb97c721746e239584a7312", func := "larderwick/larderwicklaw3.BuddyBack", spec := "buddyBack", inPlace := ["slices.overlaps[int]"], apart := false }
def BuddyBackSaid : Prop := buddyBackRow.holds Try.pinned (OpenSpec.ofChange buddyBackSpec)

/-- ITS FALSE NEIGHBOUR: 'it returns false'. Refute it at one input. -/
def buddyBackWrong : ChangeSpec := { name := "buddyBack", fn := fun _ => fun
  | [d1, d2] => { results := [.lit (.bool false)], args := [d1, d2] }
  | _ => none }
def BuddyBackWrongFalsely : Prop := buddyBackRow.holds Try.pinned (OpenSpec.ofChange buddyBackWrong)

/-- 'larderwicktop.TopPlaces': WHATEVER THE INPUT: true; the input reads as it did. -/
def topPlacesSpec : ChangeSpec := { name := "topPlaces", fn := fun _ => fun
  | [d] => { results := [.lit (.bool true)], args := [d] }
  | _ => none }
def topPlacesRow : OpenClaim := { program := "ytfhfakkdilngbaa", sum := "6c38cd3a57841e65e53acb5698034950559509a5bbb97c721746e239584a7312", func := "larderwick/larderwicktop.TopPlaces", spec := "topPlaces", inPlace := ["slices.overlaps[int]", "slices.overlaps[larderwick/fit.block]"], apart := false }
def TopPlacesSaid : Prop := topPlacesRow.holds Try.pinned (OpenSpec.ofChange topPlacesSpec)

/-- ITS FALSE NEIGHBOUR: 'it returns false'. Refute it at one input. -/
def topPlacesWrong : ChangeSpec := { name := "topPlaces", fn := fun _ => fun
  | [d] => { results := [.lit (.bool false)], args := [d] }
  | _ => none }
def TopPlacesWrongFalsely : Prop := topPlacesRow.holds Try.pinned (OpenSpec.ofChange topPlacesWrong)

/- THE SECOND FORM. 'bulk': how many values and letters a reading holds, each counted each time it is reached (what is shared counts as often as it is met; a slice's spare places count too). A statement '..UptoSaid' is the law's where the arguments, and the package variables that the reading takes, are together of bulk at most 1048576: NARROWER than '..Said'. Prove '..Said' where nothing that the law and all that it calls make is longer than what came in: it says more and counts as full. Else prove '..UptoSaid'. A law counts once. -/
mutual
def uptoBulk {H : Type} : DataW H → Nat
  | .lit (.string bytes) => bytes.length + 1
  | .lit _ => 1
  | .nil => 1
  | .ptr d => uptoBulk d + 1
  | .slice elems spare => uptoBulkAll elems + uptoBulkAll spare + 1
  | .agg parts => uptoBulkAll parts + 1
  | .iface _ d => uptoBulk d + 1
  | .map entries => uptoBulkEntries entries + 1
  | .held _ => 1
def uptoBulkAll {H : Type} : List (DataW H) → Nat
  | [] => 0
  | d :: r => uptoBulk d + uptoBulkAll r
def uptoBulkEntries {H : Type} : List (Lit × DataW H) → Nat
  | [] => 0
  | x :: r => uptoBulkEntry x + uptoBulkEntries r
def uptoBulkEntry {H : Type} : Lit × DataW H → Nat
  | (.string bytes, d) => bytes.length + uptoBulk d + 1
  | (_, d) => uptoBulk d + 1
 end
def uptoSmall : (H : Type) → List (DataW H) → Bool := fun _ ds => decide (uptoBulkAll ds ≤ 1048576)
def OpenSpec.upto (s : _root_.Go.ChangeSpec) : _root_.Go.OpenSpec := { _root_.Go.OpenSpec.ofChange s with cond := some uptoSmall }

/-- 'larderwicklaw3.FitApart', WHERE WHAT IT READS IS OF BULK AT MOST 1048576: true; the input reads as it did. -/
def fitApartUptoRow : OpenClaim := { program := "ytfhfakkdilngbaa", sum := "6c38cd3a57841e65e53acb5698034950559509a5bbb97c721746e239584a7312", func := "larderwick/larderwicklaw3.FitApart", spec := "fitApart", inPlace := ["slices.overlaps[larderwick/fit.block]"], unfollowed := true, recurses := true, apart := false, narrowed := true }
def FitApartUptoSaid : Prop := fitApartUptoRow.holds Try.pinned (OpenSpec.upto fitApartSpec)

/-- 'larderwicklaw3.FitPack', WHERE WHAT IT READS IS OF BULK AT MOST 1048576: true; the input reads as it did. -/
def fitPackUptoRow : OpenClaim := { program := "ytfhfakkdilngbaa", sum := "6c38cd3a57841e65e53acb5698034950559509a5bbb97c721746e239584a7312", func := "larderwick/larderwicklaw3.FitPack", spec := "fitPack", inPlace := ["slices.overlaps[larderwick/fit.block]"], unfollowed := true, recurses := true, apart := false, narrowed := true }
def FitPackUptoSaid : Prop := fitPackUptoRow.holds Try.pinned (OpenSpec.upto fitPackSpec)

/-- 'larderwicklaw3.BuddyApart', WHERE WHAT IT READS IS OF BULK AT MOST 1048576: true; the input reads as it did. -/
def buddyApartUptoRow : OpenClaim := { program := "ytfhfakkdilngbaa", sum := "6c38cd3a57841e65e53acb5698034950559509a5bbb97c721746e239584a7312", func := "larderwick/larderwicklaw3.BuddyApart", spec := "buddyApart", inPlace := ["slices.overlaps[int]"], apart := false, narrowed := true }
def BuddyApartUptoSaid : Prop := buddyApartUptoRow.holds Try.pinned (OpenSpec.upto buddyApartSpec)

/-- 'larderwicklaw3.BuddyBack', WHERE WHAT IT READS IS OF BULK AT MOST 1048576: true; the input reads as it did. -/
def buddyBackUptoRow : OpenClaim := { program := "ytfhfakkdilngbaa", sum := "6c38cd3a57841e65e53acb5698034950559509a5bbb97c721746e239584a7312", func := "larderwick/larderwicklaw3.BuddyBack", spec := "buddyBack", inPlace := ["slices.overlaps[int]"], apart := false, narrowed := true }
def BuddyBackUptoSaid : Prop := buddyBackUptoRow.holds Try.pinned (OpenSpec.upto buddyBackSpec)

/-- 'larderwicktop.TopPlaces', WHERE WHAT IT READS IS OF BULK AT MOST 1048576: true; the input reads as it did. -/
def topPlacesUptoRow : OpenClaim := { program := "ytfhfakkdilngbaa", sum := "6c38cd3a57841e65e53acb5698034950559509a5bbb97c721746e239584a7312", func := "larderwick/larderwicktop.TopPlaces", spec := "topPlaces", inPlace := ["slices.overlaps[int]", "slices.overlaps[larderwick/fit.block]"], apart := false, narrowed := true }
def TopPlacesUptoSaid : Prop := topPlacesUptoRow.holds Try.pinned (OpenSpec.upto topPlacesSpec)

end Rows
end Go.Proofs.Ytfhfakkdilngbaa
