/- The document's answer, walked: All, Place, Heap, From. Of all lists; From of all heaps that are right. -/
import Derived.Test.YtiibadganlincaaDoorCheck
import Derived.Test.YtiibadganlincaaDoorCopyPlain
import Derived.Test.YtiibadganlincaaDoorSame
import Derived.Test.YtiibadganlincaaDoorOwn
namespace Go.Proofs.YtiibadganlincaaDoor
open Go.RowKit
set_option linter.unusedSimpArgs false

set_option maxHeartbeats 1000000



theorem mem_hasB {L : List Int} {x : Int} : hasB L x = true ↔ x ∈ L := by unfold hasB; rw [decide_eq_true_eq]

theorem fwd_of : ∀ (xs o : List Int), (o ++ xs).Nodup → fwd o xs = o ++ xs
  | [], o, _ => by simp [fwd]
  | x :: xs, o, h => by
    have hx : x ∉ o := fun hm => (List.nodup_append.1 h).2.2 x hm x (by simp) rfl
    have e : fwd o (x :: xs) = fwd (o ++ [x]) xs := by show fwd (fwdStep o x) xs = _; unfold fwdStep; rw [if_neg hx]
    rw [e, fwd_of xs (o ++ [x]) (by simpa using h)]
    simp
theorem fwd_idem (xs : List Int) : fwd [] (fwd [] xs) = fwd [] xs := by
  have := fwd_of (fwd [] xs) [] (by simpa using nodup_fwd List.nodup_nil xs)
  simpa using this
theorem order_fwd (outs : List (List Int)) (roots : List Int) : order outs (fwd [] roots) = order outs roots := by unfold order; rw [fwd_idem]
theorem Ok.fwd_ {outs : List (List Int)} {roots : List Int} (h : Ok outs roots) : Ok outs (fwd [] roots) :=
  ⟨h.n12, Nat.le_trans (length_fwd_le _ _) (by simpa using h.r12), fun x hx => by
    rcases mem_fwd.1 hx with h1 | h1
    · cases h1
    · exact h.root x h1, h.few, h.out⟩


end Go.Proofs.YtiibadganlincaaDoor
