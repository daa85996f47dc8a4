/- trial.Counts, walked: how often each node is pointed to; or what is wrong. -/
import Derived.Test.YtiibadganlincaaDoorTrialPlain
import Derived.Test.YtiibadganlincaaDoorOwn
import Derived.Test.YtiibadganlincaaDoorPush
import Derived.Test.YtiibadganlincaaDoorCheney
import Derived.Deep.OwnRows
import Derived.Laws.OwnMore
import Derived.Outline
namespace Go.Proofs.YtiibadganlincaaDoor
open Go.RowKit

theorem flat_len {n : Nat} {ls : List (List Int)} (h : ∀ l ∈ ls, l.length ≤ n) : ls.flatten.length ≤ n * ls.length := by
  induction ls with
  | nil => simp
  | cons a r ih =>
    have h1 := ih fun l hl => h l (by simp [hl])
    have h2 := h a (by simp)
    rw [List.flatten_cons, List.length_append, List.length_cons, Nat.mul_add]
    omega
theorem dif_bd {n : Nat} (xs ys : List Int) {i : Nat} (h : i < n) : -(ys.length : Int) ≤ (dif n xs ys)[i]'(by rw [dif_length]; exact h) ∧ (dif n xs ys)[i]'(by rw [dif_length]; exact h) ≤ xs.length := by
  rw [dif_at _ _ h]
  have h1 : xs.count (i : Int) ≤ xs.length := List.count_le_length
  have h2 : ys.count (i : Int) ≤ ys.length := List.count_le_length
  omega

/-- a fresh row of counts -/
def CountsPost (w : World) (outs : List (List Int)) (roots : List Int) (e : Ending) (w' : World) : Prop :=
  ∃ v, e = .returned (.tuple #[v, .nilIface]) ∧ w'.ownsRow w.heap.size 3 1 v outs.length (iv (dif outs.length (roots ++ outs.flatten) [])) ∧ Kp No w w'


end Go.Proofs.YtiibadganlincaaDoor
