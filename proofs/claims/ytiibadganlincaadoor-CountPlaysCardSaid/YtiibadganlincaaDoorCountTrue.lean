/- The law CountTrue, walked: of all steps. -/
import Derived.Test.YtiibadganlincaaDoorCountFact
import Derived.Test.YtiibadganlincaaDoorPush
namespace Go.Proofs.YtiibadganlincaaDoor
open Go.RowKit

theorem cnt_take {l : List Int} {k : Nat} (h : k < l.length) (x : Int) : (l.take (k + 1)).count x = (l.take k).count x + (if l[k] = x then 1 else 0) := by
  rw [List.take_succ_eq_append_getElem h, List.count_append, count_one]
  by_cases e : l[k] = x
  · rw [if_pos e, if_pos e.symm]
  · rw [if_neg e, if_neg fun e' => e e'.symm]
theorem flat_take {l : List (List Int)} {k : Nat} (h : k < l.length) (x : Int) : (l.take (k + 1)).flatten.count x = (l.take k).flatten.count x + l[k].count x := by
  rw [List.take_succ_eq_append_getElem h, List.flatten_append, List.count_append]
  simp
theorem cnt_le (l : List Int) (k : Nat) (x : Int) : (l.take k).count x ≤ l.length := Nat.le_trans List.count_le_length (by rw [List.length_take]; omega)
theorem flat_le {l : List (List Int)} (h12 : l.length ≤ 12) (h4 : ∀ r ∈ l, r.length ≤ 4) (x : Int) : ∀ k, (l.take k).flatten.count x ≤ 4 * k
  | 0 => by simp
  | k + 1 => by
    rcases Nat.lt_or_ge k l.length with h | h
    · rw [flat_take h]
      have := flat_le h12 h4 x k
      have h1 : l[k].count x ≤ l[k].length := List.count_le_length
      have := h4 _ (List.getElem_mem h)
      omega
    · rw [List.take_of_length_le (by omega), ← List.take_of_length_le h]
      have := flat_le h12 h4 x k
      omega
theorem cnt_all (l : List Int) (x : Int) : (l.take l.length).count x = l.count x := by rw [List.take_length]


end Go.Proofs.YtiibadganlincaaDoor
