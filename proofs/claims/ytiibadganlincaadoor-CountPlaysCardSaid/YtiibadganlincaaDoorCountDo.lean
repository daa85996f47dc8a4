/- counts: the driver 'counted' (steps of any kind), and the closed fact. -/
import Derived.Test.YtiibadganlincaaDoorCountMake
import Derived.Test.YtiibadganlincaaDoorCountHeap
namespace Go.Proofs.YtiibadganlincaaDoor
open Go.RowKit
set_option linter.unusedSimpArgs false

/-- one step -/
def doS (s : Cn) (l : List Int) : Cn := match l with
  | [k, i, j] => if k = 0 then makeS s else if k = 1 then rootS s i else if k = 2 then dropS s i else if k = 3 then linkS s i j else if k = 4 then cutS s i j else s
  | _ => s
theorem doS_three (s : Cn) (k i j : Int) : doS s [k, i, j] = if k = 0 then makeS s else if k = 1 then rootS s i else if k = 2 then dropS s i else if k = 3 then linkS s i j else if k = 4 then cutS s i j else s := rfl
def runS (steps : List (List Int)) (k : Nat) : Cn := (steps.take k).foldl doS Cn.new
def countedS (steps : List (List Int)) : Cn := runS steps 60
theorem PInv.do_ {s : Cn} (h : PInv s []) (l : List Int) : PInv (doS s l) [] := by
  unfold doS
  split
  · rename_i k i j
    split
    · exact h.make
    split
    · exact h.root_ i
    split
    · exact h.drop_ i
    split
    · exact h.link_ i j
    split
    · exact h.cut_ i j
    · exact h
  · exact h
theorem PInv.fold {s : Cn} (h : PInv s []) (l : List (List Int)) : PInv (l.foldl doS s) [] := by
  induction l generalizing s with
  | nil => exact h
  | cons a r ih => exact ih (h.do_ a)
theorem PInv.run (steps : List (List Int)) (k : Nat) : PInv (runS steps k) [] := PInv.new_.fold _
theorem PInv.counted (steps : List (List Int)) : PInv (countedS steps) [] := .run steps 60
theorem run_succ {steps : List (List Int)} {k : Nat} (h : k < steps.length) : runS steps (k + 1) = doS (runS steps k) steps[k] := by
  unfold runS
  rw [List.take_succ_eq_append_getElem h, List.foldl_append]
  rfl
theorem run_end {steps : List (List Int)} {k : Nat} (h : k = steps.length ∨ 60 ≤ k) (h6 : k ≤ 60) : runS steps k = countedS steps := by
  unfold countedS runS
  rcases h with h | h
  · rw [List.take_of_length_le (by omega), List.take_of_length_le (by omega)]
  · rw [show k = 60 by omega]
theorem doS_far {s : Cn} {l : List Int} (h : l.length ≠ 3) : doS s l = s := by
  unfold doS
  split
  · simp at h
  · rfl

/-- what the driver leaves -/
def CountedPost (w : World) (s : Cn) (e : Ending) (w' : World) : Prop := ∃ p, e = .returned (.pointer (some ⟨p, 0, none⟩)) ∧ CnIs w' p (Hi w.heap.size) s ∧ Kp No w w'

theorem hi_no {w w' : World} (h : Kp (Hi w.heap.size) w w') : Kp No w w' := h.mono fun k hk e => by unfold Hi at e; omega


end Go.Proofs.YtiibadganlincaaDoor
