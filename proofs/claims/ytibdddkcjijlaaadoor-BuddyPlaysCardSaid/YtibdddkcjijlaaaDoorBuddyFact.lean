/- The closed fact of the laws on halves; an arena in which some was lent and given back. -/
import Derived.Test.YtibdddkcjijlaaaDoorBuddyLent
import Derived.Test.YtibdddkcjijlaaaDoorFitFact
namespace Go.Proofs.YtibdddkcjijlaaaDoor
open Go.RowKit
set_option linter.unusedSimpArgs false

def bud0 : Nat → List Nat := upd (fun _ => []) 6 [0]
def lent0 : Nat → Option Nat := fun _ => none


/-- a step -/
def budStep (s : (Nat → List Nat) × (Nat → Option Nat)) (x : Int) : (Nat → List Nat) × (Nat → Option Nat) :=
  if 0 ≤ x then (lendF s.1 x, lendL s.1 s.2 x) else (backBF s.1 s.2 (-1 - x), backBL s.2 (-1 - x))
def budRun (steps : List Int) (k : Nat) : (Nat → List Nat) × (Nat → Option Nat) := (steps.take k).foldl budStep (bud0, lent0)
theorem budRun_zero (steps : List Int) : budRun steps 0 = (bud0, lent0) := by simp [budRun]
theorem budRun_succ {steps : List Int} {k : Nat} (h : k < steps.length) : budRun steps (k + 1) = budStep (budRun steps k) steps[k] := by
  unfold budRun; rw [List.take_succ_eq_append_getElem h, List.foldl_append]; rfl
theorem bud_step {s : (Nat → List Nat) × (Nat → Option Nat)} (h : Bud s.1 s.2 []) (x : Int) : Bud (budStep s x).1 (budStep s x).2 [] := by
  unfold budStep
  split
  · exact (h.lent x).1
  · exact h.backs _
theorem bud_run (steps : List Int) : ∀ k, k ≤ steps.length → Bud (budRun steps k).1 (budRun steps k).2 [] := by
  intro k
  induction k with
  | zero => intro _; rw [budRun_zero]; exact Bud.new
  | succ k ih => intro hk; rw [budRun_succ (by omega)]; exact bud_step (ih (by omega)) _
/-- all steps, a hundred at most -/
def budAll (steps : List Int) : (Nat → List Nat) × (Nat → Option Nat) := budRun steps (min steps.length 100)
theorem bud_all (steps : List Int) : Bud (budAll steps).1 (budAll steps).2 [] := bud_run steps _ (by omega)

end Go.Proofs.YtibdddkcjijlaaaDoor
