/- The closed fact of the laws on places that fit; an arena in which some was lent, packed, and given back. -/
import Derived.Test.YtibdddkcjijlaaaDoorFitHoles
namespace Go.Proofs.YtibdddkcjijlaaaDoor
open Go.RowKit
set_option linter.unusedSimpArgs false

theorem Blk.at_ {w : World} {g : Nat} (t : TypeId) (cs : Array Value) (h : w.heap.size = g) : Blk (w.alloc (.cells cs t)) g t cs := by subst h; exact Blk.new w t cs
/-- a block of ints reads as a list -/
theorem blk_ints {w : World} {g : Nat} {cs : Array Value} {xs : List Int} {F : Nat → Prop} (h : Blk w g 3 cs) (hF : F g) (hl : xs.length ≤ 1000) (hcs : cs = (iv xs).toArray) : IntsIn w F (.slice (some ⟨g, 0, none⟩) xs.length xs.length) xs :=
  ⟨_, _, rfl, Nat.le_refl _, by omega, fun k hk => ⟨g, 0, rfl, hF, by rw [h.cell, hcs, Nat.zero_add, List.getElem?_toArray, List.getElem?_eq_getElem (by rw [iv_length]; exact hk), iv_get hk]⟩⟩


/-- a step -/
def fitStep (bs : List (Nat × Nat)) (x : Int) : List (Nat × Nat) := if 0 < x then flB bs x else if x = 0 then packF 0 bs else backB bs (-1 - x)
def fitRun (steps : List Int) (k : Nat) : List (Nat × Nat) := (steps.take k).foldl fitStep []
theorem fitRun_zero (steps : List Int) : fitRun steps 0 = [] := by simp [fitRun]
theorem fitRun_succ {steps : List Int} {k : Nat} (h : k < steps.length) : fitRun steps (k + 1) = fitStep (fitRun steps k) steps[k] := by
  unfold fitRun; rw [List.take_succ_eq_append_getElem h, List.foldl_append]; rfl
theorem lie_step {bs : List (Nat × Nat)} (h : Lie 0 bs) (x : Int) : Lie 0 (fitStep bs x) := by
  unfold fitStep
  split
  · cases hb : btw x 1 64 with
    | false => rw [(fl_range hb).2.2]; exact h
    | true =>
      obtain ⟨n, rfl⟩ : ∃ n : Nat, x = n := ⟨x.toNat, by have := btw_iff.1 hb; omega⟩
      cases e : lendIx n 0 bs with
      | none => rw [(fl_none hb e).2.2]; exact h
      | some y => rw [(fl_some (i := y.1) (x := y.2) hb e).2.2]; exact (h.ins (by omega) (by rw [e])).1
  · split
    · exact h.pack (Nat.le_refl _)
    · unfold backB
      split
      · exact h
      · exact h.erase _
theorem lie_run (steps : List Int) : ∀ k, k ≤ steps.length → Lie 0 (fitRun steps k) := by
  intro k
  induction k with
  | zero => intro _; rw [fitRun_zero]; exact Nat.zero_le _
  | succ k ih => intro hk; rw [fitRun_succ (by omega)]; exact lie_step (ih (by omega)) _
/-- all steps, a hundred at most -/
def fitAll (steps : List Int) : List (Nat × Nat) := fitRun steps (min steps.length 100)
theorem lie_all (steps : List Int) : Lie 0 (fitAll steps) := lie_run steps _ (by omega)

end Go.Proofs.YtibdddkcjijlaaaDoor
