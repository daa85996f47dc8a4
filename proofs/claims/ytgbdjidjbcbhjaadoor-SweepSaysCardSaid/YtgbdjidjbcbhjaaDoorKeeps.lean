/- Steps within a range over a function: what they keep. -/
import Derived.Test.YtgbdjidjbcbhjaaDoorBase
import Derived.RangeFuncWrites
namespace Go.Proofs.YtgbdjidjbcbhjaaDoor
open Go.RowKit

/-- a step that turns one row of cells -/
theorem keeps_grown {B : Nat} {W X W' : World} (hX : KeepsFrom B W X) {row : Option Nat} (hg : X.grownBy W' row) (hr : ∀ r, row = some r → ∃ o : Obj, X.heap[r]? = some o ∧ o.isCells = true) : KeepsFrom B W W' :=
  ⟨Nat.le_trans hX.size hg.size, fun k o hB hk ho => by
    have h1 := hX.same k o hB hk ho
    refine (hg.block k (Array.getElem?_eq_some_iff.1 h1).1 fun e => ?_).trans h1
    obtain ⟨o', h2, h3⟩ := hr k e.symm
    rw [h1] at h2
    injection h2 with h2
    subst h2
    rw [ho] at h3
    cases h3⟩
theorem keeps_alloc {B : Nat} {W X : World} (h : KeepsFrom B W X) (o : Obj) : KeepsFrom B W (X.alloc o) :=
  keeps_grown h (row := none) (World.grownBy_alloc X o none) (fun r e => by cases e)
theorem own_cells {w : World} {base : Nat} {e : TypeId} {v : Value} {n : Nat} {us : List Value} (h : w.ownsRow base e 1 v n us) : ∀ r, v.ownBlock = some r → ∃ o : Obj, w.heap[r]? = some o ∧ o.isCells = true := by
  intro r hr
  rcases h.2 with ⟨rfl, _⟩ | ⟨g, cap, cur, rfl, _, hh, _⟩
  · simp [Value.ownBlock] at hr
  · have : g = r := by simpa [Value.ownBlock] using hr
    subst this
    exact ⟨_, hh, rfl⟩

theorem own_row_from {base n : Nat} {e : TypeId} {C : Value} {us : List Value} {W W' : World} {row : Option Nat} (h : W.ownsRow base e 1 C n us) (hg : W.grownBy W' row) (hr : ∀ r, row = some r → ∃ o : Obj, W.heap[r]? = some o ∧ o.isCells = false) : W'.ownsRow base e 1 C n us := by
  refine h.kept hg ?_
  rcases h.2 with ⟨rfl, _⟩ | ⟨g, cap, cur, rfl, _, hh, _⟩
  · exact .inl rfl
  · refine .inr fun e => ?_
    obtain ⟨o, ho, hc⟩ := hr g (by rw [← e]; rfl)
    rw [hh] at ho
    injection ho with ho
    subst ho
    simp [Obj.isCells] at hc
end Go.Proofs.YtgbdjidjbcbhjaaDoor
