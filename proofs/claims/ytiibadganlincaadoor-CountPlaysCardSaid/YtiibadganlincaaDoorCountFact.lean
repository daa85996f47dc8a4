/- counts: the closed fact: a ring of one stays. -/
import Derived.Test.YtiibadganlincaaDoorCountDo
namespace Go.Proofs.YtiibadganlincaaDoor
open Go.RowKit

theorem hi_ge {w w' : World} {B : Nat} (h : Kp (Hi B) w w') (hB : B ≤ w.heap.size) : ∀ b, w'.heap.size ≤ b → Hi B b := fun b hb => by have := h.size; unfold Hi; omega


end Go.Proofs.YtiibadganlincaaDoor
