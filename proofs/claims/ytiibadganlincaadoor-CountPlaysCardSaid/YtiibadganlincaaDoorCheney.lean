/- cheney.Copy at a heap that is wrong, the laws' little heap, and the closed fact. -/
import Derived.Test.YtiibadganlincaaDoorCopyWalk
import Derived.Test.YtiibadganlincaaDoorSame
namespace Go.Proofs.YtiibadganlincaaDoor
open Go.RowKit

set_option maxHeartbeats 1000000
set_option maxRecDepth 10000

theorem errV_pos {k : Nat} (h : k ≠ 0) : errV k = .iface 56 (.int .i64 k) := by unfold errV; rw [if_neg h]

/-- a fresh heap -/
def FreshHeap (w : World) (outs : List (List Int)) (roots : List Int) (e : Ending) (w' : World) : Prop :=
  ∃ vo vr, e = .returned (.agg #[vo, vr]) ∧ RowsIn w' (Hi w.heap.size) vo outs ∧ IntsIn w' (Hi w.heap.size) vr roots ∧ Kp No w w'

theorem ints_blk {w : World} {F : Nat → Prop} {g : Nat} {cs : Array Value} {xs : List Int} (h : Blk w g 3 cs) (hF : F g) (hl : xs.length ≤ 9223372036854775807) (hcs : cs = (iv xs).toArray) : IntsIn w F (.slice (some ⟨g, 0, none⟩) xs.length xs.length) xs :=
  ⟨_, _, rfl, Nat.le_refl _, hl, fun k hk => ⟨g, 0, rfl, hF, by
    rw [Nat.zero_add, h.cell k, hcs]
    simp [iv, hk]⟩⟩

theorem Blk.at_ {w : World} {g : Nat} (t : TypeId) (cs : Array Value) (h : w.heap.size = g) : Blk (w.alloc (.cells cs t)) g t cs := by subst h; exact Blk.new w t cs

theorem one_blk {w : World} {F : Nat → Prop} {g : Nat} {x : Int} (h : Blk w g 3 #[.int .i64 x]) (hF : F g) : IntsIn w F (.slice (some ⟨g, 0, none⟩) 1 1) [x] := ints_blk (xs := [x]) h hF (by simp) rfl

theorem rows_blk {w : World} {F : Nat → Prop} {g : Nat} {cs : Array Value} {vs : List Value} {xss : List (List Int)} (h : Blk w g 25 cs) (hcs : cs = vs.toArray) (hF : F g) (hl : vs.length ≤ 9223372036854775807) (he : vs.length = xss.length)
    (hr : ∀ i (h : i < vs.length) (h' : i < xss.length), IntsIn w F vs[i] xss[i]) : RowsIn w F (.slice (some ⟨g, 0, none⟩) vs.length vs.length) xss :=
  ⟨vs, ⟨_, _, rfl, Nat.le_refl _, hl, fun k hk => ⟨g, 0, rfl, hF, by
    rw [Nat.zero_add, h.cell k, hcs]
    simp [hk]⟩⟩, he, hr⟩

end Go.Proofs.YtiibadganlincaaDoor
