/- cheney.Copy at a heap that is wrong, the laws' little heap, and the closed fact. -/
import Derived.Test.YtjapcoonaabdnaaCopyWalk
import Derived.Test.YtjapcoonaabdnaaSame
namespace Go.Proofs.Ytjapcoonaabdnaa
open Go.RowKit

set_option maxHeartbeats 1000000
set_option maxRecDepth 10000

theorem errV_pos {k : Nat} (h : k ≠ 0) : errV k = .iface 65 (.int .i64 k) := by unfold errV; rw [if_neg h]

/-- a fresh heap -/
def FreshHeap (w : World) (outs : List (List Int)) (roots : List Int) (e : Ending) (w' : World) : Prop :=
  ∃ vo vr, e = .returned (.agg #[vo, vr]) ∧ RowsIn w' (Hi w.heap.size) vo outs ∧ IntsIn w' (Hi w.heap.size) vr roots ∧ Kp No w w'

theorem ints_blk {w : World} {F : Nat → Prop} {g : Nat} {cs : Array Value} {xs : List Int} (h : Blk w g 3 cs) (hF : F g) (hl : xs.length ≤ 9223372036854775807) (hcs : cs = (iv xs).toArray) : IntsIn w F (.slice (some ⟨g, 0, none⟩) xs.length xs.length) xs :=
  ⟨_, _, rfl, Nat.le_refl _, hl, fun k hk => ⟨g, 0, rfl, hF, by
    rw [Nat.zero_add, h.cell k, hcs]
    simp [iv, hk]⟩⟩

theorem Blk.at_ {w : World} {g : Nat} (t : TypeId) (cs : Array Value) (h : w.heap.size = g) : Blk (w.alloc (.cells cs t)) g t cs := by subst h; exact Blk.new w t cs

theorem one_blk {w : World} {F : Nat → Prop} {g : Nat} {x : Int} (h : Blk w g 3 #[.int .i64 x]) (hF : F g) : IntsIn w F (.slice (some ⟨g, 0, none⟩) 1 1) [x] := ints_blk (xs := [x]) h hF (by simp) rfl

theorem rows_blk {w : World} {F : Nat → Prop} {g : Nat} {cs : Array Value} {vs : List Value} {xss : List (List Int)} (h : Blk w g 23 cs) (hcs : cs = vs.toArray) (hF : F g) (hl : vs.length ≤ 9223372036854775807) (he : vs.length = xss.length)
    (hr : ∀ i (h : i < vs.length) (h' : i < xss.length), IntsIn w F vs[i] xss[i]) : RowsIn w F (.slice (some ⟨g, 0, none⟩) vs.length vs.length) xss :=
  ⟨vs, ⟨_, _, rfl, Nat.le_refl _, hl, fun k hk => ⟨g, 0, rfl, hF, by
    rw [Nat.zero_add, h.cell k, hcs]
    simp [hk]⟩⟩, he, hr⟩

theorem ringOf_any (r : Int) (w : World) : Calls Try.prog 19 #[.int .i64 r] w (FreshHeap w [[1], [2], [0], [0]] [r]) := by
  go_enter Try.func19, Try.ntmps19
  go_wp2
  obtain ⟨W, hW⟩ : ∃ W, (((((((w.alloc (.cells #[.slice (some ⟨w.heap.size + 1 + 1 + 1 + 1 + 1, 0, none⟩) 4 4, .slice (some ⟨w.heap.size + 1 + 1 + 1 + 1 + 1 + 1, 0, none⟩) 1 1] 25)).alloc (.cells #[.int .i64 1] 3)).alloc (.cells #[.int .i64 2] 3)).alloc (.cells #[.int .i64 0] 3)).alloc (.cells #[.int .i64 0] 3)).alloc
    (.cells #[.slice (some ⟨w.heap.size + 1, 0, none⟩) 1 1, .slice (some ⟨w.heap.size + 1 + 1, 0, none⟩) 1 1, .slice (some ⟨w.heap.size + 1 + 1 + 1, 0, none⟩) 1 1, .slice (some ⟨w.heap.size + 1 + 1 + 1 + 1, 0, none⟩) 1 1] 23)).alloc (.cells #[.int .i64 r] 3)) = W := ⟨_, rfl⟩
  have q0 : Blk W w.heap.size 25 #[.slice (some ⟨w.heap.size + 1 + 1 + 1 + 1 + 1, 0, none⟩) 4 4, .slice (some ⟨w.heap.size + 1 + 1 + 1 + 1 + 1 + 1, 0, none⟩) 1 1] := by rw [← hW]; exact ((((((Blk.new _ _ _).alloc _).alloc _).alloc _).alloc _).alloc _).alloc _
  have q1 : Blk W (w.heap.size + 1) 3 #[.int .i64 1] := by rw [← hW]; exact (((((Blk.at_ _ _ (by simp)).alloc _).alloc _).alloc _).alloc _).alloc _
  have q2 : Blk W (w.heap.size + 1 + 1) 3 #[.int .i64 2] := by rw [← hW]; exact ((((Blk.at_ _ _ (by simp)).alloc _).alloc _).alloc _).alloc _
  have q3 : Blk W (w.heap.size + 1 + 1 + 1) 3 #[.int .i64 0] := by rw [← hW]; exact (((Blk.at_ _ _ (by simp)).alloc _).alloc _).alloc _
  have q4 : Blk W (w.heap.size + 1 + 1 + 1 + 1) 3 #[.int .i64 0] := by rw [← hW]; exact ((Blk.at_ _ _ (by simp)).alloc _).alloc _
  have q5 : Blk W (w.heap.size + 1 + 1 + 1 + 1 + 1) 23 #[.slice (some ⟨w.heap.size + 1, 0, none⟩) 1 1, .slice (some ⟨w.heap.size + 1 + 1, 0, none⟩) 1 1, .slice (some ⟨w.heap.size + 1 + 1 + 1, 0, none⟩) 1 1, .slice (some ⟨w.heap.size + 1 + 1 + 1 + 1, 0, none⟩) 1 1] := by rw [← hW]; exact (Blk.at_ _ _ (by simp)).alloc _
  have q6 : Blk W (w.heap.size + 1 + 1 + 1 + 1 + 1 + 1) 3 #[.int .i64 r] := by rw [← hW]; exact Blk.at_ _ _ (by simp)
  have k : Kp No w W := by rw [← hW]; exact (((((((Kp.refl No w).alloc _).alloc _).alloc _).alloc _).alloc _).alloc _).alloc _
  rw [hW]
  clear hW
  obtain ⟨c0, c1⟩ := q0.c2
  refine bodyPost_ret (v := .agg #[.slice (some ⟨w.heap.size + 1 + 1 + 1 + 1 + 1, 0, none⟩) 4 4, .slice (some ⟨w.heap.size + 1 + 1 + 1 + 1 + 1 + 1, 0, none⟩) 1 1]) (by simp [results, Try.results19, go_sem, c0, c1]) rfl ?_
  refine ⟨_, _, rfl, rows_blk (vs := [_, _, _, _]) q5 rfl (by unfold Hi; omega) (by simp) rfl ?_, one_blk q6 (by unfold Hi; omega), k⟩
  intro i h h'
  match i, h with
  | 0, _ => exact one_blk q1 (by unfold Hi; omega)
  | 1, _ => exact one_blk q2 (by unfold Hi; omega)
  | 2, _ => exact one_blk q3 (by unfold Hi; omega)
  | 3, _ => exact one_blk q4 (by unfold Hi; omega)
end Go.Proofs.Ytjapcoonaabdnaa
