/- cheney.Copy at a heap that is wrong, the laws' little heap, and the closed fact. -/
import Derived.Test.YtgbdjidjbcbhjaaDoorCopyWalk
import Derived.Test.YtgbdjidjbcbhjaaDoorSame
namespace Go.Proofs.YtgbdjidjbcbhjaaDoor
open Go.RowKit

set_option maxHeartbeats 1000000
set_option maxRecDepth 10000

theorem errV_pos {k : Nat} (h : k ≠ 0) : errV k = .iface 84 (.int .i64 k) := by unfold errV; rw [if_neg h]

theorem copy_bad {F : Nat → Prop} (vo vr : Value) (outs : List (List Int)) (roots : List Int) (w : World) (ho : RowsIn w F vo outs) (hr : IntsIn w F vr roots) (hbad : chk outs roots ≠ 0) :
    Calls Tryd.prog 12 #[.agg #[vo, vr]] w fun e w' => e = .returned (.tuple #[.slice none 0 0, .agg #[.slice none 0 0, .slice none 0 0], .iface 84 (.int .i64 (chk outs roots))]) ∧ Kp No w w' := by
  have HO := hide ho
  have HR := hide hr
  have HE := hide (errV_pos hbad)
  clear ho hr hbad
  go_enter Tryd.func12, Tryd.ntmps12
  go_wp2_with (first
    | (go_at_call 16; refine (check_any vo vr outs roots _ (HO.out.no (((Kp.refl No w).alloc _).alloc _)) (HR.out.no (((Kp.refl No w).alloc _).alloc _))).mono ?_; rw [HE.out]; rintro e w1 ⟨rfl, hk1⟩; have hb3 := ((Blk.new (w.alloc (.cells #[vo, vr] 25)) 25 #[.slice none 0 0, .slice none 0 0]).kp hk1 id); rw [World.size_alloc] at hb3; obtain ⟨b1, b2, b3, b4, a6⟩ := hb3.a2; have HK1 := hide (Kp.trans' (((Kp.refl No w).alloc _).alloc _) hk1 fun _ _ h => h); have HB3 := hide hb3; clear hk1 hb3))
  have q : Blk ((w1.setCell ⟨w.heap.size + 1, 0, none⟩ (.slice none 0 0)).setCell ⟨w.heap.size + 1, 1, none⟩ (.slice none 0 0)) (w.heap.size + 1) 25 #[.slice none 0 0, .slice none 0 0] := (HB3.out.set_ 0 _).set_ 1 _
  obtain ⟨q0, q1⟩ := q.c2
  refine bodyPost_ret (v := .tuple #[.slice none 0 0, .agg #[.slice none 0 0, .slice none 0 0], .iface 84 (.int .i64 (chk outs roots))]) (by simp [results, Tryd.results12, go_sem, q0, q1]) rfl ⟨rfl, ?_⟩
  exact (HK1.out.setCell (fun h => by simp at h; omega) _).setCell (fun h => by simp at h; omega) _

/-- a fresh heap -/
def FreshHeap (w : World) (outs : List (List Int)) (roots : List Int) (e : Ending) (w' : World) : Prop :=
  ∃ vo vr, e = .returned (.agg #[vo, vr]) ∧ RowsIn w' (Hi w.heap.size) vo outs ∧ IntsIn w' (Hi w.heap.size) vr roots ∧ Kp No w w'

theorem ints_blk {w : World} {F : Nat → Prop} {g : Nat} {cs : Array Value} {xs : List Int} (h : Blk w g 3 cs) (hF : F g) (hl : xs.length ≤ 9223372036854775807) (hcs : cs = (iv xs).toArray) : IntsIn w F (.slice (some ⟨g, 0, none⟩) xs.length xs.length) xs :=
  ⟨_, _, rfl, Nat.le_refl _, hl, fun k hk => ⟨g, 0, rfl, hF, by
    rw [Nat.zero_add, h.cell k, hcs]
    simp [iv, hk]⟩⟩

theorem Blk.at_ {w : World} {g : Nat} (t : TypeId) (cs : Array Value) (h : w.heap.size = g) : Blk (w.alloc (.cells cs t)) g t cs := by subst h; exact Blk.new w t cs

theorem one_blk {w : World} {F : Nat → Prop} {g : Nat} {x : Int} (h : Blk w g 3 #[.int .i64 x]) (hF : F g) : IntsIn w F (.slice (some ⟨g, 0, none⟩) 1 1) [x] := ints_blk (xs := [x]) h hF (by simp) rfl

theorem rows_blk {w : World} {F : Nat → Prop} {g : Nat} {cs : Array Value} {vs : List Value} {xss : List (List Int)} (h : Blk w g 23 cs) (hcs : cs = vs.toArray) (hF : F g) (hl : vs.length ≤ 9223372036854775807) (he : vs.length = xss.length)
    (hr : ∀ i (h : i < vs.length) (h' : i < xss.length), IntsIn w F vs[i] xss[i]) : RowsIn w F (.slice (some ⟨g, 0, none⟩) vs.length vs.length) xss :=
  ⟨vs, ⟨_, _, rfl, Nat.le_refl _, hl, fun k hk => ⟨g, 0, rfl, hF, by
    rw [Nat.zero_add, h.cell k, hcs]
    simp [hk]⟩⟩, he, hr⟩

end Go.Proofs.YtgbdjidjbcbhjaaDoor
