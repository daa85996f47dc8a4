/- Two rows of ints that grow side by side, in a region that leaves the order of its memory open. No condition. -/
import Derived.Test.YtibdddkcjijlaaaDoorPlan
import Derived.Test.YtibdddkcjijlaaaDoorOwn
namespace Go.Proofs.YtibdddkcjijlaaaDoor
open Go.RowKit
set_option linter.unusedSimpArgs false

theorem build_one {o : Oper} {a : Act} {w : World} {K : Act → World → Prop} {Q : Exit → Act → World → Prop} (t : Nat) (u : Int) (ho : o.op = .buildSlice 22 1 #[(0, .tmp t)]) (hx : a.eval (.tmp t) = .int .i64 u)
    (h : ∀ N w', N = w.heap.size → w' = w.alloc (.cells #[.int .i64 u] 3) → K (a.put o.dst (.slice (some ⟨N, 0, none⟩) 1 1)) w') : Oper.wp Tryd.prog o a w K Q := by
  obtain ⟨d, op, ty, pos, af, g⟩ := o
  simp only at ho
  subst ho
  have hx' : a.tmps[t]?.getD undef = .int .i64 u := by simpa [Act.eval] using hx
  clear hx
  go_simp
  exact h _ _ rfl rfl

/-- two rows of one's own that share no block; nothing of w0 has changed -/
structure Two (lo : Nat) (w0 w : World) (v1 v2 : Value) (n1 n2 : Nat) (us1 us2 : List Value) : Prop where
  lo_ : w0.heap.size ≤ lo
  kp : Kp No w0 w
  o1 : w.ownsRow lo 3 1 v1 n1 us1
  o2 : w.ownsRow lo 3 1 v2 n2 us2
  ap : ∀ g, v1.ownBlock = some g → v2.ownBlock ≠ some g

section
variable {lo : Nat} {w0 w w' : World} {v1 v2 : Value} {n1 n2 : Nat} {us1 us2 us : List Value}
theorem Two.start (w : World) {lo : Nat} (h : w.heap.size ≤ lo) : Two lo w w (.slice none 0 0) (.slice none 0 0) 0 0 [] [] := ⟨h, Kp.refl _ _, World.ownsRow_nil _ _ _ _, World.ownsRow_nil _ _ _ _, fun g h => by simp [Value.ownBlock] at h⟩
theorem Two.no (h : Two lo w0 w v1 v2 n1 n2 us1 us2) (hk : Kp No w w') : Two lo w0 w' v1 v2 n1 n2 us1 us2 := ⟨h.lo_, h.kp.trans hk, own_kp h.o1 hk fun _ _ h => h, own_kp h.o2 hk fun _ _ h => h, h.ap⟩
theorem Two.alloc (h : Two lo w0 w v1 v2 n1 n2 us1 us2) {o : Obj} (hw : w' = w.alloc o) : Two lo w0 w' v1 v2 n1 n2 us1 us2 := by subst hw; exact h.no ((Kp.refl _ w).alloc o)
theorem Two.lt1 (h : Two lo w0 w v1 v2 n1 n2 us1 us2) {B : Nat} (hB : w.heap.size ≤ B) : ∀ b, v1.ownBlock = some b → b < B := fun b e => by have := (own_lt h.o1 e).2; omega
theorem Two.lt2 (h : Two lo w0 w v1 v2 n1 n2 us1 us2) {B : Nat} (hB : w.heap.size ≤ B) : ∀ b, v2.ownBlock = some b → b < B := fun b e => by have := (own_lt h.o2 e).2; omega
theorem Two.push1 (h : Two lo w0 w v1 v2 n1 n2 us1 us2) {g n c : Nat} (ho : w'.ownsRow lo 3 1 (.slice (some ⟨g, 0, none⟩) n c) n us) (hg : w.grownBy w' v1.ownBlock) (hat : v1.ownBlock = some g ∨ g = w.heap.size) :
    Two lo w0 w' (.slice (some ⟨g, 0, none⟩) n c) v2 n n2 us us2 := by
  have k : Kp (fun b => v1.ownBlock = some b) w w' := (Kp.refl _ w).grown hg fun b e _ => e
  have hlo := h.lo_
  refine ⟨h.lo_, h.kp.trans' k fun b hb e => ?_, ho, own_kp h.o2 k fun b hb e => h.ap b e hb, fun b e e2 => ?_⟩
  · have := (own_lt h.o1 e).1; omega
  · have e : g = b := by simpa [Value.ownBlock] using e
    subst e
    rcases hat with h1 | h1
    · exact h.ap g h1 e2
    · have := (own_lt h.o2 e2).2; omega
theorem Two.push2 (h : Two lo w0 w v1 v2 n1 n2 us1 us2) {g n c : Nat} (ho : w'.ownsRow lo 3 1 (.slice (some ⟨g, 0, none⟩) n c) n us) (hg : w.grownBy w' v2.ownBlock) (hat : v2.ownBlock = some g ∨ g = w.heap.size) :
    Two lo w0 w' v1 (.slice (some ⟨g, 0, none⟩) n c) n1 n us1 us := by
  have k : Kp (fun b => v2.ownBlock = some b) w w' := (Kp.refl _ w).grown hg fun b e _ => e
  have hlo := h.lo_
  refine ⟨h.lo_, h.kp.trans' k fun b hb e => ?_, own_kp h.o1 k fun b hb e => h.ap b hb e, ho, fun b e e2 => ?_⟩
  · have := (own_lt h.o2 e).1; omega
  · have e2 : g = b := by simpa [Value.ownBlock] using e2
    subst e2
    rcases hat with h1 | h1
    · exact h.ap g e h1
    · have := (own_lt h.o1 e).2; omega
/-- a block that is laid -/
theorem new_at {B N : Nat} {ar : Array Value} {t : TypeId} (hB : B ≤ w.heap.size) (hN : N = w.heap.size) (hw : w' = w.alloc (.cells ar t)) : B ≤ N ∧ Blk w' N t ar := by
  subst hN hw
  exact ⟨hB, Blk.new _ _ _⟩
theorem blk_more {B N : Nat} {ar : Array Value} {t : TypeId} (h : B ≤ N ∧ Blk w N t ar) {o : Obj} (hw : w' = w.alloc o) : B ≤ N ∧ Blk w' N t ar := by
  subst hw
  exact ⟨h.1, h.2.alloc _⟩
theorem blk_push {B N : Nat} {ar : Array Value} {t : TypeId} {v : Value} (h : B ≤ N ∧ Blk w N t ar) (hg : w.grownBy w' v.ownBlock) (hv : ∀ b, v.ownBlock = some b → b < B) : B ≤ N ∧ Blk w' N t ar :=
  ⟨h.1, h.2.grown hg fun e => by have := hv N e.symm; have := h.1; omega⟩
theorem blk_keep {N : Nat} {ar : Array Value} {t : TypeId} (h : Blk w N t ar) {o : Obj} (hw : w' = w.alloc o) : Blk w' N t ar := by subst hw; exact h.alloc _
theorem blk_pushed {N : Nat} {ar : Array Value} {t : TypeId} {v : Value} (h : Blk w N t ar) (hg : w.grownBy w' v.ownBlock) (hv : v.ownBlock ≠ some N) : Blk w' N t ar := h.grown hg fun e => hv e.symm
theorem size_alloc {B : Nat} (h : B ≤ w.heap.size) {o : Obj} (hw : w' = w.alloc o) : B ≤ w'.heap.size := by subst hw; simp; omega
theorem size_push {B : Nat} {r : Option Nat} (h : B ≤ w.heap.size) (hg : w.grownBy w' r) : B ≤ w'.heap.size := Nat.le_trans h hg.size
end
end Go.Proofs.YtibdddkcjijlaaaDoor
