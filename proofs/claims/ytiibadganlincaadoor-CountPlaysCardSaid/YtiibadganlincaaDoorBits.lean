/- core.Bits as an iterator: the numbers of the bits of a set, rising; whoever loops over it need keep the one block that holds the set. Condition: the set has 12 bits. -/
import Derived.RangeFuncNested
import Derived.RangeFuncWrites
import Derived.RangeFuncBound
import Derived.RangeFuncCalls
import Derived.RangeFuncLeaves
import Derived.Shelf.Abstract
import Derived.Shelf.RegionOpen
import Derived.OwnWalkIn
import Derived.TacticsInMore
import Derived.LoopNIn
import Derived.LoopIn
import Derived.Test.YtiibadganlincaaDoorSmall
namespace Go.Proofs.YtiibadganlincaaDoor
open Go.RowKit Go.Shelf
attribute [local go_sem] Oper.semAt_some

/-- the bits of s below k, rising -/
def bitsTo (s k : Nat) : List Nat := (List.range k).filter fun i => s.testBit i

theorem bitsTo_zero (s : Nat) : bitsTo s 0 = [] := rfl
theorem bitsTo_yes {s k : Nat} (h : s.testBit k = true) : bitsTo s (k + 1) = bitsTo s k ++ [k] := by simp [bitsTo, List.range_succ, h]
theorem bitsTo_no {s k : Nat} (h : s.testBit k = false) : bitsTo s (k + 1) = bitsTo s k := by simp [bitsTo, List.range_succ, h]
theorem bitsTo_prefix (s : Nat) {k n : Nat} (h : k ≤ n) : bitsTo s k <+: bitsTo s n := by
  induction n with
  | zero => obtain rfl : k = 0 := by omega
            exact List.prefix_refl _
  | succ n ih =>
    rcases Nat.lt_or_ge n k with hlt | hge
    · obtain rfl : k = n + 1 := by omega
      exact List.prefix_refl _
    · cases hb : s.testBit n with
      | true => rw [bitsTo_yes hb]; exact (ih hge).trans (List.prefix_append _ _)
      | false => rw [bitsTo_no hb]; exact ih hge
theorem mem_bitsTo {s k i : Nat} : i ∈ bitsTo s k ↔ i < k ∧ s.testBit i = true := by simp [bitsTo]
theorem bitsTo_end {s k n : Nat} (h : s / 2 ^ k = 0) (hk : k ≤ n) : bitsTo s n = bitsTo s k := by
  induction n with
  | zero => obtain rfl : k = 0 := by omega
            rfl
  | succ n ih =>
    rcases Nat.lt_or_ge n k with hlt | hge
    · obtain rfl : k = n + 1 := by omega
      rfl
    · rw [bitsTo_no, ih hge]
      rw [Nat.testBit_eq_decide_div_mod_eq]
      have h1 : s < 2 ^ k := Nat.lt_of_div_eq_zero (Nat.two_pow_pos k) h
      have h2 : 2 ^ k ≤ 2 ^ n := Nat.pow_le_pow_right (by decide) hge
      rw [Nat.div_eq_of_lt (by omega)]
      rfl

/-- a bit of a set -/
abbrev BitOf (s : Nat) := { i : Nat // i < 12 ∧ s.testBit i = true }

/-- the block that holds the set lies as it lay -/
def SetKept (B : Nat) (W W' : World) : Prop := W'.heap[B]? = W.heap[B]?
theorem SetKept.trans {B : Nat} {X Y Z : World} (h : SetKept B X Y) (k : SetKept B Y Z) : SetKept B X Z := Eq.trans k h
theorem SetKept.put {B n : Nat} (hB : B < n) (W : World) (l : Nat) (o' : Obj) (h : n ≤ l) : SetKept B W (W.putObj l o') := World.putObj_heap_other (by omega)




end Go.Proofs.YtiibadganlincaaDoor
