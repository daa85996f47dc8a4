/- core.Bits as an iterator: the numbers of the bits of a set, rising; whoever loops over it need keep the one block that holds the set. Condition: the set has 12 bits. -/
import Derived.RangeFuncNested
import Derived.RangeFuncWrites
import Derived.RangeFuncBound
import Derived.RangeFuncCalls
import Derived.RangeFuncLeaves
import Derived.Shelf.Abstract
import Derived.Shelf.RegionOpen
import Derived.OwnWalkIn
import Derived.TacticsInMore
import Derived.LoopNIn
import Derived.LoopIn
import Derived.Test.YtgbdjidjbcbhjaaDoorSmall
namespace Go.Proofs.YtgbdjidjbcbhjaaDoor
open Go.RowKit Go.Shelf
attribute [local go_sem] Oper.semAt_some

/-- the bits of s below k, rising -/
def bitsTo (s k : Nat) : List Nat := (List.range k).filter fun i => s.testBit i

theorem bitsTo_zero (s : Nat) : bitsTo s 0 = [] := rfl
theorem bitsTo_yes {s k : Nat} (h : s.testBit k = true) : bitsTo s (k + 1) = bitsTo s k ++ [k] := by simp [bitsTo, List.range_succ, h]
theorem bitsTo_no {s k : Nat} (h : s.testBit k = false) : bitsTo s (k + 1) = bitsTo s k := by simp [bitsTo, List.range_succ, h]
theorem bitsTo_prefix (s : Nat) {k n : Nat} (h : k ≤ n) : bitsTo s k <+: bitsTo s n := by
  induction n with
  | zero => obtain rfl : k = 0 := by omega
            exact List.prefix_refl _
  | succ n ih =>
    rcases Nat.lt_or_ge n k with hlt | hge
    · obtain rfl : k = n + 1 := by omega
      exact List.prefix_refl _
    · cases hb : s.testBit n with
      | true => rw [bitsTo_yes hb]; exact (ih hge).trans (List.prefix_append _ _)
      | false => rw [bitsTo_no hb]; exact ih hge
theorem mem_bitsTo {s k i : Nat} : i ∈ bitsTo s k ↔ i < k ∧ s.testBit i = true := by simp [bitsTo]
theorem bitsTo_end {s k n : Nat} (h : s / 2 ^ k = 0) (hk : k ≤ n) : bitsTo s n = bitsTo s k := by
  induction n with
  | zero => obtain rfl : k = 0 := by omega
            rfl
  | succ n ih =>
    rcases Nat.lt_or_ge n k with hlt | hge
    · obtain rfl : k = n + 1 := by omega
      rfl
    · rw [bitsTo_no, ih hge]
      rw [Nat.testBit_eq_decide_div_mod_eq]
      have h1 : s < 2 ^ k := Nat.lt_of_div_eq_zero (Nat.two_pow_pos k) h
      have h2 : 2 ^ k ≤ 2 ^ n := Nat.pow_le_pow_right (by decide) hge
      rw [Nat.div_eq_of_lt (by omega)]
      rfl

/-- a bit of a set -/
abbrev BitOf (s : Nat) := { i : Nat // i < 12 ∧ s.testBit i = true }

/-- the block that holds the set lies as it lay -/
def SetKept (B : Nat) (W W' : World) : Prop := W'.heap[B]? = W.heap[B]?
theorem SetKept.trans {B : Nat} {X Y Z : World} (h : SetKept B X Y) (k : SetKept B Y Z) : SetKept B X Z := Eq.trans k h
theorem SetKept.put {B n : Nat} (hB : B < n) (W : World) (l : Nat) (o' : Obj) (h : n ≤ l) : SetKept B W (W.putObj l o') := World.putObj_heap_other (by omega)

set_option maxRecDepth 100000 in
set_option maxHeartbeats 2000000 in
theorem bits1_in (l B s : Nat) (hs : s < 4096) (J Jx : List (BitOf s) → World → Prop) (n : Nat) (hn : 1 ≤ n) (w0 : World) (hB : w0.heap[B]? = some (.cells #[.int .i64 s] 3 (0, 0)))
    (hY : ∀ pre x W, J pre W → pre.length < 12 → YieldAt Fence.wide (n - 1) Tryd.prog l #[.int .i64 (x.1 : Nat)] W fun e W' =>
      (e = .returned (.bool true) ∧ J (pre ++ [x]) W' ∧ SetKept B W W') ∨ (e = .returned (.bool false) ∧ Jx (pre ++ [x]) W'))
    (h0 : J [] w0) :
    CallsIn Fence.wide n Tryd.prog 79 #[.func (.yield l) #[] #[], .pointer (some ⟨B, 0, none⟩)] w0 fun e W' => (∃ v, e = .returned v) ∧
      ((∃ ys : List (BitOf s), ys.map (·.1) = bitsTo s 12 ∧ J ys W') ∨ (∃ pre : List (BitOf s), pre.map (·.1) <+: bitsTo s 12 ∧ Jx pre W')) := by
  refine callsIn_of_wp Tryd.func79 rfl trivial ?_ rfl
  simp only [Tryd.ntmps79, List.size_toArray, List.length_cons, List.length_nil, Nat.reduceAdd, Nat.reduceSub, Array.replicate_succ, Array.replicate_zero, List.push_toArray, List.append_toArray, List.nil_append, List.cons_append]
  gi_wp2
  gi_loopw [3] (fun p wr => ∃ (k : Nat) (pre : List (BitOf s)), k ≤ 12 ∧ p = .int .i64 k ∧ pre.map (·.1) = bitsTo s k ∧ J pre wr ∧ wr.heap[B]? = some (.cells #[.int .i64 s] 3 (0, 0)))
    (fun p wr => 13 - (intOf p).toNat)
  case atStart =>
    exact ⟨0, [], by omega, rfl, rfl, h0, hB⟩
  case round =>
    obtain ⟨k, pre, hk, rfl, hpre, hJ, hb⟩ := hrel
    have hd : s / 2 ^ k ≤ 4096 := Nat.le_trans (Nat.div_le_self _ _) (by omega)
    have hcast : ((s : Int) / 2 ^ k) = ((s / 2 ^ k : Nat) : Int) := by simp
    have hbt : s.testBit k = decide ((s / 2 ^ k) % 2 = 1) := by rw [Nat.testBit_eq_decide_div_mod_eq]
    have hand := and_one (s / 2 ^ k) (by omega)
    obtain ⟨c1, c2, c3⟩ := Blk.a1 (w := wr) (g := B) (t := 3) hb
    by_cases hz : s / 2 ^ k = 0
    · have hz' : (((s : Int) / 2 ^ k) != 0) = false := by rw [hcast, hz]; rfl
      gi_wp2
      go_end0
      exact ⟨⟨_, rfl⟩, .inl ⟨pre, hpre.trans (bitsTo_end hz hk).symm, hJ⟩⟩
    · have hz' : (((s : Int) / 2 ^ k) != 0) = true := by rw [hcast]; simp; omega
      have hk12 : k < 12 := by
        rcases Nat.lt_or_ge k 12 with h | h
        · exact h
        · exfalso
          have : 2 ^ 12 ≤ 2 ^ k := Nat.pow_le_pow_right (by decide) h
          exact hz (Nat.div_eq_of_lt (by omega))
      have hlen : pre.length < 12 := by
        rw [← List.length_map (·.1), hpre]
        have := List.length_filter_le (fun i => s.testBit i) (List.range k)
        rw [List.length_range] at this
        unfold bitsTo
        omega
      by_cases hb1 : s.testBit k = true
      · obtain ⟨x, hx⟩ : ∃ x : BitOf s, x.1 = k := ⟨⟨k, hk12, hb1⟩, rfl⟩
        obtain ⟨fn, tmps, assign, body, hy, hR⟩ := hY pre x wr hJ hlen
        rw [hx] at hy
        have HX := hide (show (pre ++ [x]).map (·.1) = bitsTo s (k + 1) by rw [bitsTo_yes hb1, ← hpre, List.map_append, List.map_cons, List.map_nil, hx])
        clear hx
        have ht : (bits BinOp.and IntKind.i64 ((s : Int) / 2 ^ k) 1 == 1) = true := by rw [hcast, hand]; rw [hbt] at hb1; simp at hb1 ⊢; omega
        have HB1 := hide hb1
        have HY := hide hY
        clear hand hbt hb1 hY hcast hd hlen hz
        gi_wp2
        refine hR.mono ?_
        rintro e W3 (⟨rfl, hJ3, hk3⟩ | ⟨rfl, hJx3⟩)
        · gi_wp2
          go_roundw
          case rel => exact ⟨k + 1, _, by omega, by go_num, HX.out, hJ3, Eq.trans hk3 hb⟩
          case measure => simp [intOf]; omega
        · gi_wp2
          refine bodyPost_ret (results_none rfl _ _ _) rfl ?_
          exact ⟨⟨_, rfl⟩, .inr ⟨_, by rw [HX.out]; exact bitsTo_prefix s (by omega), hJx3⟩⟩
      · have hb2 : s.testBit k = false := by simpa using hb1
        have ht : (bits BinOp.and IntKind.i64 ((s : Int) / 2 ^ k) 1 == 1) = false := by rw [hcast, hand]; rw [hbt] at hb2; simp at hb2 ⊢; omega
        have HB2 := hide hb2
        clear hand hbt hb1 hb2 hY hcast hd hlen hz
        gi_wp2
        refine ⟨fun _ h => (by cases h), ?_⟩
        gi_wp2
        go_roundw
        case rel => exact ⟨k + 1, pre, by omega, by go_num, by rw [bitsTo_no HB2.out]; exact hpre, hJ, hb⟩
        case measure => simp [intOf]; omega

theorem bits_stops (n : Nat) (hn : 1 ≤ n) (B s : Nat) (hs : s < 4096) (w : World) (hb : w.heap[B]? = some (.cells #[.int .i64 s] 3 (0, 0))) (hlt : B < w.heap.size) :
    SeqStopsK Fence.wide n Tryd.prog 79 #[.pointer (some ⟨B, 0, none⟩)] (fun x : BitOf s => #[.int .i64 (x.1 : Nat)]) (SetKept B) (fun ys => ys.map (·.1) = bitsTo s 12) (fun pre => pre.map (·.1) <+: bitsTo s 12) 12 w :=
  fun l J Jx W hW _ _ hY h0 => bits1_in l B s hs J Jx n hn W ((hW.block B hlt).trans hb) hY h0

theorem bits_any (s : Int) (w : World) : Calls Tryd.prog 57 #[.int .i64 s] w fun e w' => e = .returned (.func (.func 79) #[] #[.pointer (some ⟨w.heap.size, 0, none⟩)]) ∧ w' = w.alloc (.cells #[.int .i64 s] 3) := by
  go_enter Tryd.func57, Tryd.ntmps57
  go_wp2
  go_ret
  exact ⟨rfl, rfl⟩
end Go.Proofs.YtgbdjidjbcbhjaaDoor
