/- The small functions that only read, or only reckon: what each returns. No condition beyond the sizes that are written out. -/
import Derived.Test.YtiibadganlincaaDoorBase
import Derived.Deep.QuietTactic
import Derived.BigQuiet
import Derived.Laws.BitsAllLaws
import Derived.Laws.BitsLemmas
namespace Go.Proofs.YtiibadganlincaaDoor
open Go.RowKit

/-! ### plain functions -/
def btw (n lo hi : Int) : Bool := decide (lo ≤ n) && decide (n ≤ hi)
theorem btw_iff {n lo hi : Int} : btw n lo hi = true ↔ lo ≤ n ∧ n ≤ hi := by simp [btw]
def bt (s i : Nat) : Bool := s.testBit i
def hasB (xs : List Int) (x : Int) : Bool := decide (x ∈ xs)
def allB (xs : List Int) (lo hi : Int) : Bool := xs.all fun n => btw n lo hi
def eqB (xs ys : List Int) : Bool := decide (xs = ys)
def eqBB (xs ys : List (List Int)) : Bool := decide (xs = ys)
def ixOf (xs : List Int) (x : Int) : Int := if x ∈ xs then (xs.idxOf x : Int) else -1

theorem ixOf_at {xs : List Int} {x : Int} {k : Nat} (h : k < xs.length) (hk : xs[k] = x) (hb : ∀ j (_ : j < k), xs[j]? ≠ some x) : ixOf xs x = k := by
  unfold ixOf
  have hm : x ∈ xs := by rw [← hk]; exact List.getElem_mem h
  rw [if_pos hm]
  have : xs.idxOf x = k := by
    have h1 := List.idxOf_lt_length_iff.2 hm
    rcases Nat.lt_trichotomy (xs.idxOf x) k with h2 | h2 | h2
    · exfalso
      apply hb _ h2
      rw [List.getElem?_eq_getElem h1, List.getElem_idxOf]
    · exact h2
    · exfalso
      have := List.not_of_lt_findIdx (p := (· == x)) h2
      simp [hk] at this
  omega

theorem not_mem_of {xs : List Int} {x : Int} (hb : ∀ j, j < xs.length → xs[j]? ≠ some x) : x ∉ xs := by
  intro hm
  obtain ⟨j, hj, h⟩ := List.getElem_of_mem hm
  exact hb j hj (by rw [List.getElem?_eq_getElem hj, h])

theorem ixOf_none {xs : List Int} {x : Int} (hb : ∀ j, j < xs.length → xs[j]? ≠ some x) : ixOf xs x = -1 := by
  unfold ixOf
  rw [if_neg (not_mem_of hb)]

theorem upto_succ {xs : List Int} {x : Int} {k : Nat} (hlt : k < xs.length) (hb : ∀ j (_ : j < k), xs[j]? ≠ some x) (hx : ¬ xs[k] = x) : ∀ j (_ : j < k + 1), xs[j]? ≠ some x := by
  intro j h
  rcases Nat.lt_or_ge j k with h' | h'
  · exact hb j h'
  · obtain rfl : j = k := by omega
    rw [List.getElem?_eq_getElem hlt]
    intro h; injection h with h; exact hx h

/-! ### numbers -/
theorem and_one (a : Nat) (ha : a < 9223372036854775808) : bits BinOp.and IntKind.i64 (a : Int) 1 = (a % 2 : Nat) := by
  have hx : a &&& 1 < 2 ^ 63 := Nat.and_lt_two_pow _ (by omega)
  have e1 : (BitVec.ofInt 64 (a : Int)).toNat = a := by rw [BitVec.ofInt_natCast, BitVec.toNat_ofNat]; exact Nat.mod_eq_of_lt (by omega)
  show IntKind.i64.wrap ((BitVec.ofInt 64 (a : Int) &&& BitVec.ofInt 64 1).toNat : Int) = _
  rw [BitVec.toNat_and, e1, show (BitVec.ofInt 64 1).toNat = 1 from rfl, IntKind.wrap_i64, Nat.and_one_is_mod]
  omega

def p2 (i : Nat) : Nat := 2 ^ i
theorem pow_cap {i : Nat} (h : i < 62) : (2 : Nat) ^ i < 4611686018427387904 := by
  calc 2 ^ i < 2 ^ 62 := Nat.pow_lt_pow_right (by omega) h
    _ = 4611686018427387904 := rfl

set_option maxHeartbeats 400000

theorem within_any (n lo hi : Int) (w : World) : Calls Tryd.prog 33 #[.int .i64 n, .int .i64 lo, .int .i64 hi] w fun e w' => e = .returned (.bool (btw n lo hi)) ∧ w = w' := by
  go_enter Tryd.func33, Tryd.ntmps33
  go_wp2
  · have h : lo ≤ n := by assumption
    go_ret
    exact ⟨ret_bool (by simp [btw, h]), rfl⟩
  · have h : n < lo := by assumption
    go_ret
    exact ⟨ret_bool (by simp [btw]; omega), rfl⟩

theorem in_any (n lo hi : Int) (w : World) : Calls Tryd.prog 5 #[.int .i64 n, .int .i64 lo, .int .i64 hi] w fun e w' => e = .returned (.bool (btw n lo hi)) ∧ w = w' := by
  go_enter Tryd.func5, Tryd.ntmps5
  go_wp2
  · have h : lo ≤ n := by assumption
    go_ret
    exact ⟨ret_bool (by simp [btw, h]), rfl⟩
  · have h : n < lo := by assumption
    go_ret
    exact ⟨ret_bool (by simp [btw]; omega), rfl⟩




theorem index_any {F : Nat → Prop} (v : Value) (xs : List Int) (x : Int) (w : World) (hv : IntsIn w F v xs) :
    Calls Tryd.prog 26 #[v, .int .i64 x] w fun e w' => e = .returned (.int .i64 (ixOf xs x)) ∧ w = w' := by
  obtain ⟨A, c, rfl, hc, hm, hcell⟩ := hv
  have H := hide hcell
  clear hcell
  go_enter Tryd.func26, Tryd.ntmps26
  go_wp2
  go_loop [5, 8] (fun _ i => ∃ k : Nat, k ≤ xs.length ∧ i = .int .i64 k ∧ Hid (∀ j (_ : j < k), xs[j]? ≠ some x)) (fun _ i => xs.length - (intOf i).toNat)
  case atStart => exact ⟨0, Nat.zero_le _, rfl, fun j h => absurd h (by omega)⟩
  case round =>
    obtain ⟨k, hk, rfl, hb⟩ := hrel
    by_cases hlt : k < xs.length
    · obtain ⟨b, o, rfl, _, hc⟩ := H.out k hlt
      by_cases hx : xs[k] = x
      · have hx' : (x == xs[k]) = true := by simp [hx]
        have Hf := hide (ixOf_at hlt hx hb)
        clear hx
        go_wp2
        go_ret
        exact ⟨ret_int Hf.out.symm, rfl⟩
      · have hx' : (x == xs[k]) = false := by simp; exact fun h => hx h.symm
        have Hx := hide hx
        clear hx
        go_wp2
        go_round
        case rel => exact ⟨k + 1, by omega, by go_num, upto_succ hlt hb Hx.out⟩
        case measure => simp [intOf]; omega
    · have Hf := hide (ixOf_none (xs := xs) (x := x) (fun j h => hb j (by omega)))
      go_wp2
      go_ret
      exact ⟨ret_int Hf.out.symm, rfl⟩

end Go.Proofs.YtiibadganlincaaDoor
