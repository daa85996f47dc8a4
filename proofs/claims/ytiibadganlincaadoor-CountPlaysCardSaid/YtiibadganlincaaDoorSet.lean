/- larderwickref1.Set: the sum of powers of two, walked; where no number is there twice it is the set, as bits. -/
import Derived.Test.YtiibadganlincaaDoorReachPlain
import Derived.Test.YtiibadganlincaaDoorRead
namespace Go.Proofs.YtiibadganlincaaDoor
open Go.RowKit

/-- the sum of powers of two -/
def sumP (xs : List Int) : Nat := xs.foldl (fun n x => n + 2 ^ x.toNat) 0
theorem sumP_snoc (xs : List Int) (x : Int) : sumP (xs ++ [x]) = sumP xs + 2 ^ x.toNat := by simp [sumP]
theorem sumP_le {xs : List Int} (h : ∀ x ∈ xs, x < 12) : sumP xs ≤ 4096 * xs.length := by
  have key : ∀ k, k ≤ xs.length → sumP (xs.take k) ≤ 4096 * k := by
    intro k
    induction k with
    | zero => intro _; simp [sumP]
    | succ k ih =>
      intro hk
      rw [List.take_succ_eq_append_getElem (by omega), sumP_snoc]
      have h1 : 2 ^ (xs[k]'(by omega)).toNat < 2 ^ 12 := Nat.pow_lt_pow_right (by decide) (by have := h _ (List.getElem_mem (show k < xs.length by omega)); omega)
      have := ih (by omega)
      omega
  have := key xs.length (Nat.le_refl _)
  rwa [List.take_length] at this

theorem add_or (a i : Nat) (ha : a < 2 ^ 62) (hi : i < 62) (h : a.testBit i = false) : a + 2 ^ i = a ||| 2 ^ i := by
  have e : (BitVec.ofNat 64 a + BitVec.ofNat 64 (2 ^ i)) = (BitVec.ofNat 64 a ||| BitVec.ofNat 64 (2 ^ i)) := by
    apply BitVec.add_eq_or_of_and_eq_zero
    apply BitVec.eq_of_getLsbD_eq
    intro j hj
    rw [BitVec.getLsbD_and, BitVec.getLsbD_ofNat, BitVec.getLsbD_ofNat, Nat.testBit_two_pow]
    by_cases e : i = j
    · subst e; simp [h]
    · simp [e]
  have hp : 2 ^ i < 2 ^ 62 := Nat.pow_lt_pow_right (by decide) hi
  have e2 := congrArg BitVec.toNat e
  rw [BitVec.toNat_add, BitVec.toNat_or, BitVec.toNat_ofNat, BitVec.toNat_ofNat] at e2
  clear e
  generalize 2 ^ i = q at *
  have h1 : a % 2 ^ 64 = a := Nat.mod_eq_of_lt (by omega)
  have h2 : q % 2 ^ 64 = q := Nat.mod_eq_of_lt (by omega)
  rw [h1, h2, Nat.mod_eq_of_lt (by omega)] at e2
  exact e2

theorem sumP_or {xs : List Int} (hn : xs.Nodup) (h : ∀ x ∈ xs, 0 ≤ x ∧ x < 12) : sumP xs = orIn 0 xs := by
  have key : ∀ k, k ≤ xs.length → sumP (xs.take k) = orIn 0 (xs.take k) := by
    intro k
    induction k with
    | zero => intro _; simp [sumP, orIn]
    | succ k ih =>
      intro hk
      have hlt : k < xs.length := by omega
      rw [List.take_succ_eq_append_getElem hlt, sumP_snoc, orIn_snoc, ih (by omega)]
      have hx := h _ (List.getElem_mem hlt)
      refine add_or _ _ (Nat.lt_of_lt_of_le (orIn_lt (by decide) fun y hy => (h y (List.mem_of_mem_take hy)).2) (by decide)) (by omega) ?_
      cases e : (orIn 0 (xs.take k)).testBit xs[k].toNat with
      | false => rfl
      | true =>
        exfalso
        rcases (testBit_orIn _ _ _).1 e with e | ⟨y, hy, e⟩
        · simp at e
        · have hy' := h y (List.mem_of_mem_take hy)
          obtain rfl : y = xs[k] := by omega
          obtain ⟨j, hj, hjk⟩ := List.getElem_of_mem hy
          rw [List.length_take] at hj
          rw [List.getElem_take] at hjk
          have := (List.getElem_inj hn).1 hjk
          omega
  have := key xs.length (Nat.le_refl _)
  rwa [List.take_length] at this

theorem set_any {F : Nat → Prop} (v : Value) (xs : List Int) (w : World) (hv : IntsIn w F v xs) (hl : xs.length ≤ 1000) (hr : ∀ x ∈ xs, 0 ≤ x ∧ x < 12) :
    Calls Tryd.prog 16 #[v] w fun e w' => e = .returned (.int .i64 (sumP xs : Nat)) ∧ w = w' := by
  obtain ⟨A, c, rfl, hc, hm, hcell⟩ := hv
  have H := hide hcell
  have HR := hide hr
  clear hcell hr
  go_enter Tryd.func16, Tryd.ntmps16
  go_wp2
  go_loop [3, 4] (fun s i => ∃ k : Nat, k ≤ xs.length ∧ i = .int .i64 k ∧ s = .int .i64 (sumP (xs.take k) : Nat)) (fun _ i => xs.length - (intOf i).toNat)
  case atStart => exact ⟨0, Nat.zero_le _, rfl, rfl⟩
  case round =>
    obtain ⟨k, hk, rfl, rfl⟩ := hrel
    by_cases hlt : k < xs.length
    · obtain ⟨b, o, rfl, _, hcl⟩ := H.out k hlt
      obtain ⟨i, hi⟩ := Int.eq_ofNat_of_zero_le (HR.out _ (List.getElem_mem hlt)).1
      have hi12 : i < 12 := by have := (HR.out _ (List.getElem_mem hlt)).2; omega
      have HS := hide (show sumP (xs.take (k + 1)) = sumP (xs.take k) + 2 ^ i by rw [List.take_succ_eq_append_getElem hlt, sumP_snoc, hi]; rfl)
      have hsl : sumP (xs.take k) ≤ 4096 * 1000 := Nat.le_trans (sumP_le fun x hx => (HR.out x (List.mem_of_mem_take hx)).2) (by rw [List.length_take]; omega)
      rw [hi] at hcl
      clear hi
      go_wp2
      go_loop [5, 6] (fun p j => ∃ t : Nat, t ≤ i ∧ j = .int .i64 t ∧ p = .int .i64 (2 ^ t : Nat)) (fun _ j => i - (intOf j).toNat)
      case atStart => exact ⟨0, Nat.zero_le _, rfl, rfl⟩
      case round =>
        obtain ⟨t, ht, rfl, rfl⟩ := hrel
        have hp : 2 ^ t ≤ 2 ^ 12 := Nat.pow_le_pow_right (by decide) (by omega)
        have hp2 : 2 ^ (t + 1) = 2 ^ t * 2 := Nat.pow_succ 2 t
        have HP := hide hp2
        clear hp2
        by_cases htl : t < i
        · generalize 2 ^ t = q at *
          go_wp2
          go_round
          case rel => exact ⟨t + 1, htl, by go_num, by rw [HP.out]; go_num⟩
          case measure => simp [intOf]; omega
        · obtain rfl : t = i := by omega
          have hs := HS.out
          generalize 2 ^ t = q at *
          generalize sumP (xs.take k) = s0 at *
          go_wp2
          go_round
          case rel => exact ⟨k + 1, hlt, by go_num, by rw [hs]; go_num⟩
          case measure => simp [intOf]; omega
    · obtain rfl : k = xs.length := by omega
      rw [List.take_length]
      go_wp2
      go_ret
      exact ⟨rfl, rfl⟩
end Go.Proofs.YtiibadganlincaaDoor
