/- Functions that hold lists of lists against each other, and count up: what each returns. -/
import Derived.Test.YtiibadganlincaaDoorCopy
namespace Go.Proofs.YtiibadganlincaaDoor
open Go.RowKit

set_option maxHeartbeats 1000000

theorem eqBB_ne {xs ys : List (List Int)} (h : xs.length ≠ ys.length) : eqBB xs ys = false := by
  unfold eqBB; rw [decide_eq_false_iff_not]; intro e; exact h (by rw [e])
theorem eqBB_at {xs ys : List (List Int)} {k : Nat} (h1 : k < xs.length) (h2 : k < ys.length) (h : eqB xs[k] ys[k] = false) : eqBB xs ys = false := by
  unfold eqBB; rw [decide_eq_false_iff_not]; intro e; subst e
  unfold eqB at h; simp at h
theorem eqBB_all {xs ys : List (List Int)} (hl : xs.length = ys.length) (h : ∀ j, j < xs.length → xs[j]? = ys[j]?) : eqBB xs ys = true := by
  unfold eqBB; rw [decide_eq_true_eq]
  apply List.ext_getElem? ; intro j
  rcases Nat.lt_or_ge j xs.length with hj | hj
  · exact h j hj
  · rw [List.getElem?_eq_none hj, List.getElem?_eq_none (by omega)]

theorem rows_any {F F' : Nat → Prop} (v u : Value) (xs ys : List (List Int)) (w : World) (hv : RowsIn w F v xs) (hu : RowsIn w F' u ys) :
    Calls Tryd.prog 31 #[v, u] w fun e w' => e = .returned (.bool (eqBB xs ys)) ∧ ∃ n, w' = w.drewN n := by
  obtain ⟨A, c, rfl, hc, hm, _⟩ := hv.form
  obtain ⟨A', c', rfl, hc', hm', _⟩ := hu.form
  have H := hide hv
  have H' := hide hu
  clear hv hu
  by_cases hl : xs.length = ys.length
  · have hne : ((xs.length : Int) != (ys.length : Int)) = false := by simp [hl]
    have Hl := hide hl
    clear hl
    go_enter Tryd.func31, Tryd.ntmps31
    go_wp2
    go_loopw [5] (fun i wr => ∃ k : Nat, k ≤ xs.length ∧ i = .int .i64 k ∧ Hid (∃ n, wr = w.drewN n) ∧ Hid (∀ j (_ : j < k), xs[j]? = ys[j]?)) (fun i _ => xs.length - (intOf i).toNat)
    case atStart => exact ⟨0, Nat.zero_le _, rfl, ⟨0, rfl⟩, fun j h => absurd h (by omega)⟩
    case round =>
      obtain ⟨k, hk, rfl, hw, hb⟩ := hrel
      have K : Kp No w wr := by
        obtain ⟨n, hn⟩ := hw.out
        rw [hn]
        exact (Kp.refl No w).drewN n
      have HK := hide K
      clear K
      by_cases hlt : k < xs.length
      · have hlt' : k < ys.length := by have := Hl.out; omega
        obtain ⟨b, o, A2, c2, rfl, _, hc, hi⟩ := (H.out.no HK.out).lit.2.2.2 k hlt
        obtain ⟨b', o', A2', c2', rfl, _, hc', hi'⟩ := (H'.out.no HK.out).lit.2.2.2 k hlt'
        have HI := hide hi
        have HI' := hide hi'
        clear hi hi'
        by_cases hx : eqB xs[k] ys[k] = true
        · have Hx := hide hx
          go_wp2
          go_quiet ((go_at_call 30; exact Calls.quiet_of (ints_any _ _ _ _ _ (HI.out.no ((Kp.refl No _).drewN _)) (HI'.out.no ((Kp.refl No _).drewN _)))))
          go_wp2
          go_roundw
          case rel =>
            refine ⟨k + 1, by omega, by go_num, ?_, ?_⟩
            · obtain ⟨n, hn⟩ := hw.out
              exact ⟨_, by rw [hn]; exact World.drewN_drewN _ _ _⟩
            intro j h
            rcases Nat.lt_or_ge j k with h' | h'
            · exact hb j h'
            · obtain rfl : j = k := by omega
              rw [List.getElem?_eq_getElem hlt, List.getElem?_eq_getElem hlt']
              have := Hx.out
              unfold eqB at this
              rw [decide_eq_true_eq] at this
              rw [this]
          case measure => simp [intOf]; omega
        · have hx' : eqB xs[k] ys[k] = false := by simpa using hx
          have Hf := hide (eqBB_at hlt hlt' hx')
          clear hx
          go_wp2
          go_quiet ((go_at_call 30; exact Calls.quiet_of (ints_any _ _ _ _ _ (HI.out.no ((Kp.refl No _).drewN _)) (HI'.out.no ((Kp.refl No _).drewN _)))))
          go_wp2
          go_ret
          obtain ⟨n, hn⟩ := hw.out
          exact ⟨ret_bool Hf.out.symm, _, by rw [hn]; exact World.drewN_drewN _ _ _⟩
      · have Hf := hide (show eqBB xs ys = true from eqBB_all Hl.out (fun j h => hb j (by omega)))
        go_wp2
        go_ret
        exact ⟨ret_bool Hf.out.symm, hw.out⟩
  · have hne : ((xs.length : Int) != (ys.length : Int)) = true := by rw [bne_iff_ne]; omega
    have Hf := hide (eqBB_ne hl)
    clear hl
    go_enter Tryd.func31, Tryd.ntmps31
    go_wp2
    go_ret
    exact ⟨ret_bool Hf.out.symm, 0, rfl⟩

def eqHB (a b : List (List Int)) (c d : List Int) : Bool := eqB c d && eqBB a b

theorem heaps_any {F F' : Nat → Prop} (v r v' r' : Value) (a b : List (List Int)) (c d : List Int) (w : World) (hv : RowsIn w F v a) (hr : IntsIn w F r c) (hv' : RowsIn w F' v' b) (hr' : IntsIn w F' r' d) :
    Calls Tryd.prog 17 #[.agg #[v, r], .agg #[v', r']] w fun e w' => e = .returned (.bool (eqHB a b c d)) ∧ Kp No w w' := by
  have k0 : Kp No w ((w.alloc (.cells #[v, r] 45)).alloc (.cells #[v', r'] 45)) := ((Kp.refl No w).alloc _).alloc _
  have HV := hide (hv.no k0)
  have HR := hide (hr.no k0)
  have HV' := hide (hv'.no k0)
  have HR' := hide (hr'.no k0)
  have HK := hide k0
  clear hv hr hv' hr' k0
  by_cases h : eqB c d = true
  · have Hf := hide (show eqHB a b c d = eqBB a b by unfold eqHB; rw [h]; rfl)
    go_enter Tryd.func17, Tryd.ntmps17
    go_wp2_with (first
      | (go_at_call 30; refine (ints_any _ _ _ _ _ HR.out HR'.out).mono ?_; rintro e w' ⟨rfl, n, rfl⟩)
      | (go_at_call 31; refine (rows_any _ _ _ _ _ (HV.out.no ((Kp.refl No _).drewN _)) (HV'.out.no ((Kp.refl No _).drewN _))).mono ?_; rintro e w' ⟨rfl, m, rfl⟩))
    go_ret
    exact ⟨ret_bool Hf.out.symm, HK.out.drewN _⟩
  · have h' : eqB c d = false := by simpa using h
    have Hf := hide (show eqHB a b c d = false by unfold eqHB; rw [h']; rfl)
    clear h
    go_enter Tryd.func17, Tryd.ntmps17
    go_wp2_with (first
      | (go_at_call 30; refine (ints_any _ _ _ _ _ HR.out HR'.out).mono ?_; rintro e w' ⟨rfl, n, rfl⟩))
    go_ret
    exact ⟨ret_bool Hf.out.symm, HK.out.drewN _⟩

/-- 0, 1, .., n - 1 -/
def upTo (n : Nat) : List Int := (List.range n).map fun i : Nat => (i : Int)
theorem upTo_succ (n : Nat) : upTo (n + 1) = upTo n ++ [(n : Int)] := by simp [upTo, List.range_succ]
theorem upTo_length (n : Nat) : (upTo n).length = n := by simp [upTo]

/-- a fresh list of ints comes back; nothing that was there changes -/
def FreshInts (w : World) (xs : List Int) (e : Ending) (w' : World) : Prop := ∃ A c, e = .returned (.slice A xs.length c) ∧ IntsIn w' (Hi w.heap.size) (.slice A xs.length c) xs ∧ Kp No w w'

theorem FreshInts.of_own {w w' : World} {v : Value} {n : Nat} {xs : List Int} (h : w'.ownsRow w.heap.size 3 1 v n (iv xs)) (hk : Kp No w w') : FreshInts w xs (.returned v) w' := by
  have hi : IntsIn w' (Hi w.heap.size) v xs := .of_own h fun b hb => (own_lt h hb).1
  obtain ⟨A, c, rfl, _⟩ := id hi
  exact ⟨A, c, rfl, hi, hk⟩


end Go.Proofs.YtiibadganlincaaDoor
