/- Functions that read lists: what each returns. No condition. -/
import Derived.Test.YtiibadganlincaaDoorSmall
namespace Go.Proofs.YtiibadganlincaaDoor
open Go.RowKit

set_option maxHeartbeats 400000

/-- slices of ints, row by row, in the walk's own form -/
theorem RowsIn.form {w : World} {F : Nat → Prop} {v : Value} {xss : List (List Int)} (h : RowsIn w F v xss) :
    ∃ (A : Option Addr) (c : Nat), v = .slice A xss.length c ∧ xss.length ≤ c ∧ c ≤ 9223372036854775807 ∧
      ∀ k (h : k < xss.length), ∃ b o A' c', A = some ⟨b, o, none⟩ ∧ F b ∧ w.cell? ⟨b, o + k, none⟩ = some (.slice A' (xss[k]).length c') ∧ IntsIn w F (.slice A' (xss[k]).length c') xss[k] := by
  obtain ⟨A, c, vs, rfl, h1, h2, h3, h4, h5⟩ := h.row
  refine ⟨A, c, rfl, h2, h3, fun k hk => ?_⟩
  obtain ⟨b, o, hA, hF, hc⟩ := h4 k (by omega)
  have hi := h5 k (by omega) hk
  obtain ⟨A', c', hv, _⟩ := id hi
  have hi' := hi
  rw [hv] at hc hi'
  exact ⟨b, o, A', c', hA, hF, hc, hi'⟩

theorem RowsIn.lit {w : World} {F : Nat → Prop} {A : Option Addr} {n c : Nat} {xss : List (List Int)} (h : RowsIn w F (.slice A n c) xss) :
    n = xss.length ∧ xss.length ≤ c ∧ c ≤ 9223372036854775807 ∧
      ∀ k (h : k < xss.length), ∃ b o A' c', A = some ⟨b, o, none⟩ ∧ F b ∧ w.cell? ⟨b, o + k, none⟩ = some (.slice A' (xss[k]).length c') ∧ IntsIn w F (.slice A' (xss[k]).length c') xss[k] := by
  obtain ⟨A', c', e, h1, h2, h3⟩ := h.form
  injection e with e1 e2 e3
  subst e1; subst e3
  exact ⟨e2, h1, h2, h3⟩

theorem has_any {F : Nat → Prop} (v : Value) (xs : List Int) (x : Int) (w : World) (hv : IntsIn w F v xs) :
    Calls Tryd.prog 21 #[v, .int .i64 x] w fun e w' => e = .returned (.bool (hasB xs x)) ∧ w = w' := by
  obtain ⟨A, c, rfl, hc, hm, hcell⟩ := hv
  have H := hide hcell
  clear hcell
  go_enter Tryd.func21, Tryd.ntmps21
  go_wp2
  go_loop [5] (fun i => ∃ k : Nat, k ≤ xs.length ∧ i = .int .i64 k ∧ Hid (∀ j (_ : j < k), xs[j]? ≠ some x)) (fun i => xs.length - (intOf i).toNat)
  case atStart => exact ⟨0, Nat.zero_le _, rfl, fun j h => absurd h (by omega)⟩
  case round =>
    obtain ⟨k, hk, rfl, hb⟩ := hrel
    by_cases hlt : k < xs.length
    · obtain ⟨b, o, rfl, _, hc⟩ := H.out k hlt
      by_cases hx : xs[k] = x
      · have hx' : (xs[k] == x) = true := by simp [hx]
        have Hf := hide (show hasB xs x = true from by unfold hasB; rw [decide_eq_true_eq, ← hx]; exact List.getElem_mem hlt)
        clear hx
        go_wp2
        go_ret
        exact ⟨ret_bool Hf.out.symm, rfl⟩
      · have hx' : (xs[k] == x) = false := by simp [hx]
        have Hx := hide hx
        clear hx
        go_wp2
        go_round
        case rel => exact ⟨k + 1, by omega, by go_num, upto_succ hlt hb Hx.out⟩
        case measure => simp [intOf]; omega
    · have Hf := hide (show hasB xs x = false from by unfold hasB; rw [decide_eq_false_iff_not]; exact not_mem_of (fun j h => hb j (by omega)))
      go_wp2
      go_ret
      exact ⟨ret_bool Hf.out.symm, rfl⟩

theorem allB_at {xs : List Int} {lo hi : Int} {k : Nat} (hlt : k < xs.length) (h : btw xs[k] lo hi = false) : allB xs lo hi = false := by
  unfold allB
  rw [List.all_eq_false]
  exact ⟨_, List.getElem_mem hlt, by simp [h]⟩
theorem allB_all {xs : List Int} {lo hi : Int} (h : ∀ j (hj : j < xs.length), btw xs[j] lo hi = true) : allB xs lo hi = true := by
  unfold allB
  rw [List.all_eq_true]
  intro x hx
  obtain ⟨j, hj, rfl⟩ := List.getElem_of_mem hx
  exact h j hj


theorem eqB_ne {xs ys : List Int} (h : xs.length ≠ ys.length) : eqB xs ys = false := by
  unfold eqB; rw [decide_eq_false_iff_not]; intro e; exact h (by rw [e])
theorem eqB_at {xs ys : List Int} {k : Nat} (h1 : k < xs.length) (h2 : k < ys.length) (h : ¬ xs[k] = ys[k]) : eqB xs ys = false := by
  unfold eqB; rw [decide_eq_false_iff_not]; intro e; subst e; exact h rfl
theorem eqB_all {xs ys : List Int} (hl : xs.length = ys.length) (h : ∀ j, j < xs.length → xs[j]? = ys[j]?) : eqB xs ys = true := by
  unfold eqB; rw [decide_eq_true_eq]
  apply List.ext_getElem? ; intro j
  rcases Nat.lt_or_ge j xs.length with hj | hj
  · exact h j hj
  · rw [List.getElem?_eq_none hj, List.getElem?_eq_none (by omega)]

theorem ints_any {F F' : Nat → Prop} (v u : Value) (xs ys : List Int) (w : World) (hv : IntsIn w F v xs) (hu : IntsIn w F' u ys) :
    Calls Tryd.prog 30 #[v, u] w fun e w' => e = .returned (.bool (eqB xs ys)) ∧ ∃ n, w' = w.drewN n := by
  obtain ⟨A, c, rfl, hc, hm, hcell⟩ := hv
  obtain ⟨A', c', rfl, hc', hm', hcell'⟩ := hu
  have H := hide hcell
  have H' := hide hcell'
  clear hcell hcell'
  by_cases hl : xs.length = ys.length
  · have hne : ((xs.length : Int) != (ys.length : Int)) = false := by simp [hl]
    have Hl := hide hl
    clear hl
    go_enter Tryd.func30, Tryd.ntmps30
    go_wp2
    go_loopw [5] (fun i wr => ∃ k n : Nat, k ≤ xs.length ∧ i = .int .i64 k ∧ wr = w.drewN n ∧ Hid (∀ j (_ : j < k), xs[j]? = ys[j]?)) (fun i _ => xs.length - (intOf i).toNat)
    case atStart => exact ⟨0, 0, Nat.zero_le _, rfl, rfl, fun j h => absurd h (by omega)⟩
    case round =>
      obtain ⟨k, n, hk, rfl, rfl, hb⟩ := hrel
      by_cases hlt : k < xs.length
      · have hlt' : k < ys.length := by have := Hl.out; omega
        obtain ⟨b, o, rfl, _, hc⟩ := H.out k hlt
        obtain ⟨b', o', rfl, _, hc'⟩ := H'.out k hlt'
        by_cases hx : xs[k] = ys[k]
        · have hx' : (xs[k] != ys[k]) = false := by simp [hx]
          have Hx := hide hx
          clear hx
          go_wp2
          go_quiet (fail)
          go_wp2
          go_roundw
          case rel =>
            refine ⟨k + 1, _, by omega, by go_num, rfl, ?_⟩
            intro j h
            rcases Nat.lt_or_ge j k with h' | h'
            · exact hb j h'
            · obtain rfl : j = k := by omega
              rw [List.getElem?_eq_getElem hlt, List.getElem?_eq_getElem hlt', Hx.out]
          case measure => simp [intOf]; omega
        · have hx' : (xs[k] != ys[k]) = true := by simp [hx]
          have Hf := hide (eqB_at hlt hlt' hx)
          clear hx
          go_wp2
          go_quiet (fail)
          go_wp2
          go_ret
          exact ⟨ret_bool Hf.out.symm, _, World.drewN_drewN _ _ _⟩
      · have Hf := hide (show eqB xs ys = true from eqB_all Hl.out (fun j h => hb j (by omega)))
        go_wp2
        go_ret
        exact ⟨ret_bool Hf.out.symm, _, rfl⟩
  · have hne : ((xs.length : Int) != (ys.length : Int)) = true := by rw [bne_iff_ne]; omega
    have Hf := hide (eqB_ne hl)
    clear hl
    go_enter Tryd.func30, Tryd.ntmps30
    go_wp2
    go_ret
    exact ⟨ret_bool Hf.out.symm, 0, rfl⟩

end Go.Proofs.YtiibadganlincaaDoor
