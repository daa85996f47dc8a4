/- The reference's Place. -/
import Derived.Test.YtibdddkcjijlaaaDoorSmall
import Derived.Test.YtibdddkcjijlaaaDoorCheck
namespace Go.Proofs.YtibdddkcjijlaaaDoor
open Go.RowKit
set_option linter.unusedSimpArgs false

theorem place1_any {F : Nat → Prop} (v : Value) (xs : List Int) (x : Int) (w : World) (hv : IntsIn w F v xs) :
    Calls Tryd.prog 29 #[v, .int .i64 x] w fun e w' => e = .returned (.int .i64 (ixOf xs x)) ∧ w = w' := by
  obtain ⟨A, c, rfl, hc, hm, hcell⟩ := hv
  have H := hide hcell
  clear hcell
  go_enter Tryd.func29, Tryd.ntmps29
  go_wp2
  go_loop [5] (fun i => ∃ k : Nat, k ≤ xs.length ∧ i = .int .i64 k ∧ Hid (∀ j (_ : j < k), xs[j]? ≠ some x)) (fun i => xs.length - (intOf i).toNat)
  case atStart => exact ⟨0, Nat.zero_le _, rfl, fun j h => absurd h (by omega)⟩
  case round =>
    obtain ⟨k, hk, rfl, hb⟩ := hrel
    by_cases hlt : k < xs.length
    · obtain ⟨b, o, rfl, _, hc⟩ := H.out k hlt
      by_cases hx : xs[k] = x
      · have hx' : (xs[k] == x) = true := by simp [hx]
        have Hf := hide (ixOf_at hlt hx hb)
        clear hx
        go_wp2
        go_ret
        exact ⟨ret_int Hf.out.symm, rfl⟩
      · have hx' : (xs[k] == x) = false := by simp [hx]
        have Hx := hide hx
        clear hx
        go_wp2
        go_round
        case rel => exact ⟨k + 1, by omega, by go_num, upto_succ hlt hb Hx.out⟩
        case measure => simp [intOf]; omega
    · have Hf := hide (ixOf_none (xs := xs) (x := x) (fun j h => hb j (by omega)))
      go_wp2
      go_ret
      exact ⟨ret_int Hf.out.symm, rfl⟩
end Go.Proofs.YtibdddkcjijlaaaDoor
