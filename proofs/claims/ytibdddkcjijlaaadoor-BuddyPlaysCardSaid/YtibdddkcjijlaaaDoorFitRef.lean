/- The reference's arena that lends where it fits first: fits, LendFit, Back, Packed. -/
import Derived.Test.YtibdddkcjijlaaaDoorFitRefPlain
import Derived.Test.YtibdddkcjijlaaaDoorArLess
import Derived.Test.YtibdddkcjijlaaaDoorFitLend
namespace Go.Proofs.YtibdddkcjijlaaaDoor
open Go.RowKit
set_option linter.unusedSimpArgs false

theorem head_ahead : ∀ (bs : List (Nat × Nat)) (x : Nat), headN bs x = aheadN bs x
  | [], _ => rfl
  | b :: r, x => by
    show (if b.1 < x then headN r x + 1 else 0) = (if b.1 < x then aheadN r x + 1 else 0)
    rw [head_ahead r x]
theorem fits_hit {bs : List (Nat × Nat)} {k x size : Nat} (hk : k < bs.length) (h : apartF bs[k] x size = false) : fitsF bs x size = false := by
  unfold fitsF
  rw [Bool.and_eq_false_iff]
  left
  rw [List.all_eq_false]
  exact ⟨_, List.getElem_mem hk, by rw [h]; decide⟩
theorem fits_all {bs : List (Nat × Nat)} {x size : Nat} (h : ∀ j (hj : j < bs.length), apartF bs[j] x size = true) : fitsF bs x size = decide (x + size ≤ 64) := by
  unfold fitsF
  rw [show bs.all (fun b => apartF b x size) = true by
    rw [List.all_eq_true]
    intro b hb
    obtain ⟨j, hj, rfl⟩ := List.getElem_of_mem hb
    exact h j hj]
  rfl

set_option maxRecDepth 100000 in
set_option maxHeartbeats 2000000 in
theorem fits_any {F : Nat → Prop} (v : Value) (bs : List (Nat × Nat)) (x size : Nat) (w : World) (h : ArIs w F v bs) (hx : x ≤ 64) (hsz : size ≤ 64) (hb : ∀ b ∈ bs, b.1 + b.2 ≤ 64) :
    Calls Tryd.prog 24 #[v, .int .i64 (x : Nat), .int .i64 (size : Nat)] w fun e w' => e = .returned (.bool (fitsF bs x size)) ∧ Kp No w w' := by
  obtain ⟨a, b, rfl, h1, h2⟩ := h
  have HA := hide h1
  have HB := hide h2
  have HLE := hide hb
  obtain ⟨Aa, ca, rfl, _⟩ := id h1
  obtain ⟨Ab, cb, rfl, _⟩ := id h2
  clear h1 h2 hb
  simp only [fsts_length, snds_length] at HA HB ⊢
  go_enter Tryd.func24, Tryd.ntmps24
  go_wp2_with fail
  obtain ⟨W1, hW1⟩ : ∃ W1, w.alloc (.cells #[.slice Aa bs.length ca, .slice Ab bs.length cb] 26) = W1 := ⟨_, rfl⟩
  have HK1 := hide (show Kp No w W1 by rw [← hW1]; exact (Kp.refl No w).alloc _)
  have HB1 := hide (show Blk W1 w.heap.size 26 #[.slice Aa bs.length ca, .slice Ab bs.length cb] by rw [← hW1]; exact Blk.new w _ _)
  rw [hW1]
  clear hW1
  go_loopw [7] (fun q wr => ∃ k : Nat, q = .int .i64 k ∧ k ≤ bs.length ∧ Hid (∀ j (hj : j < bs.length), j < k → apartF bs[j] x size = true) ∧ Hid (Kp No W1 wr)) (fun q _ => bs.length - (intOf q).toNat)
  case atStart => exact ⟨0, rfl, Nat.zero_le _, fun j _ h => absurd h (by omega), Kp.refl _ _⟩
  case round =>
    obtain ⟨k, rfl, hk, hall, hkr⟩ := hrel
    obtain ⟨p0, p1⟩ : wr.cell? ⟨w.heap.size, 0, none⟩ = some (.slice Aa bs.length ca) ∧ wr.cell? ⟨w.heap.size, 1, none⟩ = some (.slice Ab bs.length cb) := ⟨(HB1.out.kp hkr.out id).cell 0, (HB1.out.kp hkr.out id).cell 1⟩
    by_cases hlt : k < bs.length
    · obtain ⟨_, _, _, hcell⟩ := ar_len (HA.out.no (HK1.out.trans hkr.out))
      obtain ⟨ba, oa, rfl, _, c1⟩ := hcell k hlt
      obtain ⟨_, _, _, hcell2⟩ := ar_len2 (HB.out.no (HK1.out.trans hkr.out))
      obtain ⟨bb, ob, rfl, _, c2⟩ := hcell2 k hlt
      have hle := HLE.out _ (List.getElem_mem hlt)
      have HHIT := hide (fun h => fits_hit (x := x) (size := size) hlt h)
      have HAP := hide (show ∀ j (hj : j < bs.length), j < k + 1 → apartF bs[k] x size = true → apartF bs[j] x size = true from fun j hj h1 h2 => by
        by_cases e : j = k
        · subst e; exact h2
        · exact hall.out j hj (by omega))
      have HDF := hide (show apartF bs[k] x size = !(decide ((bs[k]).1 < x + size) && decide (x < (bs[k]).1 + (bs[k]).2)) from rfl)
      obtain ⟨y, hy⟩ : ∃ y, (bs[k]).1 = y := ⟨_, rfl⟩
      obtain ⟨z, hz⟩ : ∃ z, (bs[k]).2 = z := ⟨_, rfl⟩
      rw [hy] at c1 hle HDF
      rw [hz] at c2 hle HDF
      clear hcell hcell2 hy hz hall
      have hwx : IntKind.i64.wrap ((x : Int) + (size : Int)) = (x : Int) + (size : Int) := by rw [IntKind.wrap_i64]; omega
      have hwy : IntKind.i64.wrap ((y : Int) + (z : Int)) = (y : Int) + (z : Int) := by rw [IntKind.wrap_i64]; omega
      by_cases h1 : y < x + size
      · have h1' : decide ((y : Int) < (x : Int) + (size : Int)) = true := decide_eq_true (by omega)
        by_cases h2 : x < y + z
        · have h2' : decide ((x : Int) < (y : Int) + (z : Int)) = true := decide_eq_true (by omega)
          have HR := hide (HHIT.out (by rw [HDF.out, decide_eq_true h1, decide_eq_true h2]; rfl))
          go_wp2_with fail
          go_quiet (fail)
          go_wp2
          go_ret
          exact ⟨by rw [HR.out]; rfl, HK1.out.trans (hkr.out.trans (by (repeat (first | exact Kp.refl _ _ | with_reducible refine Kp.drewN ?_ _ | with_reducible refine Kp.drew ?_ | with_reducible refine Kp.alloc ?_ _ | with_reducible refine Kp.setCell ?_ (fun _ => ?_) _)); all_goals (simp_all; omega)))⟩
        · have h2' : decide ((x : Int) < (y : Int) + (z : Int)) = false := decide_eq_false (by omega)
          have HR := hide (show apartF bs[k] x size = true by rw [HDF.out, decide_eq_true h1, decide_eq_false h2]; rfl)
          go_wp2_with fail
          go_quiet (fail)
          go_wp2
          exact ⟨⟨k + 1, by go_num, hlt, fun j hj hjk => HAP.out j hj hjk HR.out, hkr.out.trans (by (repeat (first | exact Kp.refl _ _ | with_reducible refine Kp.drewN ?_ _ | with_reducible refine Kp.drew ?_ | with_reducible refine Kp.alloc ?_ _ | with_reducible refine Kp.setCell ?_ (fun _ => ?_) _)); all_goals (simp_all; omega))⟩, by simp [intOf]; omega⟩
      · have h1' : decide ((y : Int) < (x : Int) + (size : Int)) = false := decide_eq_false (by omega)
        have HR := hide (show apartF bs[k] x size = true by rw [HDF.out, decide_eq_false h1]; rfl)
        go_wp2_with fail
        go_quiet (fail)
        go_wp2
        exact ⟨⟨k + 1, by go_num, hlt, fun j hj hjk => HAP.out j hj hjk HR.out, hkr.out.trans (by (repeat (first | exact Kp.refl _ _ | with_reducible refine Kp.drewN ?_ _ | with_reducible refine Kp.drew ?_ | with_reducible refine Kp.alloc ?_ _ | with_reducible refine Kp.setCell ?_ (fun _ => ?_) _)); all_goals (simp_all; omega))⟩, by simp [intOf]; omega⟩
    · obtain rfl : k = bs.length := by omega
      have HR := hide (fits_all (fun j hj => hall.out j hj hj))
      clear hall
      by_cases h1 : x + size ≤ 64
      · have h1' : (x : Int) + (size : Int) ≤ 64 := by omega
        rw [decide_eq_true h1] at HR
        go_wp2_with fail
        go_ret
        exact ⟨by rw [HR.out]; rfl, HK1.out.trans hkr.out⟩
      · have h1' : ¬ (x : Int) + (size : Int) ≤ 64 := by omega
        rw [decide_eq_false h1] at HR
        go_wp2_with fail
        go_ret
        exact ⟨by rw [HR.out]; rfl, HK1.out.trans hkr.out⟩
end Go.Proofs.YtibdddkcjijlaaaDoor
