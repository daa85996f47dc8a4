/- The reference's arena of halved blocks: free. -/
import Derived.Test.YtibdddkcjijlaaaDoorBudRefPlain
import Derived.Test.YtibdddkcjijlaaaDoorArLess
import Derived.Test.YtibdddkcjijlaaaDoorBuddyFact
import Derived.Deep.Cut
namespace Go.Proofs.YtibdddkcjijlaaaDoor
open Go.RowKit
set_option linter.unusedSimpArgs false

theorem pow2_q (i : Nat) (hi : i < 62) (w : World) : Calls Tryd.prog 39 #[.int .i64 (i : Int)] w fun e w' => e = .returned (.int .i64 ((2 ^ i : Nat) : Int)) ∧ ∃ n, w' = w.drewN n :=
  (pow2_any i hi w).mono fun _ _ h => ⟨h.1, 0, h.2.symm⟩
theorem freeB_hit {bs : List (Nat × Nat)} {k x s : Nat} (hk : k < bs.length) (h : apartB bs[k] x s = false) : freeB bs x s = false := by
  unfold freeB
  rw [List.all_eq_false]
  exact ⟨_, List.getElem_mem hk, by rw [h]; decide⟩
theorem freeB_all {bs : List (Nat × Nat)} {x s : Nat} (h : ∀ j (hj : j < bs.length), apartB bs[j] x s = true) : freeB bs x s = true := by
  unfold freeB
  rw [List.all_eq_true]
  intro b hb
  obtain ⟨j, hj, rfl⟩ := List.getElem_of_mem hb
  exact h j hj

set_option maxRecDepth 100000 in
set_option maxHeartbeats 4000000 in
theorem rfree_any {F : Nat → Prop} (v : Value) (bs : List (Nat × Nat)) (x s : Nat) (w : World) (h : ArIs w F v bs) (hx : x ≤ 64) (hs : s ≤ 7) (hb : ∀ b ∈ bs, b.1 < 64 ∧ b.2 ≤ 6) :
    Calls Tryd.prog 40 #[v, .int .i64 (x : Nat), .int .i64 (s : Nat)] w fun e w' => e = .returned (.bool (freeB bs x s)) ∧ Kp No w w' := by
  obtain ⟨a, b, rfl, h1, h2⟩ := h
  have HA := hide h1
  have HB := hide h2
  have HLE := hide hb
  obtain ⟨Aa, ca, rfl, _⟩ := id h1
  obtain ⟨Ab, cb, rfl, _⟩ := id h2
  clear h1 h2 hb
  simp only [fsts_length, snds_length] at HA HB ⊢
  have hP1 : 0 < 2 ^ s ∧ 2 ^ s ≤ 128 := ⟨Nat.two_pow_pos s, Nat.le_trans (Nat.pow_le_pow_right (by decide) hs) (by decide)⟩
  have HW1 := hide (fun (w : World) => pow2_q s (by omega) w)
  have HDF := hide (show ∀ b : Nat × Nat, apartB b x s = !(decide (b.1 < x + 2 ^ s) && decide (x < b.1 + 2 ^ b.2)) from fun _ => rfl)
  obtain ⟨P1, hp1⟩ : ∃ P, (2 ^ s : Nat) = P := ⟨_, rfl⟩
  rw [hp1] at hP1 HW1 HDF
  clear hp1
  go_enter Tryd.func40, Tryd.ntmps40
  go_upto_region 1 with fail
  obtain ⟨W1, hW1⟩ : ∃ W1, w.alloc (.cells #[.slice Aa bs.length ca, .slice Ab bs.length cb] 26) = W1 := ⟨_, rfl⟩
  have HK1 := hide (show Kp No w W1 by rw [← hW1]; exact (Kp.refl No w).alloc _)
  have HB1 := hide (show Blk W1 w.heap.size 26 #[.slice Aa bs.length ca, .slice Ab bs.length cb] by rw [← hW1]; exact Blk.new w _ _)
  rw [hW1]
  clear hW1
  go_wp2_with fail
  go_loopw [7] (fun q wr => ∃ k : Nat, q = .int .i64 k ∧ k ≤ bs.length ∧ Hid (∀ j (hj : j < bs.length), j < k → apartB bs[j] x s = true) ∧ Hid (Kp No W1 wr)) (fun q _ => bs.length - (intOf q).toNat)
  case atStart => exact ⟨0, rfl, Nat.zero_le _, fun j _ h => absurd h (by omega), Kp.refl _ _⟩
  case round =>
    obtain ⟨k, rfl, hk, hall, hkr⟩ := hrel
    obtain ⟨p0, p1⟩ : wr.cell? ⟨w.heap.size, 0, none⟩ = some (.slice Aa bs.length ca) ∧ wr.cell? ⟨w.heap.size, 1, none⟩ = some (.slice Ab bs.length cb) := ⟨(HB1.out.kp hkr.out id).cell 0, (HB1.out.kp hkr.out id).cell 1⟩
    by_cases hlt : k < bs.length
    · obtain ⟨_, _, _, hcell⟩ := ar_len (HA.out.no (HK1.out.trans hkr.out))
      obtain ⟨ba, oa, rfl, _, c1⟩ := hcell k hlt
      obtain ⟨_, _, _, hcell2⟩ := ar_len2 (HB.out.no (HK1.out.trans hkr.out))
      obtain ⟨bb, ob, rfl, _, c2⟩ := hcell2 k hlt
      obtain ⟨hle1, hle2⟩ := HLE.out _ (List.getElem_mem hlt)
      have HHIT := hide (fun h => freeB_hit (x := x) (s := s) hlt h)
      have HAP := hide (show ∀ j (hj : j < bs.length), j < k + 1 → apartB bs[k] x s = true → apartB bs[j] x s = true from fun j hj h1 h2 => by
        by_cases e : j = k
        · subst e; exact h2
        · exact hall.out j hj (by omega))
      have HD2 := hide (HDF.out bs[k])
      have HW2 := hide (fun (w : World) => pow2_q (bs[k]).2 (by omega) w)
      obtain ⟨y, hy⟩ : ∃ y, (bs[k]).1 = y := ⟨_, rfl⟩
      obtain ⟨z, hz⟩ : ∃ z, (bs[k]).2 = z := ⟨_, rfl⟩
      have hP2 : 0 < 2 ^ z ∧ 2 ^ z ≤ 64 := ⟨Nat.two_pow_pos z, Nat.le_trans (Nat.pow_le_pow_right (by decide) (show z ≤ 6 by omega)) (by decide)⟩
      rw [hy] at c1 hle1 HD2
      rw [hz] at c2 HD2 HW2
      clear hle2
      obtain ⟨P2, hp2⟩ : ∃ P, (2 ^ z : Nat) = P := ⟨_, rfl⟩
      rw [hp2] at hP2 HW2 HD2
      clear hcell hcell2 hy hz hall hp2
      have hwx : IntKind.i64.wrap ((x : Int) + (P1 : Int)) = (x : Int) + (P1 : Int) := by rw [IntKind.wrap_i64]; omega
      have hwy : IntKind.i64.wrap ((y : Int) + (P2 : Int)) = (y : Int) + (P2 : Int) := by rw [IntKind.wrap_i64]; omega
      by_cases h1 : y < x + P1
      · have h1' : decide ((y : Int) < (x : Int) + (P1 : Int)) = true := decide_eq_true (by omega)
        by_cases h2 : x < y + P2
        · have h2' : decide ((x : Int) < (y : Int) + (P2 : Int)) = true := decide_eq_true (by omega)
          have HR := hide (HHIT.out (by rw [HD2.out, decide_eq_true h1, decide_eq_true h2]; rfl))
          go_wp2_with fail
          go_big_quiet (first
            | (go_at_call 39; with_reducible exact Calls.quiet_of (HW1.out _))
            | (go_at_call 39; with_reducible exact Calls.quiet_of (HW2.out _)))
          go_wp2
          go_ret
          exact ⟨by rw [HR.out]; rfl, HK1.out.trans (hkr.out.trans (by (repeat (first | exact Kp.refl _ _ | with_reducible refine Kp.drewN ?_ _ | with_reducible refine Kp.drew ?_ | with_reducible refine Kp.alloc ?_ _ | with_reducible refine Kp.setCell ?_ (fun _ => ?_) _)); all_goals (simp_all; omega)))⟩
        · have h2' : decide ((x : Int) < (y : Int) + (P2 : Int)) = false := decide_eq_false (by omega)
          have HR := hide (show apartB bs[k] x s = true by rw [HD2.out, decide_eq_true h1, decide_eq_false h2]; rfl)
          go_wp2_with fail
          go_big_quiet (first
            | (go_at_call 39; with_reducible exact Calls.quiet_of (HW1.out _))
            | (go_at_call 39; with_reducible exact Calls.quiet_of (HW2.out _)))
          go_wp2
          exact ⟨⟨k + 1, by go_num, hlt, fun j hj hjk => HAP.out j hj hjk HR.out, hkr.out.trans (by (repeat (first | exact Kp.refl _ _ | with_reducible refine Kp.drewN ?_ _ | with_reducible refine Kp.drew ?_ | with_reducible refine Kp.alloc ?_ _ | with_reducible refine Kp.setCell ?_ (fun _ => ?_) _)); all_goals (simp_all; omega))⟩, by simp [intOf]; omega⟩
      · have h1' : decide ((y : Int) < (x : Int) + (P1 : Int)) = false := decide_eq_false (by omega)
        have HR := hide (show apartB bs[k] x s = true by rw [HD2.out, decide_eq_false h1]; rfl)
        go_wp2_with fail
        go_big_quiet ((go_at_call 39; with_reducible exact Calls.quiet_of (HW1.out _)))
        go_wp2
        exact ⟨⟨k + 1, by go_num, hlt, fun j hj hjk => HAP.out j hj hjk HR.out, hkr.out.trans (by (repeat (first | exact Kp.refl _ _ | with_reducible refine Kp.drewN ?_ _ | with_reducible refine Kp.drew ?_ | with_reducible refine Kp.alloc ?_ _ | with_reducible refine Kp.setCell ?_ (fun _ => ?_) _)); all_goals (simp_all; omega))⟩, by simp [intOf]; omega⟩
    · obtain rfl : k = bs.length := by omega
      have HR := hide (freeB_all (fun j hj => hall.out j hj hj))
      clear hall
      go_wp2_with fail
      go_ret
      exact ⟨by rw [HR.out]; rfl, HK1.out.trans hkr.out⟩
end Go.Proofs.YtibdddkcjijlaaaDoor
