/- The reference's arena of halved blocks: Free. -/
import Derived.Test.YtibdddkcjijlaaaDoorBudRef
import Derived.Test.YtibdddkcjijlaaaDoorFitRef2
namespace Go.Proofs.YtibdddkcjijlaaaDoor
open Go.RowKit
set_option linter.unusedSimpArgs false

theorem pow_all : ∀ k, k ≤ 6 → 64 / 2 ^ k * 2 ^ k = 64 := by decide +kernel

set_option maxRecDepth 100000 in
set_option maxHeartbeats 4000000 in
theorem rfrees_any {F : Nat → Prop} (v : Value) (bs : List (Nat × Nat)) (k : Nat) (w : World) (h : ArIs w F v bs) (hk : k ≤ 6) (hb : ∀ b ∈ bs, b.1 < 64 ∧ b.2 ≤ 6) :
    Calls Tryd.prog 23 #[v, .int .i64 (k : Nat)] w fun e w' => ∃ v', e = .returned v' ∧ IntsIn w' (Hi w.heap.size) v' (ni (refTo bs k (64 / 2 ^ k))) ∧ Kp No w w' := by
  have HH := hide h
  have HLE := hide hb
  have HKK := hide hk
  obtain ⟨Aa, ca, Ab, cb, rfl⟩ := ar_slices h
  clear h hb
  have hP1 : 0 < 2 ^ k ∧ 2 ^ k ≤ 64 := ⟨Nat.two_pow_pos k, Nat.le_trans (Nat.pow_le_pow_right (by decide) hk) (by decide)⟩
  have hP2 : 0 < 2 ^ (k + 1) ∧ 2 ^ (k + 1) ≤ 128 := ⟨Nat.two_pow_pos _, Nat.le_trans (Nat.pow_le_pow_right (by decide) (show k + 1 ≤ 7 by omega)) (by decide)⟩
  have HW1 := hide (fun (w : World) => pow2_any k (by omega) w)
  have HW2 := hide (fun (w : World) => pow2_any (k + 1) (by omega) w)
  rw [show (((k + 1 : Nat)) : Int) = (k : Int) + 1 by omega] at HW2
  go_enter Tryd.func23, Tryd.ntmps23
  go_upto_region 1 with fail
  obtain ⟨W1, hW1⟩ : ∃ W1, w.alloc (.cells #[.slice Aa bs.length ca, .slice Ab bs.length cb] 26) = W1 := ⟨_, rfl⟩
  have HW0 := hide (show W1.heap.size = w.heap.size + 1 by rw [← hW1]; simp)
  have HK1 := hide (show Kp No w W1 by rw [← hW1]; exact (Kp.refl No w).alloc _)
  have HB1 := hide (show Blk W1 w.heap.size 26 #[.slice Aa bs.length ca, .slice Ab bs.length cb] by rw [← hW1]; exact Blk.new w _ _)
  rw [hW1]
  clear hW1
  go_wp2_with fail
  go_loopw [5, 6] (fun a q wr => ∃ i : Nat, q = .int .i64 (i * 2 ^ k : Nat) ∧ i ≤ 64 / 2 ^ k ∧ Hid (wr.ownsRow (w.heap.size + 1) 3 1 a (refTo bs k i).length (iv (ni (refTo bs k i)))) ∧ Hid (Kp No W1 wr)) (fun _ q _ => 64 - (intOf q).toNat)
  case atStart => exact ⟨0, by rw [Nat.zero_mul]; rfl, Nat.zero_le _, hide (World.ownsRow_nil _ _ _ _), Kp.refl _ _⟩
  case round =>
    obtain ⟨i, rfl, hi, ho, hkr⟩ := hrel
    have HALL := hide (pow_all k hk)
    have HRS := hide (refTo_succ bs k i)
    have hle : (refTo bs k i).length ≤ i := by
      unfold refTo
      exact Nat.le_trans (List.length_filter_le _ _) (by rw [List.length_map, List.length_range]; exact Nat.le_refl _)
    have hi64 : i ≤ 64 := Nat.le_trans hi (Nat.div_le_self _ _)
    obtain ⟨p0, p1⟩ : wr.cell? ⟨w.heap.size, 0, none⟩ = some (.slice Aa bs.length ca) ∧ wr.cell? ⟨w.heap.size, 1, none⟩ = some (.slice Ab bs.length cb) := ⟨(HB1.out.kp hkr.out id).cell 0, (HB1.out.kp hkr.out id).cell 1⟩
    by_cases hlt : i < 64 / 2 ^ k
    · have h1 : i * 2 ^ k + 2 ^ k ≤ 64 := by
        have := Nat.mul_le_mul_right (2 ^ k) hlt
        rw [Nat.succ_mul, HALL.out] at this
        exact this
      have HNX := hide (show (i + 1) * 2 ^ k = i * 2 ^ k + 2 ^ k from Nat.succ_mul _ _)
      obtain ⟨a, ha⟩ : ∃ a, i * 2 ^ k = a := ⟨_, rfl⟩
      rw [ha] at h1 HNX HRS ⊢
      have hlt' : (a : Int) < 64 := by have := hP1.1; omega
      have HIF := hide (show isF bs k a = (freeB bs a k && (decide (k = 6) || !freeB bs (a - a % 2 ^ (k + 1)) (k + 1))) from rfl)
      obtain ⟨P2, hp2⟩ : ∃ P, (2 ^ (k + 1) : Nat) = P := ⟨_, rfl⟩
      have HW3 := hide (show ∀ w : World, Calls Tryd.prog 39 #[.int .i64 ((k : Int) + 1)] w fun e w' => e = .returned (.int .i64 (P2 : Nat)) ∧ w = w' from fun w => by have := HW2.out w; rw [← hp2]; exact this)
      rw [hp2] at hP2 HIF
      have hP20 : (P2 : Int) ≠ 0 := by have := hP2.1; omega
      have hup := hide (show wrap64 ((a : Int) - (a : Int) % (P2 : Int)) = ((a - a % P2 : Nat) : Int) by
        have e : (a : Int) % (P2 : Int) = ((a % P2 : Nat) : Int) := rfl
        have := Nat.mod_le a P2
        rw [e]
        unfold wrap64
        omega)
      have HW4 := hide (show ∀ w : World, Calls Tryd.prog 39 #[.int .i64 (k : Nat)] w fun e w' => e = .returned (.int .i64 ((2 ^ k : Nat) : Int)) ∧ w = w' from fun w => HW1.out w)
      obtain ⟨P1, hp1⟩ : ∃ P, (2 ^ k : Nat) = P := ⟨_, rfl⟩
      have HNX := hide (show (i + 1) * 2 ^ k = a + P1 by rw [← hp1]; exact HNX.out)
      rw [hp1] at hP1 HW4 h1
      clear ha hp2 hp1
      go_wp2_with fail
      refine Calls.mono (HW3.out wr) ?_
      rintro e w5 ⟨rfl, rfl⟩
      go_wp2_with fail
      refine Calls.mono (rfree_any _ bs a k wr (HH.out.no (HK1.out.trans hkr.out)) (by omega) (by omega) HLE.out) ?_
      rintro e w6 ⟨rfl, hk6⟩
      have HK6 := hide hk6
      clear hk6 p0 p1
      obtain ⟨p0, p1⟩ : w6.cell? ⟨w.heap.size, 0, none⟩ = some (.slice Aa bs.length ca) ∧ w6.cell? ⟨w.heap.size, 1, none⟩ = some (.slice Ab bs.length cb) := ⟨(HB1.out.kp (hkr.out.trans HK6.out) id).cell 0, (HB1.out.kp (hkr.out.trans HK6.out) id).cell 1⟩
      cases hf : freeB bs a k with
      | false =>
        rw [hf] at HIF
        rw [HIF.out, Bool.false_and, if_neg (by decide)] at HRS
        clear hf
        go_wp2_with fail
        refine Calls.mono (HW4.out w6) ?_
        rintro e w8 ⟨rfl, rfl⟩
        go_wp2_with fail
        exact ⟨⟨i + 1, by rw [HNX.out]; go_num, hlt, by rw [HRS.out]; exact hide (own_kp ho.out HK6.out fun _ _ h => h), hkr.out.trans HK6.out⟩, by simp [intOf]; omega⟩
      | true =>
        rw [hf, Bool.true_and] at HIF
        clear hf
        by_cases hk6 : k = 6
        · have hk6' : (((k : Nat) : Int) == 6) = true := by subst hk6; rfl
          rw [HIF.out, decide_eq_true hk6, Bool.true_or, if_pos rfl] at HRS
          have HKX := HK6
          have hsz : w.heap.size + 1 ≤ w6.heap.size := by have := HK6.out.size; have := hkr.out.size; have := HW0.out; omega
          have HO := hide (own_kp ho.out HK6.out fun _ _ h => h)
          clear hk6
          go_wp2_with (at_builtin; refine wpList_push _ rfl (.tmp 43) (.tmp 45) _ rfl (w.heap.size + 1) 3 _ 8 Tryd.underlying22 Tryd.infoInt rfl u5 (refTo bs k i).length (iv (ni (refTo bs k i))) rfl HO.out (.int .i64 (a : Nat)) rfl 1 _ rfl (by simp) (by omega) (by decide) hsz ?_; intro g0 c0' w7 ho' hgr hat; have HO7 := hide ho'; have HK7 := hide (((hkr.out.trans HKX.out).alloc _).grown hgr fun b e hb => by have := (own_lt HO.out e).1; have := HW0.out; omega); clear ho' hgr hat)
          refine Calls.mono (HW4.out w7) ?_
          rintro e w8 ⟨rfl, rfl⟩
          go_wp2_with fail
          exact ⟨⟨i + 1, by rw [HNX.out]; go_num, hlt, by rw [HRS.out, List.length_append, List.length_singleton]; exact hide (by simpa [ni, iv] using HO7.out), HK7.out⟩, by simp [intOf]; omega⟩
        · have hk6' : (((k : Nat) : Int) == 6) = false := by rw [beq_eq_false_iff_ne]; omega
          rw [decide_eq_false hk6, Bool.false_or] at HIF
          have HFR := hide (rfree_any (F := F) (.agg #[.slice Aa bs.length ca, .slice Ab bs.length cb]) bs (a - a % P2) (k + 1) w6 (HH.out.no (HK1.out.trans (hkr.out.trans HK6.out))) (by omega) (by omega) HLE.out)
          rw [show (((k + 1 : Nat)) : Int) = (k : Int) + 1 by omega] at HFR
          clear hk6
          go_wp2_with fail
          rw [hup.out]
          refine Calls.mono HFR.out ?_
          rintro e w7' ⟨rfl, hk7⟩
          have HKX := hide (HK6.out.trans hk7)
          clear hk7 p0 p1 HFR
          cases hf : freeB bs (a - a % P2) (k + 1) with
          | true =>
            rw [HIF.out, hf, if_neg (by decide)] at HRS
            clear hf
            go_wp2_with fail
            refine Calls.mono (HW4.out w7') ?_
            rintro e w8 ⟨rfl, rfl⟩
            go_wp2_with fail
            exact ⟨⟨i + 1, by rw [HNX.out]; go_num, hlt, by rw [HRS.out]; exact hide (own_kp ho.out HKX.out fun _ _ h => h), hkr.out.trans HKX.out⟩, by simp [intOf]; omega⟩
          | false =>
            rw [HIF.out, hf, if_pos (by decide)] at HRS
            clear hf
            have hsz : w.heap.size + 1 ≤ w7'.heap.size := by have := HKX.out.size; have := hkr.out.size; have := HW0.out; omega
            have HO := hide (own_kp ho.out HKX.out fun _ _ h => h)
            go_wp2_with (at_builtin; refine wpList_push _ rfl (.tmp 43) (.tmp 45) _ rfl (w.heap.size + 1) 3 _ 8 Tryd.underlying22 Tryd.infoInt rfl u5 (refTo bs k i).length (iv (ni (refTo bs k i))) rfl HO.out (.int .i64 (a : Nat)) rfl 1 _ rfl (by simp) (by omega) (by decide) hsz ?_; intro g0 c0' w7 ho' hgr hat; have HO7 := hide ho'; have HK7 := hide (((hkr.out.trans HKX.out).alloc _).grown hgr fun b e hb => by have := (own_lt HO.out e).1; have := HW0.out; omega); clear ho' hgr hat)
            refine Calls.mono (HW4.out w7) ?_
            rintro e w8 ⟨rfl, rfl⟩
            go_wp2_with fail
            exact ⟨⟨i + 1, by rw [HNX.out]; go_num, hlt, by rw [HRS.out, List.length_append, List.length_singleton]; exact hide (by simpa [ni, iv] using HO7.out), HK7.out⟩, by simp [intOf]; omega⟩
    · have he : i * 2 ^ k = 64 := by
        obtain rfl : i = 64 / 2 ^ k := by omega
        exact HALL.out
      obtain rfl : i = 64 / 2 ^ k := by omega
      rw [he]
      obtain ⟨e1, A1, c1, ev1, hc1, hm1, _⟩ := own_form ho.out
      have HE1 := hide ev1
      clear hlt e1 ev1 hle he hi
      go_wp2_with fail
      go_ret
      refine ⟨_, rfl, ?_, HK1.out.trans hkr.out⟩
      exact .of_own ho.out fun b hb => by have := (own_lt ho.out hb).1; unfold Hi; omega
end Go.Proofs.YtibdddkcjijlaaaDoor
