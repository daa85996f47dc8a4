/- The law CountSafe, walked: of all steps. -/
import Derived.Test.YtjcabgbleohdcaaCountBack
import Derived.Test.YtjcabgbleohdcaaRounds
import Derived.Test.YtjcabgbleohdcaaPush
namespace Go.Proofs.Ytjcabgbleohdcaa
open Go.RowKit
set_option linter.unusedSimpArgs false

set_option maxRecDepth 100000 in
set_option maxHeartbeats 8000000 in
theorem countSafe_any {F : Nat → Prop} (vt : Value) (steps : List (List Int)) (w : World) (ht : RowsIn w F vt steps) : Calls Try.prog 5 #[vt] w fun e w' => e = .returned (.bool true) ∧ Kp No w w' := by
  have HT := hide ht
  have HP := hide (PInv.counted steps)
  obtain ⟨s, hs⟩ : ∃ s, countedS steps = s := ⟨_, rfl⟩
  have HSE := hide hs
  rw [hs] at HP
  clear ht hs
  go_enter Try.func5, Try.ntmps5
  go_wp2_with fail
  refine Calls.mono (countFact_any _) ?_
  rintro e w1 ⟨rfl, hk1⟩
  have HK1 := hide hk1
  clear hk1
  go_wp2_with fail
  refine Calls.mono (counted_any _ steps _ (HT.out.no HK1.out)) ?_
  rw [HSE.out]
  rintro e w2 ⟨p, rfl, hc2, hk2⟩
  have HC2 := hide hc2
  have HK2 := hide (HK1.out.trans hk2)
  clear hc2 hk2
  go_wp2_with fail
  refine Calls.mono (cheap_any _ HP.out HC2.out) ?_
  rintro e w3 ⟨vo, vr, rfl, ho, hr, hk3⟩
  obtain ⟨Ao, co, rfl, hco, hmo, _⟩ := ho.form
  obtain ⟨Ar, cr, rfl, hcr, hmr, _⟩ := id hr
  obtain ⟨W, hW⟩ : ∃ W, w3.alloc (.cells #[.slice Ao s.outs.length co, .slice Ar s.roots.length cr] 28) = W := ⟨_, rfl⟩
  have hk4 : Kp No w3 W := by rw [← hW]; exact (Kp.refl No _).alloc _
  have HB := hide (show Blk W w3.heap.size 28 #[.slice Ao s.outs.length co, .slice Ar s.roots.length cr] from by rw [← hW]; exact Blk.new _ _ _)
  have HO := hide (ho.no hk4)
  have HR := hide (hr.no hk4)
  have HC := hide ((HC2.out.no hk3).no hk4)
  have HK := hide ((HK2.out.trans hk3).trans hk4)
  clear ho hr hk3 hk4 HC2 HK1 HK2 HT
  obtain ⟨b1, b2, b3, b4, b5⟩ := HB.out.a2
  go_wp2_with fail
  clear hW
  refine Calls.mono (reach_ok _ _ _ _ _ HO.out HR.out HP.out.ok) ?_
  rintro e w4 ⟨rfl, hk4⟩
  have HK4 := hide hk4
  clear hk4 b1 b2 b3 b4 b5
  obtain ⟨b1, b2, b3, b4, b5⟩ := (HB.out.kp HK4.out id).a2
  go_wp2_with fail
  refine Calls.mono (rounds_ok _ _ _ _ _ (HO.out.no HK4.out) (HR.out.no HK4.out) HP.out.ok) ?_
  rintro e w5 ⟨rfl, hk5⟩
  have HK5 := hide (HK4.out.trans hk5)
  clear hk5 b1 b2 b3 b4 b5
  go_wp2_with fail
  refine Calls.mono (here_any _ HP.out (HC.out.no HK5.out)) ?_
  rintro e w6 ⟨rfl, rfl⟩
  have HRL := hide (reachN_lt HP.out.ok)
  have HHL := hide (hereB_lt HP.out)
  have HSUB := hide (fun i => reach_sub HP.out i)
  have HEND := hide (fun h => here_reach HP.out h)
  obtain ⟨n, hn⟩ : ∃ n, reachN s.outs s.roots = n := ⟨_, rfl⟩
  obtain ⟨m, hm⟩ : ∃ m, roundsN s.outs = m := ⟨_, rfl⟩
  obtain ⟨q, hq⟩ : ∃ q, hereB s = q := ⟨_, rfl⟩
  rw [hn] at HRL HSUB HEND
  rw [hm] at HEND
  rw [hq] at HHL HSUB HEND
  rw [hn, hm, hq]
  have hd1 : decide ((4095 : Int) < (q : Int)) = false := by have := HHL.out; rw [decide_eq_false_iff_not]; omega
  clear hn hm hq
  go_wp2_with fail
  clear hd1
  go_loop [11] (fun z => ∃ i : Nat, z = .int .i64 i ∧ i ≤ 12) (fun z => 12 - (intOf z).toNat)
  case atStart => exact ⟨0, rfl, Nat.zero_le _⟩
  case round =>
    obtain ⟨i, rfl, hi⟩ := hrel
    by_cases hil : i < 12
    · have hil' : (i : Int) < 12 := by omega
      go_wp2_with fail
      refine Calls.mono (bit_any n i (by have := HRL.out; omega) (by omega) _) ?_
      rintro e w7 ⟨rfl, rfl⟩
      by_cases hb : bt n i = true
      · have HB2 := hide (HSUB.out i hb)
        rw [hb]
        clear hb
        go_wp2_with fail
        refine Calls.mono (bit_any q i (by have := HHL.out; omega) (by omega) _) ?_
        rw [HB2.out]
        rintro e w7 ⟨rfl, rfl⟩
        go_wp2
        go_round
        case rel => exact ⟨i + 1, by go_num, hil⟩
        case measure => simp [intOf]; omega
      · have hb' : bt n i = false := by simpa using hb
        rw [hb']
        clear hb hb'
        go_wp2
        go_round
        case rel => exact ⟨i + 1, by go_num, hil⟩
        case measure => simp [intOf]; omega
    · obtain rfl : i = 12 := by omega
      by_cases h0 : m = 0
      · obtain rfl := HEND.out h0
        subst h0
        go_wp2
        go_ret
        exact ⟨rfl, HK.out.trans HK5.out⟩
      · have h0' : ((m : Int) != 0) = true := by rw [bne_iff_ne]; omega
        clear h0
        go_wp2
        go_ret
        exact ⟨rfl, HK.out.trans HK5.out⟩
end Go.Proofs.Ytjcabgbleohdcaa
