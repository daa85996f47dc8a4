/- The law ColorMany, walked: of every heap. -/
import Derived.Test.YtkfibfacfgiplaaColorFact
import Derived.Test.YtkfibfacfgiplaaReach
namespace Go.Proofs.Ytkfibfacfgiplaa
open Go.RowKit

theorem done_le (outs : List (List Int)) (c : List Int) : ∀ k, done outs k c ≤ k
  | 0 => Nat.le_refl _
  | k + 1 => by unfold done; have := done_le outs c k; split <;> omega
theorem many_eq {outs : List (List Int)} {roots : List Int} (hok : Ok outs roots) {k : Nat} (hk : 12 ≤ k) : done outs k (newC outs roots) = ones (reachN outs roots) outs.length := by
  have h1 := done_eq outs (newC outs roots) k
  rw [blacks_new] at h1
  have hl : (stepsC outs k (newC outs roots)).length = outs.length := by rw [stepsC_length, newC_length]
  have h2 := ones_blacks (c := stepsC outs k (newC outs roots)) (s := reachN outs roots) fun i => black_bit hok ((Col.new_ hok).steps hok k) ((Sound.new_ hok).steps hok k) (no_grey outs _ (by rw [newC_length]; have := hok.n12; omega)) i
  rw [hl] at h2
  omega

set_option maxRecDepth 100000 in
set_option maxHeartbeats 2000000 in
theorem colorMany_any {F : Nat → Prop} (vo vr : Value) (outs : List (List Int)) (roots : List Int) (w : World) (ho : RowsIn w F vo outs) (hr : IntsIn w F vr roots) :
    Calls Try.prog 9 #[.agg #[vo, vr]] w fun e w' => e = .returned (.bool true) ∧ Kp No w w' := by
  have HO := hide ho
  have HR := hide hr
  clear ho hr
  by_cases hc : chk outs roots = 0
  · have HOK := hide (ok_of_chk hc)
    have HL := hide (ok_of_chk hc).n12
    clear hc
    go_enter Try.func9, Try.ntmps9
    go_wp2_with fail
    refine Calls.mono (colorFact_any _) ?_
    rintro e w1 ⟨rfl, hk1⟩
    have hb1 := (Blk.new w 25 #[vo, vr]).kp hk1 id
    obtain ⟨a1, a2, a3, a4, a5⟩ := hb1.a2
    have HB1 := hide hb1
    have HK1 := hide (((Kp.refl No w).alloc (.cells #[vo, vr] 25)).trans' hk1 fun _ _ h => h)
    clear hk1 hb1
    obtain ⟨Ao, co, rfl, hco, hmo, _⟩ := RowsIn.form HO.out
    obtain ⟨Ar, cr, rfl, hcr, hmr, _⟩ := id HR.out
    go_wp2_with fail
    refine Calls.mono (new_ok _ _ outs roots _ (HO.out.no HK1.out) (HR.out.no HK1.out) HOK.out) ?_
    unfold NewPost
    rintro e w2 ⟨p, vo', vr', vc, vs, rfl, hm, hp, hk2⟩
    have HM := hide hm
    have HB2 := hide (HB1.out.kp hk2 id)
    have HK2 := hide (HK1.out.trans hk2)
    clear hm hk2 a1 a2 a3 a4
    obtain ⟨a1, a2, a3, a4, _⟩ := HB2.out.a2
    go_wp2_with fail
    refine Calls.mono (reach_ok _ _ outs roots _ (HO.out.no HK2.out) (HR.out.no HK2.out) HOK.out) ?_
    rintro e w3 ⟨rfl, hk3⟩
    have HB3 := hide (HB2.out.kp hk3 id)
    have HM3 := hide (HM.out.no hk3)
    have HK3 := hide (HK2.out.trans hk3)
    clear a1 a2 a3 a4 hk3
    have HN := hide (reachN_lt HOK.out)
    have HEK := hide (fun k (hk : 12 ≤ k) => many_eq HOK.out hk)
    have HW1 := hide (show w.heap.size < w1.heap.size from HB1.out.lt)
    have HCL := hide (fun k => (stepsC_length outs (newC outs roots) k).trans (newC_length outs roots))
    obtain ⟨c0, hc0⟩ : ∃ c0, newC outs roots = c0 := ⟨_, rfl⟩
    rw [hc0] at HM3 HEK HCL
    clear hc0 HM
    go_wp2_with fail
    go_loopw [8, 9] (fun n q wr => ∃ k : Nat, q = .int .i64 k ∧ n = .int .i64 (done outs k c0 : Nat) ∧ k ≤ 20 ∧ MarkAt wr p w1.heap.size vo' vr' vc vs outs roots (stepsC outs k c0) ∧ Kp (Hi w1.heap.size) w3 wr)
      (fun _ q _ => 20 - (intOf q).toNat)
    case atStart => exact ⟨0, rfl, rfl, by decide, HM3.out, Kp.refl _ _⟩
    case round =>
      obtain ⟨k, rfl, rfl, hk, hmk, hkp⟩ := hrel
      have HMK := hide hmk
      have HKP := hide hkp
      clear hmk hkp
      have hdl := done_le outs c0 k
      by_cases hlt : k < 20
      · have HS := hide (show stepsC outs (k + 1) c0 = stepC outs (stepsC outs k c0) from rfl)
        have HD := hide (show done outs (k + 1) c0 = done outs k c0 + if (1 : Int) ∈ stepsC outs k c0 then 1 else 0 from rfl)
        obtain ⟨d, hd⟩ : ∃ d, d = done outs k c0 := ⟨_, rfl⟩
        rw [← hd] at HD hdl ⊢
        clear hd
        go_wp2_with fail
        refine Calls.mono (step_any _ HMK.out HOK.out (HCL.out k)) ?_
        rintro e w4 ⟨rfl, hm4, hk4⟩
        have HM4 := hide hm4
        have HK4 := hide (HKP.out.trans' hk4 fun b hb e => (own_lt HMK.out.col e).1)
        clear hm4 hk4
        by_cases h : (1 : Int) ∈ stepsC outs k c0
        · have HE := hide (show done outs (k + 1) c0 = d + 1 by rw [HD.out, if_pos h])
          rw [decide_eq_true h]
          clear h
          go_wp2
          go_roundw
          case rel => exact ⟨k + 1, by go_num, by rw [HE.out]; go_num, hlt, by rw [HS.out]; exact HM4.out, HK4.out⟩
          case measure => simp [intOf]; omega
        · have HE := hide (show done outs (k + 1) c0 = d by rw [HD.out, if_neg h]; rfl)
          rw [decide_eq_false h]
          clear h
          go_wp2
          go_roundw
          case rel => exact ⟨k + 1, by go_num, by rw [HE.out], hlt, by rw [HS.out]; exact HM4.out, HK4.out⟩
          case measure => simp [intOf]; omega
      · obtain rfl : k = 20 := by omega
        have HB4 := hide (HB3.out.kp HKP.out fun h => by unfold Hi at h; have := HW1.out; omega)
        obtain ⟨a1, a2, a3, a4, _⟩ := HB4.out.a2
        have HKF := hide (show Kp No w wr from HK3.out.trans' HKP.out fun b hb h => by unfold Hi at h; have := HW1.out; omega)
        have HEQ := hide (HEK.out 20 (by decide))
        rw [show ((20 : Nat) : Int) = 20 from rfl]
        obtain ⟨s, hs⟩ : ∃ s, reachN outs roots = s := ⟨_, rfl⟩
        rw [hs] at HN HEQ ⊢
        clear HEK
        clear hs
        obtain ⟨d, hd⟩ : ∃ d, d = done outs 20 c0 := ⟨_, rfl⟩
        rw [← hd] at HEQ hdl ⊢
        clear hd
        go_wp2_with fail
        go_loop [10, 11] (fun n q => ∃ i : Nat, q = .int .i64 i ∧ n = .int .i64 (ones s i : Nat) ∧ i ≤ outs.length) (fun _ q => outs.length - (intOf q).toNat)
        case atStart => exact ⟨0, rfl, rfl, Nat.zero_le _⟩
        case round =>
          obtain ⟨i, rfl, rfl, hi⟩ := hrel
          have hol := ones_le s i
          by_cases hil : i < outs.length
          · have hi12 : i < 12 := by have := HL.out; omega
            have HD := hide (show ones s (i + 1) = ones s i + if bt s i = true then 1 else 0 from rfl)
            obtain ⟨o, ho⟩ : ∃ o, o = ones s i := ⟨_, rfl⟩
            rw [← ho] at HD hol ⊢
            clear ho
            go_wp2_with fail
            refine Calls.mono (bit_any s i (by have := HN.out; omega) (by omega) _) ?_
            rintro e w8 ⟨rfl, rfl⟩
            cases hb : bt s i with
            | true =>
              have HE := hide (show ones s (i + 1) = o + 1 by rw [HD.out, if_pos hb])
              clear hb
              go_wp2
              go_round
              case rel => exact ⟨i + 1, by go_num, by rw [HE.out]; go_num, hil⟩
              case measure => simp [intOf]; omega
            | false =>
              have HE := hide (show ones s (i + 1) = o by rw [HD.out, if_neg (by rw [hb]; simp)]; rfl)
              clear hb
              go_wp2
              go_round
              case rel => exact ⟨i + 1, by go_num, by rw [HE.out], hil⟩
              case measure => simp [intOf]; omega
          · obtain rfl : i = outs.length := by omega
            rw [← HEQ.out]
            have heq : ((d : Int) == (d : Int)) = true := by simp
            go_wp2
            go_ret
            exact ⟨rfl, HKF.out⟩
  · have HC := hide hc
    clear hc
    go_enter Try.func9, Try.ntmps9
    go_wp2_with fail
    refine Calls.mono (colorFact_any _) ?_
    rintro e w1 ⟨rfl, hk1⟩
    have hb1 := (Blk.new w 25 #[vo, vr]).kp hk1 id
    obtain ⟨a1, a2, a3, a4, a5⟩ := hb1.a2
    have HB1 := hide hb1
    have HK1 := hide (((Kp.refl No w).alloc (.cells #[vo, vr] 25)).trans' hk1 fun _ _ h => h)
    clear hk1 hb1
    go_wp2_with fail
    refine Calls.mono (new_bad _ _ outs roots _ (HO.out.no HK1.out) (HR.out.no HK1.out) HC.out) ?_
    rintro e w2 ⟨rfl, hk2⟩
    have HB2 := hide (HB1.out.kp hk2 id)
    have HK2 := hide (HK1.out.trans hk2)
    clear a1 a2 a3 a4 hk2
    obtain ⟨a1, a2, a3, a4, _⟩ := HB2.out.a2
    go_wp2_with fail
    refine Calls.mono (reach_bad _ _ outs roots _ (HO.out.no HK2.out) (HR.out.no HK2.out) HC.out) ?_
    rintro e w3 ⟨rfl, hk3⟩
    have HK3 := hide (HK2.out.trans hk3)
    clear hk3
    go_wp2
    go_ret
    exact ⟨rfl, HK3.out⟩
end Go.Proofs.Ytkfibfacfgiplaa
