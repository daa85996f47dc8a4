/- The law TrialSafe, walked: of every heap and every node. -/
import Derived.Test.YtkfibfacfgiplaaTrialFact
namespace Go.Proofs.Ytkfibfacfgiplaa
open Go.RowKit

theorem free_pow {outs : List (List Int)} {roots : List Int} (hok : Ok outs roots) {x : Int} (hx : Ok outs [x]) : freeN outs roots x < p2 outs.length := by
  refine Nat.lt_pow_two_of_testBit _ fun i hi => ?_
  cases e : (freeN outs roots x).testBit i with
  | false => rfl
  | true =>
    exfalso
    have := ((free_bit hok hx).1 e).1.range hx
    omega
theorem pow_le {k : Nat} (h : k ≤ 12) : p2 k ≤ 4096 := Nat.pow_le_pow_right (n := 2) (by decide) h

set_option maxRecDepth 100000 in
set_option maxHeartbeats 2000000 in
theorem trialSafe_any {F : Nat → Prop} (vo vr : Value) (outs : List (List Int)) (roots : List Int) (x : Int) (w : World) (ho : RowsIn w F vo outs) (hr : IntsIn w F vr roots) (_ : -9223372036854775808 ≤ x ∧ x ≤ 9223372036854775807) :
    Calls Try.prog 7 #[.agg #[vo, vr], .int .i64 x] w fun e w' => e = .returned (.bool true) ∧ Kp No w w' := by
  have HO := hide ho
  have HR := hide hr
  clear ho hr
  by_cases hc : chkF outs roots x = 0
  · obtain ⟨hok, hx⟩ := chkF_zero hc
    have HOK := hide hok
    have HX := hide hx
    have HL := hide hok.n12
    clear hc hok hx
    go_enter Try.func7, Try.ntmps7
    go_wp2_with fail
    refine Calls.mono (trialFact_any _) ?_
    rintro e w1 ⟨rfl, hk1⟩
    have hb1 := (Blk.new w 25 #[vo, vr]).kp hk1 id
    obtain ⟨a1, a2, a3, a4, a5⟩ := hb1.a2
    have HB1 := hide hb1
    have HK1 := hide (((Kp.refl No w).alloc (.cells #[vo, vr] 25)).trans' hk1 fun _ _ h => h)
    clear hk1 hb1
    obtain ⟨Ao, co, rfl, hco, hmo, _⟩ := RowsIn.form HO.out
    obtain ⟨Ar, cr, rfl, hcr, hmr, _⟩ := id HR.out
    go_wp2_with fail
    refine Calls.mono (free_ok _ _ outs roots x _ (HO.out.no HK1.out) (HR.out.no HK1.out) HOK.out HX.out) ?_
    rintro e w2 ⟨rfl, hk2⟩
    have HB2 := hide (HB1.out.kp hk2 id)
    have HK2 := hide (HK1.out.trans hk2)
    clear a1 a2 a3 a4 hk2
    obtain ⟨a1, a2, a3, a4, _⟩ := HB2.out.a2
    go_wp2_with fail
    refine Calls.mono (reach_ok _ _ outs roots _ (HO.out.no HK2.out) (HR.out.no HK2.out) HOK.out) ?_
    rintro e w3 ⟨rfl, hk3⟩
    have HB3 := hide (HB2.out.kp hk3 id)
    have HK3 := hide (HK2.out.trans hk3)
    clear a1 a2 a3 a4 hk3
    obtain ⟨a1, a2, a3, a4, _⟩ := HB3.out.a2
    go_wp2_with fail
    have HKx := hide (HK3.out.alloc (.cells #[.int .i64 x] 3))
    refine Calls.mono (reach_ok (F := fun _ => True) _ _ outs [x] _ ((HO.out.no HKx.out).mono fun _ _ _ => trivial) (one_blk (Blk.new _ _ _) trivial) HX.out) ?_
    rintro e w4 ⟨rfl, hk4⟩
    have HB4 := hide ((HB3.out.alloc _).kp hk4 id)
    have HK4 := hide (HKx.out.trans hk4)
    clear a1 a2 a3 a4 hk4
    obtain ⟨a1, a2, a3, a4, _⟩ := HB4.out.a2
    have HNF := hide (freeN_lt (roots := roots) HX.out)
    have HNR := hide (reachN_lt HOK.out)
    have HNP := hide (reachN_lt HX.out)
    have HPW := hide (free_pow HOK.out HX.out)
    have HSF := hide (fun (i : Nat) (h : bt (freeN outs roots x) i = true) => free_safe HOK.out HX.out h)
    have HBK := hide (fun (i : Nat) (y : Int) (hy : y ∈ adj outs (i : Int)) (h : bt (freeN outs roots x) y.toNat = true) => free_back HOK.out HX.out hy h)
    have hnf0 : ¬ ((freeN outs roots x : Nat) : Int) < 0 := by omega
    go_wp2_with fail
    refine Calls.mono (pow2_any outs.length (by have := HL.out; omega) _) ?_
    rintro e w5 ⟨rfl, rfl⟩
    have hpw := HPW.out
    have hpl := pow_le HL.out
    go_wp2_with fail
    clear hpw hpl
    have hOu : ∀ k (h : k < outs.length), ∃ b o A' c', Ao = some ⟨b, o, none⟩ ∧ w4.cell? ⟨b, o + k, none⟩ = some (.slice A' (adj outs (k : Int)).length c') ∧ IntsIn w4 F (.slice A' (adj outs (k : Int)).length c') (adj outs (k : Int)) := by
      obtain ⟨_, _, e, _, _, h⟩ := RowsIn.form (HO.out.no HK4.out)
      cases e
      intro k hk
      obtain ⟨b, o, A', c', h1, _, h2, h3⟩ := h k hk
      have hadj : adj outs (k : Int) = outs[k] := adj_eq (by simpa using hk)
      rw [← hadj] at h2 h3
      exact ⟨b, o, A', c', h1, h2, h3⟩
    have HOU := hide hOu
    clear hOu
    go_loop [12] (fun p => ∃ k : Nat, p = .int .i64 k ∧ k ≤ outs.length) (fun p => outs.length - (intOf p).toNat)
    case atStart => exact ⟨0, rfl, Nat.zero_le _⟩
    case round =>
      obtain ⟨i, rfl, hi⟩ := hrel
      by_cases hil : i < outs.length
      · obtain ⟨b, o, A', c', rfl, hrc, hri⟩ := HOU.out i hil
        have HRI := hide hri
        obtain ⟨_, _, e, hl', hm', _⟩ := hri
        cases e
        have hi12 : i < 12 := by have := HL.out; omega
        have inner : Hid True := trivial
        go_wp2_with fail
        refine Calls.mono (bit_any (freeN outs roots x) i (by have := HNF.out; omega) (by omega) _) ?_
        rintro e w6 ⟨rfl, rfl⟩
        have HDEC := hide (show bt (freeN outs roots x) i = true → bt (reachN outs roots) i = false ∧ bt (reachN outs [x]) i = true from HSF.out i)
        cases hb : bt (freeN outs roots x) i with
        | true =>
          obtain ⟨hr1, hr2⟩ := HDEC.out hb
          have HR1 := hide hr1
          have HR2 := hide hr2
          have HFB := hide hb
          clear hr1 hr2 hb
          go_wp2_with fail
          refine Calls.mono (bit_any (reachN outs roots) i (by have := HNR.out; omega) (by omega) _) ?_
          rw [HR1.out]
          rintro e w6 ⟨rfl, rfl⟩
          go_wp2_with fail
          refine Calls.mono (bit_any (reachN outs [x]) i (by have := HNP.out; omega) (by omega) _) ?_
          rw [HR2.out]
          rintro e w6 ⟨rfl, rfl⟩
          go_wp2_with fail
          go_loop [13] (fun p => ∃ k : Nat, p = .int .i64 k ∧ k ≤ (adj outs (i : Int)).length) (fun p => (adj outs (i : Int)).length - (intOf p).toNat)
          case atStart => exact ⟨0, rfl, Nat.zero_le _⟩
          case round =>
            obtain ⟨j, rfl, hj⟩ := hrel
            by_cases hjl : j < (adj outs (i : Int)).length
            · obtain ⟨_, _, e, _, _, hcell⟩ := HRI.out
              cases e
              obtain ⟨b', o', rfl, _, hc⟩ := hcell j hjl
              clear hcell
              go_wp2_with fail
              refine Calls.mono (bit_int (freeN outs roots x) (adj outs (i : Int))[j] (by have := HNF.out; omega) (HOK.out.adjIn _ (List.getElem_mem hjl)).1 (by have := (HOK.out.adjIn _ (List.getElem_mem hjl)).2; have := HL.out; omega) _) ?_
              rintro e w6 ⟨rfl, rfl⟩
              cases hb2 : bt (freeN outs roots x) (adj outs (i : Int))[j].toNat with
              | true =>
                clear hb2
                go_wp2_with fail
                refine Calls.mono (bit_any (freeN outs roots x) i (by have := HNF.out; omega) (by omega) _) ?_
                rw [HFB.out]
                rintro e w6 ⟨rfl, rfl⟩
                go_wp2
                go_round
                case rel => exact ⟨j + 1, by go_num, hjl⟩
                case measure => simp [intOf]; omega
              | false =>
                clear hb2
                go_wp2
                go_round
                case rel => exact ⟨j + 1, by go_num, hjl⟩
                case measure => simp [intOf]; omega
            · obtain rfl : j = (adj outs (i : Int)).length := by omega
              go_wp2
              go_round
              case rel => exact ⟨i + 1, by go_num, hil⟩
              case measure => simp [intOf]; omega
        | false =>
          have HFB := hide hb
          clear hb
          go_wp2_with fail
          go_loop [13] (fun p => ∃ k : Nat, p = .int .i64 k ∧ k ≤ (adj outs (i : Int)).length) (fun p => (adj outs (i : Int)).length - (intOf p).toNat)
          case atStart => exact ⟨0, rfl, Nat.zero_le _⟩
          case round =>
            obtain ⟨j, rfl, hj⟩ := hrel
            by_cases hjl : j < (adj outs (i : Int)).length
            · obtain ⟨_, _, e, _, _, hcell⟩ := HRI.out
              cases e
              obtain ⟨b', o', rfl, _, hc⟩ := hcell j hjl
              clear hcell
              have HN2 := hide (show bt (freeN outs roots x) (adj outs (i : Int))[j].toNat = false by
                cases h : bt (freeN outs roots x) (adj outs (i : Int))[j].toNat with
                | false => rfl
                | true => exact absurd (HBK.out i _ (List.getElem_mem hjl) h) (by rw [HFB.out]; simp))
              go_wp2_with fail
              refine Calls.mono (bit_int (freeN outs roots x) (adj outs (i : Int))[j] (by have := HNF.out; omega) (HOK.out.adjIn _ (List.getElem_mem hjl)).1 (by have := (HOK.out.adjIn _ (List.getElem_mem hjl)).2; have := HL.out; omega) _) ?_
              rw [HN2.out]
              rintro e w6 ⟨rfl, rfl⟩
              go_wp2
              go_round
              case rel => exact ⟨j + 1, by go_num, hjl⟩
              case measure => simp [intOf]; omega
            · obtain rfl : j = (adj outs (i : Int)).length := by omega
              go_wp2
              go_round
              case rel => exact ⟨i + 1, by go_num, hil⟩
              case measure => simp [intOf]; omega
      · obtain rfl : i = outs.length := by omega
        go_wp2
        go_ret
        exact ⟨rfl, HK4.out⟩
  · have HC := hide hc
    clear hc
    go_enter Try.func7, Try.ntmps7
    go_wp2_with fail
    refine Calls.mono (trialFact_any _) ?_
    rintro e w1 ⟨rfl, hk1⟩
    have hb1 := (Blk.new w 25 #[vo, vr]).kp hk1 id
    obtain ⟨a1, a2, a3, a4, a5⟩ := hb1.a2
    have HB1 := hide hb1
    have HK1 := hide (((Kp.refl No w).alloc (.cells #[vo, vr] 25)).trans' hk1 fun _ _ h => h)
    clear hk1 hb1
    go_wp2_with fail
    refine Calls.mono (free_bad _ _ outs roots x _ (HO.out.no HK1.out) (HR.out.no HK1.out) HC.out) ?_
    rintro e w2 ⟨rfl, hk2⟩
    have HB2 := hide (HB1.out.kp hk2 id)
    have HK2 := hide (HK1.out.trans hk2)
    clear a1 a2 a3 a4 hk2
    obtain ⟨a1, a2, a3, a4, _⟩ := HB2.out.a2
    go_wp2_with fail
    by_cases hc : chk outs roots = 0
    · refine Calls.mono (reach_ok _ _ outs roots _ (HO.out.no HK2.out) (HR.out.no HK2.out) (ok_of_chk hc)) ?_
      clear hc
      rintro e w3 ⟨rfl, hk3⟩
      have HK3 := hide (HK2.out.trans hk3)
      clear hk3
      go_wp2
      go_ret
      exact ⟨rfl, HK3.out⟩
    · refine Calls.mono (reach_bad _ _ outs roots _ (HO.out.no HK2.out) (HR.out.no HK2.out) hc) ?_
      clear hc
      rintro e w3 ⟨rfl, hk3⟩
      have HK3 := hide (HK2.out.trans hk3)
      clear hk3
      go_wp2
      go_ret
      exact ⟨rfl, HK3.out⟩
end Go.Proofs.Ytkfibfacfgiplaa
