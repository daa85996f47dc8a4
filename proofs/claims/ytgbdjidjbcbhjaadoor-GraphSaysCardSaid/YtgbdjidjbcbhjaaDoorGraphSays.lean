/- The law GraphSays, walked: of all heaps. -/
import Derived.Test.YtgbdjidjbcbhjaaDoorRefRounds
import Derived.Test.YtgbdjidjbcbhjaaDoorCheneySays
import Derived.Test.YtgbdjidjbcbhjaaDoorRounds
namespace Go.Proofs.YtgbdjidjbcbhjaaDoor
open Go.RowKit
set_option linter.unusedSimpArgs false

set_option maxRecDepth 100000 in
set_option maxHeartbeats 4000000 in
theorem graphSays_any {F : Nat → Prop} (vo vr : Value) (outs : List (List Int)) (roots : List Int) (w : World) (ho : RowsIn w F vo outs) (hr : IntsIn w F vr roots) (hh : Handle w) :
    Calls Tryd.prog 4 #[.agg #[vo, vr]] w fun e w' => e = .returned (.bool true) ∧ Kp No w w' := by
  have HO := hide ho
  have HR := hide hr
  have HH := hide hh
  clear ho hr hh
  go_enter Tryd.func4, Tryd.ntmps4
  go_wp2_with fail
  refine Calls.mono (rheap_any _ _ outs roots _ (HO.out.no ((Kp.refl No w).alloc _)) (HR.out.no ((Kp.refl No w).alloc _))) ?_
  rintro e w1 ⟨rfl, hk1⟩
  have HB1 := hide ((Blk.new w 25 #[vo, vr]).kp hk1 id)
  have HK1 := hide (((Kp.refl No w).alloc (.cells #[vo, vr] 25)).trans hk1)
  clear hk1
  obtain ⟨a1, a2, a3, a4, a5⟩ := HB1.out.a2
  obtain ⟨c, hcc⟩ : ∃ c, chk outs roots = c := ⟨_, rfl⟩
  have HCC := hide hcc
  have HSE := hide (fun (w : World) (h : Handle w) => same_err c (by have := chk_le outs roots; omega) w h)
  rw [hcc]
  go_wp2_with fail
  refine Calls.mono (check_any _ _ outs roots _ (HO.out.no HK1.out) (HR.out.no HK1.out)) ?_
  rw [hcc]
  rintro e w2 ⟨rfl, hk2⟩
  have HK2 := hide (HK1.out.trans hk2)
  have HB2 := hide (HB1.out.kp hk2 id)
  obtain ⟨ev, hev⟩ : ∃ ev, errV c = ev := ⟨_, rfl⟩
  have HEV := hide hev
  rw [hev] at HSE ⊢
  clear hk2 a1 a2 a3 a4 a5 hev hcc
  go_wp2_with fail
  refine Calls.mono (HSE.out _ (HH.out.no HK2.out)) ?_
  rintro e w3 ⟨rfl, hk3⟩
  have HK3 := hide (HK2.out.trans hk3)
  have HB3 := hide (HB2.out.kp hk3 id)
  clear hk3
  obtain ⟨a1, a2, a3, a4, a5⟩ := HB3.out.a2
  by_cases hc : c = 0
  · subst hc
    have HOK := hide (ok_of_chk HCC.out)
    have HR12 := hide (ok_of_chk HCC.out).r12
    have HRG := hide (fun (x : Int) (hx : x ∈ order outs roots) => show 0 ≤ x ∧ x < 12 by have := order_range (ok_of_chk HCC.out) x hx; have := (ok_of_chk HCC.out).n12; omega)
    have HL12 := hide (Nat.le_trans (order_length (ok_of_chk HCC.out)) (ok_of_chk HCC.out).n12)
    have HS1 := hide (reach_set (ok_of_chk HCC.out))
    have HS2 := hide (roundsL_set (ok_of_chk HCC.out))
    rw [show ((0 : Nat) : Int) = 0 from rfl] at HSE ⊢
    have hv : ev = .nilIface := HEV.out.symm
    subst hv
    go_wp2_with fail
    refine Calls.mono (from_any _ _ outs roots _ (HO.out.no HK3.out) (HR.out.no HK3.out) HOK.out.fwd_ (by have := HR12.out; omega)) ?_
    rw [order_fwd]
    rintro e w4 ⟨A4, c4, rfl, hi4, hk4⟩
    have HI4 := hide hi4
    have HK4 := hide (HK3.out.trans hk4)
    have HB4 := hide (HB3.out.kp hk4 id)
    clear hk4 hi4 a1 a2 a3 a4 a5
    obtain ⟨a1, a2, a3, a4, a5⟩ := HB4.out.a2
    go_wp2_with fail
    refine Calls.mono (set_any _ (order outs roots) _ HI4.out (by have := HL12.out; omega) HRG.out) ?_
    rw [HS1.out]
    rintro e w5 ⟨rfl, rfl⟩
    go_wp2_with fail
    refine Calls.mono (rrounds_any _ _ outs roots _ (HO.out.no HK4.out) (HR.out.no HK4.out) HOK.out) ?_
    rw [HS2.out]
    rintro e w6 ⟨rfl, hk6⟩
    have HK6 := hide (HK4.out.trans hk6)
    have HB6 := hide (HB4.out.kp hk6 id)
    clear hk6 a1 a2 a3 a4 a5
    obtain ⟨a1, a2, a3, a4, a5⟩ := HB6.out.a2
    go_wp2_with fail
    refine Calls.mono (reach_ok _ _ outs roots _ (HO.out.no HK6.out) (HR.out.no HK6.out) HOK.out) ?_
    rintro e w7 ⟨rfl, hk7⟩
    have HK7 := hide (HK6.out.trans hk7)
    have HB7 := hide (HB6.out.kp hk7 id)
    clear hk7 a1 a2 a3 a4 a5
    go_wp2_with fail
    refine Calls.mono (HSE.out _ (HH.out.no HK7.out)) ?_
    rintro e w8 ⟨rfl, hk8⟩
    have HK8 := hide (HK7.out.trans hk8)
    have HB8 := hide (HB7.out.kp hk8 id)
    clear hk8
    obtain ⟨a1, a2, a3, a4, a5⟩ := HB8.out.a2
    go_wp2_with fail
    refine Calls.mono (rounds_ok _ _ outs roots _ (HO.out.no HK8.out) (HR.out.no HK8.out) HOK.out) ?_
    rintro e w9 ⟨rfl, hk9⟩
    have HK9 := hide (HK8.out.trans hk9)
    clear hk9 a1 a2 a3 a4 a5
    go_wp2_with fail
    refine Calls.mono (HSE.out _ (HH.out.no HK9.out)) ?_
    rintro e w10 ⟨rfl, hk10⟩
    have HK10 := hide (HK9.out.trans hk10)
    clear hk10
    go_wp2
    go_ret
    exact ⟨by simp, HK10.out⟩
  · have HBAD := hide (show chk outs roots ≠ 0 by rw [HCC.out]; exact hc)
    have hc0 : ¬ ((c : Int) = 0) := by omega
    have hv : ev = .iface 84 (.int .i64 c) := by rw [← HEV.out, errV_pos hc]
    subst hv
    clear hc
    go_wp2_with fail
    refine Calls.mono (reach_bad _ _ outs roots _ (HO.out.no HK3.out) (HR.out.no HK3.out) HBAD.out) ?_
    rw [HCC.out]
    rintro e w7 ⟨rfl, hk7⟩
    have HK7 := hide (HK3.out.trans hk7)
    have HB7 := hide (HB3.out.kp hk7 id)
    clear hk7 a1 a2 a3 a4 a5
    go_wp2_with fail
    refine Calls.mono (HSE.out _ (HH.out.no HK7.out)) ?_
    rintro e w8 ⟨rfl, hk8⟩
    have HK8 := hide (HK7.out.trans hk8)
    have HB8 := hide (HB7.out.kp hk8 id)
    clear hk8
    obtain ⟨a1, a2, a3, a4, a5⟩ := HB8.out.a2
    go_wp2_with fail
    refine Calls.mono (rounds_bad _ _ outs roots _ (HO.out.no HK8.out) (HR.out.no HK8.out) HBAD.out) ?_
    rw [HCC.out]
    rintro e w9 ⟨rfl, hk9⟩
    have HK9 := hide (HK8.out.trans hk9)
    clear hk9 a1 a2 a3 a4 a5
    go_wp2_with fail
    refine Calls.mono (HSE.out _ (HH.out.no HK9.out)) ?_
    rintro e w10 ⟨rfl, hk10⟩
    have HK10 := hide (HK9.out.trans hk10)
    clear hk10
    go_wp2
    go_ret
    exact ⟨by simp, HK10.out⟩
end Go.Proofs.YtgbdjidjbcbhjaaDoor
