/- The law SweepSays, walked: of all heaps. -/
import Derived.Test.YtgbdjidjbcbhjaaDoorCheneySays
import Derived.Test.YtgbdjidjbcbhjaaDoorRefDeep
import Derived.Test.YtgbdjidjbcbhjaaDoorRefRise
import Derived.Test.YtgbdjidjbcbhjaaDoorTurn
import Derived.Test.YtgbdjidjbcbhjaaDoorAnew
namespace Go.Proofs.YtgbdjidjbcbhjaaDoor
open Go.RowKit
set_option linter.unusedSimpArgs false

theorem ris_marks {outs : List (List Int)} {roots : List Int} (hok : Ok outs roots) : risN (marksN outs roots) = leftL (reachN outs roots) :=
  asc_eq (ris_asc (marks_vd hok).nodup) (bits_asc _ _) fun x => mem_ris.trans ((mem_marks hok).trans (mem_left hok).symm)

set_option maxRecDepth 100000 in
set_option maxHeartbeats 8000000 in
theorem sweepSays_any {F : Nat → Prop} (vo vr : Value) (outs : List (List Int)) (roots : List Int) (w : World) (ho : RowsIn w F vo outs) (hr : IntsIn w F vr roots) (hh : Handle w) :
    Calls Tryd.prog 8 #[.agg #[vo, vr]] w fun e w' => e = .returned (.bool true) ∧ Kp No w w' := by
  have HO := hide ho
  have HR := hide hr
  have HH := hide hh
  clear ho hr hh
  obtain ⟨Ao, co, rfl, hco, hmo, _⟩ := RowsIn.form HO.out
  obtain ⟨Ar, cr, rfl, hcr, hmr, _⟩ := id HR.out
  go_enter Tryd.func8, Tryd.ntmps8
  go_wp2_with fail
  refine Calls.mono (rheap_any _ _ outs roots _ (HO.out.no ((Kp.refl No w).alloc _)) (HR.out.no ((Kp.refl No w).alloc _))) ?_
  rintro e w1 ⟨rfl, hk1⟩
  have HB1 := hide ((Blk.new w 25 #[.slice Ao outs.length co, .slice Ar roots.length cr]).kp hk1 id)
  have HK1 := hide (((Kp.refl No w).alloc (.cells #[.slice Ao outs.length co, .slice Ar roots.length cr] 25)).trans hk1)
  have hw1 := HB1.out.lt
  clear hk1
  by_cases hc : chk outs roots = 0
  · have HOK := hide (ok_of_chk hc)
    have HV := hide (left_vd (ok_of_chk hc))
    have HM := hide (fun x => mem_left (ok_of_chk hc) (x := x))
    have HMV := hide (marks_vd (ok_of_chk hc))
    have HMR := hide (ris_marks (ok_of_chk hc))
    have HL12 := hide (ok_of_chk hc).n12
    rw [hc, show ((0 : Nat) : Int) = 0 from rfl]
    clear hc
    have HT1 := hide (Blk.new w1 25 #[.slice none 0 0, .slice none 0 0])
    obtain ⟨a1, a2, a3, a4, a5⟩ := (HB1.out.alloc (.cells #[.slice none 0 0, .slice none 0 0] 25)).a2
    go_wp2_with fail
    refine Calls.mono (rmarks_any _ _ outs roots _ (HO.out.no (HK1.out.alloc _)) (HR.out.no (HK1.out.alloc _)) HOK.out) ?_
    rintro e w2 ⟨Af, cf, rfl, hi2, hk2⟩
    have HK2 := hide ((HK1.out.alloc (.cells #[.slice none 0 0, .slice none 0 0] 25)).trans hk2)
    have HB2 := hide ((HB1.out.alloc (.cells #[.slice none 0 0, .slice none 0 0] 25)).kp hk2 id)
    have HT2 := hide (HT1.out.kp hk2 id)
    have HI2 := hide (hi2.mono (F' := fun b => b ≠ w1.heap.size) fun b h1 h2 => by unfold Hi at h2; simp at h2; omega)
    clear hk2 hi2 a1 a2 a3 a4 a5
    obtain ⟨a1, a2, a3, a4, a5⟩ := HB2.out.a2
    go_wp2_with fail
    refine Calls.mono (rising_any _ (marksN outs roots) _ HI2.out (by have := HMV.out.len; have := HL12.out; omega)) ?_
    rw [HMR.out]
    rintro e w3 ⟨Ag, cg, rfl, hi3, hk3⟩
    have HK3 := hide (HK2.out.trans hk3)
    have HB3 := hide (HB2.out.kp hk3 id)
    have HT3 := hide (HT2.out.kp hk3 id)
    have HI3 := hide (HI2.out.no hk3)
    have HN3 := hide (hi3.mono (F' := fun b => b ≠ w1.heap.size) fun b h1 h2 => by unfold Hi at h2; have := HT2.out.lt; omega)
    clear hk3 hi3 a1 a2 a3 a4 a5
    obtain ⟨a1, a2, a3, a4, a5⟩ := HB3.out.a2
    obtain ⟨b1, b2, b3, b4, b5⟩ := HT3.out.a2
    go_wp2_with fail
    refine Calls.mono (ranew_any _ _ _ outs roots (leftL (reachN outs roots)) _ (HO.out.no HK3.out) (HR.out.no HK3.out) HOK.out HN3.out HV.out (fun x hx => (HM.out x).2 (.root hx)) (fun x hx y hy => (HM.out y).2 (.next ((HM.out x).1 hx) hy))) ?_
    rw [show rowsOf outs (leftL (reachN outs roots)) (leftL (reachN outs roots)).length = leftO outs roots from rfl, show renum (leftL (reachN outs roots)) roots = leftR outs roots from rfl]
    rintro e w4 ⟨vo', vr', rfl, ho', hr', hk4⟩
    have HK4 := hide (HK3.out.trans hk4)
    have HB4 := hide (HB3.out.kp hk4 id)
    have HT4 := hide (HT3.out.kp hk4 id)
    have HI4 := hide (HI3.out.no hk4)
    have HN4 := hide (HN3.out.no hk4)
    have HO4 := hide (ho'.mono (F' := fun b => b ≠ w1.heap.size) fun b h1 h2 => by unfold Hi at h2; have := HT3.out.lt; omega)
    have HR4 := hide (hr'.mono (F' := fun b => b ≠ w1.heap.size) fun b h1 h2 => by unfold Hi at h2; have := HT3.out.lt; omega)
    obtain ⟨Ao', co', rfl, _⟩ := RowsIn.form ho'
    obtain ⟨Ar', cr', rfl, _⟩ := id hr'
    clear hk4 ho' hr' a1 a2 a3 a4 a5 b1 b2 b3 b4 b5
    obtain ⟨a1, a2, a3, a4, a5⟩ := HB4.out.a2
    obtain ⟨b1, b2, b3, b4, b5⟩ := HT4.out.a2
    go_wp2_with fail
    obtain ⟨w5, hw5⟩ : ∃ w5, (w4.setCell ⟨w1.heap.size, 0, none⟩ (.slice Ao' (leftO outs roots).length co')).setCell ⟨w1.heap.size, 1, none⟩ (.slice Ar' (leftR outs roots).length cr') = w5 := ⟨_, rfl⟩
    have HKX := hide (show Kp (At w1.heap.size) w4 w5 by rw [← hw5]; exact (kp_set _ _ _ _).trans (kp_set _ _ _ _))
    have HT5 := hide (show Blk w5 w1.heap.size 25 #[.slice Ao' (leftO outs roots).length co', .slice Ar' (leftR outs roots).length cr'] by rw [← hw5]; exact (HT4.out.set_ 0 _).set_ 1 _)
    rw [hw5]
    clear hw5 a1 a2 a3 a4 a5 b1 b2 b3 b4 b5
    have hfar : ∀ b, b ≠ w1.heap.size → ¬ At w1.heap.size b := fun b hb e => hb e
    have HO5 := hide (HO4.out.kp HKX.out hfar)
    have HR5 := hide (HR4.out.kp HKX.out hfar)
    have HI5 := hide (HI4.out.kp HKX.out hfar)
    have HN5 := hide (HN4.out.kp HKX.out hfar)
    have HB5 := hide (HB4.out.kp HKX.out fun e => by unfold At at e; omega)
    have HK5 := hide (show Kp No w w5 from HK4.out.trans' HKX.out fun b hb e => by unfold At at e; omega)
    clear hfar
    obtain ⟨a1, a2, a3, a4, a5⟩ := HB5.out.a2
    go_wp2_with fail
    refine Calls.mono (mark_ok _ _ outs roots _ (HO.out.no HK5.out) (HR.out.no HK5.out) HOK.out) ?_
    rintro e w6 ⟨v6, rfl, hv6, hk6⟩
    obtain ⟨A6, c6, rfl, _⟩ := id hv6
    have HV6 := hide hv6
    have HK6 := hide (HK5.out.trans hk6)
    have HB6 := hide (HB5.out.kp hk6 id)
    have HT6 := hide (HT5.out.kp hk6 id)
    have HO6 := hide (HO5.out.no hk6)
    have HR6 := hide (HR5.out.no hk6)
    have HI6 := hide (HI5.out.no hk6)
    have HN6 := hide (HN5.out.no hk6)
    clear hv6 hk6 a1 a2 a3 a4 a5
    obtain ⟨a1, a2, a3, a4, a5⟩ := HB6.out.a2
    go_wp2_with fail
    refine Calls.mono (same_nil _ (HH.out.no HK6.out)) ?_
    rintro e w7 ⟨rfl, hk7⟩
    have HK7 := hide (HK6.out.trans hk7)
    have HB7 := hide (HB6.out.kp hk7 id)
    have HT7 := hide (HT6.out.kp hk7 id)
    have HV7 := hide (HV6.out.no hk7)
    have HO7 := hide (HO6.out.no hk7)
    have HR7 := hide (HR6.out.no hk7)
    have HI7 := hide (HI6.out.no hk7)
    have HN7 := hide (HN6.out.no hk7)
    clear hk7 a1 a2 a3 a4 a5
    go_wp2_with fail
    refine Calls.mono (ints_any _ _ (marksN outs roots) (marksN outs roots) _ HV7.out HI7.out) ?_
    rw [eqB_self]
    rintro e w8 ⟨rfl, n8, rfl⟩
    obtain ⟨a1, a2, a3, a4, a5⟩ := (HB7.out.drewN n8).a2
    go_wp2_with fail
    refine Calls.mono (turn_ok _ _ outs roots _ ((HO.out.no HK7.out).no ((Kp.refl No _).drewN n8)) ((HR.out.no HK7.out).no ((Kp.refl No _).drewN n8)) HOK.out) ?_
    rintro e w9 ⟨v9, o9, rfl, hv9, ho9, hk9⟩
    obtain ⟨A9, c9, rfl, _⟩ := id hv9
    obtain ⟨A10, c10, rfl, _⟩ := RowsIn.form ho9
    have HKD := hide ((Kp.refl No w7).drewN n8 |>.trans hk9)
    have HV9 := hide hv9
    have HO9 := hide ho9
    have HK9 := hide (HK7.out.trans HKD.out)
    have HB9 := hide (HB7.out.kp HKD.out id)
    have HT9 := hide (HT7.out.kp HKD.out id)
    have HP9 := hide (HO7.out.no HKD.out)
    have HR9 := hide (HR7.out.no HKD.out)
    have HI9 := hide (HI7.out.no HKD.out)
    have HN9 := hide (HN7.out.no HKD.out)
    clear hv9 ho9 hk9 a1 a2 a3 a4 a5
    go_wp2_with fail
    refine Calls.mono (same_nil _ (HH.out.no HK9.out)) ?_
    rintro e w10 ⟨rfl, hk10⟩
    have HK10 := hide (HK9.out.trans hk10)
    have HB10 := hide (HB9.out.kp hk10 id)
    have HT10 := hide (HT9.out.kp hk10 id)
    have HV10 := hide (HV9.out.no hk10)
    have HO10 := hide (HO9.out.no hk10)
    have HP10 := hide (HP9.out.no hk10)
    have HR10 := hide (HR9.out.no hk10)
    have HI10 := hide (HI9.out.no hk10)
    have HN10 := hide (HN9.out.no hk10)
    clear hk10
    have E2 := hide (show eqBB outs outs = true by simp [eqBB])
    go_wp2_with fail
    refine Calls.mono (ints_any _ _ (marksN outs roots) (marksN outs roots) _ HV10.out HI10.out) ?_
    rw [eqB_self]
    rintro e w11 ⟨rfl, n11, rfl⟩
    go_wp2_with fail
    refine Calls.mono (rows_any _ _ outs outs _ (HO10.out.no ((Kp.refl No _).drewN n11)) ((HO.out.no HK10.out).no ((Kp.refl No _).drewN n11))) ?_
    rw [E2.out]
    rintro e w12 ⟨rfl, n12, rfl⟩
    obtain ⟨a1, a2, a3, a4, a5⟩ := (HB10.out.drewN (n11 + n12)).a2
    go_wp2_with fail
    have HKE := hide ((Kp.refl No w10).drewN (n11 + n12))
    refine Calls.mono (sweep_ok _ _ outs roots _ ((HO.out.no HK10.out).no HKE.out) ((HR.out.no HK10.out).no HKE.out) HOK.out) ?_
    rintro e w13 ⟨v13, o13, r13, rfl, hv13, ho13, hr13, hk13⟩
    obtain ⟨A13, c13, rfl, _⟩ := id hv13
    obtain ⟨A14, c14, rfl, _⟩ := RowsIn.form ho13
    obtain ⟨A15, c15, rfl, _⟩ := id hr13
    have HKF := hide (HKE.out.trans hk13)
    have HK13 := hide (HK10.out.trans HKF.out)
    have HT13 := hide (HT10.out.kp HKF.out id)
    have HV13 := hide hv13
    have HO13 := hide ho13
    have HR13 := hide hr13
    have HP13 := hide (HP10.out.no HKF.out)
    have HQ13 := hide (HR10.out.no HKF.out)
    have HN13 := hide (HN10.out.no HKF.out)
    clear hv13 ho13 hr13 hk13 a1 a2 a3 a4 a5
    go_wp2_with fail
    have HX13 := hide (Blk.new w13 25 #[.slice A14 (leftO outs roots).length c14, .slice A15 (leftR outs roots).length c15])
    refine Calls.mono (same_nil _ (HH.out.no (HK13.out.alloc _))) ?_
    rintro e w14 ⟨rfl, hk14⟩
    have HKG := hide (((Kp.refl No w13).alloc (.cells #[.slice A14 (leftO outs roots).length c14, .slice A15 (leftR outs roots).length c15] 25)).trans hk14)
    have HX14 := hide (HX13.out.kp hk14 id)
    have HT14 := hide (HT13.out.kp HKG.out id)
    clear hk14
    obtain ⟨a1, a2, a3, a4, a5⟩ := HX14.out.a2
    obtain ⟨b1, b2, b3, b4, b5⟩ := HT14.out.a2
    go_wp2_with fail
    refine Calls.mono (ints_any _ _ (leftL (reachN outs roots)) (leftL (reachN outs roots)) _ (HV13.out.no HKG.out) (HN13.out.no HKG.out)) ?_
    rw [eqB_self]
    rintro e w15 ⟨rfl, n15, rfl⟩
    have HS := hide (show eqHB (leftO outs roots) (leftO outs roots) (leftR outs roots) (leftR outs roots) = true from eqHB_self _ _)
    have HKH := hide (HKG.out.drewN n15)
    go_wp2_with fail
    refine Calls.mono (heaps_any _ _ _ _ (leftO outs roots) (leftO outs roots) (leftR outs roots) (leftR outs roots) _ (HO13.out.no HKH.out) (HR13.out.no HKH.out) (HP13.out.no HKH.out) (HQ13.out.no HKH.out)) ?_
    rw [HS.out]
    rintro e w16 ⟨rfl, hk16⟩
    have HK16 := hide ((HK13.out.trans HKH.out).trans hk16)
    clear hk16
    go_wp2
    go_ret
    exact ⟨rfl, HK16.out⟩
  · have HBAD := hide hc
    obtain ⟨c, hcc⟩ : ∃ c, chk outs roots = c := ⟨_, rfl⟩
    have HCC := hide hcc
    have HSE := hide (fun (w : World) (h : Handle w) => show Calls Tryd.prog 13 #[.iface 84 (.int .i64 c), .int .i64 (c : Int)] w fun r w' => r = .returned (.bool true) ∧ Kp No w w' by
      have := same_err c (by have := chk_le outs roots; omega) w h
      rwa [errV_pos (by rw [← hcc]; exact hc)] at this)
    rw [hcc] at hc ⊢
    have hc0 : ¬ ((c : Int) = 0) := by omega
    clear hcc hc
    have HT1 := hide (Blk.new w1 25 #[.slice none 0 0, .slice none 0 0])
    obtain ⟨a1, a2, a3, a4, a5⟩ := (HB1.out.alloc (.cells #[.slice none 0 0, .slice none 0 0] 25)).a2
    go_wp2_with fail
    refine Calls.mono (mark_bad _ _ outs roots _ (HO.out.no (HK1.out.alloc _)) (HR.out.no (HK1.out.alloc _)) HBAD.out) ?_
    rw [HCC.out]
    rintro e w6 ⟨rfl, hk6⟩
    have HKA := hide (((Kp.refl No w1).alloc (.cells #[.slice none 0 0, .slice none 0 0] 25)).trans hk6)
    have HK6 := hide (HK1.out.trans HKA.out)
    have HB6 := hide (HB1.out.kp HKA.out id)
    have HT6 := hide (HT1.out.kp hk6 id)
    clear hk6 a1 a2 a3 a4 a5
    go_wp2_with fail
    refine Calls.mono (HSE.out _ (HH.out.no HK6.out)) ?_
    rintro e w7 ⟨rfl, hk7⟩
    have HK7 := hide (HK6.out.trans hk7)
    have HB7 := hide (HB6.out.kp hk7 id)
    have HT7 := hide (HT6.out.kp hk7 id)
    clear hk7
    go_wp2_with fail
    refine Calls.mono (ints_any (F := No) (F' := No) _ _ [] [] _ (.nil_ _ _) (.nil_ _ _)) ?_
    rw [eqB_self]
    rintro e w8 ⟨rfl, n8, rfl⟩
    obtain ⟨a1, a2, a3, a4, a5⟩ := (HB7.out.drewN n8).a2
    go_wp2_with fail
    refine Calls.mono (turn_bad _ _ outs roots _ ((HO.out.no HK7.out).no ((Kp.refl No _).drewN n8)) ((HR.out.no HK7.out).no ((Kp.refl No _).drewN n8)) HBAD.out) ?_
    rw [HCC.out]
    rintro e w9 ⟨rfl, hk9⟩
    have HKD := hide ((Kp.refl No w7).drewN n8 |>.trans hk9)
    have HK9 := hide (HK7.out.trans HKD.out)
    have HB9 := hide (HB7.out.kp HKD.out id)
    have HT9 := hide (HT7.out.kp HKD.out id)
    clear hk9 a1 a2 a3 a4 a5
    go_wp2_with fail
    refine Calls.mono (HSE.out _ (HH.out.no HK9.out)) ?_
    rintro e w10 ⟨rfl, hk10⟩
    have HK10 := hide (HK9.out.trans hk10)
    have HB10 := hide (HB9.out.kp hk10 id)
    have HT10 := hide (HT9.out.kp hk10 id)
    clear hk10
    have E2 := hide (show eqBB [] [] = true by simp [eqBB])
    go_wp2_with fail
    refine Calls.mono (ints_any (F := No) (F' := No) _ _ [] [] _ (.nil_ _ _) (.nil_ _ _)) ?_
    rw [eqB_self]
    rintro e w11 ⟨rfl, n11, rfl⟩
    go_wp2_with fail
    refine Calls.mono (rows_any (F := No) (F' := No) _ _ [] [] _ (.nil_ _ _) (.nil_ _ _)) ?_
    rw [E2.out]
    rintro e w12 ⟨rfl, n12, rfl⟩
    obtain ⟨a1, a2, a3, a4, a5⟩ := (HB10.out.drewN (n11 + n12)).a2
    go_wp2_with fail
    have HKE := hide ((Kp.refl No w10).drewN (n11 + n12))
    refine Calls.mono (sweep_bad _ _ outs roots _ ((HO.out.no HK10.out).no HKE.out) ((HR.out.no HK10.out).no HKE.out) HBAD.out) ?_
    rw [HCC.out]
    rintro e w13 ⟨rfl, hk13⟩
    have HKF := hide (HKE.out.trans hk13)
    have HK13 := hide (HK10.out.trans HKF.out)
    have HT13 := hide (HT10.out.kp HKF.out id)
    clear hk13 a1 a2 a3 a4 a5
    go_wp2_with fail
    have HX13 := hide (Blk.new w13 25 #[.slice none 0 0, .slice none 0 0])
    refine Calls.mono (HSE.out _ (HH.out.no (HK13.out.alloc _))) ?_
    rintro e w14 ⟨rfl, hk14⟩
    have HKG := hide (((Kp.refl No w13).alloc (.cells #[.slice none 0 0, .slice none 0 0] 25)).trans hk14)
    have HX14 := hide (HX13.out.kp hk14 id)
    have HT14 := hide (HT13.out.kp HKG.out id)
    clear hk14
    obtain ⟨a1, a2, a3, a4, a5⟩ := HX14.out.a2
    obtain ⟨b1, b2, b3, b4, b5⟩ := HT14.out.a2
    go_wp2_with fail
    refine Calls.mono (ints_any (F := No) (F' := No) _ _ [] [] _ (.nil_ _ _) (.nil_ _ _)) ?_
    rw [eqB_self]
    rintro e w15 ⟨rfl, n15, rfl⟩
    have HS := hide (show eqHB [] [] [] [] = true from eqHB_self _ _)
    have HKH := hide (HKG.out.drewN n15)
    go_wp2_with fail
    refine Calls.mono (heaps_any (F := No) (F' := No) _ _ _ _ [] [] [] [] _ (.nil_ _ _) (.nil_ _ _) (.nil_ _ _) (.nil_ _ _)) ?_
    rw [HS.out]
    rintro e w16 ⟨rfl, hk16⟩
    have HK16 := hide ((HK13.out.trans HKH.out).trans hk16)
    clear hk16
    go_wp2
    go_ret
    exact ⟨rfl, HK16.out⟩
end Go.Proofs.YtgbdjidjbcbhjaaDoor
