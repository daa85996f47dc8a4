/- The law CheneySays, walked: of all heaps. -/
import Derived.Test.YtgbdjidjbcbhjaaDoorRefAnew
import Derived.Test.YtgbdjidjbcbhjaaDoorAs
namespace Go.Proofs.YtgbdjidjbcbhjaaDoor
open Go.RowKit
set_option linter.unusedSimpArgs false

theorem errV_zero : errV 0 = .nilIface := rfl
theorem same_err (k : Nat) (hk : k ≤ 100) (w : World) (hh : Handle w) : Calls Tryd.prog 13 #[errV k, .int .i64 (k : Int)] w fun r w' => r = .returned (.bool true) ∧ Kp No w w' :=
  (error_any k (k : Int) w hh hk).mono fun _ _ h => ⟨h.1.trans (ret_bool (decide_eq_true rfl)), h.2⟩
theorem same_nil (w : World) (hh : Handle w) : Calls Tryd.prog 13 #[.nilIface, .int .i64 0] w fun r w' => r = .returned (.bool true) ∧ Kp No w w' := same_err 0 (by omega) w hh
theorem chkRow_le (n : Nat) (l : List Int) : chkRow n l ≤ 4 := by
  unfold chkRow
  split
  · omega
  · split <;> omega
theorem chkRows_le (n : Nat) : ∀ ls : List (List Int), chkRows n ls ≤ 4
  | [] => by simp [chkRows]
  | l :: r => by
    unfold chkRows
    split
    · exact chkRows_le n r
    · exact chkRow_le n l
theorem chk_le (outs : List (List Int)) (roots : List Int) : chk outs roots ≤ 4 := by
  unfold chk
  split
  · omega
  · split
    · omega
    · exact chkRows_le _ _
theorem eqB_self (xs : List Int) : eqB xs xs = true := decide_eq_true rfl
theorem eqHB_self (a : List (List Int)) (c : List Int) : eqHB a a c c = true := by unfold eqHB eqB eqBB; simp

set_option maxRecDepth 100000 in
set_option maxHeartbeats 4000000 in
theorem cheneySays_any {F : Nat → Prop} (vo vr : Value) (outs : List (List Int)) (roots : List Int) (w : World) (ho : RowsIn w F vo outs) (hr : IntsIn w F vr roots) (hh : Handle w) :
    Calls Tryd.prog 3 #[.agg #[vo, vr]] w fun e w' => e = .returned (.bool true) ∧ Kp No w w' := by
  have HO := hide ho
  have HR := hide hr
  have HH := hide hh
  clear ho hr hh
  go_enter Tryd.func3, Tryd.ntmps3
  go_wp2_with fail
  refine Calls.mono (rheap_any _ _ outs roots _ (HO.out.no ((Kp.refl No w).alloc _)) (HR.out.no ((Kp.refl No w).alloc _))) ?_
  rintro e w1 ⟨rfl, hk1⟩
  have HB1 := hide ((Blk.new w 25 #[vo, vr]).kp hk1 id)
  have HK1 := hide (((Kp.refl No w).alloc (.cells #[vo, vr] 25)).trans hk1)
  have hw1 := HB1.out.lt
  clear hk1
  by_cases hc : chk outs roots = 0
  · have HOK := hide (ok_of_chk hc)
    have HV := hide (show Vd outs.length (order outs roots) from ⟨order_nodup (ok_of_chk hc), order_range (ok_of_chk hc)⟩)
    have HR12 := hide (ok_of_chk hc).r12
    rw [hc, show ((0 : Nat) : Int) = 0 from rfl]
    clear hc
    obtain ⟨a1, a2, a3, a4, a5⟩ := (HB1.out.alloc (.cells #[.slice none 0 0, .slice none 0 0] 25)).a2
    go_wp2_with fail
    refine Calls.mono (from_any _ _ outs roots _ (HO.out.no (HK1.out.alloc _)) (HR.out.no (HK1.out.alloc _)) HOK.out.fwd_ (by have := HR12.out; omega)) ?_
    rw [order_fwd]
    rintro e w2 ⟨Af, cf, rfl, hi2, hk2⟩
    have HK2 := hide ((HK1.out.alloc (.cells #[.slice none 0 0, .slice none 0 0] 25)).trans hk2)
    have HB2 := hide ((HB1.out.alloc (.cells #[.slice none 0 0, .slice none 0 0] 25)).kp hk2 id)
    have HT2 := hide ((Blk.new w1 25 #[.slice none 0 0, .slice none 0 0]).kp hk2 id)
    have HI2 := hide (hi2.mono (F' := fun b => w1.heap.size < b ∧ b < w2.heap.size) fun b h1 h2 => ⟨by unfold Hi at h2; simp at h2; omega, h1⟩)
    have hs2 : w1.heap.size < w2.heap.size := HT2.out.lt
    clear hk2 hi2 a1 a2 a3 a4 a5
    obtain ⟨a1, a2, a3, a4, a5⟩ := HB2.out.a2
    obtain ⟨b1, b2, b3, b4, b5⟩ := HT2.out.a2
    go_wp2_with fail
    refine Calls.mono (ranew_any _ _ _ outs roots (order outs roots) _ (HO.out.no HK2.out) (HR.out.no HK2.out) HOK.out HI2.out HV.out (order_root HOK.out) (order_closed HOK.out)) ?_
    rintro e w3 ⟨vo', vr', rfl, ho', hr', hk3⟩
    have HK3 := hide (HK2.out.trans hk3)
    have HB3 := hide (HB2.out.kp hk3 id)
    have HT3 := hide (HT2.out.kp hk3 id)
    have HI3 := hide (HI2.out.no hk3)
    have HO3 := hide ho'
    have HR3 := hide hr'
    obtain ⟨Ao', co', rfl, _⟩ := RowsIn.form ho'
    obtain ⟨Ar', cr', rfl, _⟩ := id hr'
    have hs3 := hk3.size
    clear hk3 ho' hr' a1 a2 a3 a4 a5 b1 b2 b3 b4 b5
    obtain ⟨a1, a2, a3, a4, a5⟩ := HB3.out.a2
    obtain ⟨b1, b2, b3, b4, b5⟩ := HT3.out.a2
    go_wp2_with fail
    obtain ⟨w4, hw4⟩ : ∃ w4, (w3.setCell ⟨w1.heap.size, 0, none⟩ (.slice Ao' (rowsOf outs (order outs roots) (order outs roots).length).length co')).setCell ⟨w1.heap.size, 1, none⟩ (.slice Ar' (renum (order outs roots) roots).length cr') = w4 := ⟨_, rfl⟩
    have HK4 := hide (show Kp (At w1.heap.size) w3 w4 by rw [← hw4]; exact (kp_set _ _ _ _).trans (kp_set _ _ _ _))
    have HT4 := hide (show Blk w4 w1.heap.size 25 #[.slice Ao' (rowsOf outs (order outs roots) (order outs roots).length).length co', .slice Ar' (renum (order outs roots) roots).length cr'] by rw [← hw4]; exact (HT3.out.set_ 0 _).set_ 1 _)
    rw [hw4]
    clear hw4 a1 a2 a3 a4 a5 b1 b2 b3 b4 b5
    have HO4 := hide (HO3.out.kp HK4.out fun b hb e => by unfold Hi at hb; unfold At at e; omega)
    have HR4 := hide (HR3.out.kp HK4.out fun b hb e => by unfold Hi at hb; unfold At at e; omega)
    have HI4 := hide (HI3.out.kp HK4.out fun b hb e => by unfold At at e; omega)
    have HB4 := hide (HB3.out.kp HK4.out fun e => by unfold At at e; omega)
    have HKW := hide (show Kp No w w4 from HK3.out.trans' HK4.out fun b hb e => by unfold At at e; omega)
    obtain ⟨a1, a2, a3, a4, a5⟩ := HB4.out.a2
    have hs4 := HK4.out.size
    go_wp2_with fail
    refine Calls.mono (copy_ok _ _ outs roots _ (HO.out.no HKW.out) (HR.out.no HKW.out) HOK.out) ?_
    unfold CopyPost
    rintro e w5 ⟨v, ov, rv, rfl, hv, hov, hrv, hk5⟩
    have HK5 := hide (HKW.out.trans hk5)
    have HT5 := hide (HT4.out.kp hk5 id)
    have HO5 := hide (HO4.out.no hk5)
    have HR5 := hide (HR4.out.no hk5)
    have HI5 := hide (HI4.out.no hk5)
    have HV5 := hide hv
    have HOV := hide hov
    have HRV := hide hrv
    obtain ⟨Av, cv, rfl, _⟩ := id hv
    obtain ⟨Aw, cw, rfl, _⟩ := RowsIn.form hov
    obtain ⟨Ax, cx, rfl, _⟩ := id hrv
    have hs5 := hk5.size
    clear hk5 hv hov hrv a1 a2 a3 a4 a5
    go_wp2_with fail
    have HX5 := hide (Blk.new w5 25 #[.slice Aw (copyRows outs roots).length cw, .slice Ax (renum (order outs roots) roots).length cx])
    refine Calls.mono (same_nil _ (HH.out.no (HK5.out.alloc _))) ?_
    rintro e w6 ⟨rfl, hk6⟩
    have HK6 := hide (((Kp.refl No w5).alloc (.cells #[.slice Aw (copyRows outs roots).length cw, .slice Ax (renum (order outs roots) roots).length cx] 25)).trans hk6)
    have HX6 := hide (HX5.out.kp hk6 id)
    have HT6 := hide (HT5.out.kp HK6.out id)
    obtain ⟨a1, a2, a3, a4, a5⟩ := HX6.out.a2
    obtain ⟨b1, b2, b3, b4, b5⟩ := HT6.out.a2
    clear hk6
    go_wp2_with fail
    refine Calls.mono (ints_any _ _ (order outs roots) (order outs roots) _ (HV5.out.no HK6.out) (HI5.out.no HK6.out)) ?_
    rw [eqB_self]
    rintro e w7 ⟨rfl, n7, rfl⟩
    have HS := hide (show eqHB (copyRows outs roots) (rowsOf outs (order outs roots) (order outs roots).length) (renum (order outs roots) roots) (renum (order outs roots) roots) = true from eqHB_self _ _)
    go_wp2_with fail
    refine Calls.mono (heaps_any _ _ _ _ (copyRows outs roots) (rowsOf outs (order outs roots) (order outs roots).length) (renum (order outs roots) roots) (renum (order outs roots) roots) _ (HOV.out.no (HK6.out.trans (by (repeat (first | exact Kp.refl _ _ | with_reducible refine Kp.drewN ?_ _ | with_reducible refine Kp.drew ?_ | with_reducible refine Kp.alloc ?_ _ | with_reducible refine Kp.setCell ?_ (fun _ => ?_) _)); all_goals (simp_all; omega)))) (HRV.out.no (HK6.out.trans (by (repeat (first | exact Kp.refl _ _ | with_reducible refine Kp.drewN ?_ _ | with_reducible refine Kp.drew ?_ | with_reducible refine Kp.alloc ?_ _ | with_reducible refine Kp.setCell ?_ (fun _ => ?_) _)); all_goals (simp_all; omega)))) (HO5.out.no (HK6.out.trans (by (repeat (first | exact Kp.refl _ _ | with_reducible refine Kp.drewN ?_ _ | with_reducible refine Kp.drew ?_ | with_reducible refine Kp.alloc ?_ _ | with_reducible refine Kp.setCell ?_ (fun _ => ?_) _)); all_goals (simp_all; omega)))) (HR5.out.no (HK6.out.trans (by (repeat (first | exact Kp.refl _ _ | with_reducible refine Kp.drewN ?_ _ | with_reducible refine Kp.drew ?_ | with_reducible refine Kp.alloc ?_ _ | with_reducible refine Kp.setCell ?_ (fun _ => ?_) _)); all_goals (simp_all; omega))))) ?_
    rw [HS.out]
    rintro e w8 ⟨rfl, hk8⟩
    have HK8 := hide ((HK5.out.trans (HK6.out.trans (by (repeat (first | exact Kp.refl _ _ | with_reducible refine Kp.drewN ?_ _ | with_reducible refine Kp.drew ?_ | with_reducible refine Kp.alloc ?_ _ | with_reducible refine Kp.setCell ?_ (fun _ => ?_) _)); all_goals (simp_all; omega)))).trans hk8)
    clear hk8
    go_wp2
    go_ret
    exact ⟨rfl, HK8.out⟩
  · have HBAD := hide hc
    obtain ⟨c, hcc⟩ : ∃ c, chk outs roots = c := ⟨_, rfl⟩
    have HCC := hide hcc
    have HSE := hide (fun (w : World) (h : Handle w) => show Calls Tryd.prog 13 #[.iface 84 (.int .i64 c), .int .i64 (c : Int)] w fun r w' => r = .returned (.bool true) ∧ Kp No w w' by
      have := same_err c (by have := chk_le outs roots; omega) w h
      rwa [errV_pos (by rw [← hcc]; exact hc)] at this)
    rw [hcc] at hc ⊢
    have hc0 : ¬ ((c : Int) = 0) := by omega
    clear hcc hc
    obtain ⟨a1, a2, a3, a4, a5⟩ := (HB1.out.alloc (.cells #[.slice none 0 0, .slice none 0 0] 25)).a2
    go_wp2_with fail
    refine Calls.mono (copy_bad _ _ outs roots _ (HO.out.no (HK1.out.alloc _)) (HR.out.no (HK1.out.alloc _)) HBAD.out) ?_
    rw [HCC.out]
    rintro e w5 ⟨rfl, hk5⟩
    have HK5 := hide ((HK1.out.alloc (.cells #[.slice none 0 0, .slice none 0 0] 25)).trans hk5)
    have HT5 := hide ((Blk.new w1 25 #[.slice none 0 0, .slice none 0 0]).kp hk5 id)
    clear hk5 a1 a2 a3 a4 a5
    go_wp2_with fail
    refine Calls.mono (HSE.out _ (HH.out.no (HK5.out.alloc _))) ?_
    rintro e w6 ⟨rfl, hk6⟩
    have HK6 := hide (((Kp.refl No w5).alloc (.cells #[.slice none 0 0, .slice none 0 0] 25)).trans hk6)
    have HX6 := hide ((Blk.new w5 25 #[.slice none 0 0, .slice none 0 0]).kp hk6 id)
    have HT6 := hide (HT5.out.kp HK6.out id)
    obtain ⟨a1, a2, a3, a4, a5⟩ := HX6.out.a2
    obtain ⟨b1, b2, b3, b4, b5⟩ := HT6.out.a2
    clear hk6
    go_wp2_with fail
    refine Calls.mono (ints_any (F := No) (F' := No) _ _ [] [] _ (.nil_ _ _) (.nil_ _ _)) ?_
    rw [eqB_self]
    rintro e w7 ⟨rfl, n7, rfl⟩
    have HS := hide (show eqHB [] [] [] [] = true from eqHB_self _ _)
    go_wp2_with fail
    refine Calls.mono (heaps_any (F := No) (F' := No) _ _ _ _ [] [] [] [] _ (.nil_ _ _) (.nil_ _ _) (.nil_ _ _) (.nil_ _ _)) ?_
    rw [HS.out]
    rintro e w8 ⟨rfl, hk8⟩
    have HK8 := hide ((HK5.out.trans (HK6.out.trans (by (repeat (first | exact Kp.refl _ _ | with_reducible refine Kp.drewN ?_ _ | with_reducible refine Kp.drew ?_ | with_reducible refine Kp.alloc ?_ _ | with_reducible refine Kp.setCell ?_ (fun _ => ?_) _)); all_goals (simp_all; omega)))).trans hk8)
    clear hk8
    go_wp2
    go_ret
    exact ⟨rfl, HK8.out⟩
end Go.Proofs.YtgbdjidjbcbhjaaDoor
