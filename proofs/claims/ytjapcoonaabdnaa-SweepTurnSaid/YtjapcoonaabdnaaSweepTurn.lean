/- The law SweepTurn, walked: of every heap. -/
import Derived.Test.YtjapcoonaabdnaaSweepFact
import Derived.Test.YtjapcoonaabdnaaTurn
import Derived.BigQuiet
namespace Go.Proofs.Ytjapcoonaabdnaa
open Go.RowKit
set_option linter.unusedSimpArgs false

set_option maxRecDepth 100000 in
set_option maxHeartbeats 4000000 in
theorem sweepTurn_any {F : Nat → Prop} (vo vr : Value) (outs : List (List Int)) (roots : List Int) (w : World) (ho : RowsIn w F vo outs) (hr : IntsIn w F vr roots) :
    Calls Try.prog 3 #[.agg #[vo, vr]] w fun e w' => e = .returned (.bool true) ∧ Kp No w w' := by
  have HO := hide ho
  have HR := hide hr
  clear ho hr
  by_cases hc : chk outs roots = 0
  · have HOK := hide (ok_of_chk hc)
    clear hc
    go_enter Try.func3, Try.ntmps3
    go_wp2_with fail
    refine Calls.mono (sweepFact_any _) ?_
    rintro e w1 ⟨rfl, hk1⟩
    have hb1 := (Blk.new w 25 #[vo, vr]).kp hk1 id
    obtain ⟨a1, a2, a3, a4, a5⟩ := hb1.a2
    have HB1 := hide hb1
    have HK1 := hide (((Kp.refl No w).alloc (.cells #[vo, vr] 25)).trans' hk1 fun _ _ h => h)
    clear hk1 hb1
    obtain ⟨Ao, co, rfl, hco, hmo, _⟩ := RowsIn.form HO.out
    obtain ⟨Ar, cr, rfl, hcr, hmr, _⟩ := id HR.out
    go_wp2_with fail
    refine Calls.mono (mark_ok _ _ outs roots _ (HO.out.no HK1.out) (HR.out.no HK1.out) HOK.out) ?_
    rintro e w2 ⟨v, rfl, hv, hk2⟩
    obtain ⟨Av, cv, rfl, hcv, hmv, _⟩ := id hv
    have HK2 := hide (HK1.out.trans hk2)
    have HB2 := hide (HB1.out.no' hk2)
    have HV2 := hide hv
    clear hv hk2 a1 a2 a3 a4
    obtain ⟨a1, a2, a3, a4, _⟩ := HB2.out.a2
    go_wp2_with fail
    refine Calls.mono (turn_ok _ _ outs roots _ (HO.out.no HK2.out) (HR.out.no HK2.out) HOK.out) ?_
    rintro e w3 ⟨v3, o3, rfl, hv3, ho3, hk3⟩
    obtain ⟨A3, c3, rfl, _⟩ := id hv3
    obtain ⟨A4, c4, rfl, _⟩ := RowsIn.form ho3
    have HK3 := hide (HK2.out.trans hk3)
    have HB3 := hide (HB2.out.no' hk3)
    have HV3 := hide (HV2.out.no hk3)
    have HT3 := hide hv3
    have HO3 := hide ho3
    clear hk3 hv3 ho3 a1 a2 a3 a4
    obtain ⟨a1, a2, a3, a4, _⟩ := HB3.out.a2
    have E1 := hide (show eqB (marksN outs roots) (marksN outs roots) = true by simp [eqB])
    have E2 := hide (show eqBB outs outs = true by simp [eqBB])
    go_wp2_with fail
    refine Calls.mono (ints_any _ _ (marksN outs roots) (marksN outs roots) _ HV3.out HT3.out) ?_
    rw [E1.out]
    rintro e w6 ⟨rfl, n6, rfl⟩
    go_wp2_with fail
    refine Calls.mono (rows_any _ _ outs outs _ (HO3.out.no (by (repeat (first | exact Kp.refl _ _ | with_reducible refine Kp.drewN ?_ _ | with_reducible refine Kp.drew ?_ | with_reducible refine Kp.alloc ?_ _ | with_reducible refine Kp.setCell ?_ (fun _ => ?_) _)); all_goals (simp_all; omega))) ((HO.out.no HK3.out).no (by (repeat (first | exact Kp.refl _ _ | with_reducible refine Kp.drewN ?_ _ | with_reducible refine Kp.drew ?_ | with_reducible refine Kp.alloc ?_ _ | with_reducible refine Kp.setCell ?_ (fun _ => ?_) _)); all_goals (simp_all; omega)))) ?_
    rw [E2.out]
    rintro e w7 ⟨rfl, n7, rfl⟩
    go_wp2
    go_ret
    exact ⟨rfl, HK3.out.trans (by (repeat (first | exact Kp.refl _ _ | with_reducible refine Kp.drewN ?_ _ | with_reducible refine Kp.drew ?_ | with_reducible refine Kp.alloc ?_ _ | with_reducible refine Kp.setCell ?_ (fun _ => ?_) _)); all_goals (simp_all; omega))⟩
  · have HC := hide hc
    clear hc
    go_enter Try.func3, Try.ntmps3
    go_wp2_with fail
    refine Calls.mono (sweepFact_any _) ?_
    rintro e w1 ⟨rfl, hk1⟩
    have hb1 := (Blk.new w 25 #[vo, vr]).kp hk1 id
    obtain ⟨a1, a2, a3, a4, a5⟩ := hb1.a2
    have HB1 := hide hb1
    have HK1 := hide (((Kp.refl No w).alloc (.cells #[vo, vr] 25)).trans' hk1 fun _ _ h => h)
    clear hk1 hb1
    go_wp2_with fail
    refine Calls.mono (mark_bad _ _ outs roots _ (HO.out.no HK1.out) (HR.out.no HK1.out) HC.out) ?_
    rintro e w2 ⟨rfl, hk2⟩
    have HK2 := hide (HK1.out.trans hk2)
    have HB2 := hide (HB1.out.no' hk2)
    clear hk2 a1 a2 a3 a4
    obtain ⟨a1, a2, a3, a4, _⟩ := HB2.out.a2
    go_wp2_with fail
    refine Calls.mono (turn_bad _ _ outs roots _ (HO.out.no HK2.out) (HR.out.no HK2.out) HC.out) ?_
    rintro e w3 ⟨rfl, hk3⟩
    have HK3 := hide (HK2.out.trans hk3)
    clear hk3
    go_wp2
    go_ret
    exact ⟨rfl, HK3.out⟩
end Go.Proofs.Ytjapcoonaabdnaa
