/- The law CheneyTwice: for every heap it returns true, and nothing that was there changes. -/
import Derived.Test.YtkfibfacfgiplaaCheneyFact
import Derived.Test.YtkfibfacfgiplaaCheneyPlain
namespace Go.Proofs.Ytkfibfacfgiplaa
open Go.RowKit

set_option maxHeartbeats 2000000
set_option maxRecDepth 10000

theorem cheneyTwice_any {F : Nat → Prop} (vo vr : Value) (outs : List (List Int)) (roots : List Int) (w : World) (ho : RowsIn w F vo outs) (hr : IntsIn w F vr roots) :
    Calls Try.prog 3 #[.agg #[vo, vr]] w fun e w' => e = .returned (.bool true) ∧ Kp No w w' := by
  have HO := hide ho
  have HR := hide hr
  clear ho hr
  by_cases hc : chk outs roots = 0
  · have HOK := hide (ok_of_chk hc)
    clear hc
    go_enter Try.func3, Try.ntmps3
    go_wp2_with fail
    refine Calls.mono (cheneyFact_any _) ?_
    rintro e w1 ⟨rfl, hk1⟩
    have hb1 := (Blk.new w 25 #[vo, vr]).kp hk1 id
    obtain ⟨a1, a2, a3, a4, a5⟩ := hb1.a2
    have HK1 := hide (((Kp.refl No w).alloc (.cells #[vo, vr] 25)).trans' hk1 fun _ _ h => h)
    clear hk1 hb1
    go_wp2_with fail
    refine Calls.mono (copy_ok vo vr outs roots _ (HO.out.no HK1.out) (HR.out.no HK1.out) HOK.out) ?_
    rintro e w2 ⟨v, ov, rv, rfl, hv, hov, hrv, hk2⟩
    obtain ⟨Av, cv, rfl, _⟩ := id hv
    obtain ⟨Ao, co, rfl, _⟩ := hov.form
    obtain ⟨Ar, cr, rfl, _⟩ := id hrv
    have HV := hide hv
    have HOV := hide hov
    have HRV := hide hrv
    have HK2 := hide hk2
    clear hv hov hrv hk2
    have hn12 : (order outs roots).length ≤ 12 := Nat.le_trans (order_length HOK.out) HOK.out.n12
    go_wp2_with fail
    refine Calls.mono (copy_ok _ _ _ _ _ (HOV.out.no ((Kp.refl No _).alloc _)) (HRV.out.no ((Kp.refl No _).alloc _)) (copy_is_ok HOK.out)) ?_
    unfold CopyPost
    rw [order_copy HOK.out, rows_copy' HOK.out, roots_copy HOK.out]
    rintro e w3 ⟨v', ov', rv', rfl, hv', hov', hrv', hk3⟩
    obtain ⟨Ao', co', rfl, _⟩ := hov'.form
    obtain ⟨Ar', cr', rfl, _⟩ := id hrv'
    have HV' := hide hv'
    have HOV' := hide hov'
    have HRV' := hide hrv'
    have HK3 := hide hk3
    have hb2 := (Blk.new w2 25 #[.slice Ao (copyRows outs roots).length co, .slice Ar (renum (order outs roots) roots).length cr]).kp hk3 id
    obtain ⟨b1, b2, b3, b4, b5⟩ := hb2.a2
    have HB2 := hide hb2
    clear hv' hov' hrv' hk3 hb2 a1 a2 a3 a4
    have e1 : eqB (upTo (order outs roots).length) (upTo (order outs roots).length) = true := by simp [eqB]
    have e2 : eqHB (copyRows outs roots) (copyRows outs roots) (renum (order outs roots) roots) (renum (order outs roots) roots) = true := by simp [eqHB, eqB, eqBB]
    go_wp2_with fail
    refine Calls.mono (count_any _ (by omega) _) ?_
    rintro e w4 ⟨Ac, cc, rfl, hcn, hk4⟩
    have HCN := hide hcn
    have HK4 := hide hk4
    have hb2' := (HB2.out.alloc (.cells #[.slice Ao' (copyRows outs roots).length co', .slice Ar' (renum (order outs roots) roots).length cr'] 25)).kp HK4.out id
    have hb3' := (Blk.new w3 25 #[.slice Ao' (copyRows outs roots).length co', .slice Ar' (renum (order outs roots) roots).length cr']).kp HK4.out id
    obtain ⟨c1, c2, c3, c4, c5⟩ := hb2'.a2
    obtain ⟨d1, d2, d3, d4, d5⟩ := hb3'.a2
    clear hcn hk4 hb2' hb3' b1 b2 b3 b4
    have HK34 := hide (((Kp.refl No w3).alloc (.cells #[.slice Ao' (copyRows outs roots).length co', .slice Ar' (renum (order outs roots) roots).length cr'] 25)).trans' HK4.out fun _ _ h => h)
    have HK24 := hide ((((Kp.refl No w2).alloc _).trans' HK3.out fun _ _ h => h).trans HK34.out)
    go_wp2_with fail
    refine Calls.mono (ints_any _ _ _ _ _ (HV'.out.no HK34.out) HCN.out) ?_
    rintro e w5 ⟨rfl, n5, rfl⟩
    go_wp2_with fail
    refine Calls.mono (heaps_any _ _ _ _ _ _ _ _ _ (HOV.out.no (HK24.out.drewN _)) (HRV.out.no (HK24.out.drewN _)) ((HOV'.out.no (HK34.out.drewN _)).mono fun _ _ _ => trivial) ((HRV'.out.no (HK34.out.drewN _)).mono fun _ _ _ => trivial)) ?_
    rintro e w6 ⟨rfl, hk6⟩
    have HK6 := hide hk6
    clear hk6
    go_wp2
    go_ret
    exact ⟨rfl, ((HK1.out.trans' HK2.out fun _ _ h => h).trans (HK24.out.drewN _)).trans HK6.out⟩
  · have HC := hide hc
    have hne := hide hc
    clear hc
    go_enter Try.func3, Try.ntmps3
    go_wp2_with fail
    refine Calls.mono (cheneyFact_any _) ?_
    rintro e w1 ⟨rfl, hk1⟩
    have hb1 := (Blk.new w 25 #[vo, vr]).kp hk1 id
    obtain ⟨a1, a2, a3, a4, a5⟩ := hb1.a2
    have HK1 := hide (((Kp.refl No w).alloc (.cells #[vo, vr] 25)).trans' hk1 fun _ _ h => h)
    clear hk1 hb1
    go_wp2_with fail
    refine Calls.mono (copy_bad vo vr outs roots _ (HO.out.no HK1.out) (HR.out.no HK1.out) HC.out) ?_
    rintro e w2 ⟨rfl, hk2⟩
    have HK2 := hide hk2
    clear hk2
    go_wp2
    go_ret
    exact ⟨rfl, (HK1.out.trans HK2.out).trans (by (repeat (first | exact Kp.refl _ _ | with_reducible refine Kp.drewN ?_ _ | with_reducible refine Kp.drew ?_ | with_reducible refine Kp.alloc ?_ _ | with_reducible refine Kp.setCell ?_ (fun _ => ?_) _)); all_goals (simp_all; omega))⟩
end Go.Proofs.Ytkfibfacfgiplaa
