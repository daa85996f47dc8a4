/- The closed fact of Copy's laws. -/
import Derived.Test.YtkfibfacfgiplaaCheney
namespace Go.Proofs.Ytkfibfacfgiplaa
open Go.RowKit

set_option maxHeartbeats 1000000
set_option maxRecDepth 10000

theorem cheneyFact_any (w : World) : Calls Try.prog 22 #[] w fun e w' => e = .returned (.bool true) ∧ Kp No w w' := by
  have hok : Ok [[1], [2], [0], [0]] [1] := ok_of_chk (by decide)
  have h1 : order [[1], [2], [0], [0]] [1] = [1, 2, 0] := by decide
  have h2 : copyRows [[1], [2], [0], [0]] [1] = [[1], [2], [0]] := by decide
  have h3 : renum [1, 2, 0] [1] = [0] := by decide
  have e1 : eqB [1, 2, 0] [1, 2, 0] = true := by decide
  have e2 : eqBB [[1], [2], [0]] [[1], [2], [0]] = true := by decide
  have e3 : eqB [0] [0] = true := by decide
  have HOK := hide hok
  have H1 := hide h1
  have H2 := hide h2
  have H3 := hide h3
  clear hok h1 h2 h3
  go_enter Try.func22, Try.ntmps22
  go_wp2_with (go_at_call 60; refine (ringOf_any 1 _).mono ?_; rintro e w1 ⟨vo, vr, rfl, ho, hr, hk1⟩; have HO := hide ho; have HR := hide hr; have HK1 := hide hk1; clear ho hr hk1)
  refine (copy_ok vo vr _ _ _ HO.out HR.out HOK.out).mono ?_
  unfold CopyPost
  rw [H1.out]
  rintro e w2 ⟨v, ov, rv, rfl, hv, hov, hrv, hk2⟩
  rw [H2.out] at hov
  rw [H3.out] at hrv
  obtain ⟨Ao, co, rfl, _⟩ := hov.form
  obtain ⟨Ar, cr, rfl, _⟩ := id hrv
  have HV := hide hv
  have HOV := hide hov
  have HRV := hide hrv
  have HK2 := hide hk2
  clear hv hov hrv hk2
  clear H1 H2 H3 HOK
  go_wp2_with fail
  refine Calls.mono (ints_any (F' := fun _ => True) _ _ [1, 2, 0] [1, 2, 0] _ (HV.out.no (by (repeat (first | exact Kp.refl _ _ | with_reducible refine Kp.drewN ?_ _ | with_reducible refine Kp.drew ?_ | with_reducible refine Kp.alloc ?_ _ | with_reducible refine Kp.setCell ?_ (fun _ => ?_) _)); all_goals (simp_all; omega))) (ints_blk (xs := [1, 2, 0]) (by (repeat (first | with_reducible refine Blk.drewN ?_ _ | with_reducible refine Blk.drew ?_ | (with_reducible refine Blk.at_ _ _ ?_; (first | rfl | (simp; done))) | with_reducible refine Blk.alloc ?_ _))) trivial (by simp) (by rfl))) ?_
  rintro e w3 ⟨rfl, n3, rfl⟩
  go_wp2_with fail
  refine Calls.mono (rows_any (F' := fun _ => True) _ _ _ [[1], [2], [0]] _ (HOV.out.no (by (repeat (first | exact Kp.refl _ _ | with_reducible refine Kp.drewN ?_ _ | with_reducible refine Kp.drew ?_ | with_reducible refine Kp.alloc ?_ _ | with_reducible refine Kp.setCell ?_ (fun _ => ?_) _)); all_goals (simp_all; omega))) (rows_blk (vs := [_, _, _]) (by (repeat (first | with_reducible refine Blk.drewN ?_ _ | with_reducible refine Blk.drew ?_ | (with_reducible refine Blk.at_ _ _ ?_; (first | rfl | (simp; done))) | with_reducible refine Blk.alloc ?_ _))) (by rfl) trivial (by simp) rfl ?_)) ?_
  · intro i h h'
    match i, h with
    | 0, _ => exact one_blk (by (repeat (first | with_reducible refine Blk.drewN ?_ _ | with_reducible refine Blk.drew ?_ | (with_reducible refine Blk.at_ _ _ ?_; (first | rfl | (simp; done))) | with_reducible refine Blk.alloc ?_ _))) trivial
    | 1, _ => exact one_blk (by (repeat (first | with_reducible refine Blk.drewN ?_ _ | with_reducible refine Blk.drew ?_ | (with_reducible refine Blk.at_ _ _ ?_; (first | rfl | (simp; done))) | with_reducible refine Blk.alloc ?_ _))) trivial
    | 2, _ => exact one_blk (by (repeat (first | with_reducible refine Blk.drewN ?_ _ | with_reducible refine Blk.drew ?_ | (with_reducible refine Blk.at_ _ _ ?_; (first | rfl | (simp; done))) | with_reducible refine Blk.alloc ?_ _))) trivial
  rintro e w4 ⟨rfl, n4, rfl⟩
  go_wp2_with fail
  refine Calls.mono (ints_any (F' := fun _ => True) _ _ [0] [0] _ (HRV.out.no (by (repeat (first | exact Kp.refl _ _ | with_reducible refine Kp.drewN ?_ _ | with_reducible refine Kp.drew ?_ | with_reducible refine Kp.alloc ?_ _ | with_reducible refine Kp.setCell ?_ (fun _ => ?_) _)); all_goals (simp_all; omega))) (one_blk (by (repeat (first | with_reducible refine Blk.drewN ?_ _ | with_reducible refine Blk.drew ?_ | (with_reducible refine Blk.at_ _ _ ?_; (first | rfl | (simp; done))) | with_reducible refine Blk.alloc ?_ _))) trivial)) ?_
  rintro e w5 ⟨rfl, n5, rfl⟩
  go_wp2
  go_ret
  refine ⟨rfl, ?_⟩
  exact (HK1.out.trans HK2.out).trans (by (repeat (first | exact Kp.refl _ _ | with_reducible refine Kp.drewN ?_ _ | with_reducible refine Kp.drew ?_ | with_reducible refine Kp.alloc ?_ _ | with_reducible refine Kp.setCell ?_ (fun _ => ?_) _)); all_goals (simp_all; omega))
end Go.Proofs.Ytkfibfacfgiplaa
