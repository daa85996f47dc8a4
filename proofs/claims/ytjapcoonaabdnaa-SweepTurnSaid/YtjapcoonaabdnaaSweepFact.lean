/- The closed fact of the laws on sweeping. -/
import Derived.Test.YtjapcoonaabdnaaAnew
namespace Go.Proofs.Ytjapcoonaabdnaa
open Go.RowKit
set_option linter.unusedSimpArgs false

theorem IntsIn.take {w : World} {F : Nat → Prop} {A : Option Addr} {n c : Nat} {xs : List Int} (h : IntsIn w F (.slice A n c) xs) {k : Nat} (hk : k ≤ xs.length) : IntsIn w F (.slice A k c) (xs.take k) := by
  obtain ⟨A', c', e, h1, h2, h3⟩ := h
  cases e
  refine ⟨A, c, by rw [List.length_take]; congr 1; omega, by rw [List.length_take]; omega, h2, fun j hj => ?_⟩
  rw [List.length_take] at hj
  obtain ⟨b, o, e, hF, hc⟩ := h3 j (by omega)
  exact ⟨b, o, e, hF, by rw [List.getElem_take]; exact hc⟩
theorem has_take {o : List Int} (hn : o.Nodup) {k : Nat} (hk : k < o.length) : hasB (o.take k) o[k] = false := by
  unfold hasB
  rw [decide_eq_false_iff_not]
  intro hm
  obtain ⟨j, hj, hjk⟩ := List.getElem_of_mem hm
  rw [List.length_take] at hj
  rw [List.getElem_take] at hjk
  have := (List.getElem_inj hn).1 hjk
  omega

set_option maxRecDepth 10000 in
set_option maxHeartbeats 2000000 in
theorem sweepFact_any (w : World) : Calls Try.prog 5 #[] w fun e w' => e = .returned (.bool true) ∧ Kp No w w' := by
  have HOK := hide (show Ok [[1], [2], [0], [0]] [1] from ok_of_chk (by decide))
  have H1 := hide (show marksN [[1], [2], [0], [0]] [1] = [1, 2, 0] by decide)
  have H2 := hide (show leftL (reachN [[1], [2], [0], [0]] [1]) = [0, 1, 2] by decide)
  have H3 := hide (show leftO [[1], [2], [0], [0]] [1] = [[1], [2], [0]] by decide)
  have E1 := hide (show eqB [1, 2, 0] [1, 2, 0] = true by decide)
  have E2 := hide (show eqB [0, 1, 2] [0, 1, 2] = true by decide)
  go_enter Try.func5, Try.ntmps5
  go_wp2_with fail
  refine Calls.mono (ringOf_any 1 _) ?_
  rintro e w1 ⟨vo, vr, rfl, ho, hr, hk1⟩
  have HO := hide ho
  have HR := hide hr
  have HK1 := hide hk1
  clear ho hr hk1
  go_wp2_with fail
  refine Calls.mono (mark_ok _ _ _ _ _ HO.out HR.out HOK.out) ?_
  unfold MarkPost
  rw [H1.out]
  rintro e w2 ⟨v2, rfl, hv2, hk2⟩
  obtain ⟨A2, c2, rfl, _⟩ := id hv2
  have HV2 := hide hv2
  have HK2 := hide (HK1.out.trans hk2)
  clear hv2 hk2 HO HR
  go_wp2_with fail
  refine Calls.mono (ringOf_any 1 _) ?_
  rintro e w3 ⟨vo, vr, rfl, ho, hr, hk3⟩
  have HO := hide ho
  have HR := hide hr
  have HK3 := hide (HK2.out.trans hk3)
  have HV3 := hide (HV2.out.no hk3)
  clear ho hr hk3
  go_wp2_with fail
  refine Calls.mono (sweep_ok _ _ _ _ _ HO.out HR.out HOK.out) ?_
  unfold SweepPost
  rw [H2.out, H3.out]
  rintro e w4 ⟨v4, vo4, vr4, rfl, hv4, ho4, hr4, hk4⟩
  obtain ⟨A4, c4, rfl, _⟩ := id hv4
  obtain ⟨Ao4, co4, rfl, _⟩ := ho4.form
  obtain ⟨Ar4, cr4, rfl, _⟩ := id hr4
  have HV4 := hide hv4
  have HK4 := hide (HK3.out.trans hk4)
  have HW4 := hide (HV3.out.no hk4)
  clear hv4 ho4 hr4 hk4
  go_wp2_with fail
  refine Calls.mono (ints_any (F' := fun _ => True) _ _ [1, 2, 0] [1, 2, 0] _ (HW4.out.no (((Kp.refl No w4).alloc _).alloc _)) (ints_blk (xs := [1, 2, 0]) (by (repeat (first | with_reducible refine Blk.drewN ?_ _ | with_reducible refine Blk.drew ?_ | (with_reducible refine Blk.at_ _ _ ?_; (first | rfl | (simp; done))) | with_reducible refine Blk.alloc ?_ _))) trivial (by simp) (by rfl))) ?_
  rw [E1.out]
  rintro e w5 ⟨rfl, n5, rfl⟩
  go_wp2_with fail
  refine Calls.mono (ints_any (F' := fun _ => True) _ _ [0, 1, 2] [0, 1, 2] _ (HV4.out.no (by (repeat (first | exact Kp.refl _ _ | with_reducible refine Kp.drewN ?_ _ | with_reducible refine Kp.drew ?_ | with_reducible refine Kp.alloc ?_ _ | with_reducible refine Kp.setCell ?_ (fun _ => ?_) _)); all_goals (simp_all; omega))) (ints_blk (xs := [0, 1, 2]) (by (repeat (first | with_reducible refine Blk.drewN ?_ _ | with_reducible refine Blk.drew ?_ | (with_reducible refine Blk.at_ _ _ ?_; (first | rfl | (simp; done))) | with_reducible refine Blk.alloc ?_ _))) trivial (by simp) (by rfl))) ?_
  rw [E2.out]
  rintro e w6 ⟨rfl, n6, rfl⟩
  go_wp2
  go_ret
  refine ⟨rfl, ?_⟩
  exact HK4.out.trans (by (repeat (first | exact Kp.refl _ _ | with_reducible refine Kp.drewN ?_ _ | with_reducible refine Kp.drew ?_ | with_reducible refine Kp.alloc ?_ _ | with_reducible refine Kp.setCell ?_ (fun _ => ?_) _)); all_goals (simp_all; omega))
end Go.Proofs.Ytjapcoonaabdnaa
