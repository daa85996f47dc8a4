/- colors.New at a wrong heap, Colors, and the closed fact of the laws on colors. -/
import Derived.Test.YtkfibfacfgiplaaColorNew
namespace Go.Proofs.Ytkfibfacfgiplaa
open Go.RowKit

set_option maxHeartbeats 1000000 in
theorem new_bad {F : Nat → Prop} (vo vr : Value) (outs : List (List Int)) (roots : List Int) (w : World) (ho : RowsIn w F vo outs) (hr : IntsIn w F vr roots) (hbad : chk outs roots ≠ 0) :
    Calls Try.prog 39 #[.agg #[vo, vr]] w fun e w' => e = .returned (.tuple #[.pointer none, .iface 73 (.int .i64 (chk outs roots))]) ∧ Kp No w w' := by
  have HO := hide ho
  have HR := hide hr
  have HE := hide (errV_pos hbad)
  clear ho hr hbad
  go_enter Try.func39, Try.ntmps39
  go_wp2_with fail
  refine Calls.mono (check_any vo vr outs roots _ (HO.out.no ((Kp.refl No _).alloc _)) (HR.out.no ((Kp.refl No _).alloc _))) ?_
  rw [HE.out]
  rintro e w1 ⟨rfl, hk1⟩
  have HK1 := hide (((Kp.refl No w).alloc (.cells #[vo, vr] 25)).trans' hk1 fun _ _ h => h)
  clear hk1
  go_wp2
  exact bodyPost_ret (v := .tuple #[.pointer none, .iface 73 (.int .i64 (chk outs roots))]) (by simp [results, Try.results39, go_sem]) rfl ⟨rfl, HK1.out⟩

theorem colors_any {p base : Nat} {vo vr vc : Value} {vs : List Value} {outs : List (List Int)} {roots c : List Int} (w : World) (hm : MarkAt w p base vo vr vc vs outs roots c) (hl : c.length ≤ 12) :
    Calls Try.prog 41 #[.pointer (some ⟨p, 0, none⟩)] w (CloneInts w c) := by
  obtain ⟨b1, b2, b3, b4, b5, b6, b7⟩ := hm.blk.a3
  have HI := hide (own_ints hm.col)
  clear hm
  go_enter Try.func41, Try.ntmps41
  go_wp2_with fail
  refine Calls.mono (clone_any _ c _ HI.out (by omega)) ?_
  rintro e w1 ⟨v, rfl, h1, h2⟩
  have H1 := hide h1
  have H2 := hide h2
  clear h1 h2
  go_wp2
  go_ret
  exact ⟨_, rfl, H1.out, H2.out⟩

/-- a step, whatever there is -/
theorem step_any {p base : Nat} {vo vr vc : Value} {vs : List Value} {outs : List (List Int)} {roots c : List Int} (w : World) (hm : MarkAt w p base vo vr vc vs outs roots c) (hok : Ok outs roots) (hcl : c.length = outs.length) :
    Calls Try.prog 40 #[.pointer (some ⟨p, 0, none⟩)] w fun e w' => e = .returned (.bool (decide ((1 : Int) ∈ c))) ∧ MarkAt w' p base vo vr vc vs outs roots (stepC outs c) ∧ Kp (fun b => vc.ownBlock = some b) w w' := by
  by_cases h : (1 : Int) ∈ c
  · rw [decide_eq_true h]
    exact step_yes w hm h hok hcl
  · rw [decide_eq_false h]
    refine (step_no w hm h).mono ?_
    rintro e w' ⟨rfl, rfl⟩
    have e : stepC outs c = c := by unfold stepC; rw [if_neg h]
    exact ⟨rfl, by rw [e]; exact hm, Kp.refl _ _⟩

set_option maxHeartbeats 2000000 in
theorem colorFact_any (w : World) : Calls Try.prog 38 #[] w fun e w' => e = .returned (.bool true) ∧ Kp No w w' := by
  have HOK := hide (show Ok [[1], [2], [0], [0]] [1] from ok_of_chk (by decide))
  have H1 := hide (show newC [[1], [2], [0], [0]] [1] = [0, 1, 0, 0] by decide)
  have H2 := hide (show stepC [[1], [2], [0], [0]] [0, 1, 0, 0] = [0, 2, 1, 0] by decide)
  have H3 := hide (show eqB [0, 1, 0, 0] [0, 1, 0, 0] = true by decide)
  have H4 := hide (show eqB [0, 2, 1, 0] [0, 2, 1, 0] = true by decide)
  go_enter Try.func38, Try.ntmps38
  go_wp2_with fail
  refine Calls.mono (ringOf_any 1 _) ?_
  rintro e w1 ⟨vo, vr, rfl, ho, hr, hk1⟩
  have HO := hide ho
  have HR := hide hr
  have HK1 := hide hk1
  clear ho hr hk1
  go_wp2_with fail
  refine Calls.mono (new_ok vo vr _ _ _ HO.out HR.out HOK.out) ?_
  unfold NewPost
  rw [H1.out]
  rintro e w2 ⟨p, vo', vr', vc, vs, rfl, hm, hp, hk2⟩
  have HM := hide hm
  have HK2 := hide (HK1.out.trans hk2)
  have HS1 := hide (show w.heap.size ≤ w1.heap.size from HK1.out.size)
  clear hm hk2
  go_wp2_with fail
  refine Calls.mono (colors_any _ HM.out (by decide)) ?_
  rintro e w3 ⟨v3, rfl, hv3, hk3⟩
  have HV3 := hide hv3
  have HK3 := hide (HK2.out.trans hk3)
  have HM3 := hide (HM.out.no hk3)
  clear hv3 hk3
  go_wp2_with fail
  have HKa := hide ((Kp.refl No w3).alloc (.cells #[.int .i64 0, .int .i64 1, .int .i64 0, .int .i64 0] 3))
  refine Calls.mono (ints_any (F' := fun _ => True) _ _ [0, 1, 0, 0] [0, 1, 0, 0] _ ((own_ints HV3.out).no HKa.out) (ints_blk (xs := [0, 1, 0, 0]) (Blk.new _ _ _) trivial (by simp) rfl)) ?_
  rw [H3.out]
  rintro e w4 ⟨rfl, n4, rfl⟩
  have HK4 := hide (HKa.out.drewN n4)
  have HM4 := hide (HM3.out.no HK4.out)
  go_wp2_with fail
  refine Calls.mono (step_yes _ HM4.out (by decide) HOK.out (by decide)) ?_
  rw [H2.out]
  rintro e w5 ⟨rfl, hm5, hk5⟩
  have HM5 := hide hm5
  have HK5 := hide ((HK3.out.trans HK4.out).trans' hk5 fun b hb e => by have := (own_lt HM4.out.col e).1; have := HS1.out; omega)
  clear hm5 hk5
  go_wp2_with fail
  refine Calls.mono (colors_any _ HM5.out (by decide)) ?_
  rintro e w6 ⟨v6, rfl, hv6, hk6⟩
  have HV6 := hide hv6
  have HK6 := hide (HK5.out.trans hk6)
  clear hv6 hk6
  go_wp2_with fail
  have HKb := hide ((Kp.refl No w6).alloc (.cells #[.int .i64 0, .int .i64 2, .int .i64 1, .int .i64 0] 3))
  refine Calls.mono (ints_any (F' := fun _ => True) _ _ [0, 2, 1, 0] [0, 2, 1, 0] _ ((own_ints HV6.out).no HKb.out) (ints_blk (xs := [0, 2, 1, 0]) (Blk.new _ _ _) trivial (by simp) rfl)) ?_
  rw [H4.out]
  rintro e w7 ⟨rfl, n7, rfl⟩
  go_wp2
  go_ret
  exact ⟨rfl, (HK6.out.trans HKb.out).drewN _⟩
end Go.Proofs.Ytkfibfacfgiplaa
