/- colors.New at a wrong heap, Colors, and the closed fact of the laws on colors. -/
import Derived.Test.YtgbdjidjbcbhjaaDoorColorNew
namespace Go.Proofs.YtgbdjidjbcbhjaaDoor
open Go.RowKit

set_option maxHeartbeats 1000000 in
theorem new_bad {F : Nat → Prop} (vo vr : Value) (outs : List (List Int)) (roots : List Int) (w : World) (ho : RowsIn w F vo outs) (hr : IntsIn w F vr roots) (hbad : chk outs roots ≠ 0) :
    Calls Tryd.prog 36 #[.agg #[vo, vr]] w fun e w' => e = .returned (.tuple #[.pointer none, .iface 84 (.int .i64 (chk outs roots))]) ∧ Kp No w w' := by
  have HO := hide ho
  have HR := hide hr
  have HE := hide (errV_pos hbad)
  clear ho hr hbad
  go_enter Tryd.func36, Tryd.ntmps36
  go_wp2_with fail
  refine Calls.mono (check_any vo vr outs roots _ (HO.out.no ((Kp.refl No _).alloc _)) (HR.out.no ((Kp.refl No _).alloc _))) ?_
  rw [HE.out]
  rintro e w1 ⟨rfl, hk1⟩
  have HK1 := hide (((Kp.refl No w).alloc (.cells #[vo, vr] 25)).trans' hk1 fun _ _ h => h)
  clear hk1
  go_wp2
  exact bodyPost_ret (v := .tuple #[.pointer none, .iface 84 (.int .i64 (chk outs roots))]) (by simp [results, Tryd.results36, go_sem]) rfl ⟨rfl, HK1.out⟩

theorem colors_any {p base : Nat} {vo vr vc : Value} {vs : List Value} {outs : List (List Int)} {roots c : List Int} (w : World) (hm : MarkAt w p base vo vr vc vs outs roots c) (hl : c.length ≤ 12) :
    Calls Tryd.prog 42 #[.pointer (some ⟨p, 0, none⟩)] w (CloneInts w c) := by
  obtain ⟨b1, b2, b3, b4, b5, b6, b7⟩ := hm.blk.a3
  have HI := hide (own_ints hm.col)
  clear hm
  go_enter Tryd.func42, Tryd.ntmps42
  go_wp2_with fail
  refine Calls.mono (clone_any _ c _ HI.out (by omega)) ?_
  rintro e w1 ⟨v, rfl, h1, h2⟩
  have H1 := hide h1
  have H2 := hide h2
  clear h1 h2
  go_wp2
  go_ret
  exact ⟨_, rfl, H1.out, H2.out⟩

/-- a step, whatever there is -/
theorem step_any {p base : Nat} {vo vr vc : Value} {vs : List Value} {outs : List (List Int)} {roots c : List Int} (w : World) (hm : MarkAt w p base vo vr vc vs outs roots c) (hok : Ok outs roots) (hcl : c.length = outs.length) :
    Calls Tryd.prog 41 #[.pointer (some ⟨p, 0, none⟩)] w fun e w' => e = .returned (.bool (decide ((1 : Int) ∈ c))) ∧ MarkAt w' p base vo vr vc vs outs roots (stepC outs c) ∧ Kp (fun b => vc.ownBlock = some b) w w' := by
  by_cases h : (1 : Int) ∈ c
  · rw [decide_eq_true h]
    exact step_yes w hm h hok hcl
  · rw [decide_eq_false h]
    refine (step_no w hm h).mono ?_
    rintro e w' ⟨rfl, rfl⟩
    have e : stepC outs c = c := by unfold stepC; rw [if_neg h]
    exact ⟨rfl, by rw [e]; exact hm, Kp.refl _ _⟩

end Go.Proofs.YtgbdjidjbcbhjaaDoor
