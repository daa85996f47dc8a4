/- trial.Free at a wrong heap, or from what is no node; the closed fact of the laws on trials. -/
import Derived.Test.YtgbdjidjbcbhjaaDoorTrialFree
namespace Go.Proofs.YtgbdjidjbcbhjaaDoor
open Go.RowKit

/-- what is wrong -/
def chkF (outs : List (List Int)) (roots : List Int) (x : Int) : Nat := if chk outs roots = 0 then if btw x 0 ((outs.length : Int) - 1) = true then 0 else 1 else chk outs roots
theorem chkF_zero {outs : List (List Int)} {roots : List Int} {x : Int} (h : chkF outs roots x = 0) : Ok outs roots ∧ Ok outs [x] := by
  unfold chkF at h
  split at h
  · rename_i h1
    split at h
    · rename_i h2
      have hok := ok_of_chk h1
      rw [btw_iff] at h2
      exact ⟨hok, ⟨hok.n12, by simp, fun y hy => by simp at hy; subst hy; omega, hok.few, hok.out⟩⟩
    · cases h
  · rename_i h1; exact absurd h h1

set_option maxHeartbeats 1000000 in
theorem counts_bad {F : Nat → Prop} (vo vr : Value) (outs : List (List Int)) (roots : List Int) (w : World) (ho : RowsIn w F vo outs) (hr : IntsIn w F vr roots) (hbad : chk outs roots ≠ 0) :
    Calls Tryd.prog 21 #[.agg #[vo, vr]] w fun e w' => e = .returned (.tuple #[.slice none 0 0, .iface 84 (.int .i64 (chk outs roots))]) ∧ Kp No w w' := by
  have HO := hide ho
  have HR := hide hr
  have HE := hide (errV_pos hbad)
  clear ho hr hbad
  go_enter Tryd.func21, Tryd.ntmps21
  go_wp2_with fail
  refine Calls.mono (check_any vo vr outs roots _ (HO.out.no ((Kp.refl No _).alloc _)) (HR.out.no ((Kp.refl No _).alloc _))) ?_
  rw [HE.out]
  rintro e w1 ⟨rfl, hk1⟩
  have HK1 := hide (((Kp.refl No w).alloc (.cells #[vo, vr] 25)).trans' hk1 fun _ _ h => h)
  clear hk1
  go_wp2
  exact bodyPost_ret (v := .tuple #[.slice none 0 0, .iface 84 (.int .i64 (chk outs roots))]) (by simp [results, Tryd.results21, go_sem]) rfl ⟨rfl, HK1.out⟩

set_option maxHeartbeats 1000000 in
theorem free_bad {F : Nat → Prop} (vo vr : Value) (outs : List (List Int)) (roots : List Int) (x : Int) (w : World) (ho : RowsIn w F vo outs) (hr : IntsIn w F vr roots) (hbad : chkF outs roots x ≠ 0) :
    Calls Tryd.prog 24 #[.agg #[vo, vr], .int .i64 x] w fun e w' => e = .returned (.tuple #[.int .i64 0, .iface 84 (.int .i64 (chkF outs roots x))]) ∧ Kp No w w' := by
  have HO := hide ho
  have HR := hide hr
  clear ho hr
  refine (callsIn_wide (n := 8)).1 ?_
  refine callsIn_of_wp_marks Tryd.func24 rfl trivial ?_ rfl
  refine wpIn_wide.2 ?_
  simp only [Tryd.ntmps24, List.size_toArray, List.length_cons, List.length_nil, Nat.reduceAdd, Nat.reduceSub, Array.replicate_succ, Array.replicate_zero, List.push_toArray, List.append_toArray, List.nil_append, List.cons_append]
  by_cases hc : chk outs roots = 0
  · have HOK := hide (ok_of_chk hc)
    have hb : btw x 0 ((outs.length : Int) - 1) = false := by
      unfold chkF at hbad
      rw [if_pos hc] at hbad
      cases e : btw x 0 ((outs.length : Int) - 1) with
      | false => rfl
      | true => rw [e] at hbad; simp at hbad
    have HE := hide (show chkF outs roots x = 1 by unfold chkF; rw [if_pos hc, hb]; rfl)
    have HBT := hide hb
    clear hb hbad hc
    go_wp2_with fail
    refine Calls.mono (counts_ok vo vr outs roots _ (HO.out.no ((Kp.refl No _).alloc _)) (HR.out.no ((Kp.refl No _).alloc _)) HOK.out) ?_
    unfold CountsPost
    rintro e w1 ⟨C, rfl, hC, hk1⟩
    obtain ⟨e0, Ac, cc, hCv, _⟩ := own_form hC
    subst hCv
    have hb1 := (Blk.new w 25 #[vo, vr]).kp hk1 id
    have HK1 := hide (((Kp.refl No w).alloc (.cells #[vo, vr] 25)).trans' hk1 fun _ _ h => h)
    obtain ⟨a1, a2, a3, a4, a5⟩ := hb1.a2
    clear hk1 hb1 hC e0
    obtain ⟨Ao, co, rfl, hco, hmo, _⟩ := RowsIn.form HO.out
    go_wp2_with fail
    refine Calls.mono (within_any x 0 ((outs.length : Int) - 1) _) ?_
    rw [HBT.out]
    rintro e w2 ⟨rfl, rfl⟩
    go_wp2
    refine leaves_marks (Ds := []) (.none (w1.heap.size + 1) _) fun W' hk' => ?_
    exact ⟨.tuple #[.int .i64 0, .iface 84 (.int .i64 1)], by simp [results, Tryd.results24, go_sem], by rw [HE.out]; rfl, (HK1.out.alloc _).trans' hk' fun k hk e => by have := HK1.out.size; exact absurd e (by omega)⟩
  · have HE := hide (show chkF outs roots x = chk outs roots by unfold chkF; rw [if_neg hc])
    have HC := hide hc
    clear hbad hc
    go_wp2_with fail
    refine Calls.mono (counts_bad vo vr outs roots _ (HO.out.no ((Kp.refl No _).alloc _)) (HR.out.no ((Kp.refl No _).alloc _)) HC.out) ?_
    rintro e w1 ⟨rfl, hk1⟩
    have HK1 := hide (((Kp.refl No w).alloc (.cells #[vo, vr] 25)).trans' hk1 fun _ _ h => h)
    clear hk1
    go_wp2
    refine leaves_marks (Ds := []) (.none (w1.heap.size + 1) _) fun W' hk' => ?_
    exact ⟨.tuple #[.int .i64 0, .iface 84 (.int .i64 (chk outs roots))], by simp [results, Tryd.results24, go_sem], by rw [HE.out], (HK1.out.alloc _).trans' hk' fun k hk e => by have := HK1.out.size; exact absurd e (by omega)⟩

end Go.Proofs.YtgbdjidjbcbhjaaDoor
