/- trial.Free at a wrong heap, or from what is no node; the closed fact of the laws on trials. -/
import Derived.Test.YtkfibfacfgiplaaTrialFree
namespace Go.Proofs.Ytkfibfacfgiplaa
open Go.RowKit

/-- what is wrong -/
def chkF (outs : List (List Int)) (roots : List Int) (x : Int) : Nat := if chk outs roots = 0 then if btw x 0 ((outs.length : Int) - 1) = true then 0 else 1 else chk outs roots
theorem chkF_zero {outs : List (List Int)} {roots : List Int} {x : Int} (h : chkF outs roots x = 0) : Ok outs roots ∧ Ok outs [x] := by
  unfold chkF at h
  split at h
  · rename_i h1
    split at h
    · rename_i h2
      have hok := ok_of_chk h1
      rw [btw_iff] at h2
      exact ⟨hok, ⟨hok.n12, by simp, fun y hy => by simp at hy; subst hy; omega, hok.few, hok.out⟩⟩
    · cases h
  · rename_i h1; exact absurd h h1

set_option maxHeartbeats 1000000 in
theorem counts_bad {F : Nat → Prop} (vo vr : Value) (outs : List (List Int)) (roots : List Int) (w : World) (ho : RowsIn w F vo outs) (hr : IntsIn w F vr roots) (hbad : chk outs roots ≠ 0) :
    Calls Try.prog 66 #[.agg #[vo, vr]] w fun e w' => e = .returned (.tuple #[.slice none 0 0, .iface 73 (.int .i64 (chk outs roots))]) ∧ Kp No w w' := by
  have HO := hide ho
  have HR := hide hr
  have HE := hide (errV_pos hbad)
  clear ho hr hbad
  go_enter Try.func66, Try.ntmps66
  go_wp2_with fail
  refine Calls.mono (check_any vo vr outs roots _ (HO.out.no ((Kp.refl No _).alloc _)) (HR.out.no ((Kp.refl No _).alloc _))) ?_
  rw [HE.out]
  rintro e w1 ⟨rfl, hk1⟩
  have HK1 := hide (((Kp.refl No w).alloc (.cells #[vo, vr] 25)).trans' hk1 fun _ _ h => h)
  clear hk1
  go_wp2
  exact bodyPost_ret (v := .tuple #[.slice none 0 0, .iface 73 (.int .i64 (chk outs roots))]) (by simp [results, Try.results66, go_sem]) rfl ⟨rfl, HK1.out⟩

set_option maxHeartbeats 1000000 in
theorem free_bad {F : Nat → Prop} (vo vr : Value) (outs : List (List Int)) (roots : List Int) (x : Int) (w : World) (ho : RowsIn w F vo outs) (hr : IntsIn w F vr roots) (hbad : chkF outs roots x ≠ 0) :
    Calls Try.prog 36 #[.agg #[vo, vr], .int .i64 x] w fun e w' => e = .returned (.tuple #[.int .i64 0, .iface 73 (.int .i64 (chkF outs roots x))]) ∧ Kp No w w' := by
  have HO := hide ho
  have HR := hide hr
  clear ho hr
  refine (callsIn_wide (n := 8)).1 ?_
  refine callsIn_of_wp_marks Try.func36 rfl trivial ?_ rfl
  refine wpIn_wide.2 ?_
  simp only [Try.ntmps36, List.size_toArray, List.length_cons, List.length_nil, Nat.reduceAdd, Nat.reduceSub, Array.replicate_succ, Array.replicate_zero, List.push_toArray, List.append_toArray, List.nil_append, List.cons_append]
  by_cases hc : chk outs roots = 0
  · have HOK := hide (ok_of_chk hc)
    have hb : btw x 0 ((outs.length : Int) - 1) = false := by
      unfold chkF at hbad
      rw [if_pos hc] at hbad
      cases e : btw x 0 ((outs.length : Int) - 1) with
      | false => rfl
      | true => rw [e] at hbad; simp at hbad
    have HE := hide (show chkF outs roots x = 1 by unfold chkF; rw [if_pos hc, hb]; rfl)
    have HBT := hide hb
    clear hb hbad hc
    go_wp2_with fail
    refine Calls.mono (counts_ok vo vr outs roots _ (HO.out.no ((Kp.refl No _).alloc _)) (HR.out.no ((Kp.refl No _).alloc _)) HOK.out) ?_
    unfold CountsPost
    rintro e w1 ⟨C, rfl, hC, hk1⟩
    obtain ⟨e0, Ac, cc, hCv, _⟩ := own_form hC
    subst hCv
    have hb1 := (Blk.new w 25 #[vo, vr]).kp hk1 id
    have HK1 := hide (((Kp.refl No w).alloc (.cells #[vo, vr] 25)).trans' hk1 fun _ _ h => h)
    obtain ⟨a1, a2, a3, a4, a5⟩ := hb1.a2
    clear hk1 hb1 hC e0
    obtain ⟨Ao, co, rfl, hco, hmo, _⟩ := RowsIn.form HO.out
    go_wp2_with fail
    refine Calls.mono (within_any x 0 ((outs.length : Int) - 1) _) ?_
    rw [HBT.out]
    rintro e w2 ⟨rfl, rfl⟩
    go_wp2
    refine leaves_marks (Ds := []) (.none (w1.heap.size + 1) _) fun W' hk' => ?_
    exact ⟨.tuple #[.int .i64 0, .iface 73 (.int .i64 1)], by simp [results, Try.results36, go_sem], by rw [HE.out]; rfl, (HK1.out.alloc _).trans' hk' fun k hk e => by have := HK1.out.size; exact absurd e (by omega)⟩
  · have HE := hide (show chkF outs roots x = chk outs roots by unfold chkF; rw [if_neg hc])
    have HC := hide hc
    clear hbad hc
    go_wp2_with fail
    refine Calls.mono (counts_bad vo vr outs roots _ (HO.out.no ((Kp.refl No _).alloc _)) (HR.out.no ((Kp.refl No _).alloc _)) HC.out) ?_
    rintro e w1 ⟨rfl, hk1⟩
    have HK1 := hide (((Kp.refl No w).alloc (.cells #[vo, vr] 25)).trans' hk1 fun _ _ h => h)
    clear hk1
    go_wp2
    refine leaves_marks (Ds := []) (.none (w1.heap.size + 1) _) fun W' hk' => ?_
    exact ⟨.tuple #[.int .i64 0, .iface 73 (.int .i64 (chk outs roots))], by simp [results, Try.results36, go_sem], by rw [HE.out], (HK1.out.alloc _).trans' hk' fun k hk e => by have := HK1.out.size; exact absurd e (by omega)⟩

set_option maxHeartbeats 2000000 in
theorem trialFact_any (w : World) : Calls Try.prog 35 #[] w fun e w' => e = .returned (.bool true) ∧ Kp No w w' := by
  have HOK := hide (show Ok [[1], [2], [0], [0]] [1] from ok_of_chk (by decide))
  have HOK2 := hide (show Ok [[1], [0], [0]] [] from ok_of_chk (by decide))
  have HX2 := hide (show Ok [[1], [0], [0]] [2] from ok_of_chk (by decide))
  have H1 := hide (show freeN [[1], [0], [0]] [] 2 = 7 by decide)
  have H2 := hide (show freeN [[1], [2], [0], [0]] [1] 1 = 0 by decide)
  go_enter Try.func35, Try.ntmps35
  go_wp2_with fail
  obtain ⟨W, hW⟩ : ∃ W, ((((w.alloc (.cells #[.int .i64 1] 3)).alloc (.cells #[.int .i64 0] 3)).alloc (.cells #[.int .i64 0] 3)).alloc (.cells #[.slice (some ⟨w.heap.size, 0, none⟩) 1 1, .slice (some ⟨w.heap.size + 1, 0, none⟩) 1 1, .slice (some ⟨w.heap.size + 1 + 1, 0, none⟩) 1 1] 23)) = W := ⟨_, rfl⟩
  have q1 : Blk W w.heap.size 3 #[.int .i64 1] := by rw [← hW]; exact (((Blk.new _ _ _).alloc _).alloc _).alloc _
  have q2 : Blk W (w.heap.size + 1) 3 #[.int .i64 0] := by rw [← hW]; exact ((Blk.at_ _ _ (by simp)).alloc _).alloc _
  have q3 : Blk W (w.heap.size + 1 + 1) 3 #[.int .i64 0] := by rw [← hW]; exact (Blk.at_ _ _ (by simp)).alloc _
  have q4 : Blk W (w.heap.size + 1 + 1 + 1) 23 #[.slice (some ⟨w.heap.size, 0, none⟩) 1 1, .slice (some ⟨w.heap.size + 1, 0, none⟩) 1 1, .slice (some ⟨w.heap.size + 1 + 1, 0, none⟩) 1 1] := by rw [← hW]; exact Blk.at_ _ _ (by simp)
  have HKW := hide (show Kp No w W by rw [← hW]; exact ((((Kp.refl No w).alloc _).alloc _).alloc _).alloc _)
  have HR := hide (show RowsIn W (fun _ => True) (.slice (some ⟨w.heap.size + 1 + 1 + 1, 0, none⟩) 3 3) [[1], [0], [0]] by
    refine rows_blk (vs := [_, _, _]) q4 rfl trivial (by simp) rfl ?_
    intro i h h'
    match i, h with
    | 0, _ => exact one_blk q1 trivial
    | 1, _ => exact one_blk q2 trivial
    | 2, _ => exact one_blk q3 trivial)
  rw [hW]
  clear hW q1 q2 q3 q4
  refine Calls.mono (free_ok _ _ [[1], [0], [0]] [] 2 _ HR.out (IntsIn.nil_ _ _) HOK2.out HX2.out) ?_
  rw [H1.out]
  rintro e w1 ⟨rfl, hk1⟩
  have HK1 := hide (HKW.out.trans hk1)
  clear hk1
  go_wp2_with fail
  refine Calls.mono (ringOf_any 1 _) ?_
  rintro e w2 ⟨vo, vr, rfl, ho, hr, hk2⟩
  have HO := hide ho
  have HRR := hide hr
  have HK2 := hide (HK1.out.trans hk2)
  clear ho hr hk2
  go_wp2_with fail
  refine Calls.mono (free_ok vo vr _ _ 1 _ HO.out HRR.out HOK.out HOK.out) ?_
  rw [H2.out]
  rintro e w3 ⟨rfl, hk3⟩
  have HK3 := hide (HK2.out.trans hk3)
  clear hk3
  go_wp2
  go_ret
  exact ⟨rfl, HK3.out⟩
end Go.Proofs.Ytkfibfacfgiplaa
