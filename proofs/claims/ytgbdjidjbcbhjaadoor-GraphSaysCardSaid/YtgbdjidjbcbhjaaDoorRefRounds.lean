/- The document's answer, walked: Rounds, of all heaps that are right. -/
import Derived.Test.YtgbdjidjbcbhjaaDoorRefAnew
import Derived.Test.YtgbdjidjbcbhjaaDoorTrialSaysPlain
namespace Go.Proofs.YtgbdjidjbcbhjaaDoor
open Go.RowKit
set_option linter.unusedSimpArgs false

set_option maxRecDepth 100000 in
set_option maxHeartbeats 4000000 in
theorem rrounds_any {F : Nat → Prop} (vo vr : Value) (outs : List (List Int)) (roots : List Int) (w : World) (ho : RowsIn w F vo outs) (hr : IntsIn w F vr roots) (hok : Ok outs roots) :
    Calls Tryd.prog 18 #[.agg #[vo, vr]] w fun e w' => e = .returned (.int .i64 (sumP (roundsL outs outs.length) : Nat)) ∧ Kp No w w' := by
  obtain ⟨Ao, co, rfl, hco, hmo, _⟩ := RowsIn.form ho
  obtain ⟨Ar, cr, rfl, hcr, hmr, _⟩ := id hr
  have HO := hide ho
  have HOK := hide hok
  have hn12 := hok.n12
  clear ho hr hok
  go_enter Tryd.func18, Tryd.ntmps18
  go_wp2_with fail
  obtain ⟨W0, hW0⟩ : ∃ W0, w.alloc (.cells #[.slice Ao outs.length co, .slice Ar roots.length cr] 25) = W0 := ⟨_, rfl⟩
  have HK0 := hide (show Kp No w W0 by rw [← hW0]; exact (Kp.refl No w).alloc _)
  have HB0 := hide (show Blk W0 w.heap.size 25 #[.slice Ao outs.length co, .slice Ar roots.length cr] by rw [← hW0]; exact Blk.new _ _ _)
  have hz0 : w.heap.size < W0.heap.size := HB0.out.lt
  rw [hW0]
  clear hW0
  go_loopw [3, 4] (fun v q wr => ∃ k : Nat, q = .int .i64 k ∧ k ≤ outs.length ∧ Hid (wr.ownsRow W0.heap.size 3 1 v (roundsL outs k).length (iv (roundsL outs k))) ∧ Hid (Kp No W0 wr)) (fun _ q _ => outs.length - (intOf q).toNat)
  case atStart => exact ⟨0, rfl, Nat.zero_le _, World.ownsRow_nil _ _ _ _, Kp.refl _ _⟩
  case round =>
    obtain ⟨k, rfl, hk, hown, hkp⟩ := hrel
    have HKW := hide (HK0.out.trans hkp.out)
    have hws := hkp.out.size
    have HB0r := hide (HB0.out.kp hkp.out id)
    obtain ⟨p0, p1⟩ := HB0r.out.c2
    by_cases hlt : k < outs.length
    · obtain ⟨_, _, e, _, _, hrow⟩ := RowsIn.form (HO.out.no HKW.out)
      cases e
      obtain ⟨bo, oo, A', c'', rfl, _, hrc, hri⟩ := hrow k hlt
      have hadj : outs[k] = adj outs (k : Int) := by rw [adj_eq (by simpa using hlt)]; simp
      rw [hadj] at hrc hri
      have HRI := hide hri
      have HOA := hide (show Ok outs (fwd [] (adj outs (k : Int))) from (HOK.out.at (i := k)).fwd_)
      have h4 : (adj outs (k : Int)).length ≤ 4 := HOK.out.adjFew
      have HSN := hide (roundsL_succ outs k)
      have hll := roundsL_length outs k
      obtain ⟨L, hL⟩ : ∃ L, roundsL outs k = L := ⟨_, rfl⟩
      rw [hL] at hown HSN hll
      obtain ⟨ys, hys⟩ : ∃ ys, adj outs (k : Int) = ys := ⟨_, rfl⟩
      rw [hys] at hrc HRI HOA HSN h4
      have hll' : L.length ≤ 12 := by omega
      obtain ⟨b, hb⟩ : ∃ b, hasB (order outs (fwd [] ys)) (k : Int) = b := ⟨_, rfl⟩
      have HHB := hide hb
      rw [hb] at HSN
      clear hrow hri hadj hL hys hll hb
      go_wp2_with fail
      refine plan_start 10 (by kernel_rfl) rfl (fun hPT => ?_)
      refine plan_take (i := 0) (v := ?_) rfl (by kernel_rfl) (by kernel_rfl) (by kernel_rfl) (fun _ _ _ h => h) hPT (by rfl) ?_ ?_
      rotate_left
      · (intro w; go_simp; with_reducible rfl)
      (clear hPT; intro hPT; simp only [List.getElem_toArray, List.getElem_cons_zero, List.getElem_cons_succ, Act.put, List.setIfInBounds_toArray, List.set_cons_zero, List.set_cons_succ])
      refine plan_take (i := 2) (v := ?_) rfl (by kernel_rfl) (by kernel_rfl) (by kernel_rfl) (fun _ _ _ h => h) hPT (by rfl) ?_ ?_
      rotate_left
      · (intro w; go_simp; with_reducible rfl)
      (clear hPT; intro hPT; simp only [List.getElem_toArray, List.getElem_cons_zero, List.getElem_cons_succ, Act.put, List.setIfInBounds_toArray, List.set_cons_zero, List.set_cons_succ])
      refine plan_take (i := 4) (v := ?_) rfl (by kernel_rfl) (by kernel_rfl) (by kernel_rfl) (fun _ _ _ h => h) hPT (by rfl) ?_ ?_
      rotate_left
      · (intro w; go_simp; with_reducible rfl)
      (clear hPT; intro hPT; simp only [List.getElem_toArray, List.getElem_cons_zero, List.getElem_cons_succ, Act.put, List.setIfInBounds_toArray, List.set_cons_zero, List.set_cons_succ])
      refine plan_take (i := 8) (v := ?_) rfl (by kernel_rfl) (by kernel_rfl) (by kernel_rfl) (fun _ _ _ h => h) hPT (by rfl) ?_ ?_
      rotate_left
      · (intro w; go_simp; with_reducible rfl)
      (clear hPT; intro hPT; simp only [List.getElem_toArray, List.getElem_cons_zero, List.getElem_cons_succ, Act.put, List.setIfInBounds_toArray, List.set_cons_zero, List.set_cons_succ])
      refine plan_load (fun w' => w'.cell? ⟨w.heap.size, 0, none⟩ = some (.slice (some ⟨bo, oo, none⟩) outs.length co)) (i := 1) (v := ?_) rfl (by kernel_rfl) (by kernel_rfl) (by kernel_rfl) (fun _ _ _ h => h) hPT (by rfl) ?_ ?_ ?_
      rotate_left
      · (first | assumption | (go_simp; done))
      · (intro w hSw; (try dsimp only at hSw); go_simp; with_reducible rfl)
      (clear hPT; intro hPT; simp only [List.getElem_toArray, List.getElem_cons_zero, List.getElem_cons_succ, Act.put, List.setIfInBounds_toArray, List.set_cons_zero, List.set_cons_succ])
      refine plan_load (fun w' => w'.cell? ⟨w.heap.size, 0, none⟩ = some (.slice (some ⟨bo, oo, none⟩) outs.length co)) (i := 3) (v := ?_) rfl (by kernel_rfl) (by kernel_rfl) (by kernel_rfl) (fun _ _ _ h => h) hPT (by rfl) ?_ ?_ ?_
      rotate_left
      · (first | assumption | (go_simp; done))
      · (intro w hSw; (try dsimp only at hSw); go_simp; with_reducible rfl)
      (clear hPT; intro hPT; simp only [List.getElem_toArray, List.getElem_cons_zero, List.getElem_cons_succ, Act.put, List.setIfInBounds_toArray, List.set_cons_zero, List.set_cons_succ])
      refine plan_take (i := 5) (v := ?_) rfl (by kernel_rfl) (by kernel_rfl) (by kernel_rfl) (fun _ _ _ h => h) hPT (by rfl) ?_ ?_
      rotate_left
      · (intro w; go_simp; with_reducible rfl)
      (clear hPT; intro hPT; simp only [List.getElem_toArray, List.getElem_cons_zero, List.getElem_cons_succ, Act.put, List.setIfInBounds_toArray, List.set_cons_zero, List.set_cons_succ])
      refine plan_load (fun w' => w'.cell? ⟨bo, oo + k, none⟩ = some (.slice A' ys.length c'')) (i := 6) (v := ?_) rfl (by kernel_rfl) (by kernel_rfl) (by kernel_rfl) (fun _ _ _ h => h) hPT (by rfl) ?_ ?_ ?_
      rotate_left
      · (first | assumption | (go_simp; done))
      · (intro w hSw; (try dsimp only at hSw); go_simp; with_reducible rfl)
      (clear hPT; intro hPT; simp only [List.getElem_toArray, List.getElem_cons_zero, List.getElem_cons_succ, Act.put, List.setIfInBounds_toArray, List.set_cons_zero, List.set_cons_succ])
      refine plan_one (i := 7) (by kernel_rfl) rfl (by rfl) (fun K hK => ?_)
      (try simp only [List.getElem_toArray, List.getElem_cons_zero, List.getElem_cons_succ, Act.put, List.setIfInBounds_toArray, List.set_cons_zero, List.set_cons_succ])
      go_simp
      refine Calls.mono (from_any _ _ outs ys _ (HO.out.no (HKW.out.trans (by (repeat (first | exact Kp.refl _ _ | with_reducible refine Kp.drewN ?_ _ | with_reducible refine Kp.drew ?_ | with_reducible refine Kp.alloc ?_ _ | with_reducible refine Kp.setCell ?_ (fun _ => ?_) _)); all_goals (simp_all; omega)))) (HRI.out.no (by (repeat (first | exact Kp.refl _ _ | with_reducible refine Kp.drewN ?_ _ | with_reducible refine Kp.drew ?_ | with_reducible refine Kp.alloc ?_ _ | with_reducible refine Kp.setCell ?_ (fun _ => ?_) _)); all_goals (simp_all; omega))) HOA.out (by omega)) ?_
      rintro e w5 ⟨A5, c5, rfl, hi5, hk5⟩
      have HK5 := hide ((show Kp No wr _ from (by (repeat (first | exact Kp.refl _ _ | with_reducible refine Kp.drewN ?_ _ | with_reducible refine Kp.drew ?_ | with_reducible refine Kp.alloc ?_ _ | with_reducible refine Kp.setCell ?_ (fun _ => ?_) _)); all_goals (simp_all; omega))).trans hk5)
      have HI5 := hide hi5
      clear hk5 hi5 hrc
      refine hK.out _ _ _ (t_cons (HB0r.out.kp HK5.out id).c2.1 (t_nil _)) (k_drop (by kernel_rfl) (k_keep (k_drop (by kernel_rfl) k_nil))) (fun hPT' => ?_)
      (clear hPT hK K; have hPT := hPT'; clear hPT'; try simp only [List.getElem_toArray, List.getElem_cons_zero, List.getElem_cons_succ, Act.put, List.setIfInBounds_toArray, List.set_cons_zero, List.set_cons_succ])
      refine plan_one (i := 9) (by kernel_rfl) rfl (by rfl) (fun K hK => ?_)
      (try simp only [List.getElem_toArray, List.getElem_cons_zero, List.getElem_cons_succ, Act.put, List.setIfInBounds_toArray, List.set_cons_zero, List.set_cons_succ])
      go_simp
      refine Calls.mono (has_any _ (order outs (fwd [] ys)) (k : Int) _ HI5.out) ?_
      rw [HHB.out]
      rintro e w6 ⟨rfl, rfl⟩
      refine hK.out _ _ _ (t_cons (HB0r.out.kp HK5.out id).c2.1 (t_nil _)) k_same (fun hPT' => ?_)
      (clear hPT hK K; have hPT := hPT'; clear hPT'; try simp only [List.getElem_toArray, List.getElem_cons_zero, List.getElem_cons_succ, Act.put, List.setIfInBounds_toArray, List.set_cons_zero, List.set_cons_succ])
      refine plan_done (by kernel_rfl) ?_ _
      clear hPT
      cases b with
      | true =>
        have HSN' := hide (show roundsL outs (k + 1) = L ++ [(k : Int)] by rw [HSN.out]; rfl)
        go_wp2_with (at_builtin; refine wpList_push _ rfl (.tmp 22) (.tmp 24) _ rfl W0.heap.size 3 _ 8 Tryd.underlying23 Tryd.infoInt rfl u3 L.length (iv L) rfl (own_kp hown.out HK5.out fun _ _ h => h) _ rfl 1 _ rfl (by simp) (by omega) (by decide) (by have := HK5.out.size; omega) ?_; intro g' c' w7 ho' hgr hat; have HO1 := hide ho'; have HG := hide hgr; clear ho' hgr hat)
        go_roundw
        case rel => exact ⟨k + 1, by go_num, hlt, by rw [HSN'.out, iv_snoc, List.length_append]; exact HO1.out, ((hkp.out.trans HK5.out).alloc _).grown HG.out fun b h hb => by have := (own_lt hown.out h).1; omega⟩
        case measure => (simp [intOf]; omega)
      | false =>
        have HSN' := hide (show roundsL outs (k + 1) = L by rw [HSN.out]; simp)
        go_wp2_with fail
        go_roundw
        case rel => exact ⟨k + 1, by go_num, hlt, by rw [HSN'.out]; exact own_kp hown.out HK5.out fun _ _ h => h, hkp.out.trans HK5.out⟩
        case measure => (simp [intOf]; omega)
    · obtain rfl : k = outs.length := by omega
      have hll := roundsL_length outs outs.length
      have HRG := hide (fun (x : Int) (hx : x ∈ roundsL outs outs.length) => show 0 ≤ x ∧ x < 12 by
        have := mem_upTo.1 (List.mem_filter.1 hx).1
        omega)
      obtain ⟨L, hL⟩ : ∃ L, roundsL outs outs.length = L := ⟨_, rfl⟩
      rw [hL] at hown hll HRG
      have HLE := hide hL
      clear hL
      have HI := hide (IntsIn.of_own (F := fun _ => True) hown.out fun _ _ => trivial)
      go_wp2_with fail
      refine Calls.mono (set_any _ L _ HI.out (by omega) HRG.out) ?_
      rintro e w5 ⟨rfl, rfl⟩
      go_wp2
      go_ret
      exact ⟨by rw [HLE.out]; rfl, HKW.out⟩
end Go.Proofs.YtgbdjidjbcbhjaaDoor
