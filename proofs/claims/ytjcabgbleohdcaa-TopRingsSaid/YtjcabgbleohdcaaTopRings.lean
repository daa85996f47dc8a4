/- The law TopRings, walked: of all steps (printed in part by wip/print/rings.py). -/
import Derived.Test.YtjcabgbleohdcaaCountBack
import Derived.Test.YtjcabgbleohdcaaRingsPlain
import Derived.Test.YtjcabgbleohdcaaTrialFree
import Derived.Test.YtjcabgbleohdcaaRounds
import Derived.Test.YtjcabgbleohdcaaPush
namespace Go.Proofs.Ytjcabgbleohdcaa
open Go.RowKit
set_option linter.unusedSimpArgs false

set_option maxRecDepth 100000 in
set_option maxHeartbeats 16000000 in
theorem topRings_any {F : Nat → Prop} (vt : Value) (steps : List (List Int)) (w : World) (ht : RowsIn w F vt steps) : Calls Try.prog 7 #[vt] w fun e w' => e = .returned (.bool true) ∧ Kp No w w' := by
  have HT0 := hide ht
  obtain ⟨At', ct, rfl, hct, hmt, _⟩ := RowsIn.form HT0.out
  clear ht
  have HP := hide (PInv.counted steps)
  obtain ⟨s, hs⟩ : ∃ s, countedS steps = s := ⟨_, rfl⟩
  have HSE := hide hs
  rw [hs] at HP
  clear hs
  have HOK1 := hide (show Ok [[0]] [] from ok_of_chk (by decide))
  have HX1 := hide (show Ok [[0]] [0] from ok_of_chk (by decide))
  have HF1 := hide (show freeN [[0]] [] 0 = 1 by decide)
  go_enter Try.func7, Try.ntmps7
  go_wp2_with fail
  obtain ⟨W, hW⟩ : ∃ W, ((w.alloc (.cells #[.int .i64 0] 3)).alloc (.cells #[.slice (some ⟨w.heap.size, 0, none⟩) 1 1] 26)) = W := ⟨_, rfl⟩
  have q1 : Blk W w.heap.size 3 #[.int .i64 0] := by rw [← hW]; exact (Blk.new _ _ _).alloc _
  have q2 : Blk W (w.heap.size + 1) 26 #[.slice (some ⟨w.heap.size, 0, none⟩) 1 1] := by rw [← hW]; exact Blk.at_ _ _ (by simp)
  have HKW := hide (show Kp No w W by rw [← hW]; exact ((Kp.refl No w).alloc _).alloc _)
  have HR := hide (show RowsIn W (fun _ => True) (.slice (some ⟨w.heap.size + 1, 0, none⟩) 1 1) [[0]] by
    refine rows_blk (vs := [_]) q2 rfl trivial (by simp) rfl ?_
    intro i h h'
    match i, h with
    | 0, _ => exact one_blk q1 trivial)
  rw [hW]
  clear hW q1 q2
  refine Calls.mono (free_ok _ _ [[0]] [] 0 _ HR.out (IntsIn.nil_ _ _) HOK1.out HX1.out) ?_
  rw [HF1.out]
  rintro e w1 ⟨rfl, hk1⟩
  have HK1 := hide (HKW.out.trans hk1)
  clear hk1 HR
  have HT := hide ((HT0.out.no HK1.out).mono (F' := Lo w1.heap.size) fun k h _ => h)
  clear HT0
  go_wp2_with fail
  refine Calls.mono (cnew_any _) ?_
  rintro e w2 ⟨rfl, hc2, hk2⟩
  have HC2 := hide hc2
  have HK2 := hide (show Kp (Hi w1.heap.size) w1 w2 from hk2.of_no)
  clear hc2 hk2
  go_wp2_with fail
  go_loopw [6] (fun q wr => ∃ k : Nat, q = .int .i64 k ∧ k ≤ steps.length ∧ k ≤ 60 ∧ CnIs wr w1.heap.size (Hi w1.heap.size) (runS steps k) ∧ Kp (Hi w1.heap.size) w1 wr) (fun q _ => 60 - (intOf q).toNat)
  case atStart => exact ⟨0, rfl, Nat.zero_le _, by decide, HC2.out, HK2.out⟩
  case round =>
    obtain ⟨k, rfl, hk, hk60, hc, hkp⟩ := hrel
    have HC := hide hc
    have HKP := hide hkp
    clear hc hkp
    by_cases hlt : k < steps.length ∧ k < 60
    · obtain ⟨hml, hk6⟩ := hlt
      have hml' : (k : Int) < (steps.length : Int) := by omega
      have HTk := hide (HT.out.kp HKP.out fun b hb h => by unfold Lo at hb; unfold Hi at h; omega)
      have HP := hide (PInv.run steps k)
      have HSZ := hide (show ∀ b, wr.heap.size ≤ b → Hi w1.heap.size b from fun b hb => by have := HKP.out.size; unfold Hi; omega)
      have HN := hide (run_succ hml)
      obtain ⟨s, hs⟩ : ∃ s, runS steps k = s := ⟨_, rfl⟩
      rw [hs] at HC HP HN
      clear hs
      obtain ⟨_, _, e, _, _, hrow⟩ := RowsIn.form HTk.out
      cases e
      obtain ⟨bt', ot, A', c', rfl, hFb, hrc, hri⟩ := hrow k hml
      clear hrow
      by_cases h3 : steps[k].length = 3
      · obtain ⟨x0, x1, x2, hx⟩ : ∃ x0 x1 x2, steps[k] = [x0, x1, x2] := by
          match hs : steps[k], h3 with
          | [a, b, c], _ => exact ⟨a, b, c, rfl⟩
        rw [hx] at hrc hri HN
        obtain ⟨_, _, e, _, _, hcell⟩ := hri
        cases e
        obtain ⟨b3', o3, rfl, hF3, i0⟩ := hcell 0 (by simp)
        obtain ⟨_, _, e, _, i1⟩ := hcell 1 (by simp)
        cases e
        obtain ⟨_, _, e, _, i2⟩ := hcell 2 (by simp)
        cases e
        simp only [List.getElem_cons_zero, List.getElem_cons_succ, Nat.add_zero, List.length_cons, List.length_nil] at i0 i1 i2 hrc
        clear hcell hx h3
        by_cases e0 : x0 = 0
        · subst e0
          have HD := hide (show doS s [0, x1, x2] = makeS s by rw [doS_three, if_pos rfl])
          go_wp2_with fail
          refine Calls.mono (cmake_any _ HP.out HSZ.out HC.out) ?_
          rintro e w5 ⟨rfl, hc5, hk5⟩
          have HC5 := hide hc5
          have HK5 := hide (HKP.out.trans hk5)
          clear hc5 hk5 i0 i1 i2 hrc
          go_wp2
          go_roundw
          case rel => exact ⟨k + 1, by go_num, hml, hk6, by rw [HN.out, HD.out]; exact HC5.out, HK5.out⟩
          case measure => simp [intOf]; omega
        have h0 : (x0 == 0) = false := by rw [beq_eq_false_iff_ne]; exact e0
        by_cases e1 : x0 = 1
        · subst e1
          have HD := hide (show doS s [1, x1, x2] = rootS s x1 by rw [doS_three, if_neg (by decide), if_pos rfl])
          clear e0 h0
          go_wp2_with fail
          refine Calls.mono (croot_any _ _ HP.out HSZ.out HC.out) ?_
          rintro e w5 ⟨rfl, hc5, hk5⟩
          have HC5 := hide hc5
          have HK5 := hide (HKP.out.trans hk5)
          clear hc5 hk5 i0 i1 i2 hrc
          go_wp2
          go_roundw
          case rel => exact ⟨k + 1, by go_num, hml, hk6, by rw [HN.out, HD.out]; exact HC5.out, HK5.out⟩
          case measure => simp [intOf]; omega
        have h1 : (x0 == 1) = false := by rw [beq_eq_false_iff_ne]; exact e1
        by_cases e2 : x0 = 2
        · subst e2
          have HD := hide (show doS s [2, x1, x2] = dropS s x1 by rw [doS_three, if_neg (by decide), if_neg (by decide), if_pos rfl])
          clear e0 h0 e1 h1
          go_wp2_with fail
          refine Calls.mono (cdrop_any _ _ HP.out HSZ.out HC.out) ?_
          rintro e w5 ⟨rfl, hc5, hk5⟩
          have HC5 := hide hc5
          have HK5 := hide (HKP.out.trans hk5)
          clear hc5 hk5 i0 i1 i2 hrc
          go_wp2
          go_roundw
          case rel => exact ⟨k + 1, by go_num, hml, hk6, by rw [HN.out, HD.out]; exact HC5.out, HK5.out⟩
          case measure => simp [intOf]; omega
        have h2 : (x0 == 2) = false := by rw [beq_eq_false_iff_ne]; exact e2
        by_cases e3 : x0 = 3
        · subst e3
          have HD := hide (show doS s [3, x1, x2] = linkS s x1 x2 by rw [doS_three, if_neg (by decide), if_neg (by decide), if_neg (by decide), if_pos rfl])
          clear e0 h0 e1 h1 e2 h2
          go_wp2_with fail
          refine plan_start 8 (by kernel_rfl) rfl (fun hPT => ?_)
          refine plan_take (i := 0) (v := ?_) rfl (by kernel_rfl) (by kernel_rfl) (by kernel_rfl) (fun _ _ _ h => h) hPT (by rfl) ?_ ?_
          rotate_left
          · (intro w; go_simp; with_reducible rfl)
          (clear hPT; intro hPT; simp only [List.getElem_toArray, List.getElem_cons_zero, List.getElem_cons_succ, Act.put, List.setIfInBounds_toArray, List.set_cons_zero, List.set_cons_succ])
          refine plan_take (i := 1) (v := ?_) rfl (by kernel_rfl) (by kernel_rfl) (by kernel_rfl) (fun _ _ _ h => h) hPT (by rfl) ?_ ?_
          rotate_left
          · (intro w; go_simp; with_reducible rfl)
          (clear hPT; intro hPT; simp only [List.getElem_toArray, List.getElem_cons_zero, List.getElem_cons_succ, Act.put, List.setIfInBounds_toArray, List.set_cons_zero, List.set_cons_succ])
          refine plan_take (i := 2) (v := ?_) rfl (by kernel_rfl) (by kernel_rfl) (by kernel_rfl) (fun _ _ _ h => h) hPT (by rfl) ?_ ?_
          rotate_left
          · (intro w; go_simp; with_reducible rfl)
          (clear hPT; intro hPT; simp only [List.getElem_toArray, List.getElem_cons_zero, List.getElem_cons_succ, Act.put, List.setIfInBounds_toArray, List.set_cons_zero, List.set_cons_succ])
          refine plan_take (i := 4) (v := ?_) rfl (by kernel_rfl) (by kernel_rfl) (by kernel_rfl) (fun _ _ _ h => h) hPT (by rfl) ?_ ?_
          rotate_left
          · (intro w; go_simp; with_reducible rfl)
          (clear hPT; intro hPT; simp only [List.getElem_toArray, List.getElem_cons_zero, List.getElem_cons_succ, Act.put, List.setIfInBounds_toArray, List.set_cons_zero, List.set_cons_succ])
          refine plan_take (i := 5) (v := ?_) rfl (by kernel_rfl) (by kernel_rfl) (by kernel_rfl) (fun _ _ _ h => h) hPT (by rfl) ?_ ?_
          rotate_left
          · (intro w; go_simp; with_reducible rfl)
          (clear hPT; intro hPT; simp only [List.getElem_toArray, List.getElem_cons_zero, List.getElem_cons_succ, Act.put, List.setIfInBounds_toArray, List.set_cons_zero, List.set_cons_succ])
          refine plan_load (fun w' => w'.cell? ⟨b3', o3 + 1, none⟩ = some (.int .i64 x1)) (i := 3) (v := ?_) rfl (by kernel_rfl) (by kernel_rfl) (by kernel_rfl) (fun _ _ _ h => h) hPT (by rfl) ?_ ?_ ?_
          rotate_left
          · (first | assumption | (go_simp; done))
          · (intro w hSw; (try dsimp only at hSw); go_simp; with_reducible rfl)
          (clear hPT; intro hPT; simp only [List.getElem_toArray, List.getElem_cons_zero, List.getElem_cons_succ, Act.put, List.setIfInBounds_toArray, List.set_cons_zero, List.set_cons_succ])
          refine plan_load (fun w' => w'.cell? ⟨b3', o3 + 2, none⟩ = some (.int .i64 x2)) (i := 6) (v := ?_) rfl (by kernel_rfl) (by kernel_rfl) (by kernel_rfl) (fun _ _ _ h => h) hPT (by rfl) ?_ ?_ ?_
          rotate_left
          · (first | assumption | (go_simp; done))
          · (intro w hSw; (try dsimp only at hSw); go_simp; with_reducible rfl)
          (clear hPT; intro hPT; simp only [List.getElem_toArray, List.getElem_cons_zero, List.getElem_cons_succ, Act.put, List.setIfInBounds_toArray, List.set_cons_zero, List.set_cons_succ])
          refine plan_one (i := 7) (by kernel_rfl) rfl (by rfl) (fun K hK => ?_)
          (try simp only [List.getElem_toArray, List.getElem_cons_zero, List.getElem_cons_succ, Act.put, List.setIfInBounds_toArray, List.set_cons_zero, List.set_cons_succ])
          go_simp
          refine Calls.mono (clink_any _ _ _ HP.out (fun b hb => HSZ.out b hb) (HC.out.no (Kp.refl No _).drew)) ?_
          rintro e w5 ⟨rfl, hc5, hk5⟩
          have HC5 := hide hc5
          have HK5 := hide (HKP.out.trans ((Kp.refl _ _).drew.trans hk5))
          clear hc5 hk5 i0 i1 i2 hrc
          refine hK.out [] _ _ (t_nil _) (k_drop (by kernel_rfl) (k_drop (by kernel_rfl) k_nil)) (fun hPT' => ?_)
          (clear hPT hK K; have hPT := hPT'; clear hPT'; try simp only [List.getElem_toArray, List.getElem_cons_zero, List.getElem_cons_succ, Act.put, List.setIfInBounds_toArray, List.set_cons_zero, List.set_cons_succ])
          refine plan_done (by kernel_rfl) ?_ _
          clear hPT
          go_wp2
          go_roundw
          case rel => exact ⟨k + 1, by go_num, hml, hk6, by rw [HN.out, HD.out]; exact HC5.out, HK5.out⟩
          case measure => simp [intOf]; omega
        have h3 : (x0 == 3) = false := by rw [beq_eq_false_iff_ne]; exact e3
        by_cases e4 : x0 = 4
        · subst e4
          have HD := hide (show doS s [4, x1, x2] = cutS s x1 x2 by rw [doS_three, if_neg (by decide), if_neg (by decide), if_neg (by decide), if_neg (by decide), if_pos rfl])
          clear e0 h0 e1 h1 e2 h2 e3 h3
          go_wp2_with fail
          refine plan_start 8 (by kernel_rfl) rfl (fun hPT => ?_)
          refine plan_take (i := 0) (v := ?_) rfl (by kernel_rfl) (by kernel_rfl) (by kernel_rfl) (fun _ _ _ h => h) hPT (by rfl) ?_ ?_
          rotate_left
          · (intro w; go_simp; with_reducible rfl)
          (clear hPT; intro hPT; simp only [List.getElem_toArray, List.getElem_cons_zero, List.getElem_cons_succ, Act.put, List.setIfInBounds_toArray, List.set_cons_zero, List.set_cons_succ])
          refine plan_take (i := 1) (v := ?_) rfl (by kernel_rfl) (by kernel_rfl) (by kernel_rfl) (fun _ _ _ h => h) hPT (by rfl) ?_ ?_
          rotate_left
          · (intro w; go_simp; with_reducible rfl)
          (clear hPT; intro hPT; simp only [List.getElem_toArray, List.getElem_cons_zero, List.getElem_cons_succ, Act.put, List.setIfInBounds_toArray, List.set_cons_zero, List.set_cons_succ])
          refine plan_take (i := 2) (v := ?_) rfl (by kernel_rfl) (by kernel_rfl) (by kernel_rfl) (fun _ _ _ h => h) hPT (by rfl) ?_ ?_
          rotate_left
          · (intro w; go_simp; with_reducible rfl)
          (clear hPT; intro hPT; simp only [List.getElem_toArray, List.getElem_cons_zero, List.getElem_cons_succ, Act.put, List.setIfInBounds_toArray, List.set_cons_zero, List.set_cons_succ])
          refine plan_take (i := 4) (v := ?_) rfl (by kernel_rfl) (by kernel_rfl) (by kernel_rfl) (fun _ _ _ h => h) hPT (by rfl) ?_ ?_
          rotate_left
          · (intro w; go_simp; with_reducible rfl)
          (clear hPT; intro hPT; simp only [List.getElem_toArray, List.getElem_cons_zero, List.getElem_cons_succ, Act.put, List.setIfInBounds_toArray, List.set_cons_zero, List.set_cons_succ])
          refine plan_take (i := 5) (v := ?_) rfl (by kernel_rfl) (by kernel_rfl) (by kernel_rfl) (fun _ _ _ h => h) hPT (by rfl) ?_ ?_
          rotate_left
          · (intro w; go_simp; with_reducible rfl)
          (clear hPT; intro hPT; simp only [List.getElem_toArray, List.getElem_cons_zero, List.getElem_cons_succ, Act.put, List.setIfInBounds_toArray, List.set_cons_zero, List.set_cons_succ])
          refine plan_load (fun w' => w'.cell? ⟨b3', o3 + 1, none⟩ = some (.int .i64 x1)) (i := 3) (v := ?_) rfl (by kernel_rfl) (by kernel_rfl) (by kernel_rfl) (fun _ _ _ h => h) hPT (by rfl) ?_ ?_ ?_
          rotate_left
          · (first | assumption | (go_simp; done))
          · (intro w hSw; (try dsimp only at hSw); go_simp; with_reducible rfl)
          (clear hPT; intro hPT; simp only [List.getElem_toArray, List.getElem_cons_zero, List.getElem_cons_succ, Act.put, List.setIfInBounds_toArray, List.set_cons_zero, List.set_cons_succ])
          refine plan_load (fun w' => w'.cell? ⟨b3', o3 + 2, none⟩ = some (.int .i64 x2)) (i := 6) (v := ?_) rfl (by kernel_rfl) (by kernel_rfl) (by kernel_rfl) (fun _ _ _ h => h) hPT (by rfl) ?_ ?_ ?_
          rotate_left
          · (first | assumption | (go_simp; done))
          · (intro w hSw; (try dsimp only at hSw); go_simp; with_reducible rfl)
          (clear hPT; intro hPT; simp only [List.getElem_toArray, List.getElem_cons_zero, List.getElem_cons_succ, Act.put, List.setIfInBounds_toArray, List.set_cons_zero, List.set_cons_succ])
          refine plan_one (i := 7) (by kernel_rfl) rfl (by rfl) (fun K hK => ?_)
          (try simp only [List.getElem_toArray, List.getElem_cons_zero, List.getElem_cons_succ, Act.put, List.setIfInBounds_toArray, List.set_cons_zero, List.set_cons_succ])
          go_simp
          refine Calls.mono (ccut_any _ _ _ HP.out (fun b hb => HSZ.out b hb) (HC.out.no (Kp.refl No _).drew)) ?_
          rintro e w5 ⟨rfl, hc5, hk5⟩
          have HC5 := hide hc5
          have HK5 := hide (HKP.out.trans ((Kp.refl _ _).drew.trans hk5))
          clear hc5 hk5 i0 i1 i2 hrc
          refine hK.out [] _ _ (t_nil _) (k_drop (by kernel_rfl) (k_drop (by kernel_rfl) k_nil)) (fun hPT' => ?_)
          (clear hPT hK K; have hPT := hPT'; clear hPT'; try simp only [List.getElem_toArray, List.getElem_cons_zero, List.getElem_cons_succ, Act.put, List.setIfInBounds_toArray, List.set_cons_zero, List.set_cons_succ])
          refine plan_done (by kernel_rfl) ?_ _
          clear hPT
          go_wp2
          go_roundw
          case rel => exact ⟨k + 1, by go_num, hml, hk6, by rw [HN.out, HD.out]; exact HC5.out, HK5.out⟩
          case measure => simp [intOf]; omega
        have h4 : (x0 == 4) = false := by rw [beq_eq_false_iff_ne]; exact e4
        have HD := hide (show doS s [x0, x1, x2] = s by rw [doS_three, if_neg e0, if_neg e1, if_neg e2, if_neg e3, if_neg e4])
        clear e0 e1 e2 e3 e4
        go_wp2
        go_roundw
        case rel => exact ⟨k + 1, by go_num, hml, hk6, by rw [HN.out, HD.out]; exact HC.out, HKP.out⟩
        case measure => simp [intOf]; omega
      · have h3f : ((steps[k].length : Int) != 3) = true := by rw [bne_iff_ne]; omega
        have HD := hide (doS_far (s := s) h3)
        clear h3 hri
        go_wp2
        go_roundw
        case rel => exact ⟨k + 1, by go_num, hml, hk6, by rw [HN.out, HD.out]; exact HC.out, HKP.out⟩
        case measure => simp [intOf]; omega
    · have hend : k = steps.length ∨ 60 ≤ k := by omega
      have HE := hide (run_end hend hk60)
      rw [HE.out, HSE.out] at HC
      have HKA := hide (HK1.out.trans (hi_no HKP.out))
      have hcase : k = steps.length ∨ (k = 60 ∧ 60 < steps.length) ∨ (k = 60 ∧ steps.length = 60) := by omega
      clear hend HE HKP HC2 HK2 HK1 hlt
      rcases hcase with rfl | ⟨rfl, hl⟩ | ⟨rfl, hl⟩
      all_goals
        go_wp2_with fail
        refine Calls.mono (cheap_any _ HP.out HC.out) ?_
        rintro e w3 ⟨vo, vr, rfl, ho, hr, hk3⟩
        obtain ⟨Ao, co, rfl, hco, hmo, _⟩ := ho.form
        obtain ⟨Ar, cr, rfl, hcr, hmr, _⟩ := id hr
        obtain ⟨W, hW⟩ : ∃ W, w3.alloc (.cells #[.slice Ao s.outs.length co, .slice Ar s.roots.length cr] 28) = W := ⟨_, rfl⟩
        have hk4 : Kp No w3 W := by rw [← hW]; exact (Kp.refl No _).alloc _
        have HB := hide (show Blk W w3.heap.size 28 #[.slice Ao s.outs.length co, .slice Ar s.roots.length cr] from by rw [← hW]; exact Blk.new _ _ _)
        have HO := hide (ho.no hk4)
        have HR := hide (hr.no hk4)
        have HCW := hide ((HC.out.no hk3).no hk4)
        have HKW := hide ((HKA.out.trans hk3).trans hk4)
        clear ho hr hk3 hk4 HC HKA HT
        obtain ⟨b1, b2, b3, b4, b5⟩ := HB.out.a2
        go_wp2_with fail
        clear hW
        refine Calls.mono (reach_ok _ _ _ _ _ HO.out HR.out HP.out.ok) ?_
        rintro e w4 ⟨rfl, hk4⟩
        have HK4 := hide hk4
        clear hk4 b1 b2 b3 b4 b5
        obtain ⟨b1, b2, b3, b4, b5⟩ := (HB.out.kp HK4.out id).a2
        go_wp2_with fail
        refine Calls.mono (here_any _ HP.out (HCW.out.no HK4.out)) ?_
        rintro e w5 ⟨rfl, rfl⟩
        have HRL := hide (reachN_lt HP.out.ok)
        have HHL := hide (hereB_lt HP.out)
        have HN12 := hide HP.out.n12
        have HSAFE := hide (fun i (hi : bt (hereB s) i = true) j (hj : bt (freeN s.outs s.roots (i : Int)) j = true) => rings_safe HP.out hi hj)
        have HEND := hide (rings_end HP.out)
        have HLS := hide (fun k => lostTo_succ s k)
        have HFS := hide (fun k => freedTo_succ s k)
        have HLA := hide (fun k => show lostAt s k = (bt (hereB s) k && !bt (reachN s.outs s.roots) k) from rfl)
        obtain ⟨n, hn⟩ : ∃ n, reachN s.outs s.roots = n := ⟨_, rfl⟩
        obtain ⟨q, hq⟩ : ∃ q, hereB s = q := ⟨_, rfl⟩
        rw [hn] at HRL HSAFE HLA
        rw [hq] at HHL HSAFE HLA
        rw [hn, hq]
        have hd1 : decide ((4095 : Int) < (q : Int)) = false := by have := HHL.out; rw [decide_eq_false_iff_not]; omega
        clear hn hq
        go_wp2_with fail
        clear hd1 b1 b2 b3 b4 b5
        go_loopw [12, 13, 14] (fun l f z wz => ∃ i : Nat, z = .int .i64 i ∧ i ≤ s.outs.length ∧ l = .bool (lostTo s i) ∧ f = .bool (freedTo s i) ∧ Kp No W wz) (fun _ _ z _ => s.outs.length - (intOf z).toNat)
        case atStart => exact ⟨0, rfl, Nat.zero_le _, rfl, rfl, HK4.out⟩
        case round =>
          obtain ⟨i, rfl, hi, rfl, rfl, hkz⟩ := hrel
          have HKZ := hide hkz
          obtain ⟨b1, b2, b3, b4, b5⟩ := (HB.out.kp hkz id).a2
          clear hkz
          by_cases hil : i < s.outs.length
          · have HIL := hide hil
            have hil' : (i : Int) < (s.outs.length : Int) := by omega
            have H12 := hide (show i < 12 by have := HN12.out; omega)
            clear hil
            obtain ⟨l, hl⟩ : ∃ l, lostTo s i = l := ⟨_, rfl⟩
            obtain ⟨f, hf⟩ : ∃ f, freedTo s i = f := ⟨_, rfl⟩
            have HL1 := hide (HLS.out i)
            have HF1 := hide (HFS.out i)
            have HL2 := hide (HLA.out i)
            rw [hl] at HL1
            rw [hf] at HF1
            rw [hl, hf]
            clear hl hf
            go_wp2_with fail
            refine Calls.mono (bit_any q i (by have := HHL.out; omega) (by have := H12.out; omega) _) ?_
            rintro e w6 ⟨rfl, rfl⟩
            cases hb : bt q i with
            | false =>
              have HA := hide (show lostAt s i = false by rw [HL2.out, hb]; rfl)
              clear hb
              go_wp2
              go_roundw
              case rel => exact ⟨i + 1, by go_num, HIL.out, by rw [HL1.out, HA.out, Bool.or_false], by rw [HF1.out, HA.out, Bool.false_and, Bool.or_false], HKZ.out⟩
              case measure => simp [intOf]; have := HIL.out; omega
            | true =>
              have HS := hide (fun j hj => HSAFE.out i hb j hj)
              have HA := hide (show lostAt s i = !bt n i by rw [HL2.out, hb]; rfl)
              have HXI := hide (ok_one HP.out.ok (x := (i : Int)) (by omega) hil')
              have HFL := hide (freeN_lt (roots := s.roots) HXI.out)
              clear hb
              obtain ⟨fr, hfr⟩ : ∃ fr, freeN s.outs s.roots (i : Int) = fr := ⟨_, rfl⟩
              have HFR := hide hfr
              rw [hfr] at HS HFL HF1
              clear hfr
              go_wp2_with fail
              refine Calls.mono (free_ok _ _ s.outs s.roots (i : Int) _ (HO.out.no HKZ.out) (HR.out.no HKZ.out) HP.out.ok HXI.out) ?_
              rw [HFR.out]
              rintro e w7 ⟨rfl, hk7⟩
              have HK7 := hide (HKZ.out.trans hk7)
              clear hk7 b1 b2 b3 b4 b5
              obtain ⟨b1, b2, b3, b4, b5⟩ := (HB.out.kp HK7.out id).a2
              go_wp2_with fail
              go_loop [17] (fun z => ∃ j : Nat, z = .int .i64 j ∧ j ≤ s.outs.length) (fun z => s.outs.length - (intOf z).toNat)
              case atStart => exact ⟨0, rfl, Nat.zero_le _⟩
              case round =>
                obtain ⟨j, rfl, hj⟩ := hrel
                by_cases hjl : j < s.outs.length
                · have H12j := hide (show j < 12 by have := HN12.out; omega)
                  go_wp2_with fail
                  refine Calls.mono (bit_any fr j (by have := HFL.out; omega) (by have := H12j.out; omega) _) ?_
                  rintro e w8 ⟨rfl, rfl⟩
                  cases hb : bt fr j with
                  | false =>
                    clear hb
                    go_wp2
                    go_round
                    case rel => exact ⟨j + 1, by go_num, hjl⟩
                    case measure => simp [intOf]; omega
                  | true =>
                    have HSJ := hide (HS.out j hb)
                    clear hb
                    go_wp2_with fail
                    refine Calls.mono (bit_any n j (by have := HRL.out; omega) (by have := H12j.out; omega) _) ?_
                    rw [HSJ.out.1]
                    rintro e w8 ⟨rfl, rfl⟩
                    go_wp2_with fail
                    refine Calls.mono (bit_any q j (by have := HHL.out; omega) (by have := H12j.out; omega) _) ?_
                    rw [HSJ.out.2]
                    rintro e w8 ⟨rfl, rfl⟩
                    go_wp2
                    go_round
                    case rel => exact ⟨j + 1, by go_num, hjl⟩
                    case measure => simp [intOf]; omega
                · obtain rfl : j = s.outs.length := by omega
                  go_wp2_with fail
                  refine Calls.mono (bit_any n i (by have := HRL.out; omega) (by have := H12.out; omega) _) ?_
                  rintro e w8 ⟨rfl, rfl⟩
                  cases hb : bt n i with
                  | true =>
                    have HA2 := hide (show lostAt s i = false by rw [HA.out, hb]; rfl)
                    clear hb
                    go_wp2
                    go_roundw
                    case rel => exact ⟨i + 1, by go_num, HIL.out, by rw [HL1.out, HA2.out, Bool.or_false], by rw [HF1.out, HA2.out, Bool.false_and, Bool.or_false], HK7.out⟩
                    case measure => simp [intOf]; have := HIL.out; omega
                  | false =>
                    have HA2 := hide (show lostAt s i = true by rw [HA.out, hb]; rfl)
                    clear hb
                    have HL3 := hide (show lostTo s (i + 1) = true by rw [HL1.out, HA2.out, Bool.or_true])
                    cases f with
                    | true =>
                      have HF3 := hide (show freedTo s (i + 1) = true by rw [HF1.out, Bool.true_or])
                      go_wp2
                      go_roundw
                      case rel => exact ⟨i + 1, by go_num, HIL.out, by rw [HL3.out], by rw [HF3.out], HK7.out⟩
                      case measure => simp [intOf]; have := HIL.out; omega
                    | false =>
                      by_cases h0 : 0 < fr
                      · have HF3 := hide (show freedTo s (i + 1) = true by rw [HF1.out, HA2.out, decide_eq_true h0]; rfl)
                        have h0' : decide (0 < fr) = true := decide_eq_true h0
                        clear h0
                        go_wp2
                        go_roundw
                        case rel => exact ⟨i + 1, by go_num, HIL.out, by rw [HL3.out], by rw [HF3.out], HK7.out⟩
                        case measure => simp [intOf]; have := HIL.out; omega
                      · have HF3 := hide (show freedTo s (i + 1) = false by rw [HF1.out, HA2.out, decide_eq_false h0]; rfl)
                        have h0' : decide (0 < fr) = false := decide_eq_false h0
                        clear h0
                        go_wp2
                        go_roundw
                        case rel => exact ⟨i + 1, by go_num, HIL.out, by rw [HL3.out], by rw [HF3.out], HK7.out⟩
                        case measure => simp [intOf]; have := HIL.out; omega
          · obtain rfl : i = s.outs.length := by omega
            rw [HEND.out]
            obtain ⟨f, hf⟩ : ∃ f, freedTo s s.outs.length = f := ⟨_, rfl⟩
            rw [hf]
            clear hf
            cases f with
            | true =>
              go_wp2
              go_ret
              exact ⟨rfl, HKW.out.trans HKZ.out⟩
            | false =>
              go_wp2
              go_ret
              exact ⟨rfl, HKW.out.trans HKZ.out⟩
end Go.Proofs.Ytjcabgbleohdcaa
