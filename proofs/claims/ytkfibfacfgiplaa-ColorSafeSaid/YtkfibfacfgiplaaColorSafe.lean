/- The law ColorSafe, walked: of every heap and all steps. -/
import Derived.Test.YtkfibfacfgiplaaColorStand
import Derived.BigQuiet
namespace Go.Proofs.Ytkfibfacfgiplaa
open Go.RowKit

theorem lo_far {a b c : Nat} (hlo : Lo a c) (h : a < b) : ¬ Hi b c := fun h' => by unfold Lo at hlo; unfold Hi at h'; omega

theorem safe_at {O : List (List Int)} {roots c : List Int} (hok : Ok O roots) (hc : Col O roots c) (hg : (1 : Int) ∉ c) (i : Nat) :
    (cAt c i == 1) = false ∧ (bt (reachN O roots) i = true → cAt c i = 2) := by
  refine ⟨?_, fun h => ?_⟩
  · rw [beq_eq_false_iff_ne]
    intro e
    rcases Nat.lt_or_ge i c.length with hl | hl
    · exact hg (e ▸ cAt_mem hl)
    · rw [cAt_far hl] at e; cases e
  · unfold bt at h
    rw [reachN_bit hok] at h
    have := hc.nogrey hok hg h
    rwa [Int.toNat_natCast] at this

set_option maxRecDepth 100000 in
set_option maxHeartbeats 8000000 in
theorem colorSafe_any {F : Nat → Prop} (vo vr vt : Value) (outs : List (List Int)) (roots : List Int) (steps : List (List Int)) (w : World) (ho : RowsIn w F vo outs) (hr : IntsIn w F vr roots) (ht : RowsIn w F vt steps) :
    Calls Try.prog 14 #[.agg #[vo, vr], vt] w fun e w' => e = .returned (.bool true) ∧ Kp No w w' := by
  have HO := hide ho
  have HR := hide hr
  have HT := hide (ht.mono (F' := Lo w.heap.size) fun k h _ => h)
  clear ho hr ht
  obtain ⟨At', ct, rfl, hct, hmt, _⟩ := RowsIn.form HT.out
  by_cases hc : chk outs roots = 0
  · have HOK := hide (ok_of_chk hc)
    have HL := hide (ok_of_chk hc).n12
    clear hc
    go_enter Try.func14, Try.ntmps14
    go_wp2_with fail
    refine Calls.mono (colorFact_any _) ?_
    rintro e w1 ⟨rfl, hk1⟩
    have hb1 := (Blk.new w 25 #[vo, vr]).kp hk1 id
    obtain ⟨a1, a2, a3, a4, a5⟩ := hb1.a2
    have HB1 := hide hb1
    have HK1 := hide (((Kp.refl No w).alloc (.cells #[vo, vr] 25)).trans' hk1 fun _ _ h => h)
    clear hk1 hb1
    obtain ⟨Ao, co, rfl, hco, hmo, _⟩ := RowsIn.form HO.out
    obtain ⟨Ar, cr, rfl, hcr, hmr, _⟩ := id HR.out
    go_wp2_with fail
    refine Calls.mono (new_ok _ _ outs roots _ (HO.out.no HK1.out) (HR.out.no HK1.out) HOK.out) ?_
    unfold NewPost
    rintro e w2 ⟨p, vo', vr', vc, vs, rfl, hm, hp, hk2⟩
    have HS := hide (show Stand outs.length w2 p w1.heap.size vo' vr' vc vs outs roots (newC outs roots) from ⟨hm, HOK.out, Col.new_ HOK.out, rfl⟩)
    have HB2 := hide (HB1.out.kp hk2 id)
    have HK2 := hide (HK1.out.trans hk2)
    clear hm hk2 a1 a2 a3 a4
    have HW1 := hide (show w.heap.size < w1.heap.size from HB1.out.lt)
    obtain ⟨c0, hc0⟩ : ∃ c0, newC outs roots = c0 := ⟨_, rfl⟩
    rw [hc0] at HS
    clear hc0
    go_wp2_with fail
    go_loopw [8] (fun q wr => ∃ k : Nat, q = .int .i64 k ∧ k ≤ steps.length ∧ k ≤ 60 ∧ ∃ O c, Stand outs.length wr p w1.heap.size vo' vr' vc vs O roots c ∧ Kp (Hi w1.heap.size) w2 wr)
      (fun q _ => 60 - (intOf q).toNat)
    case atStart => exact ⟨0, rfl, Nat.zero_le _, by decide, _, _, HS.out, Kp.refl _ _⟩
    case round =>
      obtain ⟨k, rfl, hk, hk60, O, c, hs, hkp⟩ := hrel
      have HSk := hide hs
      have HKP := hide hkp
      clear hs hkp
      by_cases hlt : k < steps.length ∧ k < 60
      · obtain ⟨hml, hk6⟩ := hlt
        have hml' : (k : Int) < (steps.length : Int) := by omega
        have HKH := hide (show Kp (Hi w1.heap.size) w wr from (HK2.out.of_no).trans' HKP.out fun b hb h => h)
        have HTk := hide (HT.out.kp HKH.out fun b hb h => by unfold Lo at hb; unfold Hi at h; have := HW1.out; omega)
        obtain ⟨_, _, e, _, _, hrow⟩ := RowsIn.form HTk.out
        cases e
        obtain ⟨bt', ot, A', c', rfl, hFb, hrc, hri⟩ := hrow k hml
        clear hrow
        by_cases h3 : steps[k].length = 3
        · obtain ⟨x0, x1, x2, hx⟩ : ∃ x0 x1 x2, steps[k] = [x0, x1, x2] := by
            match hs : steps[k], h3 with
            | [a, b, c], _ => exact ⟨a, b, c, rfl⟩
          rw [hx] at hrc hri
          obtain ⟨_, _, e, _, _, hcell⟩ := hri
          cases e
          obtain ⟨b3', o3, rfl, hF3, i0⟩ := hcell 0 (by simp)
          obtain ⟨_, _, e, _, i1⟩ := hcell 1 (by simp)
          cases e
          obtain ⟨_, _, e, _, i2⟩ := hcell 2 (by simp)
          cases e
          simp only [List.getElem_cons_zero, List.getElem_cons_succ, Nat.add_zero] at i0 i1 i2
          clear hcell hx h3
          go_wp2_with fail
          refine plan_start 20 (by kernel_rfl) rfl (fun hPT => ?_)
          refine plan_take (i := 0) (v := ?_) rfl (by kernel_rfl) (by kernel_rfl) (by kernel_rfl) (fun _ _ _ h => h) hPT (by rfl) ?_ ?_
          rotate_left
          · (intro w; go_simp; with_reducible rfl)
          (clear hPT; intro hPT; simp only [List.getElem_toArray, List.getElem_cons_zero, List.getElem_cons_succ, Act.put, List.setIfInBounds_toArray, List.set_cons_zero, List.set_cons_succ])
          refine plan_take (i := 1) (v := ?_) rfl (by kernel_rfl) (by kernel_rfl) (by kernel_rfl) (fun _ _ _ h => h) hPT (by rfl) ?_ ?_
          rotate_left
          · (intro w; go_simp; with_reducible rfl)
          (clear hPT; intro hPT; simp only [List.getElem_toArray, List.getElem_cons_zero, List.getElem_cons_succ, Act.put, List.setIfInBounds_toArray, List.set_cons_zero, List.set_cons_succ])
          refine plan_take (i := 2) (v := ?_) rfl (by kernel_rfl) (by kernel_rfl) (by kernel_rfl) (fun _ _ _ h => h) hPT (by rfl) ?_ ?_
          rotate_left
          · (intro w; go_simp; with_reducible rfl)
          (clear hPT; intro hPT; simp only [List.getElem_toArray, List.getElem_cons_zero, List.getElem_cons_succ, Act.put, List.setIfInBounds_toArray, List.set_cons_zero, List.set_cons_succ])
          refine plan_take (i := 3) (v := ?_) rfl (by kernel_rfl) (by kernel_rfl) (by kernel_rfl) (fun _ _ _ h => h) hPT (by rfl) ?_ ?_
          rotate_left
          · (intro w; go_simp; with_reducible rfl)
          (clear hPT; intro hPT; simp only [List.getElem_toArray, List.getElem_cons_zero, List.getElem_cons_succ, Act.put, List.setIfInBounds_toArray, List.set_cons_zero, List.set_cons_succ])
          refine plan_load (fun w' => w'.cell? ⟨bt', ot + k, none⟩ = some (.slice (some ⟨b3', o3, none⟩) 3 c')) (i := 4) (v := ?_) rfl (by kernel_rfl) (by kernel_rfl) (by kernel_rfl) (fun _ _ _ h => h) hPT (by rfl) ?_ ?_ ?_
          rotate_left
          · (first | assumption | (go_simp; done))
          · (intro w hSw; (try dsimp only at hSw); go_simp; with_reducible rfl)
          (clear hPT; intro hPT; simp only [List.getElem_toArray, List.getElem_cons_zero, List.getElem_cons_succ, Act.put, List.setIfInBounds_toArray, List.set_cons_zero, List.set_cons_succ])
          refine plan_take (i := 5) (v := ?_) rfl (by kernel_rfl) (by kernel_rfl) (by kernel_rfl) (fun _ _ _ h => h) hPT (by rfl) ?_ ?_
          rotate_left
          · (intro w; go_simp; with_reducible rfl)
          (clear hPT; intro hPT; simp only [List.getElem_toArray, List.getElem_cons_zero, List.getElem_cons_succ, Act.put, List.setIfInBounds_toArray, List.set_cons_zero, List.set_cons_succ])
          refine plan_load (fun w' => w'.cell? ⟨b3', o3, none⟩ = some (.int .i64 x0)) (i := 6) (v := ?_) rfl (by kernel_rfl) (by kernel_rfl) (by kernel_rfl) (fun _ _ _ h => h) hPT (by rfl) ?_ ?_ ?_
          rotate_left
          · (first | assumption | (go_simp; done))
          · (intro w hSw; (try dsimp only at hSw); go_simp; with_reducible rfl)
          (clear hPT; intro hPT; simp only [List.getElem_toArray, List.getElem_cons_zero, List.getElem_cons_succ, Act.put, List.setIfInBounds_toArray, List.set_cons_zero, List.set_cons_succ])
          refine plan_take (i := 7) (v := ?_) rfl (by kernel_rfl) (by kernel_rfl) (by kernel_rfl) (fun _ _ _ h => h) hPT (by rfl) ?_ ?_
          rotate_left
          · (intro w; go_simp; with_reducible rfl)
          (clear hPT; intro hPT; simp only [List.getElem_toArray, List.getElem_cons_zero, List.getElem_cons_succ, Act.put, List.setIfInBounds_toArray, List.set_cons_zero, List.set_cons_succ])
          refine plan_take (i := 8) (v := ?_) rfl (by kernel_rfl) (by kernel_rfl) (by kernel_rfl) (fun _ _ _ h => h) hPT (by rfl) ?_ ?_
          rotate_left
          · (intro w; go_simp; with_reducible rfl)
          (clear hPT; intro hPT; simp only [List.getElem_toArray, List.getElem_cons_zero, List.getElem_cons_succ, Act.put, List.setIfInBounds_toArray, List.set_cons_zero, List.set_cons_succ])
          refine plan_take (i := 9) (v := ?_) rfl (by kernel_rfl) (by kernel_rfl) (by kernel_rfl) (fun _ _ _ h => h) hPT (by rfl) ?_ ?_
          rotate_left
          · (intro w; go_simp; with_reducible rfl)
          (clear hPT; intro hPT; simp only [List.getElem_toArray, List.getElem_cons_zero, List.getElem_cons_succ, Act.put, List.setIfInBounds_toArray, List.set_cons_zero, List.set_cons_succ])
          refine plan_load (fun w' => w'.cell? ⟨bt', ot + k, none⟩ = some (.slice (some ⟨b3', o3, none⟩) 3 c')) (i := 10) (v := ?_) rfl (by kernel_rfl) (by kernel_rfl) (by kernel_rfl) (fun _ _ _ h => h) hPT (by rfl) ?_ ?_ ?_
          rotate_left
          · (first | assumption | (go_simp; done))
          · (intro w hSw; (try dsimp only at hSw); go_simp; with_reducible rfl)
          (clear hPT; intro hPT; simp only [List.getElem_toArray, List.getElem_cons_zero, List.getElem_cons_succ, Act.put, List.setIfInBounds_toArray, List.set_cons_zero, List.set_cons_succ])
          refine plan_take (i := 11) (v := ?_) rfl (by kernel_rfl) (by kernel_rfl) (by kernel_rfl) (fun _ _ _ h => h) hPT (by rfl) ?_ ?_
          rotate_left
          · (intro w; go_simp; with_reducible rfl)
          (clear hPT; intro hPT; simp only [List.getElem_toArray, List.getElem_cons_zero, List.getElem_cons_succ, Act.put, List.setIfInBounds_toArray, List.set_cons_zero, List.set_cons_succ])
          refine plan_load (fun w' => w'.cell? ⟨b3', o3 + 1, none⟩ = some (.int .i64 x1)) (i := 12) (v := ?_) rfl (by kernel_rfl) (by kernel_rfl) (by kernel_rfl) (fun _ _ _ h => h) hPT (by rfl) ?_ ?_ ?_
          rotate_left
          · (first | assumption | (go_simp; done))
          · (intro w hSw; (try dsimp only at hSw); go_simp; with_reducible rfl)
          (clear hPT; intro hPT; simp only [List.getElem_toArray, List.getElem_cons_zero, List.getElem_cons_succ, Act.put, List.setIfInBounds_toArray, List.set_cons_zero, List.set_cons_succ])
          refine plan_take (i := 13) (v := ?_) rfl (by kernel_rfl) (by kernel_rfl) (by kernel_rfl) (fun _ _ _ h => h) hPT (by rfl) ?_ ?_
          rotate_left
          · (intro w; go_simp; with_reducible rfl)
          (clear hPT; intro hPT; simp only [List.getElem_toArray, List.getElem_cons_zero, List.getElem_cons_succ, Act.put, List.setIfInBounds_toArray, List.set_cons_zero, List.set_cons_succ])
          refine plan_take (i := 14) (v := ?_) rfl (by kernel_rfl) (by kernel_rfl) (by kernel_rfl) (fun _ _ _ h => h) hPT (by rfl) ?_ ?_
          rotate_left
          · (intro w; go_simp; with_reducible rfl)
          (clear hPT; intro hPT; simp only [List.getElem_toArray, List.getElem_cons_zero, List.getElem_cons_succ, Act.put, List.setIfInBounds_toArray, List.set_cons_zero, List.set_cons_succ])
          refine plan_take (i := 15) (v := ?_) rfl (by kernel_rfl) (by kernel_rfl) (by kernel_rfl) (fun _ _ _ h => h) hPT (by rfl) ?_ ?_
          rotate_left
          · (intro w; go_simp; with_reducible rfl)
          (clear hPT; intro hPT; simp only [List.getElem_toArray, List.getElem_cons_zero, List.getElem_cons_succ, Act.put, List.setIfInBounds_toArray, List.set_cons_zero, List.set_cons_succ])
          refine plan_load (fun w' => w'.cell? ⟨bt', ot + k, none⟩ = some (.slice (some ⟨b3', o3, none⟩) 3 c')) (i := 16) (v := ?_) rfl (by kernel_rfl) (by kernel_rfl) (by kernel_rfl) (fun _ _ _ h => h) hPT (by rfl) ?_ ?_ ?_
          rotate_left
          · (first | assumption | (go_simp; done))
          · (intro w hSw; (try dsimp only at hSw); go_simp; with_reducible rfl)
          (clear hPT; intro hPT; simp only [List.getElem_toArray, List.getElem_cons_zero, List.getElem_cons_succ, Act.put, List.setIfInBounds_toArray, List.set_cons_zero, List.set_cons_succ])
          refine plan_take (i := 17) (v := ?_) rfl (by kernel_rfl) (by kernel_rfl) (by kernel_rfl) (fun _ _ _ h => h) hPT (by rfl) ?_ ?_
          rotate_left
          · (intro w; go_simp; with_reducible rfl)
          (clear hPT; intro hPT; simp only [List.getElem_toArray, List.getElem_cons_zero, List.getElem_cons_succ, Act.put, List.setIfInBounds_toArray, List.set_cons_zero, List.set_cons_succ])
          refine plan_load (fun w' => w'.cell? ⟨b3', o3 + 2, none⟩ = some (.int .i64 x2)) (i := 18) (v := ?_) rfl (by kernel_rfl) (by kernel_rfl) (by kernel_rfl) (fun _ _ _ h => h) hPT (by rfl) ?_ ?_ ?_
          rotate_left
          · (first | assumption | (go_simp; done))
          · (intro w hSw; (try dsimp only at hSw); go_simp; with_reducible rfl)
          (clear hPT; intro hPT; simp only [List.getElem_toArray, List.getElem_cons_zero, List.getElem_cons_succ, Act.put, List.setIfInBounds_toArray, List.set_cons_zero, List.set_cons_succ])
          refine plan_one (i := 19) (by kernel_rfl) rfl (by rfl) (fun K hK => ?_)
          (try simp only [List.getElem_toArray, List.getElem_cons_zero, List.getElem_cons_succ, Act.put, List.setIfInBounds_toArray, List.set_cons_zero, List.set_cons_succ])
          go_simp
          refine Calls.mono (point_stand x0 x1 x2 _ (HSk.out.no (Kp.refl No _).drew)) ?_
          rintro e w5 ⟨rfl, hmv⟩
          obtain ⟨O2, c2, hs2, hle, hkm⟩ := hmv
          have hkx : Kp (Hi w1.heap.size) wr w5 := (Kp.refl _ _).drew.trans (hkm.mono fun b _ hb => HSk.out.mark.ge hb)
          have HS2 := hide hs2
          have HK5 := hide (HKP.out.trans hkx)
          have jr := hkx.cell hrc (lo_far hFb HW1.out)
          have j0 := hkx.cell i0 (lo_far hF3 HW1.out)
          have j1 := hkx.cell i1 (lo_far hF3 HW1.out)
          have j2 := hkx.cell i2 (lo_far hF3 HW1.out)
          clear hkx hs2 hle hkm
          refine hK.out _ _ _ (t_cons j2 (t_cons jr (t_cons j1 (t_cons jr (t_cons j0 (t_cons jr (t_nil _))))))) k_same (fun hPT' => ?_)
          (clear hPT hK K; have hPT := hPT'; clear hPT'; try simp only [List.getElem_toArray, List.getElem_cons_zero, List.getElem_cons_succ, Act.put, List.setIfInBounds_toArray, List.set_cons_zero, List.set_cons_succ])
          refine plan_done (by kernel_rfl) ?_ _
          clear hPT
          clear j0 j1 j2 jr i0 i1 i2 hrc
          go_wp2
          go_roundw
          case rel => exact ⟨k + 1, by go_num, hml, hk6, _, _, HS2.out, HK5.out⟩
          case measure => simp [intOf]; omega
        · have h3f : ((steps[k].length : Int) == 3) = false := by rw [beq_eq_false_iff_ne]; omega
          clear h3 hri
          go_wp2_with fail
          refine Calls.mono (step_stand _ HSk.out) ?_
          rintro e w5 ⟨rfl, hmv⟩
          obtain ⟨O2, c2, hs2, hle, hkm⟩ := hmv
          have HS2 := hide hs2
          have HK5 := hide (HKP.out.trans (hkm.mono fun b _ hb => HSk.out.mark.ge hb))
          clear hs2 hle hkm hrc
          go_wp2
          go_roundw
          case rel => exact ⟨k + 1, by go_num, hml, hk6, _, _, HS2.out, HK5.out⟩
          case measure => simp [intOf]; omega
      · have hend : k = steps.length ∨ 60 ≤ k := by omega
        have HBk := hide (HB2.out.kp HKP.out fun h => by unfold Hi at h; have := HW1.out; omega)
        have HCL := hide (fun j => (stepsC_length O c j).trans HSk.out.clen)
        have HOL := hide HSk.out.len
        have HOK2 := hide HSk.out.ok
        have HCC := hide (fun j => HSk.out.col.steps HSk.out.ok j)
        have HNG := hide (fun j (hj : c.length ≤ j) => no_grey O c hj)
        have HCL0 := hide HSk.out.clen
        obtain ⟨wo, rfl⟩ : ∃ wo : World, wo = wr := ⟨_, rfl⟩
        by_cases hd : (k : Int) < (steps.length : Int)
        all_goals
          have hd2 : ¬ ((k : Int) < (steps.length : Int)) ∨ ¬ ((k : Int) < 60) := by omega
          try (have hd3 : ¬ ((k : Int) < 60) := by omega)
          clear hend hlt hd2
          go_wp2_with fail
          go_loopw [9] (fun q wq => ∃ j : Nat, q = .int .i64 j ∧ j ≤ outs.length ∧ MarkAt wq p w1.heap.size vo' vr' vc vs O roots (stepsC O j c) ∧ Kp (Hi w1.heap.size) wo wq) (fun q _ => outs.length - (intOf q).toNat)
          case atStart => exact ⟨0, rfl, Nat.zero_le _, HSk.out.mark, Kp.refl _ _⟩
          case round =>
            obtain ⟨j, rfl, hj, hmj, hkj⟩ := hrel
            have HMJ := hide hmj
            have HKJ := hide hkj
            obtain ⟨a1, a2, a3, a4, _⟩ := (HBk.out.kp hkj fun h => by unfold Hi at h; have := HW1.out; omega).a2
            clear hmj hkj
            by_cases hjl : j < outs.length
            · have HST := hide (show stepsC O (j + 1) c = stepC O (stepsC O j c) from rfl)
              go_wp2_with fail
              refine Calls.mono (step_any _ HMJ.out HOK2.out ((HCL.out j).trans HOL.out.symm)) ?_
              rintro e w5 ⟨rfl, hm5, hk5⟩
              have HM5 := hide hm5
              have HK5 := hide (HKJ.out.trans' hk5 fun b hb e => (own_lt HMJ.out.col e).1)
              clear hm5 hk5 a1 a2 a3 a4
              go_wp2
              go_roundw
              case rel => exact ⟨j + 1, by go_num, hjl, by rw [HST.out]; exact HM5.out, HK5.out⟩
              case measure => simp [intOf]; omega
            · obtain rfl : j = outs.length := by omega
              have HNN := hide (HNG.out outs.length (by rw [HCL0.out]; exact Nat.le_refl _))
              have HCN := hide (HCL.out outs.length)
              have HSF := hide (fun i => safe_at HOK2.out (HCC.out outs.length) HNN.out i)
              have HBj := hide (HBk.out.kp HKJ.out fun h => by unfold Hi at h; have := HW1.out; omega)
              have HKF := hide (show Kp No w wr from (HK2.out.trans' HKP.out fun b hb h => by unfold Hi at h; have := HW1.out; omega).trans' HKJ.out fun b hb h => by unfold Hi at h; have := HW1.out; omega)
              obtain ⟨cn, hcn⟩ : ∃ cn, stepsC O outs.length c = cn := ⟨_, rfl⟩
              rw [hcn] at HMJ HNN HCN HSF
              clear hcn HCL HCC HNG
              go_wp2_with fail
              refine Calls.mono (step_no _ HMJ.out HNN.out) ?_
              rintro e w5 ⟨rfl, rfl⟩
              go_wp2_with fail
              refine Calls.mono (colors_any _ HMJ.out (by rw [HCN.out]; exact HL.out)) ?_
              rintro e w6 ⟨v6, rfl, hv6, hk6⟩
              obtain ⟨e0, A6, c6, hvv, hc6, hm6, _⟩ := own_form hv6
              clear e0
              rw [iv_length, HCN.out] at hvv
              rw [iv_length, HCN.out] at hc6
              subst hvv
              have HV6 := hide hv6
              have HM6 := hide (HMJ.out.no hk6)
              have HK6 := hide (HKF.out.trans hk6)
              have HB6 := hide (HBj.out.kp hk6 id)
              clear hv6 hk6 a1 a2 a3 a4
              go_wp2_with fail
              refine Calls.mono (mheap_any _ HM6.out HOK2.out) ?_
              rintro e w7 ⟨vx, vy, rfl, hx, hy, hk7⟩
              have HX := hide hx
              have HY := hide hy
              have HK7 := hide (HK6.out.trans hk7)
              have HV7 := hide (own_kp HV6.out hk7 fun _ _ h => h)
              have HB7 := hide (HB6.out.kp hk7 id)
              clear hx hy hk7
              go_wp2_with fail
              refine Calls.mono (reach_ok vx vy O roots _ HX.out HY.out HOK2.out) ?_
              rintro e w8 ⟨rfl, hk8⟩
              have HK8 := hide (HK7.out.trans hk8)
              have HV8 := hide (own_kp HV7.out hk8 fun _ _ h => h)
              obtain ⟨a1, a2, a3, a4, _⟩ := (HB7.out.kp hk8 id).a2
              have HN := hide (reachN_lt HOK2.out)
              clear hk8
              obtain ⟨s, hs⟩ : ∃ s, reachN O roots = s := ⟨_, rfl⟩
              rw [hs] at HN HSF ⊢
              clear hs
              have hne : ((outs.length : Int) != (outs.length : Int)) = false := by simp
              go_wp2_with fail
              go_loop [12] (fun q => ∃ i : Nat, q = .int .i64 i ∧ i ≤ outs.length) (fun q => outs.length - (intOf q).toNat)
              case atStart => exact ⟨0, rfl, Nat.zero_le _⟩
              case round =>
                obtain ⟨i, rfl, hi⟩ := hrel
                by_cases hil : i < outs.length
                · have hi12 : i < 12 := by have := HL.out; omega
                  obtain ⟨g1, c9, e, _, _, hc2, _, _, _, _⟩ := own_int HV8.out (k := i) (by rw [HCN.out]; exact hil)
                  rw [HCN.out] at e
                  injection e with e1 e2 e3
                  subst e1 e3
                  clear e2
                  rw [← cAt_eq (by rw [HCN.out]; exact hil)] at hc2
                  obtain ⟨hs1, hs2⟩ := HSF.out i
                  have HS2 := hide hs2
                  obtain ⟨d, hd⟩ : ∃ d, cAt cn i = d := ⟨_, rfl⟩
                  rw [hd] at hc2 hs1 HS2
                  clear hs2 hd
                  go_wp2_with fail
                  refine Calls.mono (bit_any s i (by have := HN.out; omega) (by omega) _) ?_
                  rintro e w9 ⟨rfl, rfl⟩
                  cases hb : bt s i with
                  | true =>
                    have h2 : (d != 2) = false := by rw [HS2.out hb]; rfl
                    clear hb
                    go_wp2
                    go_round
                    case rel => exact ⟨i + 1, by go_num, hil⟩
                    case measure => simp [intOf]; omega
                  | false =>
                    clear hb
                    go_wp2
                    go_round
                    case rel => exact ⟨i + 1, by go_num, hil⟩
                    case measure => simp [intOf]; omega
                · obtain rfl : i = outs.length := by omega
                  go_wp2
                  go_ret
                  exact ⟨rfl, HK8.out⟩
  · have HC := hide hc
    clear hc
    go_enter Try.func14, Try.ntmps14
    go_wp2_with fail
    refine Calls.mono (colorFact_any _) ?_
    rintro e w1 ⟨rfl, hk1⟩
    have hb1 := (Blk.new w 25 #[vo, vr]).kp hk1 id
    obtain ⟨a1, a2, a3, a4, a5⟩ := hb1.a2
    have HB1 := hide hb1
    have HK1 := hide (((Kp.refl No w).alloc (.cells #[vo, vr] 25)).trans' hk1 fun _ _ h => h)
    clear hk1 hb1
    go_wp2_with fail
    refine Calls.mono (new_bad _ _ outs roots _ (HO.out.no HK1.out) (HR.out.no HK1.out) HC.out) ?_
    rintro e w2 ⟨rfl, hk2⟩
    have HK2 := hide (HK1.out.trans hk2)
    clear hk2
    go_wp2
    go_ret
    exact ⟨rfl, HK2.out⟩
end Go.Proofs.Ytkfibfacfgiplaa
