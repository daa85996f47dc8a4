/- The law ColorJust, walked: of every heap. -/
import Derived.Test.YtkfibfacfgiplaaColorHeap
import Derived.Test.YtkfibfacfgiplaaReach
import Derived.BigQuiet
namespace Go.Proofs.Ytkfibfacfgiplaa
open Go.RowKit

theorem eqHB_self (a : List (List Int)) (c : List Int) : eqHB a a c c = true := by simp [eqHB, eqB, eqBB]

theorem just_at {outs : List (List Int)} {roots : List Int} (hok : Ok outs roots) {k : Nat} (hk : outs.length ≤ k) (i : Nat) :
    (bt (reachN outs roots) i = true → cAt (stepsC outs k (newC outs roots)) i = 2) ∧ (bt (reachN outs roots) i = false → (cAt (stepsC outs k (newC outs roots)) i == 2) = false ∧ (cAt (stepsC outs k (newC outs roots)) i == 1) = false) := by
  have hc := (Col.new_ hok).steps hok k
  have hg := no_grey outs (newC outs roots) (k := k) (by rw [newC_length]; exact hk)
  have hb := black_bit hok hc ((Sound.new_ hok).steps hok k) hg i
  refine ⟨fun h => hb.2 h, fun h => ⟨?_, ?_⟩⟩
  · rw [beq_eq_false_iff_ne]
    intro e
    rw [hb.1 e] at h
    cases h
  · rw [beq_eq_false_iff_ne]
    intro e
    rcases Nat.lt_or_ge i (stepsC outs k (newC outs roots)).length with hl | hl
    · exact hg (e ▸ cAt_mem hl)
    · rw [cAt_far hl] at e; cases e

set_option maxRecDepth 100000 in
set_option maxHeartbeats 2000000 in
theorem colorJust_any {F : Nat → Prop} (vo vr : Value) (outs : List (List Int)) (roots : List Int) (w : World) (ho : RowsIn w F vo outs) (hr : IntsIn w F vr roots) :
    Calls Try.prog 10 #[.agg #[vo, vr]] w fun e w' => e = .returned (.bool true) ∧ Kp No w w' := by
  have HO := hide ho
  have HR := hide hr
  clear ho hr
  by_cases hc : chk outs roots = 0
  · have HOK := hide (ok_of_chk hc)
    have HL := hide (ok_of_chk hc).n12
    clear hc
    go_enter Try.func10, Try.ntmps10
    go_wp2_with fail
    refine Calls.mono (colorFact_any _) ?_
    rintro e w1 ⟨rfl, hk1⟩
    have hb1 := (Blk.new w 25 #[vo, vr]).kp hk1 id
    obtain ⟨a1, a2, a3, a4, a5⟩ := hb1.a2
    have HB1 := hide hb1
    have HK1 := hide (((Kp.refl No w).alloc (.cells #[vo, vr] 25)).trans' hk1 fun _ _ h => h)
    clear hk1 hb1
    obtain ⟨Ao, co, rfl, hco, hmo, _⟩ := RowsIn.form HO.out
    obtain ⟨Ar, cr, rfl, hcr, hmr, _⟩ := id HR.out
    go_wp2_with fail
    refine Calls.mono (new_ok _ _ outs roots _ (HO.out.no HK1.out) (HR.out.no HK1.out) HOK.out) ?_
    unfold NewPost
    rintro e w2 ⟨p, vo', vr', vc, vs, rfl, hm, hp, hk2⟩
    have HM := hide hm
    have HB2 := hide (HB1.out.kp hk2 id)
    have HK2 := hide (HK1.out.trans hk2)
    clear hm hk2 a1 a2 a3 a4
    have HW1 := hide (show w.heap.size < w1.heap.size from HB1.out.lt)
    have HJ := hide (fun k (hk : outs.length ≤ k) i => just_at HOK.out hk i)
    have HCL := hide (fun k => (stepsC_length outs (newC outs roots) k).trans (newC_length outs roots))
    obtain ⟨c0, hc0⟩ : ∃ c0, newC outs roots = c0 := ⟨_, rfl⟩
    rw [hc0] at HM HJ HCL
    clear hc0
    obtain ⟨a1, a2, a3, a4, _⟩ := HB2.out.a2
    go_wp2_with fail
    clear a1 a2 a3 a4
    go_loopw [6] (fun q wr => ∃ k : Nat, q = .int .i64 k ∧ k ≤ outs.length ∧ MarkAt wr p w1.heap.size vo' vr' vc vs outs roots (stepsC outs k c0) ∧ Kp (Hi w1.heap.size) w2 wr)
      (fun q _ => outs.length - (intOf q).toNat)
    case atStart => exact ⟨0, rfl, Nat.zero_le _, HM.out, Kp.refl _ _⟩
    case round =>
      obtain ⟨k, rfl, hk, hmk, hkp⟩ := hrel
      have HMK := hide hmk
      have HKP := hide hkp
      obtain ⟨a1, a2, a3, a4, _⟩ := (HB2.out.kp hkp fun h => by unfold Hi at h; have := HW1.out; omega).a2
      clear hmk hkp
      by_cases hlt : k < outs.length
      · have HS := hide (show stepsC outs (k + 1) c0 = stepC outs (stepsC outs k c0) from rfl)
        go_wp2_with fail
        refine Calls.mono (step_any _ HMK.out HOK.out (HCL.out k)) ?_
        rintro e w4 ⟨rfl, hm4, hk4⟩
        have HM4 := hide hm4
        have HK4 := hide (HKP.out.trans' hk4 fun b hb e => (own_lt HMK.out.col e).1)
        clear hm4 hk4 a1 a2 a3 a4
        go_wp2
        go_roundw
        case rel => exact ⟨k + 1, by go_num, hlt, by rw [HS.out]; exact HM4.out, HK4.out⟩
        case measure => simp [intOf]; omega
      · obtain rfl : k = outs.length := by omega
        have HJN := hide (HJ.out outs.length (Nat.le_refl _))
        have HCN := hide (HCL.out outs.length)
        have HB4 := hide (HB2.out.kp HKP.out fun h => by unfold Hi at h; have := HW1.out; omega)
        have HK4 := hide (show Kp No w wr from HK2.out.trans' HKP.out fun b hb h => by unfold Hi at h; have := HW1.out; omega)
        obtain ⟨cn, hcn⟩ : ∃ cn, stepsC outs outs.length c0 = cn := ⟨_, rfl⟩
        rw [hcn] at HMK HJN HCN
        clear hcn HJ HCL
        go_wp2_with fail
        refine Calls.mono (colors_any _ HMK.out (by rw [HCN.out]; exact HL.out)) ?_
        rintro e w5 ⟨v5, rfl, hv5, hk5⟩
        obtain ⟨e0, A5, c5, hvv, hc5, hm5, _⟩ := own_form hv5
        clear e0
        rw [iv_length, HCN.out] at hvv
        rw [iv_length, HCN.out] at hc5
        subst hvv
        have HV5 := hide hv5
        have HB5 := hide (HB4.out.kp hk5 id)
        have HM5 := hide (HMK.out.no hk5)
        have HK5 := hide (HK4.out.trans hk5)
        clear hv5 hk5 a1 a2 a3 a4
        obtain ⟨a1, a2, a3, a4, _⟩ := HB5.out.a2
        go_wp2_with fail
        refine Calls.mono (reach_ok _ _ outs roots _ (HO.out.no HK5.out) (HR.out.no HK5.out) HOK.out) ?_
        rintro e w6 ⟨rfl, hk6⟩
        have HV6 := hide (own_kp HV5.out hk6 fun _ _ h => h)
        have HB6 := hide (HB5.out.kp hk6 id)
        have HM6 := hide (HM5.out.no hk6)
        have HK6 := hide (HK5.out.trans hk6)
        clear hk6 a1 a2 a3 a4
        obtain ⟨a1, a2, a3, a4, _⟩ := HB6.out.a2
        have HN := hide (reachN_lt HOK.out)
        obtain ⟨s, hs⟩ : ∃ s, reachN outs roots = s := ⟨_, rfl⟩
        rw [hs] at HN HJN ⊢
        clear hs
        have hne : ((outs.length : Int) != (outs.length : Int)) = false := by simp
        go_wp2_with fail
        refine plan_start 17 (by kernel_rfl) rfl (fun hPT => ?_)
        refine plan_take (i := 0) (v := ?_) rfl (by kernel_rfl) (by kernel_rfl) (by kernel_rfl) (fun _ _ _ h => h) hPT (by rfl) ?_ ?_
        rotate_left
        · (intro w; go_simp; with_reducible rfl)
        (clear hPT; intro hPT; simp only [List.getElem_toArray, List.getElem_cons_zero, List.getElem_cons_succ, Act.put, List.setIfInBounds_toArray, List.set_cons_zero, List.set_cons_succ])
        refine plan_take (i := 1) (v := ?_) rfl (by kernel_rfl) (by kernel_rfl) (by kernel_rfl) (fun _ _ _ h => h) hPT (by rfl) ?_ ?_
        rotate_left
        · (intro w; go_simp; with_reducible rfl)
        (clear hPT; intro hPT; simp only [List.getElem_toArray, List.getElem_cons_zero, List.getElem_cons_succ, Act.put, List.setIfInBounds_toArray, List.set_cons_zero, List.set_cons_succ])
        refine plan_take (i := 2) (v := ?_) rfl (by kernel_rfl) (by kernel_rfl) (by kernel_rfl) (fun _ _ _ h => h) hPT (by rfl) ?_ ?_
        rotate_left
        · (intro w; go_simp; with_reducible rfl)
        (clear hPT; intro hPT; simp only [List.getElem_toArray, List.getElem_cons_zero, List.getElem_cons_succ, Act.put, List.setIfInBounds_toArray, List.set_cons_zero, List.set_cons_succ])
        refine plan_take (i := 3) (v := ?_) rfl (by kernel_rfl) (by kernel_rfl) (by kernel_rfl) (fun _ _ _ h => h) hPT (by rfl) ?_ ?_
        rotate_left
        · (intro w; go_simp; with_reducible rfl)
        (clear hPT; intro hPT; simp only [List.getElem_toArray, List.getElem_cons_zero, List.getElem_cons_succ, Act.put, List.setIfInBounds_toArray, List.set_cons_zero, List.set_cons_succ])
        refine plan_take (i := 4) (v := ?_) rfl (by kernel_rfl) (by kernel_rfl) (by kernel_rfl) (fun _ _ _ h => h) hPT (by rfl) ?_ ?_
        rotate_left
        · (intro w; go_simp; with_reducible rfl)
        (clear hPT; intro hPT; simp only [List.getElem_toArray, List.getElem_cons_zero, List.getElem_cons_succ, Act.put, List.setIfInBounds_toArray, List.set_cons_zero, List.set_cons_succ])
        refine plan_take (i := 5) (v := ?_) rfl (by kernel_rfl) (by kernel_rfl) (by kernel_rfl) (fun _ _ _ h => h) hPT (by rfl) ?_ ?_
        rotate_left
        · (intro w; go_simp; with_reducible rfl)
        (clear hPT; intro hPT; simp only [List.getElem_toArray, List.getElem_cons_zero, List.getElem_cons_succ, Act.put, List.setIfInBounds_toArray, List.set_cons_zero, List.set_cons_succ])
        refine plan_load (fun w' => w'.cell? ⟨w.heap.size, 0, none⟩ = some (.slice Ao outs.length co)) (i := 6) (v := ?_) rfl (by kernel_rfl) (by kernel_rfl) (by kernel_rfl) (fun _ _ _ h => h) hPT (by rfl) ?_ ?_ ?_
        rotate_left
        · (first | assumption | (go_simp; done))
        · (intro w hSw; (try dsimp only at hSw); go_simp; with_reducible rfl)
        (clear hPT; intro hPT; simp only [List.getElem_toArray, List.getElem_cons_zero, List.getElem_cons_succ, Act.put, List.setIfInBounds_toArray, List.set_cons_zero, List.set_cons_succ])
        refine plan_take (i := 7) (v := ?_) rfl (by kernel_rfl) (by kernel_rfl) (by kernel_rfl) (fun _ _ _ h => h) hPT (by rfl) ?_ ?_
        rotate_left
        · (intro w; go_simp; with_reducible rfl)
        (clear hPT; intro hPT; simp only [List.getElem_toArray, List.getElem_cons_zero, List.getElem_cons_succ, Act.put, List.setIfInBounds_toArray, List.set_cons_zero, List.set_cons_succ])
        refine plan_take (i := 8) (v := ?_) rfl (by kernel_rfl) (by kernel_rfl) (by kernel_rfl) (fun _ _ _ h => h) hPT (by rfl) ?_ ?_
        rotate_left
        · (intro w; go_simp; with_reducible rfl)
        (clear hPT; intro hPT; simp only [List.getElem_toArray, List.getElem_cons_zero, List.getElem_cons_succ, Act.put, List.setIfInBounds_toArray, List.set_cons_zero, List.set_cons_succ])
        refine plan_take (i := 9) (v := ?_) rfl (by kernel_rfl) (by kernel_rfl) (by kernel_rfl) (fun _ _ _ h => h) hPT (by rfl) ?_ ?_
        rotate_left
        · (intro w; go_simp; with_reducible rfl)
        (clear hPT; intro hPT; simp only [List.getElem_toArray, List.getElem_cons_zero, List.getElem_cons_succ, Act.put, List.setIfInBounds_toArray, List.set_cons_zero, List.set_cons_succ])
        refine plan_take (i := 10) (v := ?_) rfl (by kernel_rfl) (by kernel_rfl) (by kernel_rfl) (fun _ _ _ h => h) hPT (by rfl) ?_ ?_
        rotate_left
        · (intro w; go_simp; with_reducible rfl)
        (clear hPT; intro hPT; simp only [List.getElem_toArray, List.getElem_cons_zero, List.getElem_cons_succ, Act.put, List.setIfInBounds_toArray, List.set_cons_zero, List.set_cons_succ])
        refine plan_take (i := 11) (v := ?_) rfl (by kernel_rfl) (by kernel_rfl) (by kernel_rfl) (fun _ _ _ h => h) hPT (by rfl) ?_ ?_
        rotate_left
        · (intro w; go_simp; with_reducible rfl)
        (clear hPT; intro hPT; simp only [List.getElem_toArray, List.getElem_cons_zero, List.getElem_cons_succ, Act.put, List.setIfInBounds_toArray, List.set_cons_zero, List.set_cons_succ])
        refine plan_load (fun w' => w'.cell? ⟨w.heap.size, 0, none⟩ = some (.slice Ao outs.length co) ∧ w'.cell? ⟨w.heap.size, 1, none⟩ = some (.slice Ar roots.length cr)) (i := 13) (v := ?_) rfl (by kernel_rfl) (by kernel_rfl) (by kernel_rfl) (fun _ _ _ h => h) hPT (by rfl) ?_ ?_ ?_
        rotate_left
        · exact ⟨by go_simp, by go_simp⟩
        · (intro w hSw; obtain ⟨s1, s2⟩ := hSw; go_simp; with_reducible rfl)
        (clear hPT; intro hPT)
        (try simp only [List.getElem_toArray, List.getElem_cons_zero, List.getElem_cons_succ, Act.put, List.setIfInBounds_toArray, List.set_cons_zero, List.set_cons_succ])
        refine plan_one (i := 12) (by kernel_rfl) rfl (by rfl) (fun K hK => ?_)
        (try simp only [List.getElem_toArray, List.getElem_cons_zero, List.getElem_cons_succ, Act.put, List.setIfInBounds_toArray, List.set_cons_zero, List.set_cons_succ])
        go_simp
        refine Calls.mono (mheap_any _ (HM6.out.no (Kp.refl No _).drew) HOK.out) ?_
        rintro e w7 ⟨vx, vy, rfl, hx, hy, hk7⟩
        have HX := hide hx
        have HY := hide hy
        have HK7 := hide ((Kp.refl No w6).drew.trans hk7)
        clear hx hy hk7 a1 a2 a3 a4
        obtain ⟨a1, a2, a3, a4, _⟩ := (HB6.out.kp HK7.out id).a2
        refine hK.out _ _ _ (t_cons ⟨a1, a2⟩ (t_cons a1 (t_nil _))) k_same (fun hPT' => ?_)
        (clear hPT hK K; have hPT := hPT'; clear hPT'; try simp only [List.getElem_toArray, List.getElem_cons_zero, List.getElem_cons_succ, Act.put, List.setIfInBounds_toArray, List.set_cons_zero, List.set_cons_succ])
        refine plan_one (i := 14) (by kernel_rfl) rfl (by rfl) (fun K hK => ?_)
        (try simp only [List.getElem_toArray, List.getElem_cons_zero, List.getElem_cons_succ, Act.put, List.setIfInBounds_toArray, List.set_cons_zero, List.set_cons_succ])
        go_simp
        refine Calls.mono (heaps_any vx vy _ _ outs outs roots roots _ HX.out HY.out (HO.out.no (HK6.out.trans HK7.out)) (HR.out.no (HK6.out.trans HK7.out))) ?_
        rw [eqHB_self]
        rintro e w8 ⟨rfl, hk8⟩
        have HK8 := hide (HK7.out.trans hk8)
        clear hk8 a1 a2 a3 a4
        obtain ⟨a1, a2, a3, a4, _⟩ := (HB6.out.kp HK8.out id).a2
        refine hK.out _ _ _ (t_cons ⟨a1, a2⟩ (t_cons a1 (t_nil _))) k_same (fun hPT' => ?_)
        (clear hPT hK K; have hPT := hPT'; clear hPT'; try simp only [List.getElem_toArray, List.getElem_cons_zero, List.getElem_cons_succ, Act.put, List.setIfInBounds_toArray, List.set_cons_zero, List.set_cons_succ])
        refine plan_take (i := 15) (v := ?_) rfl (by kernel_rfl) (by kernel_rfl) (by kernel_rfl) (fun _ _ _ h => h) hPT (by rfl) ?_ ?_
        rotate_left
        · (intro w; go_simp; with_reducible rfl)
        (clear hPT; intro hPT; simp only [List.getElem_toArray, List.getElem_cons_zero, List.getElem_cons_succ, Act.put, List.setIfInBounds_toArray, List.set_cons_zero, List.set_cons_succ])
        refine plan_take (i := 16) (v := ?_) rfl (by kernel_rfl) (by kernel_rfl) (by kernel_rfl) (fun _ _ _ h => h) hPT (by rfl) ?_ ?_
        rotate_left
        · (intro w; go_simp; with_reducible rfl)
        (clear hPT; intro hPT; simp only [List.getElem_toArray, List.getElem_cons_zero, List.getElem_cons_succ, Act.put, List.setIfInBounds_toArray, List.set_cons_zero, List.set_cons_succ])
        refine plan_done (by kernel_rfl) ?_ _
        clear hPT
        have HV8 := hide (own_kp HV6.out HK8.out fun _ _ h => h)
        go_wp2_with fail
        go_loopw [9] (fun q wq => ∃ i : Nat, q = .int .i64 i ∧ i ≤ outs.length ∧ Kp No w8 wq) (fun q _ => outs.length - (intOf q).toNat)
        case atStart => exact ⟨0, rfl, Nat.zero_le _, Kp.refl _ _⟩
        case round =>
          obtain ⟨i, rfl, hi, hkq⟩ := hrel
          have HKQ := hide hkq
          clear hkq a1 a2 a3 a4
          by_cases hil : i < outs.length
          · have hi12 : i < 12 := by have := HL.out; omega
            obtain ⟨g, c9, e, _, _, hcell, _, _, _, _⟩ := own_int (own_kp HV8.out HKQ.out fun _ _ h => h) (k := i) (by rw [HCN.out]; exact hil)
            rw [HCN.out] at e
            injection e with e1 e2 e3
            subst e1 e3
            clear e2
            rw [← cAt_eq (by rw [HCN.out]; exact hil)] at hcell
            obtain ⟨hj1, hj2⟩ := HJN.out i
            obtain ⟨d, hd⟩ : ∃ d, cAt cn i = d := ⟨_, rfl⟩
            rw [hd] at hcell hj1 hj2
            have HJ1 := hide hj1
            have HJ2 := hide hj2
            clear hd hj1 hj2
            cases hb : bt s i with
            | true =>
              obtain rfl : d = 2 := HJ1.out hb
              have HBT := hide hb
              clear hb
              go_wp2_with fail
              go_quiet ((go_at_call 29; exact Calls.quiet_of ((bit_any s i (by have := HN.out; omega) (by omega) _).mono fun e w' h => ⟨h.1.trans (ret_bool HBT.out), 0, h.2.symm⟩)))
              go_wp2
              go_roundw
              case rel => exact ⟨i + 1, by go_num, hil, HKQ.out.drewN _⟩
              case measure => simp [intOf]; omega
            | false =>
              obtain ⟨hd2, hd1⟩ := HJ2.out hb
              have HBT := hide hb
              clear hb
              go_wp2_with fail
              go_quiet ((go_at_call 29; exact Calls.quiet_of ((bit_any s i (by have := HN.out; omega) (by omega) _).mono fun e w' h => ⟨h.1.trans (ret_bool HBT.out), 0, h.2.symm⟩)))
              go_wp2
              go_roundw
              case rel => exact ⟨i + 1, by go_num, hil, HKQ.out.drewN _⟩
              case measure => simp [intOf]; omega
          · obtain rfl : i = outs.length := by omega
            go_wp2
            go_ret
            exact ⟨rfl, (HK6.out.trans HK8.out).trans HKQ.out⟩
  · have HC := hide hc
    clear hc
    go_enter Try.func10, Try.ntmps10
    go_wp2_with fail
    refine Calls.mono (colorFact_any _) ?_
    rintro e w1 ⟨rfl, hk1⟩
    have hb1 := (Blk.new w 25 #[vo, vr]).kp hk1 id
    obtain ⟨a1, a2, a3, a4, a5⟩ := hb1.a2
    have HB1 := hide hb1
    have HK1 := hide (((Kp.refl No w).alloc (.cells #[vo, vr] 25)).trans' hk1 fun _ _ h => h)
    clear hk1 hb1
    go_wp2_with fail
    refine Calls.mono (new_bad _ _ outs roots _ (HO.out.no HK1.out) (HR.out.no HK1.out) HC.out) ?_
    rintro e w2 ⟨rfl, hk2⟩
    have HK2 := hide (HK1.out.trans hk2)
    clear hk2
    go_wp2
    go_ret
    exact ⟨rfl, HK2.out⟩
end Go.Proofs.Ytkfibfacfgiplaa
