/- The law ColorBlack, walked: of every heap and all steps. -/
import Derived.Test.YtkfibfacfgiplaaColorStand
import Derived.BigQuiet
namespace Go.Proofs.Ytkfibfacfgiplaa
open Go.RowKit

theorem far_lo {a b c : Nat} (hlo : Lo a c) (h : a < b) : ¬ Hi b c := fun h' => by unfold Lo at hlo; unfold Hi at h'; omega

set_option maxRecDepth 100000 in
set_option maxHeartbeats 8000000 in
theorem colorBlack_any {F : Nat → Prop} (vo vr vt : Value) (outs : List (List Int)) (roots : List Int) (steps : List (List Int)) (w : World) (ho : RowsIn w F vo outs) (hr : IntsIn w F vr roots) (ht : RowsIn w F vt steps) :
    Calls Try.prog 13 #[.agg #[vo, vr], vt] w fun e w' => e = .returned (.bool true) ∧ Kp No w w' := by
  have HO := hide ho
  have HR := hide hr
  have HT := hide (ht.mono (F' := Lo w.heap.size) fun k h _ => h)
  clear ho hr ht
  obtain ⟨At', ct, rfl, hct, hmt, _⟩ := RowsIn.form HT.out
  by_cases hc : chk outs roots = 0
  · have HOK := hide (ok_of_chk hc)
    have HL := hide (ok_of_chk hc).n12
    clear hc
    go_enter Try.func13, Try.ntmps13
    go_wp2_with fail
    refine Calls.mono (colorFact_any _) ?_
    rintro e w1 ⟨rfl, hk1⟩
    have hb1 := (Blk.new w 25 #[vo, vr]).kp hk1 id
    obtain ⟨a1, a2, a3, a4, a5⟩ := hb1.a2
    have HB1 := hide hb1
    have HK1 := hide (((Kp.refl No w).alloc (.cells #[vo, vr] 25)).trans' hk1 fun _ _ h => h)
    clear hk1 hb1
    obtain ⟨Ao, co, rfl, hco, hmo, _⟩ := RowsIn.form HO.out
    obtain ⟨Ar, cr, rfl, hcr, hmr, _⟩ := id HR.out
    go_wp2_with fail
    refine Calls.mono (new_ok _ _ outs roots _ (HO.out.no HK1.out) (HR.out.no HK1.out) HOK.out) ?_
    unfold NewPost
    rintro e w2 ⟨p, vo', vr', vc, vs, rfl, hm, hp, hk2⟩
    have HS := hide (show Stand outs.length w2 p w1.heap.size vo' vr' vc vs outs roots (newC outs roots) from ⟨hm, HOK.out, Col.new_ HOK.out, rfl⟩)
    have HB2 := hide (HB1.out.kp hk2 id)
    have HK2 := hide (HK1.out.trans hk2)
    clear hm hk2 a1 a2 a3 a4
    have HW1 := hide (show w.heap.size < w1.heap.size from HB1.out.lt)
    obtain ⟨c0, hc0⟩ : ∃ c0, newC outs roots = c0 := ⟨_, rfl⟩
    rw [hc0] at HS
    clear hc0
    go_wp2_with fail
    refine Calls.mono (colors_any _ HS.out.mark (by rw [HS.out.clen]; exact HL.out)) ?_
    rintro e w3 ⟨v3, rfl, hv3, hk3⟩
    have HV3 := hide hv3
    have HS3 := hide (HS.out.no hk3)
    have HB3 := hide (HB2.out.kp hk3 id)
    have HK3 := hide (HK2.out.trans hk3)
    have HF3 := hide (show ∀ b, v3.ownBlock = some b → ¬ MkW vc vs b from fun b hb h => by have := (own_lt hv3 hb).1; have := HS.out.mark.lt h.fp; omega)
    clear hv3 hk3
    go_wp2_with fail
    go_loopw [8, 9] (fun vw q wr => ∃ k : Nat, q = .int .i64 k ∧ k ≤ steps.length + 1 ∧ k ≤ 60 ∧ ∃ O c, Stand outs.length wr p w1.heap.size vo' vr' vc vs O roots c ∧ wr.ownsRow w1.heap.size 3 1 vw c.length (iv c) ∧ (∃ A cc, vw = .slice A outs.length cc) ∧ (∀ b, vw.ownBlock = some b → ¬ MkW vc vs b) ∧ Kp (Hi w1.heap.size) w3 wr)
      (fun _ q _ => 61 - (intOf q).toNat)
    case atStart =>
      obtain ⟨e0, A, cc, hv, _⟩ := own_form HV3.out
      rw [iv_length, HS.out.clen] at hv
      exact ⟨0, rfl, Nat.zero_le _, by decide, _, _, HS3.out, own_base HV3.out (fun b hb => by have := (own_lt HV3.out hb).1; have := HS.out.mark.blk.lt; omega), ⟨_, _, hv⟩, HF3.out, Kp.refl _ _⟩
    case round =>
      obtain ⟨k, rfl, hk, hk60, O, c, hs, hvw, ⟨Aw, cw, rfl⟩, hfar, hkp⟩ := hrel
      have HSk := hide hs
      have HVW := hide hvw
      have HFAR := hide hfar
      have HKP := hide hkp
      clear hs hvw hfar hkp
      by_cases hlt : k ≤ steps.length ∧ k < 60
      · obtain ⟨hks, hk6⟩ := hlt
        have hway : k = 0 ∨ (∃ m, k = m + 1 ∧ (steps.getD m []).length = 3) ∨ (∃ m, k = m + 1 ∧ (steps.getD m []).length ≠ 3) := by
          rcases Nat.eq_zero_or_pos k with h | h
          · exact .inl h
          · by_cases h3 : (steps.getD (k - 1) []).length = 3
            · exact .inr (.inl ⟨k - 1, by omega, h3⟩)
            · exact .inr (.inr ⟨k - 1, by omega, h3⟩)
        have HKH := hide (show Kp (Hi w1.heap.size) w wr from (HK3.out.of_no).trans' HKP.out fun b hb h => h)
        have HBk := hide (HB3.out.kp HKP.out fun h => by unfold Hi at h; have := HW1.out; omega)
        have HTk := hide (HT.out.kp HKH.out fun b hb h => by unfold Lo at hb; unfold Hi at h; have := HW1.out; omega)
        rcases hway with hw | hw | hw
        case' inl =>
          subst hw
          rw [show ((0 : Nat) : Int) = 0 from rfl]
          go_wp2_with fail
          obtain ⟨W, hW⟩ : ∃ W : World, wr = W := ⟨_, rfl⟩
          have HMV := hide (show Moved outs.length wr p w1.heap.size vo' vr' vc vs roots c W from by rw [← hW]; exact ⟨O, c, HSk.out, fun _ => Int.le_refl _, Kp.refl _ _⟩)
          rw [hW]
          clear hW
        case' inr.inl =>
          obtain ⟨m, rfl, h3⟩ := hw
          rw [show ((m + 1 : Nat) : Int) = (m : Int) + 1 from rfl]
          have hml : m < steps.length := by omega
          obtain ⟨_, _, e, _, _, hrow⟩ := RowsIn.form HTk.out
          cases e
          obtain ⟨bt', ot, A', c', rfl, hFb, hrc, hri⟩ := hrow m hml
          clear hrow
          have hgd : steps.getD m [] = steps[m] := by rw [List.getD_eq_getElem?_getD, List.getElem?_eq_getElem hml]; rfl
          rw [hgd] at h3
          obtain ⟨x0, x1, x2, hx⟩ : ∃ x0 x1 x2, steps[m] = [x0, x1, x2] := by
            match hs : steps[m], h3 with
            | [a, b, c], _ => exact ⟨a, b, c, rfl⟩
          rw [hx] at hrc hri
          obtain ⟨_, _, e, _, _, hcell⟩ := hri
          cases e
          obtain ⟨b3', o3, rfl, hF3, i0⟩ := hcell 0 (by simp)
          obtain ⟨_, _, e, _, i1⟩ := hcell 1 (by simp)
          cases e
          obtain ⟨_, _, e, _, i2⟩ := hcell 2 (by simp)
          cases e
          simp only [List.getElem_cons_zero, List.getElem_cons_succ, Nat.add_zero] at i0 i1 i2
          clear hcell hgd hx h3
          go_wp2_with fail
          have hwm : IntKind.i64.wrap (m : Int) = (m : Int) := by rw [IntKind.wrap_i64]; omega
          refine plan_start 23 (by kernel_rfl) rfl (fun hPT => ?_)
          refine plan_take (i := 0) (v := ?_) rfl (by kernel_rfl) (by kernel_rfl) (by kernel_rfl) (fun _ _ _ h => h) hPT (by rfl) ?_ ?_
          rotate_left
          · (intro w; go_simp; with_reducible rfl)
          (clear hPT; intro hPT; simp only [List.getElem_toArray, List.getElem_cons_zero, List.getElem_cons_succ, Act.put, List.setIfInBounds_toArray, List.set_cons_zero, List.set_cons_succ])
          refine plan_take (i := 1) (v := ?_) rfl (by kernel_rfl) (by kernel_rfl) (by kernel_rfl) (fun _ _ _ h => h) hPT (by rfl) ?_ ?_
          rotate_left
          · (intro w; go_simp; with_reducible rfl)
          (clear hPT; intro hPT; simp only [List.getElem_toArray, List.getElem_cons_zero, List.getElem_cons_succ, Act.put, List.setIfInBounds_toArray, List.set_cons_zero, List.set_cons_succ])
          refine plan_take (i := 2) (v := ?_) rfl (by kernel_rfl) (by kernel_rfl) (by kernel_rfl) (fun _ _ _ h => h) hPT (by rfl) ?_ ?_
          rotate_left
          · (intro w; go_simp; with_reducible rfl)
          (clear hPT; intro hPT; simp only [List.getElem_toArray, List.getElem_cons_zero, List.getElem_cons_succ, Act.put, List.setIfInBounds_toArray, List.set_cons_zero, List.set_cons_succ])
          refine plan_take (i := 3) (v := ?_) rfl (by kernel_rfl) (by kernel_rfl) (by kernel_rfl) (fun _ _ _ h => h) hPT (by rfl) ?_ ?_
          rotate_left
          · (intro w; go_simp; with_reducible rfl)
          (clear hPT; intro hPT; simp only [List.getElem_toArray, List.getElem_cons_zero, List.getElem_cons_succ, Act.put, List.setIfInBounds_toArray, List.set_cons_zero, List.set_cons_succ])
          refine plan_take (i := 4) (v := ?_) rfl (by kernel_rfl) (by kernel_rfl) (by kernel_rfl) (fun _ _ _ h => h) hPT (by rfl) ?_ ?_
          rotate_left
          · (intro w; go_simp; with_reducible rfl)
          (clear hPT; intro hPT; simp only [List.getElem_toArray, List.getElem_cons_zero, List.getElem_cons_succ, Act.put, List.setIfInBounds_toArray, List.set_cons_zero, List.set_cons_succ])
          refine plan_load (fun w' => w'.cell? ⟨bt', ot + m, none⟩ = some (.slice (some ⟨b3', o3, none⟩) 3 c')) (i := 5) (v := ?_) rfl (by kernel_rfl) (by kernel_rfl) (by kernel_rfl) (fun _ _ _ h => h) hPT (by rfl) ?_ ?_ ?_
          rotate_left
          · (first | assumption | (go_simp; done))
          · (intro w hSw; (try dsimp only at hSw); go_simp; with_reducible rfl)
          (clear hPT; intro hPT; simp only [List.getElem_toArray, List.getElem_cons_zero, List.getElem_cons_succ, Act.put, List.setIfInBounds_toArray, List.set_cons_zero, List.set_cons_succ])
          refine plan_take (i := 6) (v := ?_) rfl (by kernel_rfl) (by kernel_rfl) (by kernel_rfl) (fun _ _ _ h => h) hPT (by rfl) ?_ ?_
          rotate_left
          · (intro w; go_simp; with_reducible rfl)
          (clear hPT; intro hPT; simp only [List.getElem_toArray, List.getElem_cons_zero, List.getElem_cons_succ, Act.put, List.setIfInBounds_toArray, List.set_cons_zero, List.set_cons_succ])
          refine plan_load (fun w' => w'.cell? ⟨b3', o3, none⟩ = some (.int .i64 x0)) (i := 7) (v := ?_) rfl (by kernel_rfl) (by kernel_rfl) (by kernel_rfl) (fun _ _ _ h => h) hPT (by rfl) ?_ ?_ ?_
          rotate_left
          · (first | assumption | (go_simp; done))
          · (intro w hSw; (try dsimp only at hSw); go_simp; with_reducible rfl)
          (clear hPT; intro hPT; simp only [List.getElem_toArray, List.getElem_cons_zero, List.getElem_cons_succ, Act.put, List.setIfInBounds_toArray, List.set_cons_zero, List.set_cons_succ])
          refine plan_take (i := 8) (v := ?_) rfl (by kernel_rfl) (by kernel_rfl) (by kernel_rfl) (fun _ _ _ h => h) hPT (by rfl) ?_ ?_
          rotate_left
          · (intro w; go_simp; with_reducible rfl)
          (clear hPT; intro hPT; simp only [List.getElem_toArray, List.getElem_cons_zero, List.getElem_cons_succ, Act.put, List.setIfInBounds_toArray, List.set_cons_zero, List.set_cons_succ])
          refine plan_take (i := 9) (v := ?_) rfl (by kernel_rfl) (by kernel_rfl) (by kernel_rfl) (fun _ _ _ h => h) hPT (by rfl) ?_ ?_
          rotate_left
          · (intro w; go_simp; with_reducible rfl)
          (clear hPT; intro hPT; simp only [List.getElem_toArray, List.getElem_cons_zero, List.getElem_cons_succ, Act.put, List.setIfInBounds_toArray, List.set_cons_zero, List.set_cons_succ])
          refine plan_take (i := 10) (v := ?_) rfl (by kernel_rfl) (by kernel_rfl) (by kernel_rfl) (fun _ _ _ h => h) hPT (by rfl) ?_ ?_
          rotate_left
          · (intro w; go_simp; with_reducible rfl)
          (clear hPT; intro hPT; simp only [List.getElem_toArray, List.getElem_cons_zero, List.getElem_cons_succ, Act.put, List.setIfInBounds_toArray, List.set_cons_zero, List.set_cons_succ])
          refine plan_take (i := 11) (v := ?_) rfl (by kernel_rfl) (by kernel_rfl) (by kernel_rfl) (fun _ _ _ h => h) hPT (by rfl) ?_ ?_
          rotate_left
          · (intro w; go_simp; with_reducible rfl)
          (clear hPT; intro hPT; simp only [List.getElem_toArray, List.getElem_cons_zero, List.getElem_cons_succ, Act.put, List.setIfInBounds_toArray, List.set_cons_zero, List.set_cons_succ])
          refine plan_load (fun w' => w'.cell? ⟨bt', ot + m, none⟩ = some (.slice (some ⟨b3', o3, none⟩) 3 c')) (i := 12) (v := ?_) rfl (by kernel_rfl) (by kernel_rfl) (by kernel_rfl) (fun _ _ _ h => h) hPT (by rfl) ?_ ?_ ?_
          rotate_left
          · (first | assumption | (go_simp; done))
          · (intro w hSw; (try dsimp only at hSw); go_simp; with_reducible rfl)
          (clear hPT; intro hPT; simp only [List.getElem_toArray, List.getElem_cons_zero, List.getElem_cons_succ, Act.put, List.setIfInBounds_toArray, List.set_cons_zero, List.set_cons_succ])
          refine plan_take (i := 13) (v := ?_) rfl (by kernel_rfl) (by kernel_rfl) (by kernel_rfl) (fun _ _ _ h => h) hPT (by rfl) ?_ ?_
          rotate_left
          · (intro w; go_simp; with_reducible rfl)
          (clear hPT; intro hPT; simp only [List.getElem_toArray, List.getElem_cons_zero, List.getElem_cons_succ, Act.put, List.setIfInBounds_toArray, List.set_cons_zero, List.set_cons_succ])
          refine plan_load (fun w' => w'.cell? ⟨b3', o3 + 1, none⟩ = some (.int .i64 x1)) (i := 14) (v := ?_) rfl (by kernel_rfl) (by kernel_rfl) (by kernel_rfl) (fun _ _ _ h => h) hPT (by rfl) ?_ ?_ ?_
          rotate_left
          · (first | assumption | (go_simp; done))
          · (intro w hSw; (try dsimp only at hSw); go_simp; with_reducible rfl)
          (clear hPT; intro hPT; simp only [List.getElem_toArray, List.getElem_cons_zero, List.getElem_cons_succ, Act.put, List.setIfInBounds_toArray, List.set_cons_zero, List.set_cons_succ])
          refine plan_take (i := 15) (v := ?_) rfl (by kernel_rfl) (by kernel_rfl) (by kernel_rfl) (fun _ _ _ h => h) hPT (by rfl) ?_ ?_
          rotate_left
          · (intro w; go_simp; with_reducible rfl)
          (clear hPT; intro hPT; simp only [List.getElem_toArray, List.getElem_cons_zero, List.getElem_cons_succ, Act.put, List.setIfInBounds_toArray, List.set_cons_zero, List.set_cons_succ])
          refine plan_take (i := 16) (v := ?_) rfl (by kernel_rfl) (by kernel_rfl) (by kernel_rfl) (fun _ _ _ h => h) hPT (by rfl) ?_ ?_
          rotate_left
          · (intro w; go_simp; with_reducible rfl)
          (clear hPT; intro hPT; simp only [List.getElem_toArray, List.getElem_cons_zero, List.getElem_cons_succ, Act.put, List.setIfInBounds_toArray, List.set_cons_zero, List.set_cons_succ])
          refine plan_take (i := 17) (v := ?_) rfl (by kernel_rfl) (by kernel_rfl) (by kernel_rfl) (fun _ _ _ h => h) hPT (by rfl) ?_ ?_
          rotate_left
          · (intro w; go_simp; with_reducible rfl)
          (clear hPT; intro hPT; simp only [List.getElem_toArray, List.getElem_cons_zero, List.getElem_cons_succ, Act.put, List.setIfInBounds_toArray, List.set_cons_zero, List.set_cons_succ])
          refine plan_take (i := 18) (v := ?_) rfl (by kernel_rfl) (by kernel_rfl) (by kernel_rfl) (fun _ _ _ h => h) hPT (by rfl) ?_ ?_
          rotate_left
          · (intro w; go_simp; with_reducible rfl)
          (clear hPT; intro hPT; simp only [List.getElem_toArray, List.getElem_cons_zero, List.getElem_cons_succ, Act.put, List.setIfInBounds_toArray, List.set_cons_zero, List.set_cons_succ])
          refine plan_load (fun w' => w'.cell? ⟨bt', ot + m, none⟩ = some (.slice (some ⟨b3', o3, none⟩) 3 c')) (i := 19) (v := ?_) rfl (by kernel_rfl) (by kernel_rfl) (by kernel_rfl) (fun _ _ _ h => h) hPT (by rfl) ?_ ?_ ?_
          rotate_left
          · (first | assumption | (go_simp; done))
          · (intro w hSw; (try dsimp only at hSw); go_simp; with_reducible rfl)
          (clear hPT; intro hPT; simp only [List.getElem_toArray, List.getElem_cons_zero, List.getElem_cons_succ, Act.put, List.setIfInBounds_toArray, List.set_cons_zero, List.set_cons_succ])
          refine plan_take (i := 20) (v := ?_) rfl (by kernel_rfl) (by kernel_rfl) (by kernel_rfl) (fun _ _ _ h => h) hPT (by rfl) ?_ ?_
          rotate_left
          · (intro w; go_simp; with_reducible rfl)
          (clear hPT; intro hPT; simp only [List.getElem_toArray, List.getElem_cons_zero, List.getElem_cons_succ, Act.put, List.setIfInBounds_toArray, List.set_cons_zero, List.set_cons_succ])
          refine plan_load (fun w' => w'.cell? ⟨b3', o3 + 2, none⟩ = some (.int .i64 x2)) (i := 21) (v := ?_) rfl (by kernel_rfl) (by kernel_rfl) (by kernel_rfl) (fun _ _ _ h => h) hPT (by rfl) ?_ ?_ ?_
          rotate_left
          · (first | assumption | (go_simp; done))
          · (intro w hSw; (try dsimp only at hSw); go_simp; with_reducible rfl)
          (clear hPT; intro hPT; simp only [List.getElem_toArray, List.getElem_cons_zero, List.getElem_cons_succ, Act.put, List.setIfInBounds_toArray, List.set_cons_zero, List.set_cons_succ])
          refine plan_one (i := 22) (by kernel_rfl) rfl (by rfl) (fun K hK => ?_)
          (try simp only [List.getElem_toArray, List.getElem_cons_zero, List.getElem_cons_succ, Act.put, List.setIfInBounds_toArray, List.set_cons_zero, List.set_cons_succ])
          go_simp
          refine Calls.mono (point_stand x0 x1 x2 _ (HSk.out.no (Kp.refl No _).drew)) ?_
          rintro e w5 ⟨rfl, hmv⟩
          have HMV := hide (show Moved outs.length wr p w1.heap.size vo' vr' vc vs roots c w5 from by
            obtain ⟨O', c', h1, h2, h3⟩ := hmv
            exact ⟨O', c', h1, h2, (Kp.refl _ _).drew.trans h3⟩)
          have hkx : Kp (Hi w1.heap.size) wr w5 := by
            obtain ⟨_, _, _, _, h3⟩ := HMV.out
            exact h3.mono fun b _ hb => HSk.out.mark.ge hb
          have jr := hkx.cell hrc (far_lo hFb HW1.out)
          have j0 := hkx.cell i0 (far_lo hF3 HW1.out)
          have j1 := hkx.cell i1 (far_lo hF3 HW1.out)
          have j2 := hkx.cell i2 (far_lo hF3 HW1.out)
          clear hmv hkx
          refine hK.out _ _ _ (t_cons j2 (t_cons jr (t_cons j1 (t_cons jr (t_cons j0 (t_cons jr (t_nil _))))))) k_same (fun hPT' => ?_)
          (clear hPT hK K; have hPT := hPT'; clear hPT'; try simp only [List.getElem_toArray, List.getElem_cons_zero, List.getElem_cons_succ, Act.put, List.setIfInBounds_toArray, List.set_cons_zero, List.set_cons_succ])
          refine plan_done (by kernel_rfl) ?_ _
          clear hPT
          clear j0 j1 j2 jr i0 i1 i2 hrc hwm
          go_wp2_with fail
          obtain ⟨W, hW⟩ : ∃ W : World, W = w5 := ⟨_, rfl⟩
          rw [← hW] at HMV ⊢
          clear hW
        case' inr.inr =>
          obtain ⟨m, rfl, h3⟩ := hw
          rw [show ((m + 1 : Nat) : Int) = (m : Int) + 1 from rfl]
          have hml : m < steps.length := by omega
          obtain ⟨_, _, e, _, _, hrow⟩ := RowsIn.form HTk.out
          cases e
          obtain ⟨bt', ot, A', c', rfl, hFb, hrc, hri⟩ := hrow m hml
          clear hrow hri
          have hgd : steps.getD m [] = steps[m] := by rw [List.getD_eq_getElem?_getD, List.getElem?_eq_getElem hml]; rfl
          rw [hgd] at h3
          have h3f : ((steps[m].length : Int) == 3) = false := by rw [beq_eq_false_iff_ne]; omega
          clear hgd h3
          go_wp2_with fail
          refine Calls.mono (step_stand _ HSk.out) ?_
          rintro e w5 ⟨rfl, hmv⟩
          have HMV := hide hmv
          clear hmv hrc h3f
          go_wp2_with fail
          obtain ⟨W, hW⟩ : ∃ W : World, W = w5 := ⟨_, rfl⟩
          rw [← hW] at HMV ⊢
          clear hW
        all_goals
          have HBW := hide (show Blk W w.heap.size 25 #[.slice Ao outs.length co, .slice Ar roots.length cr] from by
            obtain ⟨_, _, _, _, h3⟩ := HMV.out
            exact HBk.out.kp h3 fun h => by have := HSk.out.mark.ge h; have := HW1.out; omega)
          obtain ⟨O2, c2, hs2, hle, hkm⟩ := HMV.out
          have HS2 := hide hs2
          have HLE := hide hle
          have HVW2 := hide (own_kp HVW.out hkm HFAR.out)
          have HKW := hide (HKP.out.trans' hkm fun b hb h => HSk.out.mark.ge h)
          clear hs2 hle hkm HMV HBk HTk HKH
          have HC2 := hide HS2.out.clen
          have HC1 := hide HSk.out.clen
          refine Calls.mono (colors_any _ HS2.out.mark (by rw [HC2.out]; exact HL.out)) ?_
          rintro e w6 ⟨v6, rfl, hv6, hk6⟩
          obtain ⟨e0, A6, c6, hvv, hc6, hm6, _⟩ := own_form hv6
          clear e0
          rw [iv_length, HC2.out] at hvv
          rw [iv_length, HC2.out] at hc6
          subst hvv
          have HV6 := hide hv6
          have HFAR6 := hide (show ∀ b, (Value.slice A6 outs.length c6).ownBlock = some b → ¬ MkW vc vs b from fun b hb h => by have := (own_lt hv6 hb).1; have := HS2.out.mark.lt h.fp; omega)
          have HB6 := hide (HBW.out.kp hk6 id)
          have HS6 := hide (HS2.out.no hk6)
          have HK6 := hide (HKW.out.trans hk6.of_no)
          have HW6 := hide (own_kp HVW2.out hk6 fun _ _ h => h)
          have HSZ6 := hide (show w1.heap.size ≤ W.heap.size from by have := HS2.out.mark.blk.lt; omega)
          clear hv6 hk6
          go_wp2_with fail
          refine Calls.mono (mheap_any _ HS6.out.mark HS6.out.ok) ?_
          rintro e w7 ⟨vx, vy, rfl, hx, hy, hk7⟩
          obtain ⟨Ax, cx, rfl, hcx, hmx, _⟩ := hx.form
          obtain ⟨Ay, cy, rfl, hcy, hmy, _⟩ := id hy
          rw [HS2.out.len] at hcx
          have HX := hide hx
          rw [HS2.out.len] at HX ⊢
          have HK7 := hide (HK6.out.trans hk7.of_no)
          obtain ⟨W8, hW8⟩ : ∃ W8, w7.alloc (.cells #[.slice Ax outs.length cx, .slice Ay roots.length cy] 25) = W8 := ⟨_, rfl⟩
          have hk78 : Kp No w7 W8 := by rw [← hW8]; exact (Kp.refl No _).alloc _
          have HBX := hide (show Blk W8 w7.heap.size 25 #[.slice Ax outs.length cx, .slice Ay roots.length cy] from by rw [← hW8]; exact Blk.new _ _ _)
          have HB8 := hide ((HB6.out.kp hk7 id).kp hk78 id)
          have HX8 := hide (HX.out.no hk78)
          have HV8 := hide (own_kp (own_kp HV6.out hk7 fun _ _ h => h) hk78 fun _ _ h => h)
          have HW8 := hide (own_kp (own_kp HW6.out hk7 fun _ _ h => h) hk78 fun _ _ h => h)
          have HS8 := hide ((HS6.out.no hk7).no hk78)
          have HK8 := hide (HK7.out.trans hk78.of_no)
          clear hx hy hk7 hk78
          obtain ⟨a1, a2, a3, a4, _⟩ := HB8.out.a2
          obtain ⟨b1, b2, b3, b4, b5⟩ := HBX.out.a2
          have hw78 : W8.heap.size = w7.heap.size + 1 := by rw [← hW8]; simp
          have HFC := hide (fun i => black_facts HS2.out.ok HS2.out.col i)
          have hne : ((outs.length : Int) != (outs.length : Int)) = false := by simp
          go_wp2_with fail
          clear hW8
          clear a1 a2 a3 a4 b1 b2 b3 b4 b5
          go_loopw [12] (fun q wq => ∃ i : Nat, q = .int .i64 i ∧ i ≤ outs.length ∧ Kp No W8 wq) (fun q _ => outs.length - (intOf q).toNat)
          case atStart => exact ⟨0, rfl, Nat.zero_le _, Kp.refl _ _⟩
          case round =>
            obtain ⟨i, rfl, hi, hkq⟩ := hrel
            have HKQ := hide hkq
            obtain ⟨b1, b2, b3, b4, b5⟩ := (HBX.out.kp hkq id).a2
            clear hkq
            by_cases hil : i < outs.length
            · obtain ⟨g1, c9, e, _, _, hc2, _, _, _, _⟩ := own_int (own_kp HV8.out HKQ.out fun _ _ h => h) (k := i) (by rw [HC2.out]; exact hil)
              rw [HC2.out] at e
              injection e with e1 e2 e3
              subst e1 e3
              clear e2
              obtain ⟨g2, c10, e, _, _, hc1, _, _, _, _⟩ := own_int (own_kp HW8.out HKQ.out fun _ _ h => h) (k := i) (by rw [HC1.out]; exact hil)
              rw [HC1.out] at e
              injection e with e1 e2 e3
              subst e1 e3
              clear e2
              rw [← cAt_eq (by rw [HC2.out]; exact hil)] at hc2
              rw [← cAt_eq (by rw [HC1.out]; exact hil)] at hc1
              obtain ⟨hbt, hfc⟩ := HFC.out i
              have hle := HLE.out i
              rw [HC2.out] at hfc
              -- the row
              obtain ⟨_, _, e, _, _, hrow⟩ := RowsIn.form (HX8.out.no HKQ.out)
              rw [HS2.out.len] at e
              injection e with e1 e2 e3
              subst e1 e3
              clear e2
              obtain ⟨bo, oo, A', c', rfl, _, hrc, hri⟩ := hrow i (by rw [HS2.out.len]; exact hil)
              clear hrow
              have hadj : adj O2 (i : Int) = O2[i]'(by rw [HS2.out.len]; exact hil) := adj_eq (by simpa [HS2.out.len] using hil)
              rw [← hadj] at hrc hri
              clear hadj
              have HRI := hide hri
              have HHF := hide hfc
              have HBT := hide hbt
              obtain ⟨d2, hd2⟩ : ∃ d2, cAt c2 i = d2 := ⟨_, rfl⟩
              obtain ⟨d1, hd1⟩ : ∃ d1, cAt c i = d1 := ⟨_, rfl⟩
              rw [hd2] at hc2 hle HBT HHF
              rw [hd1] at hc1 hle
              clear hri hfc hbt hd1 hd2
              go_wp2_with fail
              go_quiet ((go_at_call 30; exact Calls.quiet_of ((in_any d2 0 2 _).mono fun e w' h => ⟨h.1.trans (ret_bool HBT.out), 0, h.2.symm⟩)))
              go_wp2_with fail
              obtain ⟨W9, hW9⟩ : ∃ W9, wr.drewN nq = W9 := ⟨_, rfl⟩
              have HK9 := hide (show Kp No W8 W9 by rw [← hW9]; exact HKQ.out.drewN _)
              have hk9 : Kp No wr W9 := by rw [← hW9]; exact (Kp.refl No _).drewN _
              have g1' := hk9.cell hrc id
              have g2' := hk9.cell hc2 id
              have g3' := hk9.cell b1 id
              have HRI9 := hide (HRI.out.no hk9)
              rw [hW9]
              clear hW9 hk9 hrc hc2 hc1 b1 b2 b3 b4
              obtain ⟨_, _, e, hla, hma, _⟩ := id HRI9.out
              cases e
              go_loop [13] (fun q => ∃ j : Nat, q = .int .i64 j ∧ j ≤ (adj O2 (i : Int)).length) (fun q => (adj O2 (i : Int)).length - (intOf q).toNat)
              case atStart => exact ⟨0, rfl, Nat.zero_le _⟩
              case round =>
                obtain ⟨j, rfl, hj⟩ := hrel
                by_cases hjl : j < (adj O2 (i : Int)).length
                · obtain ⟨_, _, e, _, _, hcell⟩ := HRI9.out
                  cases e
                  obtain ⟨b', o', rfl, _, hcj⟩ := hcell j hjl
                  clear hcell
                  obtain ⟨hby, hbl⟩ := HHF.out _ (List.getElem_mem hjl)
                  have hyr := btw_iff.1 hby
                  obtain ⟨y, hy⟩ : ∃ y : Nat, (adj O2 (i : Int))[j] = (y : Int) := ⟨_, (Int.toNat_of_nonneg hyr.1).symm⟩
                  rw [hy] at hcj hby hbl hyr
                  rw [Int.toNat_natCast] at hbl
                  have hyl : y < outs.length := by omega
                  obtain ⟨g1x, c9, e, _, _, hcy, _, _, _, _⟩ := own_int (own_kp HV8.out HK9.out fun _ _ h => h) (k := y) (by rw [HC2.out]; exact hyl)
                  rw [HC2.out] at e
                  injection e with e1 e2 e3
                  injection e1 with e1
                  injection e1 with e1
                  subst e1
                  clear e2 e3
                  rw [← cAt_eq (by rw [HC2.out]; exact hyl)] at hcy
                  have HBY := hide hby
                  have HBL := hide hbl
                  obtain ⟨dy, hdy⟩ : ∃ dy, cAt c2 y = dy := ⟨_, rfl⟩
                  rw [hdy] at hcy HBL
                  clear hby hbl hyr hy hdy
                  go_wp2_with fail
                  refine Calls.mono (in_any (y : Int) 0 ((outs.length : Int) - 1) _) ?_
                  rw [HBY.out]
                  rintro e w9 ⟨rfl, rfl⟩
                  by_cases h2 : d2 = 2
                  · have h2' : (d2 == 2) = true := by simp [h2]
                    have h3 := HBL.out h2
                    clear h2
                    go_wp2
                    go_round
                    case rel => exact ⟨j + 1, by go_num, hjl⟩
                    case measure => simp [intOf]; omega
                  · have h2' : (d2 == 2) = false := by simp [h2]
                    clear h2
                    go_wp2
                    go_round
                    case rel => exact ⟨j + 1, by go_num, hjl⟩
                    case measure => simp [intOf]; omega
                · obtain rfl : j = (adj O2 (i : Int)).length := by omega
                  go_wp2
                  exact ⟨⟨i + 1, by go_num, hil, HK9.out⟩, by simp [intOf]; omega⟩
            · obtain rfl : i = outs.length := by omega
              have HREL := hide (show ∃ O c, Stand outs.length wr p w1.heap.size vo' vr' vc vs O roots c ∧ wr.ownsRow w1.heap.size 3 1 (.slice A6 outs.length c6) c.length (iv c) ∧ (∃ A cc, (Value.slice A6 outs.length c6) = .slice A outs.length cc) ∧ (∀ b, (Value.slice A6 outs.length c6).ownBlock = some b → ¬ MkW vc vs b) ∧ Kp (Hi w1.heap.size) w3 wr from
                ⟨O2, c2, HS8.out.no HKQ.out, own_kp (own_base HV8.out fun b hb => by have := (own_lt HV8.out hb).1; have := HSZ6.out; omega) HKQ.out fun _ _ h => h, ⟨_, _, rfl⟩, HFAR6.out, HK8.out.trans HKQ.out.of_no⟩)
              go_wp2
              first
                | exact ⟨⟨m + 1 + 1, by go_num, by omega, by omega, HREL.out⟩, by simp [intOf]; omega⟩
                | exact ⟨⟨1, by go_num, by omega, by omega, HREL.out⟩, by simp [intOf]⟩
      · have hdone : ¬ ((k : Int) ≤ (steps.length : Int)) ∨ ¬ ((k : Int) < 60) := by omega
        have HKF := hide (show Kp No w wr from HK3.out.trans' HKP.out fun b hb h => by unfold Hi at h; have := HW1.out; omega)
        by_cases hd : (k : Int) ≤ (steps.length : Int)
        · have hd2 : ¬ ((k : Int) < 60) := by omega
          clear hdone hlt
          go_wp2
          go_ret
          exact ⟨rfl, HKF.out⟩
        · clear hdone hlt
          go_wp2
          go_ret
          exact ⟨rfl, HKF.out⟩
  · have HC := hide hc
    clear hc
    go_enter Try.func13, Try.ntmps13
    go_wp2_with fail
    refine Calls.mono (colorFact_any _) ?_
    rintro e w1 ⟨rfl, hk1⟩
    have hb1 := (Blk.new w 25 #[vo, vr]).kp hk1 id
    obtain ⟨a1, a2, a3, a4, a5⟩ := hb1.a2
    have HB1 := hide hb1
    have HK1 := hide (((Kp.refl No w).alloc (.cells #[vo, vr] 25)).trans' hk1 fun _ _ h => h)
    clear hk1 hb1
    go_wp2_with fail
    refine Calls.mono (new_bad _ _ outs roots _ (HO.out.no HK1.out) (HR.out.no HK1.out) HC.out) ?_
    rintro e w2 ⟨rfl, hk2⟩
    have HK2 := hide (HK1.out.trans hk2)
    clear hk2
    go_wp2
    go_ret
    exact ⟨rfl, HK2.out⟩
end Go.Proofs.Ytkfibfacfgiplaa
