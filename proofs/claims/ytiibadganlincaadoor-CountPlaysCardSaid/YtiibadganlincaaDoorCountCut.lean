/- counts: Cut, walked. -/
import Derived.Test.YtiibadganlincaaDoorCountDrop
namespace Go.Proofs.YtiibadganlincaaDoor
open Go.RowKit
set_option linter.unusedSimpArgs false

set_option maxRecDepth 100000 in
set_option maxHeartbeats 1000000 in
theorem ccut_any {p : Nat} {S : Nat → Prop} {s : Cn} (x y : Int) (w : World) (hP : PInv s []) (hS : ∀ b, w.heap.size ≤ b → S b) (hC : CnIs w p S s) :
    Calls Tryd.prog 11 #[.pointer (some ⟨p, 0, none⟩), .int .i64 x, .int .i64 y] w (CnPost p S w (cutE s x y) (cutS s x y)) := by
  have HCI := hide hC
  obtain ⟨vo, vr, vc, vg, vs, h, hF⟩ := hC
  have HCx := hide (cis_at x w h hP.glen hP.n12)
  have HCy := hide (cis_at y w h hP.glen hP.n12)
  cases hb : isB s x with
  | false =>
    have HI := hide hb
    have HR := hide (show cutE s x y = 1 ∧ cutS s x y = s by unfold cutS cutE; rw [hb]; exact ⟨rfl, rfl⟩)
    clear hb h hF hP hS
    go_enter Tryd.func11, Tryd.ntmps11
    go_wp2_with fail
    refine Calls.mono HCx.out ?_
    rw [HI.out]
    rintro e w1 ⟨rfl, rfl⟩
    go_wp2
    go_ret
    exact ⟨by rw [HR.out.1]; rfl, by rw [HR.out.2]; exact HCI.out, Kp.refl _ _⟩
  | true =>
    have HI := hide hb
    cases hy : isB s y with
    | false =>
      have HIY := hide hy
      have HR := hide (show cutE s x y = 1 ∧ cutS s x y = s by unfold cutS cutE; rw [hy]; simp)
      clear hb hy h hF hP hS
      go_enter Tryd.func11, Tryd.ntmps11
      go_wp2_with fail
      refine Calls.mono HCx.out ?_
      rw [HI.out]
      rintro e w1 ⟨rfl, rfl⟩
      go_wp2_with fail
      refine Calls.mono HCy.out ?_
      rw [HIY.out]
      rintro e w1 ⟨rfl, rfl⟩
      go_wp2
      go_ret
      exact ⟨by rw [HR.out.1]; rfl, by rw [HR.out.2]; exact HCI.out, Kp.refl _ _⟩
    | true =>
      have HIY := hide hy
      obtain ⟨hr, _⟩ := isB_iff.1 hb
      obtain ⟨i, rfl⟩ := Int.eq_ofNat_of_zero_le hr.1
      have hi : i < s.outs.length := by omega
      have hiv : i < vs.length := by rw [h.len]; exact hi
      have hrow := h.row i hiv hi
      have hadj : adj s.outs (i : Int) = s.outs[i] := adj_eq (by simpa using hi)
      rw [← hadj] at hrow
      have HRI := hide (own_ints hrow)
      obtain ⟨b1, b2, b3, b4, f1, f2, f3, f4⟩ := h.blk.a4
      obtain ⟨go, co, hvo, hco, hmo, hocell, hofr, _, hgol⟩ := own_cap h.out hiv
      rw [h.len] at hvo hco
      obtain ⟨v, hv⟩ : ∃ v, vs[i] = v := ⟨_, rfl⟩
      rw [hv] at hocell hrow HRI
      obtain ⟨e0, Av, cv, hvv, hcv, hmv, _⟩ := own_form hrow
      rw [iv_length] at hvv hcv
      clear e0
      have HVV := hide hvv
      have HVI := hide hv
      have hbo := b1
      rw [hvo] at b1
      rw [hvv] at hocell HRI
      have HVO := hide hvo
      have H := hide h
      have HF := hide hF
      have HS := hide hS
      have HROW := hide hrow
      have HIV := hide hiv
      have HL := hide hP.live12
      have H4 := hide (show (adj s.outs (i : Int)).length ≤ 4 from hP.ok.adjFew)
      by_cases hm : y ∈ adj s.outs (i : Int)
      · have hlt := List.idxOf_lt_length_iff.2 hm
        obtain ⟨k, hk⟩ : ∃ k, (adj s.outs (i : Int)).idxOf y = k := ⟨_, rfl⟩
        have HIX := hide (show ixOf (adj s.outs (i : Int)) y = (k : Int) by unfold ixOf; rw [if_pos hm, hk])
        have he0 : cutE s i y = 0 := by unfold cutE; rw [if_pos ⟨hb, hy⟩, if_pos hm]
        have HR := hide (show cutE s i y = 0 ∧ cutS s i y = lessS 13 { s with outs := s.outs.set i ((adj s.outs (i : Int)).erase y) } y from ⟨he0, by unfold cutS; rw [if_pos he0, Int.toNat_natCast]⟩)
        have hpm := hP.cutMid he0
        rw [Int.toNat_natCast] at hpm
        have HPM := hide hpm
        have HER := hide (show (adj s.outs (i : Int)).eraseIdx k = (adj s.outs (i : Int)).erase y by rw [← hk, List.erase_eq_eraseIdx_of_idxOf rfl])
        rw [hk] at hlt
        have HLT := hide hlt
        have HM := hide hm
        have HD := hide (delete_any k w.drew (own_kp hrow (Kp.refl No w).drew fun _ _ h => h) hlt)
        rw [hvv] at HD
        clear hb hy h hF hP hS hm hk he0 hpm hrow hvv hv hvo hbo hadj
        go_enter Tryd.func11, Tryd.ntmps11
        go_wp2_with fail
        refine Calls.mono HCx.out ?_
        rw [HI.out]
        rintro e w1 ⟨rfl, rfl⟩
        go_wp2_with fail
        refine Calls.mono HCy.out ?_
        rw [HIY.out]
        rintro e w1 ⟨rfl, rfl⟩
        go_wp2_with fail
        refine Calls.mono (index_any _ _ _ _ HRI.out) ?_
        rw [HIX.out]
        rintro e w1 ⟨rfl, rfl⟩
        go_wp2_with fail
        refine plan_start 18 (by kernel_rfl) rfl (fun hPT => ?_)
        refine plan_take (i := 0) (v := ?_) rfl (by kernel_rfl) (by kernel_rfl) (by kernel_rfl) (fun _ _ _ h => h) hPT (by rfl) ?_ ?_
        rotate_left
        · (intro w; go_simp; with_reducible rfl)
        (clear hPT; intro hPT; simp only [List.getElem_toArray, List.getElem_cons_zero, List.getElem_cons_succ, Act.put, List.setIfInBounds_toArray, List.set_cons_zero, List.set_cons_succ])
        refine plan_take (i := 1) (v := ?_) rfl (by kernel_rfl) (by kernel_rfl) (by kernel_rfl) (fun _ _ _ h => h) hPT (by rfl) ?_ ?_
        rotate_left
        · (intro w; go_simp; with_reducible rfl)
        (clear hPT; intro hPT; simp only [List.getElem_toArray, List.getElem_cons_zero, List.getElem_cons_succ, Act.put, List.setIfInBounds_toArray, List.set_cons_zero, List.set_cons_succ])
        refine plan_take (i := 2) (v := ?_) rfl (by kernel_rfl) (by kernel_rfl) (by kernel_rfl) (fun _ _ _ h => h) hPT (by rfl) ?_ ?_
        rotate_left
        · (intro w; go_simp; with_reducible rfl)
        (clear hPT; intro hPT; simp only [List.getElem_toArray, List.getElem_cons_zero, List.getElem_cons_succ, Act.put, List.setIfInBounds_toArray, List.set_cons_zero, List.set_cons_succ])
        refine plan_take (i := 4) (v := ?_) rfl (by kernel_rfl) (by kernel_rfl) (by kernel_rfl) (fun _ _ _ h => h) hPT (by rfl) ?_ ?_
        rotate_left
        · (intro w; go_simp; with_reducible rfl)
        (clear hPT; intro hPT; simp only [List.getElem_toArray, List.getElem_cons_zero, List.getElem_cons_succ, Act.put, List.setIfInBounds_toArray, List.set_cons_zero, List.set_cons_succ])
        refine plan_take (i := 5) (v := ?_) rfl (by kernel_rfl) (by kernel_rfl) (by kernel_rfl) (fun _ _ _ h => h) hPT (by rfl) ?_ ?_
        rotate_left
        · (intro w; go_simp; with_reducible rfl)
        (clear hPT; intro hPT; simp only [List.getElem_toArray, List.getElem_cons_zero, List.getElem_cons_succ, Act.put, List.setIfInBounds_toArray, List.set_cons_zero, List.set_cons_succ])
        refine plan_take (i := 6) (v := ?_) rfl (by kernel_rfl) (by kernel_rfl) (by kernel_rfl) (fun _ _ _ h => h) hPT (by rfl) ?_ ?_
        rotate_left
        · (intro w; go_simp; with_reducible rfl)
        (clear hPT; intro hPT; simp only [List.getElem_toArray, List.getElem_cons_zero, List.getElem_cons_succ, Act.put, List.setIfInBounds_toArray, List.set_cons_zero, List.set_cons_succ])
        refine plan_take (i := 7) (v := ?_) rfl (by kernel_rfl) (by kernel_rfl) (by kernel_rfl) (fun _ _ _ h => h) hPT (by rfl) ?_ ?_
        rotate_left
        · (intro w; go_simp; with_reducible rfl)
        (clear hPT; intro hPT; simp only [List.getElem_toArray, List.getElem_cons_zero, List.getElem_cons_succ, Act.put, List.setIfInBounds_toArray, List.set_cons_zero, List.set_cons_succ])
        refine plan_take (i := 9) (v := ?_) rfl (by kernel_rfl) (by kernel_rfl) (by kernel_rfl) (fun _ _ _ h => h) hPT (by rfl) ?_ ?_
        rotate_left
        · (intro w; go_simp; with_reducible rfl)
        (clear hPT; intro hPT; simp only [List.getElem_toArray, List.getElem_cons_zero, List.getElem_cons_succ, Act.put, List.setIfInBounds_toArray, List.set_cons_zero, List.set_cons_succ])
        refine plan_take (i := 12) (v := ?_) rfl (by kernel_rfl) (by kernel_rfl) (by kernel_rfl) (fun _ _ _ h => h) hPT (by rfl) ?_ ?_
        rotate_left
        · (intro w; go_simp; with_reducible rfl)
        (clear hPT; intro hPT; simp only [List.getElem_toArray, List.getElem_cons_zero, List.getElem_cons_succ, Act.put, List.setIfInBounds_toArray, List.set_cons_zero, List.set_cons_succ])
        refine plan_take (i := 13) (v := ?_) rfl (by kernel_rfl) (by kernel_rfl) (by kernel_rfl) (fun _ _ _ h => h) hPT (by rfl) ?_ ?_
        rotate_left
        · (intro w; go_simp; with_reducible rfl)
        (clear hPT; intro hPT; simp only [List.getElem_toArray, List.getElem_cons_zero, List.getElem_cons_succ, Act.put, List.setIfInBounds_toArray, List.set_cons_zero, List.set_cons_succ])
        refine plan_take (i := 14) (v := ?_) rfl (by kernel_rfl) (by kernel_rfl) (by kernel_rfl) (fun _ _ _ h => h) hPT (by rfl) ?_ ?_
        rotate_left
        · (intro w; go_simp; with_reducible rfl)
        (clear hPT; intro hPT; simp only [List.getElem_toArray, List.getElem_cons_zero, List.getElem_cons_succ, Act.put, List.setIfInBounds_toArray, List.set_cons_zero, List.set_cons_succ])
        refine plan_load (fun w' => w'.cell? ⟨p, 0, none⟩ = some (.slice (some ⟨go, 0, none⟩) s.outs.length co)) (i := 3) (v := ?_) rfl (by kernel_rfl) (by kernel_rfl) (by kernel_rfl) (fun _ _ _ h => h) hPT (by rfl) ?_ ?_ ?_
        rotate_left
        · (first | assumption | (go_simp; done))
        · (intro w hSw; (try dsimp only at hSw); go_simp; with_reducible rfl)
        (clear hPT; intro hPT; simp only [List.getElem_toArray, List.getElem_cons_zero, List.getElem_cons_succ, Act.put, List.setIfInBounds_toArray, List.set_cons_zero, List.set_cons_succ])
        refine plan_load (fun w' => w'.cell? ⟨p, 0, none⟩ = some (.slice (some ⟨go, 0, none⟩) s.outs.length co)) (i := 8) (v := ?_) rfl (by kernel_rfl) (by kernel_rfl) (by kernel_rfl) (fun _ _ _ h => h) hPT (by rfl) ?_ ?_ ?_
        rotate_left
        · (first | assumption | (go_simp; done))
        · (intro w hSw; (try dsimp only at hSw); go_simp; with_reducible rfl)
        (clear hPT; intro hPT; simp only [List.getElem_toArray, List.getElem_cons_zero, List.getElem_cons_succ, Act.put, List.setIfInBounds_toArray, List.set_cons_zero, List.set_cons_succ])
        refine plan_take (i := 10) (v := ?_) rfl (by kernel_rfl) (by kernel_rfl) (by kernel_rfl) (fun _ _ _ h => h) hPT (by rfl) ?_ ?_
        rotate_left
        · (intro w; go_simp; with_reducible rfl)
        (clear hPT; intro hPT; simp only [List.getElem_toArray, List.getElem_cons_zero, List.getElem_cons_succ, Act.put, List.setIfInBounds_toArray, List.set_cons_zero, List.set_cons_succ])
        refine plan_load (fun w' => w'.cell? ⟨go, i, none⟩ = some (.slice Av (adj s.outs (i : Int)).length cv)) (i := 11) (v := ?_) rfl (by kernel_rfl) (by kernel_rfl) (by kernel_rfl) (fun _ _ _ h => h) hPT (by rfl) ?_ ?_ ?_
        rotate_left
        · (first | assumption | (go_simp; done))
        · (intro w hSw; (try dsimp only at hSw); go_simp; with_reducible rfl)
        (clear hPT; intro hPT; simp only [List.getElem_toArray, List.getElem_cons_zero, List.getElem_cons_succ, Act.put, List.setIfInBounds_toArray, List.set_cons_zero, List.set_cons_succ])
        refine plan_one (i := 15) (by kernel_rfl) rfl (by rfl) (fun K hK => ?_)
        (try simp only [List.getElem_toArray, List.getElem_cons_zero, List.getElem_cons_succ, Act.put, List.setIfInBounds_toArray, List.set_cons_zero, List.set_cons_succ])
        go_simp
        rw [show IntKind.i64.wrap ((k : Int) + 1) = (k : Int) + 1 from by have := H4.out; have := HLT.out; rw [IntKind.wrap_i64]; omega]
        refine Calls.mono HD.out ?_
        rintro e w2 ⟨g, c, hv, rfl, hown, hk2⟩
        have HV := hide hv
        have HOW := hide hown
        have HK2 := hide hk2
        rw [HER.out, show (adj s.outs (i : Int)).length - 1 = ((adj s.outs (i : Int)).erase y).length from (List.length_erase_of_mem HM.out).symm] at HOW
        rw [show (adj s.outs (i : Int)).length - 1 = ((adj s.outs (i : Int)).erase y).length from (List.length_erase_of_mem HM.out).symm]
        have HKV := hide (show Kp (fun b => (vs[i]'HIV.out).ownBlock = some b) w w2 from ((Kp.refl _ w).drew.trans' HK2.out fun b _ e => by unfold At at e; subst e; rw [HVI.out, HVV.out, HV.out]; rfl))
        have HRW0 := hide (H.out.row i HIV.out (by rw [← H.out.len]; exact HIV.out))
        have HB2 := hide (H.out.blk.kp HKV.out (own_ne_blk HRW0.out H.out.blk (by decide)))
        obtain ⟨a1, a2, a3, a4, g1, g2, g3, g4⟩ := HB2.out.a4
        have oc2 := HKV.out.cell hocell (fun e => own_ne_own HRW0.out H.out.out (by decide) e (by rw [HVO.out]; rfl))
        rw [HVO.out] at a1
        clear hv hown hk2
        refine hK.out _ _ _ (t_cons oc2 (t_cons a1 (t_cons a1 (t_nil _)))) k_same (fun hPT' => ?_)
        (clear hPT hK K; have hPT := hPT'; clear hPT'; try simp only [List.getElem_toArray, List.getElem_cons_zero, List.getElem_cons_succ, Act.put, List.setIfInBounds_toArray, List.set_cons_zero, List.set_cons_succ])
        refine plan_take (i := 16) (v := ?_) rfl (by kernel_rfl) (by kernel_rfl) (by kernel_rfl) (fun _ _ _ h => h) hPT (by rfl) ?_ ?_
        rotate_left
        · (intro w; go_simp; with_reducible rfl)
        (clear hPT; intro hPT; simp only [List.getElem_toArray, List.getElem_cons_zero, List.getElem_cons_succ, Act.put, List.setIfInBounds_toArray, List.set_cons_zero, List.set_cons_succ])
        have ho2 := own_kp H.out.out HKV.out fun b hb e => own_ne_own HRW0.out H.out.out (by decide) e hb
        obtain ⟨go', co', hvo', _, _, _, hofr2, _, hgol2⟩ := own_cap ho2 HIV.out
        rw [HVO.out] at hvo'
        injection hvo' with e1 _ _
        injection e1 with e1
        injection e1 with e1
        subst e1
        clear ho2
        refine plan_one (i := 17) (by kernel_rfl) rfl (by rfl) (fun K hK => ?_)
        (try simp only [List.getElem_toArray, List.getElem_cons_zero, List.getElem_cons_succ, Act.put, List.setIfInBounds_toArray, List.set_cons_zero, List.set_cons_succ])
        go_simp
        refine hK.out [] _ _ (t_nil _) (k_drop (by kernel_rfl) (k_drop (by kernel_rfl) (k_drop (by kernel_rfl) k_nil))) (fun hPT' => ?_)
        (clear hPT hK K; have hPT := hPT'; clear hPT'; try simp only [List.getElem_toArray, List.getElem_cons_zero, List.getElem_cons_succ, Act.put, List.setIfInBounds_toArray, List.set_cons_zero, List.set_cons_succ])
        refine plan_done (by kernel_rfl) ?_ _
        clear hPT
        have HA := hide (H.out.oput HIV.out (g := go) (by rw [HVO.out]; rfl) HKV.out HOW.out fun b hb => .inl (by rw [HVI.out, HVV.out, HV.out]; exact hb))
        have HSR := hide (show ∀ b, (vs[i]'HIV.out).ownBlock = some b → S b from fun b hb => HF.out b (.inr (.inr (.inr ⟨_, List.mem_cons_of_mem _ (List.mem_cons_of_mem _ (List.getElem_mem _)), hb⟩))))
        have HAI := hide (show CnIs (w2.setCell ⟨go, i, none⟩ (.slice (some ⟨g, 0, none⟩) ((adj s.outs (i : Int)).erase y).length c)) p S { s with outs := s.outs.set i ((adj s.outs (i : Int)).erase y) } from ⟨_, _, _, _, _, HA.out, fun b hb => by
          rcases hb with rfl | hb | hb | ⟨u, hu, hb⟩
          · exact HF.out _ (.inl rfl)
          · exact HF.out _ (.inr (.inl hb))
          · exact HF.out _ (.inr (.inr (.inl hb)))
          · rcases List.mem_cons.1 hu with rfl | hu
            · exact HF.out _ (.inr (.inr (.inr ⟨_, List.mem_cons_self .., hb⟩)))
            · rcases List.mem_cons.1 hu with rfl | hu
              · exact HF.out _ (.inr (.inr (.inr ⟨_, List.mem_cons_of_mem _ (List.mem_cons_self ..), hb⟩)))
              · rcases List.mem_or_eq_of_mem_set hu with hu | rfl
                · exact HF.out _ (.inr (.inr (.inr ⟨_, List.mem_cons_of_mem _ (List.mem_cons_of_mem _ hu), hb⟩)))
                · exact HSR.out b (by rw [HVI.out, HVV.out, HV.out]; exact hb)⟩)
        have HKA := hide (show Kp S w (w2.setCell ⟨go, i, none⟩ (.slice (some ⟨g, 0, none⟩) ((adj s.outs (i : Int)).erase y).length c)) from (HKV.out.mono fun b _ hb => HSR.out b hb).trans' (kp_set _ _ _ _) fun b _ e => by unfold At at e; subst e; exact HF.out _ (.inr (.inl (by rw [HVO.out]; rfl))))
        go_wp2_with fail
        refine Calls.mono (less_any 13 { s with outs := s.outs.set i ((adj s.outs (i : Int)).erase y) } y [] p S _ HL.out HPM.out ?_ ?_ HAI.out) ?_
        · have := HL.out
          show 0 + 1 + 4 * live s ≤ 100
          omega
        · intro b hb
          exact HS.out b (by have := HKA.out.size; omega)
        rintro e w5 ⟨rfl, hc5, hk5⟩
        have HC5 := hide hc5
        have HK5 := hide hk5
        clear hc5 hk5
        go_wp2
        go_ret
        exact ⟨by rw [HR.out.1]; rfl, by rw [HR.out.2]; exact HC5.out, HKA.out.trans HK5.out⟩
      · have hix : ixOf (adj s.outs (i : Int)) y < 0 := by unfold ixOf; rw [if_neg hm]; omega
        have HR := hide (show cutE s i y = 5 ∧ cutS s i y = s by unfold cutS cutE; rw [if_pos ⟨hb, hy⟩, if_neg hm]; exact ⟨rfl, rfl⟩)
        clear hb hy h hF hP hS hm hrow hvv hv hvo hbo hadj
        go_enter Tryd.func11, Tryd.ntmps11
        go_wp2_with fail
        refine Calls.mono HCx.out ?_
        rw [HI.out]
        rintro e w1 ⟨rfl, rfl⟩
        go_wp2_with fail
        refine Calls.mono HCy.out ?_
        rw [HIY.out]
        rintro e w1 ⟨rfl, rfl⟩
        go_wp2_with fail
        refine Calls.mono (index_any _ _ _ _ HRI.out) ?_
        rintro e w1 ⟨rfl, rfl⟩
        go_wp2
        go_ret
        exact ⟨by rw [HR.out.1]; rfl, by rw [HR.out.2]; exact HCI.out, Kp.refl _ _⟩
end Go.Proofs.YtiibadganlincaaDoor
