/- counts: Link, walked. -/
import Derived.Test.YtiibadganlincaaDoorCountRoot
namespace Go.Proofs.YtiibadganlincaaDoor
open Go.RowKit
set_option linter.unusedSimpArgs false

section
variable {w w' : World} {p : Nat} {vo vr vc vg : Value} {vs : List Value} {s : Cn} {S : Nat → Prop}
/-- a pointer more, in memory -/
theorem link_push {y : Int} {Av : Option Addr} {v : Value} {co cv g' c' go i : Nat} {w4 : World} (h : CnAt w p vo vr vc vg vs s) (hF : ∀ b, CnF p vo vr vc vg vs b → S b) (hS : ∀ b, w.heap.size ≤ b → S b) (hi : i < vs.length)
    (hadj : adj s.outs (i : Int) = s.outs[i]'(by rw [← h.len]; exact hi)) (hvi : vs[i] = v) (hv : v = .slice Av (adj s.outs (i : Int)).length cv) (hvo : vo = .slice (some ⟨go, 0, none⟩) s.outs.length co)
    (ho4 : w4.ownsRow 0 3 1 (.slice (some ⟨g', 0, none⟩) ((adj s.outs (i : Int)).length + 1) c') ((adj s.outs (i : Int)).length + 1) (iv (adj s.outs (i : Int)) ++ [.int .i64 y])) (hgr4 : (w.drew.alloc (.cells #[.int .i64 y] 3)).grownBy w4 (Value.slice Av (adj s.outs (i : Int)).length cv).ownBlock)
    (hat : (Value.slice Av (adj s.outs (i : Int)).length cv).ownBlock = some g' ∨ g' = (w.drew.alloc (.cells #[.int .i64 y] 3)).heap.size) :
    Blk w4 p 49 #[vo, vr, vc, vg] ∧ (w4.cell? ⟨go, i, none⟩ = some (.slice Av (adj s.outs (i : Int)).length cv) ∧ w4.frozen? ⟨go, i, none⟩ = false) ∧
      CnAt (w4.setCell ⟨go, i, none⟩ (.slice (some ⟨g', 0, none⟩) ((adj s.outs (i : Int)).length + 1) c')) p vo vr vc vg (vs.set i (.slice (some ⟨g', 0, none⟩) ((adj s.outs (i : Int)).length + 1) c')) { s with outs := s.outs.set i (adj s.outs (i : Int) ++ [y]) } ∧
      (∀ b, CnF p vo vr vc vg (vs.set i (.slice (some ⟨g', 0, none⟩) ((adj s.outs (i : Int)).length + 1) c')) b → S b) ∧ Kp S w (w4.setCell ⟨go, i, none⟩ (.slice (some ⟨g', 0, none⟩) ((adj s.outs (i : Int)).length + 1) c')) := by
  have hk4 : Kp (fun b => vs[i].ownBlock = some b) w w4 := ((Kp.refl _ w).drew.alloc _).grown hgr4 fun b e _ => by rw [hvi, hv]; exact e
  have hb4 : ∀ b, (Value.slice (some ⟨g', 0, none⟩) ((adj s.outs (i : Int)).length + 1) c').ownBlock = some b → vs[i].ownBlock = some b ∨ w.heap.size ≤ b := fun b e => by
    have e : g' = b := by simpa [Value.ownBlock] using e
    subst e
    rcases hat with h | h
    · exact .inl (by rw [hvi, hv]; exact h)
    · simp at h
      exact .inr (by omega)
  have hio : i < s.outs.length := by rw [← h.len]; exact hi
  have hri := h.row i hi hio
  have ho2 := own_kp h.out hk4 fun b hb e => own_ne_own hri h.out (by decide) e hb
  obtain ⟨go', co', hvo', _, _, hc2, hf2, _, _⟩ := own_cap ho2 hi
  rw [hvo] at hvo'
  injection hvo' with e1 _ _
  injection e1 with e1
  injection e1 with e1
  subst e1
  have hgo : vo.ownBlock = some go := by rw [hvo]; rfl
  exact ⟨h.blk.kp hk4 (own_ne_blk hri h.blk (by decide)), ⟨by rw [hc2, hvi, hv], hf2⟩, h.oput hi (r' := adj s.outs (i : Int) ++ [y]) hgo hk4 (by rw [List.length_append, iv_snoc]; exact ho4) hb4, h.oputS hF hS hi hgo hk4 hb4⟩
end

set_option maxRecDepth 100000 in
set_option maxHeartbeats 1000000 in
theorem clink_any {p : Nat} {S : Nat → Prop} {s : Cn} (x y : Int) (w : World) (hP : PInv s []) (hS : ∀ b, w.heap.size ≤ b → S b) (hC : CnIs w p S s) :
    Calls Tryd.prog 10 #[.pointer (some ⟨p, 0, none⟩), .int .i64 x, .int .i64 y] w (CnPost p S w (linkE s x y) (linkS s x y)) := by
  have HCI := hide hC
  obtain ⟨vo, vr, vc, vg, vs, h, hF⟩ := hC
  have HCx := hide (cis_at x w h hP.glen hP.n12)
  have HCy := hide (cis_at y w h hP.glen hP.n12)
  cases hb : isB s x with
  | false =>
    have HI := hide hb
    have HR := hide (show linkE s x y = 1 ∧ linkS s x y = s by unfold linkS linkE; rw [hb]; exact ⟨rfl, rfl⟩)
    clear hb h hF hP hS
    go_enter Tryd.func10, Tryd.ntmps10
    go_wp2_with fail
    refine Calls.mono HCx.out ?_
    rw [HI.out]
    rintro e w1 ⟨rfl, rfl⟩
    go_wp2
    go_ret
    exact ⟨by rw [HR.out.1]; rfl, by rw [HR.out.2]; exact HCI.out, Kp.refl _ _⟩
  | true =>
    have HI := hide hb
    cases hy : isB s y with
    | false =>
      have HIY := hide hy
      have HR := hide (show linkE s x y = 1 ∧ linkS s x y = s by unfold linkS linkE; rw [hy]; simp)
      clear hb hy h hF hP hS
      go_enter Tryd.func10, Tryd.ntmps10
      go_wp2_with fail
      refine Calls.mono HCx.out ?_
      rw [HI.out]
      rintro e w1 ⟨rfl, rfl⟩
      go_wp2_with fail
      refine Calls.mono HCy.out ?_
      rw [HIY.out]
      rintro e w1 ⟨rfl, rfl⟩
      go_wp2
      go_ret
      exact ⟨by rw [HR.out.1]; rfl, by rw [HR.out.2]; exact HCI.out, Kp.refl _ _⟩
    | true =>
      have HIY := hide hy
      obtain ⟨hr, _⟩ := isB_iff.1 hb
      obtain ⟨i, rfl⟩ := Int.eq_ofNat_of_zero_le hr.1
      have hi : i < s.outs.length := by omega
      have hiv : i < vs.length := by rw [h.len]; exact hi
      have hrow := h.row i hiv hi
      have hadj : adj s.outs (i : Int) = s.outs[i] := adj_eq (by simpa using hi)
      rw [← hadj] at hrow
      have HRI := hide (own_ints hrow)
      have hb0 := h.blk.a4
      obtain ⟨b1, b2, b3, b4, f1, f2, f3, f4⟩ := hb0
      obtain ⟨go, co, hvo, hco, hmo, hocell, hofr, _, hgol⟩ := own_cap h.out hiv
      rw [h.len] at hvo hco
      obtain ⟨v, hv⟩ : ∃ v, vs[i] = v := ⟨_, rfl⟩
      rw [hv] at hocell hrow HRI
      obtain ⟨e0, Av, cv, hvv, hcv, hmv, _⟩ := own_form hrow
      rw [iv_length] at hvv hcv
      clear e0
      have HVV := hide hvv
      have HVI := hide hv
      have hbo := b1
      rw [hvo] at b1
      rw [hvv] at hocell HRI
      have HVO := hide hvo
      have H := hide h
      have HF := hide hF
      have HS := hide hS
      have HROW := hide hrow
      rw [hvv] at HROW
      have HIV := hide hiv
      have HP := hide hP
      have H4 := hide (show (adj s.outs (i : Int)).length ≤ 4 from hP.ok.adjFew)
      have HADJ := hide hadj
      by_cases hl : (adj s.outs (i : Int)).length = 4
      · have HR := hide (show linkE s i y = 4 ∧ linkS s i y = s by unfold linkS linkE; rw [if_pos ⟨hb, hy⟩, if_pos hl]; exact ⟨rfl, rfl⟩)
        rw [hl] at hocell
        clear hb hy h hF hP hS hrow hvv hv hvo hbo hadj hl hcv
        go_enter Tryd.func10, Tryd.ntmps10
        go_wp2_with fail
        refine Calls.mono HCx.out ?_
        rw [HI.out]
        rintro e w1 ⟨rfl, rfl⟩
        go_wp2_with fail
        refine Calls.mono HCy.out ?_
        rw [HIY.out]
        rintro e w1 ⟨rfl, rfl⟩
        go_wp2
        go_ret
        exact ⟨by rw [HR.out.1]; rfl, by rw [HR.out.2]; exact HCI.out, Kp.refl _ _⟩
      · have he0 : linkE s i y = 0 := by unfold linkE; rw [if_pos ⟨hb, hy⟩, if_neg hl]
        have HR := hide (show linkE s i y = 0 ∧ linkS s i y = { s with outs := s.outs.set i (adj s.outs (i : Int) ++ [y]), count := s.count.set y.toNat (nAt s.count y.toNat + 1) } from ⟨he0, by unfold linkS; rw [if_pos he0, Int.toNat_natCast]⟩)
        have hl' : (((adj s.outs (i : Int)).length : Int) == 4) = false := by rw [beq_eq_false_iff_ne]; omega
        have HY0 := hide (isB_iff.1 hy).1.1
        clear hb hy h hF hP hS hrow hvv hv hvo hbo hadj hl he0
        go_enter Tryd.func10, Tryd.ntmps10
        go_wp2_with fail
        refine Calls.mono HCx.out ?_
        rw [HI.out]
        rintro e w1 ⟨rfl, rfl⟩
        go_wp2_with fail
        refine Calls.mono HCy.out ?_
        rw [HIY.out]
        rintro e w1 ⟨rfl, rfl⟩
        go_wp2_with fail
        have hpl := H.out.blk.lt
        refine plan_start 17 (by kernel_rfl) rfl (fun hPT => ?_)
        refine plan_take (i := 0) (v := ?_) rfl (by kernel_rfl) (by kernel_rfl) (by kernel_rfl) (fun _ _ _ h => h) hPT (by rfl) ?_ ?_
        rotate_left
        · (intro w; go_simp; with_reducible rfl)
        (clear hPT; intro hPT; simp only [List.getElem_toArray, List.getElem_cons_zero, List.getElem_cons_succ, Act.put, List.setIfInBounds_toArray, List.set_cons_zero, List.set_cons_succ])
        refine plan_take (i := 1) (v := ?_) rfl (by kernel_rfl) (by kernel_rfl) (by kernel_rfl) (fun _ _ _ h => h) hPT (by rfl) ?_ ?_
        rotate_left
        · (intro w; go_simp; with_reducible rfl)
        (clear hPT; intro hPT; simp only [List.getElem_toArray, List.getElem_cons_zero, List.getElem_cons_succ, Act.put, List.setIfInBounds_toArray, List.set_cons_zero, List.set_cons_succ])
        refine plan_take (i := 2) (v := ?_) rfl (by kernel_rfl) (by kernel_rfl) (by kernel_rfl) (fun _ _ _ h => h) hPT (by rfl) ?_ ?_
        rotate_left
        · (intro w; go_simp; with_reducible rfl)
        (clear hPT; intro hPT; simp only [List.getElem_toArray, List.getElem_cons_zero, List.getElem_cons_succ, Act.put, List.setIfInBounds_toArray, List.set_cons_zero, List.set_cons_succ])
        refine plan_take (i := 4) (v := ?_) rfl (by kernel_rfl) (by kernel_rfl) (by kernel_rfl) (fun _ _ _ h => h) hPT (by rfl) ?_ ?_
        rotate_left
        · (intro w; go_simp; with_reducible rfl)
        (clear hPT; intro hPT; simp only [List.getElem_toArray, List.getElem_cons_zero, List.getElem_cons_succ, Act.put, List.setIfInBounds_toArray, List.set_cons_zero, List.set_cons_succ])
        refine plan_take (i := 5) (v := ?_) rfl (by kernel_rfl) (by kernel_rfl) (by kernel_rfl) (fun _ _ _ h => h) hPT (by rfl) ?_ ?_
        rotate_left
        · (intro w; go_simp; with_reducible rfl)
        (clear hPT; intro hPT; simp only [List.getElem_toArray, List.getElem_cons_zero, List.getElem_cons_succ, Act.put, List.setIfInBounds_toArray, List.set_cons_zero, List.set_cons_succ])
        refine plan_take (i := 6) (v := ?_) rfl (by kernel_rfl) (by kernel_rfl) (by kernel_rfl) (fun _ _ _ h => h) hPT (by rfl) ?_ ?_
        rotate_left
        · (intro w; go_simp; with_reducible rfl)
        (clear hPT; intro hPT; simp only [List.getElem_toArray, List.getElem_cons_zero, List.getElem_cons_succ, Act.put, List.setIfInBounds_toArray, List.set_cons_zero, List.set_cons_succ])
        refine plan_take (i := 7) (v := ?_) rfl (by kernel_rfl) (by kernel_rfl) (by kernel_rfl) (fun _ _ _ h => h) hPT (by rfl) ?_ ?_
        rotate_left
        · (intro w; go_simp; with_reducible rfl)
        (clear hPT; intro hPT; simp only [List.getElem_toArray, List.getElem_cons_zero, List.getElem_cons_succ, Act.put, List.setIfInBounds_toArray, List.set_cons_zero, List.set_cons_succ])
        refine plan_take (i := 9) (v := ?_) rfl (by kernel_rfl) (by kernel_rfl) (by kernel_rfl) (fun _ _ _ h => h) hPT (by rfl) ?_ ?_
        rotate_left
        · (intro w; go_simp; with_reducible rfl)
        (clear hPT; intro hPT; simp only [List.getElem_toArray, List.getElem_cons_zero, List.getElem_cons_succ, Act.put, List.setIfInBounds_toArray, List.set_cons_zero, List.set_cons_succ])
        refine plan_take (i := 12) (v := ?_) rfl (by kernel_rfl) (by kernel_rfl) (by kernel_rfl) (fun _ _ _ h => h) hPT (by rfl) ?_ ?_
        rotate_left
        · (intro w; go_simp; with_reducible rfl)
        (clear hPT; intro hPT; simp only [List.getElem_toArray, List.getElem_cons_zero, List.getElem_cons_succ, Act.put, List.setIfInBounds_toArray, List.set_cons_zero, List.set_cons_succ])
        refine plan_load (fun w' => w'.cell? ⟨p, 0, none⟩ = some (.slice (some ⟨go, 0, none⟩) s.outs.length co)) (i := 3) (v := ?_) rfl (by kernel_rfl) (by kernel_rfl) (by kernel_rfl) (fun _ _ _ h => h) hPT (by rfl) ?_ ?_ ?_
        rotate_left
        · (first | assumption | (go_simp; done))
        · (intro w hSw; (try dsimp only at hSw); go_simp; with_reducible rfl)
        (clear hPT; intro hPT; simp only [List.getElem_toArray, List.getElem_cons_zero, List.getElem_cons_succ, Act.put, List.setIfInBounds_toArray, List.set_cons_zero, List.set_cons_succ])
        refine plan_load (fun w' => w'.cell? ⟨p, 0, none⟩ = some (.slice (some ⟨go, 0, none⟩) s.outs.length co)) (i := 8) (v := ?_) rfl (by kernel_rfl) (by kernel_rfl) (by kernel_rfl) (fun _ _ _ h => h) hPT (by rfl) ?_ ?_ ?_
        rotate_left
        · (first | assumption | (go_simp; done))
        · (intro w hSw; (try dsimp only at hSw); go_simp; with_reducible rfl)
        (clear hPT; intro hPT; simp only [List.getElem_toArray, List.getElem_cons_zero, List.getElem_cons_succ, Act.put, List.setIfInBounds_toArray, List.set_cons_zero, List.set_cons_succ])
        refine plan_take (i := 10) (v := ?_) rfl (by kernel_rfl) (by kernel_rfl) (by kernel_rfl) (fun _ _ _ h => h) hPT (by rfl) ?_ ?_
        rotate_left
        · (intro w; go_simp; with_reducible rfl)
        (clear hPT; intro hPT; simp only [List.getElem_toArray, List.getElem_cons_zero, List.getElem_cons_succ, Act.put, List.setIfInBounds_toArray, List.set_cons_zero, List.set_cons_succ])
        refine plan_load (fun w' => w'.cell? ⟨go, i, none⟩ = some (.slice Av (adj s.outs (i : Int)).length cv)) (i := 11) (v := ?_) rfl (by kernel_rfl) (by kernel_rfl) (by kernel_rfl) (fun _ _ _ h => h) hPT (by rfl) ?_ ?_ ?_
        rotate_left
        · (first | assumption | (go_simp; done))
        · (intro w hSw; (try dsimp only at hSw); go_simp; with_reducible rfl)
        (clear hPT; intro hPT; simp only [List.getElem_toArray, List.getElem_cons_zero, List.getElem_cons_succ, Act.put, List.setIfInBounds_toArray, List.set_cons_zero, List.set_cons_succ])
        refine plan_one (i := 13) (by kernel_rfl) rfl (by rfl) (fun K hK => ?_)
        (try simp only [List.getElem_toArray, List.getElem_cons_zero, List.getElem_cons_succ, Act.put, List.setIfInBounds_toArray, List.set_cons_zero, List.set_cons_succ])
        go_simp
        refine hK.out _ _ _ (t_cons (by go_simp) (t_cons (by go_simp) (t_cons (by go_simp) (t_nil _)))) k_same (fun hPT' => ?_)
        (clear hPT hK K; have hPT := hPT'; clear hPT'; try simp only [List.getElem_toArray, List.getElem_cons_zero, List.getElem_cons_succ, Act.put, List.setIfInBounds_toArray, List.set_cons_zero, List.set_cons_succ])
        refine plan_one (i := 14) (by kernel_rfl) rfl (by rfl) (fun K hK => ?_)
        (try simp only [List.getElem_toArray, List.getElem_cons_zero, List.getElem_cons_succ, Act.put, List.setIfInBounds_toArray, List.set_cons_zero, List.set_cons_succ])
        refine wp_push _ (.tmp 39) (.tmp 41) _ rfl 0 3 _ 8 Tryd.underlying25 Tryd.infoInt rfl (.slice Av (adj s.outs (i : Int)).length cv) (adj s.outs (i : Int)).length (iv (adj s.outs (i : Int))) rfl (HROW.out.drew.alloc _) _ rfl 1 _ rfl ((Blk.new _ _ _).cell 0) (by have := H4.out; omega) (by decide) (Nat.zero_le _) ?_
        intro g' c' w4 ho4 hgr4 hat
        have HPS := hide (link_push H.out HF.out HS.out HIV.out HADJ.out HVI.out HVV.out HVO.out ho4 hgr4 hat)
        obtain ⟨a1, a2, a3, a4, g1, g2, g3, g4⟩ := HPS.out.1.a4
        obtain ⟨oc2, hofr2⟩ := HPS.out.2.1
        rw [HVO.out] at a1
        clear ho4 hgr4 hat
        refine hK.out _ _ _ (t_cons a1 (t_cons a1 (t_nil _))) (k_drop (by kernel_rfl) k_same) (fun hPT' => ?_)
        (clear hPT hK K; have hPT := hPT'; clear hPT'; try simp only [List.getElem_toArray, List.getElem_cons_zero, List.getElem_cons_succ, Act.put, List.setIfInBounds_toArray, List.set_cons_zero, List.set_cons_succ])
        refine plan_take (i := 15) (v := ?_) rfl (by kernel_rfl) (by kernel_rfl) (by kernel_rfl) (fun _ _ _ h => h) hPT (by rfl) ?_ ?_
        rotate_left
        · (intro w; go_simp; with_reducible rfl)
        (clear hPT; intro hPT; simp only [List.getElem_toArray, List.getElem_cons_zero, List.getElem_cons_succ, Act.put, List.setIfInBounds_toArray, List.set_cons_zero, List.set_cons_succ])
        refine plan_one (i := 16) (by kernel_rfl) rfl (by rfl) (fun K hK => ?_)
        (try simp only [List.getElem_toArray, List.getElem_cons_zero, List.getElem_cons_succ, Act.put, List.setIfInBounds_toArray, List.set_cons_zero, List.set_cons_succ])
        go_simp
        refine hK.out [] _ _ (t_nil _) (k_drop (by kernel_rfl) (k_drop (by kernel_rfl) k_nil)) (fun hPT' => ?_)
        (clear hPT hK K; have hPT := hPT'; clear hPT'; try simp only [List.getElem_toArray, List.getElem_cons_zero, List.getElem_cons_succ, Act.put, List.setIfInBounds_toArray, List.set_cons_zero, List.set_cons_succ])
        refine plan_done (by kernel_rfl) ?_ _
        clear hPT
        have H4 := hide HPS.out.2.2.1
        have HS4 := hide HPS.out.2.2.2
        generalize w4.setCell ⟨go, i, none⟩ (.slice (some ⟨g', 0, none⟩) ((adj s.outs (i : Int)).length + 1) c') = W at H4 HS4 ⊢
        clear a1 a2 a3 a4 g1 g2 g3 g4 b1 b2 b3 b4 f1 f2 f3 f4 hofr2 oc2
        obtain ⟨j, rfl⟩ := Int.eq_ofNat_of_zero_le HY0.out
        obtain ⟨hj, hd0, hd1⟩ := HP.out.cap HIY.out
        obtain ⟨gc, cc, hvc, hcc, hmc, hcell, hfr, _, hgcl, _⟩ := own_int H4.out.cnt hj
        obtain ⟨a1, a2, a3, a4, g1, g2, g3, g4⟩ := H4.out.blk.a4
        rw [nAt_eq hj] at hd0 hd1
        simp only at hcell
        obtain ⟨d, hd⟩ : ∃ d, s.count[j] = d := ⟨_, rfl⟩
        rw [Int.toNat_natCast, nAt_eq hj] at HR
        rw [hd] at hd0 hd1 hcell HR
        have HE := hide (H4.out.csetS HS4.out.1 (by rw [hvc]; rfl) hj (d + 1))
        rw [hvc] at a3
        clear hd
        go_wp2
        go_ret
        exact ⟨by rw [HR.out.1]; rfl, by rw [HR.out.2]; exact HE.out.1, HS4.out.2.trans HE.out.2⟩
end Go.Proofs.YtiibadganlincaaDoor
