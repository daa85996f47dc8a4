/- The document's answer, walked: Step of colors. -/
import Derived.Test.YtgbdjidjbcbhjaaDoorRefColor
import Derived.Test.YtgbdjidjbcbhjaaDoorRefAnew
namespace Go.Proofs.YtgbdjidjbcbhjaaDoor
open Go.RowKit
set_option linter.unusedSimpArgs false

theorem ixOf_not {xs : List Int} {x : Int} (h : x ∉ xs) : ixOf xs x = -1 := by unfold ixOf; rw [if_neg h]

set_option maxRecDepth 100000 in
set_option maxHeartbeats 4000000 in
theorem rstep_any {F : Nat → Prop} (vo vr vc : Value) (O : List (List Int)) (roots c : List Int) (w : World) (ho : RowsIn w F vo O) (hr : IntsIn w F vr roots) (hc : IntsIn w F vc c) (hok : Ok O roots) (hcl : c.length = O.length) (hF : ∀ b, w.heap.size ≤ b → F b) :
    Calls Tryd.prog 40 #[.agg #[vo, vr, vc]] w fun e w' => ∃ vc', e = .returned (.tuple #[.agg #[vo, vr, vc'], .bool (decide ((1 : Int) ∈ c))]) ∧ IntsIn w' F vc' (stepC O c) ∧ Kp No w w' := by
  obtain ⟨Ao, co, rfl, hco, hmo, _⟩ := RowsIn.form ho
  obtain ⟨Ar, cr, rfl, hcr, hmr, _⟩ := id hr
  obtain ⟨Ac, cc, rfl, hcc, hmc, _⟩ := id hc
  have HO := hide ho
  have HC := hide (hc.mono (F' := fun b => F b ∧ b < w.heap.size) fun b h1 h2 => ⟨h2, h1⟩)
  have HOK := hide hok
  have hn12 := hok.n12
  have HCL := hide hcl
  have HFF := hide hF
  have hc12 : c.length ≤ 12 := by omega
  clear ho hr hc hok hcl hF
  go_enter Tryd.func40, Tryd.ntmps40
  go_wp2_with fail
  obtain ⟨W0, hW0⟩ : ∃ W0, (w.alloc (.cells #[.slice Ao O.length co, .slice Ar roots.length cr, .slice Ac c.length cc] 66)).alloc (.cells #[.slice none 0 0, .slice none 0 0, .slice none 0 0] 66) = W0 := ⟨_, rfl⟩
  have HK0 := hide (show Kp No w W0 by rw [← hW0]; exact ((Kp.refl No w).alloc _).alloc _)
  have HBH := hide (show Blk W0 w.heap.size 66 #[.slice Ao O.length co, .slice Ar roots.length cr, .slice Ac c.length cc] by rw [← hW0]; exact (Blk.new _ _ _).alloc _)
  have HBR := hide (show Blk W0 (w.heap.size + 1) 66 #[.slice none 0 0, .slice none 0 0, .slice none 0 0] by rw [← hW0]; exact Blk.at_ _ _ (by simp))
  have hz0 : W0.heap.size = w.heap.size + 2 := by rw [← hW0]; simp
  rw [hW0]
  clear hW0
  obtain ⟨p1, p2, p3, p4, p5, p6, p7⟩ := HBH.out.a3
  obtain ⟨r1, r2, r3, r4, r5, r6, r7⟩ := HBR.out.a3
  refine Calls.mono (place_any _ c 1 _ (HC.out.no HK0.out)) ?_
  by_cases h1 : (1 : Int) ∈ c
  · have HIX := hide (ixOf_mem h1)
    obtain ⟨hi1, hi2⟩ := idx_one h1
    have HST := hide (show stepC O c = shades (c.set (c.idxOf 1) 2) (adj O (c.idxOf 1 : Int)) by unfold stepC; rw [if_pos h1])
    rw [HIX.out]
    obtain ⟨i, hi⟩ : ∃ i, c.idxOf (1 : Int) = i := ⟨_, rfl⟩
    rw [hi] at HST hi2
    rw [hi]
    have HD1 := hide (decide_eq_true h1)
    clear hi1 hi h1 HIX
    rintro e w1 ⟨rfl, rfl⟩
    have hil : (i : Int) < c.length := by omega
    have hiO : i < O.length := by have := HCL.out; omega
    obtain ⟨_, _, e, _, _, hrow⟩ := RowsIn.form (HO.out)
    cases e
    obtain ⟨bo, oo, A', c'', rfl, _, hrc, hri⟩ := hrow i hiO
    have hadj : O[i] = adj O (i : Int) := by rw [adj_eq (by simpa using hiO)]; simp
    rw [hadj] at hrc hri
    have HRC := hide (HK0.out.cell hrc id)
    have HRI := hide (hri.no HK0.out)
    have h4 : (adj O (i : Int)).length ≤ 4 := HOK.out.adjFew
    have HYR := hide (fun y (hy : y ∈ adj O (i : Int)) => HOK.out.adjIn y hy)
    obtain ⟨ys, hys⟩ : ∃ ys, adj O (i : Int) = ys := ⟨_, rfl⟩
    rw [hys] at HRC HRI h4 HST HYR hrc hri
    have HCC := hide (cellsIn_ints.2 (HC.out.no HK0.out))
    have HL := hide (show 0 + (iv c).length ≤ 1073741824 by rw [iv_length]; omega)
    have HNB := hide (show ∀ b, w.heap.size + 2 ≤ b → F b ∧ b ≠ w.heap.size ∧ b ≠ w.heap.size + 1 from fun b hb => ⟨HFF.out b (by omega), by omega, by omega⟩)
    have HRW := hide hrc
    have HRIX := hide (show IntsIn w (fun b => b < w.heap.size) (.slice A' ys.length c'') ys from hri.mono fun b h _ => h)
    have HBO := hide (World.block_lt_of_cell? w _ hrc)
    clear hrow hadj hrc hri hys
    go_wp2_with (at_builtin; refine wpList_add (F := fun b => F b ∧ b < w.heap.size) _ rfl (.tmp 13) (.tmp 15) _ rfl W0.heap.size 3 _ 8 Tryd.underlying23 Tryd.infoInt rfl _ 0 [] rfl (World.ownsRow_nil _ _ _ _) _ rfl (iv c) HCC.out (one_iv c) HL.out (by decide) (Nat.le_refl _) ?_; intro v' w3 ho3 hgr3 hat3; have hk3 := (Kp.refl No W0).grown hgr3 (fun k e hk => by cases e); have ho3 : w3.ownsRow W0.heap.size 3 1 v' c.length (iv c) := (by simpa [iv] using ho3); obtain ⟨g, c2, rfl, hcc2, hcm2, hcl2, hfr2, hbg2, hgs2, hset2⟩ := own_int ho3 hi2; have HST2 := hide (hset2 2); have HK3 := hide hk3; clear hset2 ho3 hgr3 hat3; have hb3 := HBH.out.kp hk3 id; clear hk3 p1 p2 p3 p4 p5 p6 p7; obtain ⟨p1, p2, p3, p4, p5, p6, p7⟩ := (hb3.far (p := ⟨g, i, none⟩) (by simp; omega) (.int .i64 2)).a3)
    have hk1 : Kp No w3 ((w3.setCell ⟨g, i, none⟩ (.int .i64 2)).setCell ⟨w.heap.size, 2, none⟩ (.slice (some ⟨g, 0, none⟩) c.length c2)) → True := fun _ => trivial
    clear hk1
    obtain ⟨W1, hW1⟩ : ∃ W1, (w3.setCell ⟨g, i, none⟩ (.int .i64 2)).setCell ⟨w.heap.size, 2, none⟩ (.slice (some ⟨g, 0, none⟩) c.length c2) = W1 := ⟨_, rfl⟩
    have HKA := hide (show Kp No w W1 by
      rw [← hW1]
      exact ((HK0.out.trans HK3.out).trans' (kp_set _ _ _ _) fun b hb e => by unfold At at e; omega).trans' (kp_set _ _ _ _) fun b hb e => by unfold At at e; omega)
    have HQ := hide (show Blk W1 w.heap.size 66 #[.slice (some ⟨bo, oo, none⟩) O.length co, .slice Ar roots.length cr, .slice (some ⟨g, 0, none⟩) c.length c2] by
      rw [← hW1]
      exact (hb3.far (p := ⟨g, i, none⟩) (by simp; omega) _).set_ 2 _)
    have HR1 := hide (show Blk W1 (w.heap.size + 1) 66 #[.slice none 0 0, .slice none 0 0, .slice none 0 0] by
      rw [← hW1]
      exact ((HBR.out.kp HK3.out id).far (p := ⟨g, i, none⟩) (by simp; omega) _).far (p := ⟨w.heap.size, 2, none⟩) (by simp) _)
    have HI1 := hide (show IntsIn W1 (fun b => w.heap.size + 2 ≤ b) (.slice (some ⟨g, 0, none⟩) c.length c2) (c.set i 2) by
      rw [← hW1]
      exact (IntsIn.of_own (F := fun b => w.heap.size + 2 ≤ b) HST2.out fun b hb => by have := (own_lt HST2.out hb).1; omega).kp (kp_set _ _ _ _) fun b hb e => by unfold At at e; omega)
    rw [hW1]
    clear hW1 p1 p2 p3 p4 p5 p6 p7 hcl2 hfr2 hb3 r1 r2 r3 r4 r5 r6 r7
    have HRCW := hide (show W1.cell? ⟨bo, oo + i, none⟩ = some (.slice A' ys.length c'') from HKA.out.cell HRW.out id)
    have HRIW := hide (show IntsIn W1 (fun b => b < w.heap.size) (.slice A' ys.length c'') ys from HRIX.out.no HKA.out)
    have hbo := HBO.out
    have hql := HQ.out.lt
    have hql1 := HR1.out.lt
    obtain ⟨zs, hzs⟩ : ∃ zs, c.set i 2 = zs := ⟨_, rfl⟩
    have hzl : zs.length = O.length := by rw [← hzs, List.length_set]; exact HCL.out
    have hzc : c.length = zs.length := by rw [← hzs, List.length_set]
    rw [hzs] at HI1 HST
    have HZL := hide hzl
    clear hzs hzl
    go_loopw [6] (fun t wr => ∃ (k : Nat) (vc : Value), t = .int .i64 k ∧ k ≤ ys.length ∧ Hid (Blk wr w.heap.size 66 #[.slice (some ⟨bo, oo, none⟩) O.length co, .slice Ar roots.length cr, vc]) ∧ Hid (IntsIn wr (fun b => w.heap.size + 2 ≤ b) vc (shades zs (ys.take k))) ∧ Hid (Kp (At w.heap.size) W1 wr)) (fun t _ => ys.length - (intOf t).toNat)
    case atStart => exact ⟨0, _, rfl, Nat.zero_le _, HQ.out, HI1.out, Kp.refl _ _⟩
    case round =>
      obtain ⟨k, vc, rfl, hk, hb, hi, hkp⟩ := hrel
      have hsz := hkp.out.size
      obtain ⟨q1, q2, q3, q4, q5, q6, q7⟩ := hb.out.a3
      have HRr := hide (HR1.out.kp hkp.out (fun e => by unfold At at e; omega))
      have hrc := hkp.out.cell HRCW.out (fun e => by unfold At at e; simp only at e; omega)
      have HKR := hide (show Kp No w wr from HKA.out.trans' hkp.out fun b hb e => by unfold At at e; omega)
      by_cases hlt : k < ys.length
      · obtain ⟨_, _, e, _, _, hcell⟩ := HRIW.out.kp hkp.out fun b hb e => by unfold At at e; omega
        cases e
        obtain ⟨b3, o3, rfl, _, hc3⟩ := hcell k hlt
        have HSN := hide (show shades zs (ys.take (k + 1)) = shade (shades zs (ys.take k)) ys[k] by rw [List.take_succ_eq_append_getElem hlt, shades_snoc])
        have hrg := HYR.out _ (List.getElem_mem hlt)
        obtain ⟨x, hx⟩ : ∃ x, ys[k] = x := ⟨_, rfl⟩
        rw [hx] at hc3 HSN hrg
        obtain ⟨n, rfl⟩ : ∃ n : Nat, x = n := ⟨x.toNat, by omega⟩
        have HLN := hide (show (shades zs (ys.take k)).length = O.length by rw [shades_length, HZL.out])
        obtain ⟨C, hC⟩ : ∃ C, shades zs (ys.take k) = C := ⟨_, rfl⟩
        rw [hC] at hi HSN HLN
        clear hcell hx hC
        go_wp2_with fail
        refine plan_start 14 (by kernel_rfl) rfl (fun hPT => ?_)
        refine plan_take (i := 0) (v := ?_) rfl (by kernel_rfl) (by kernel_rfl) (by kernel_rfl) (fun _ _ _ h => h) hPT (by rfl) ?_ ?_
        rotate_left
        · (intro w; go_simp; with_reducible rfl)
        (clear hPT; intro hPT; simp only [List.getElem_toArray, List.getElem_cons_zero, List.getElem_cons_succ, Act.put, List.setIfInBounds_toArray, List.set_cons_zero, List.set_cons_succ])
        refine plan_take (i := 2) (v := ?_) rfl (by kernel_rfl) (by kernel_rfl) (by kernel_rfl) (fun _ _ _ h => h) hPT (by rfl) ?_ ?_
        rotate_left
        · (intro w; go_simp; with_reducible rfl)
        (clear hPT; intro hPT; simp only [List.getElem_toArray, List.getElem_cons_zero, List.getElem_cons_succ, Act.put, List.setIfInBounds_toArray, List.set_cons_zero, List.set_cons_succ])
        refine plan_take (i := 3) (v := ?_) rfl (by kernel_rfl) (by kernel_rfl) (by kernel_rfl) (fun _ _ _ h => h) hPT (by rfl) ?_ ?_
        rotate_left
        · (intro w; go_simp; with_reducible rfl)
        (clear hPT; intro hPT; simp only [List.getElem_toArray, List.getElem_cons_zero, List.getElem_cons_succ, Act.put, List.setIfInBounds_toArray, List.set_cons_zero, List.set_cons_succ])
        refine plan_take (i := 5) (v := ?_) rfl (by kernel_rfl) (by kernel_rfl) (by kernel_rfl) (fun _ _ _ h => h) hPT (by rfl) ?_ ?_
        rotate_left
        · (intro w; go_simp; with_reducible rfl)
        (clear hPT; intro hPT; simp only [List.getElem_toArray, List.getElem_cons_zero, List.getElem_cons_succ, Act.put, List.setIfInBounds_toArray, List.set_cons_zero, List.set_cons_succ])
        refine plan_take (i := 8) (v := ?_) rfl (by kernel_rfl) (by kernel_rfl) (by kernel_rfl) (fun _ _ _ h => h) hPT (by rfl) ?_ ?_
        rotate_left
        · (intro w; go_simp; with_reducible rfl)
        (clear hPT; intro hPT; simp only [List.getElem_toArray, List.getElem_cons_zero, List.getElem_cons_succ, Act.put, List.setIfInBounds_toArray, List.set_cons_zero, List.set_cons_succ])
        refine plan_load (fun w' => w'.cell? ⟨w.heap.size, 2, none⟩ = some vc) (i := 1) (v := ?_) rfl (by kernel_rfl) (by kernel_rfl) (by kernel_rfl) (fun _ _ _ h => h) hPT (by rfl) ?_ ?_ ?_
        rotate_left
        · (first | assumption | (go_simp; done))
        · (intro w hSw; (try dsimp only at hSw); go_simp; with_reducible rfl)
        (clear hPT; intro hPT; simp only [List.getElem_toArray, List.getElem_cons_zero, List.getElem_cons_succ, Act.put, List.setIfInBounds_toArray, List.set_cons_zero, List.set_cons_succ])
        refine plan_load (fun w' => w'.cell? ⟨w.heap.size, 0, none⟩ = some (.slice (some ⟨bo, oo, none⟩) O.length co)) (i := 4) (v := ?_) rfl (by kernel_rfl) (by kernel_rfl) (by kernel_rfl) (fun _ _ _ h => h) hPT (by rfl) ?_ ?_ ?_
        rotate_left
        · (first | assumption | (go_simp; done))
        · (intro w hSw; (try dsimp only at hSw); go_simp; with_reducible rfl)
        (clear hPT; intro hPT; simp only [List.getElem_toArray, List.getElem_cons_zero, List.getElem_cons_succ, Act.put, List.setIfInBounds_toArray, List.set_cons_zero, List.set_cons_succ])
        refine plan_take (i := 6) (v := ?_) rfl (by kernel_rfl) (by kernel_rfl) (by kernel_rfl) (fun _ _ _ h => h) hPT (by rfl) ?_ ?_
        rotate_left
        · (intro w; go_simp; with_reducible rfl)
        (clear hPT; intro hPT; simp only [List.getElem_toArray, List.getElem_cons_zero, List.getElem_cons_succ, Act.put, List.setIfInBounds_toArray, List.set_cons_zero, List.set_cons_succ])
        refine plan_load (fun w' => w'.cell? ⟨bo, oo + i, none⟩ = some (.slice (some ⟨b3, o3, none⟩) ys.length c'')) (i := 7) (v := ?_) rfl (by kernel_rfl) (by kernel_rfl) (by kernel_rfl) (fun _ _ _ h => h) hPT (by rfl) ?_ ?_ ?_
        rotate_left
        · (first | assumption | (go_simp; done))
        · (intro w hSw; (try dsimp only at hSw); go_simp; with_reducible rfl)
        (clear hPT; intro hPT; simp only [List.getElem_toArray, List.getElem_cons_zero, List.getElem_cons_succ, Act.put, List.setIfInBounds_toArray, List.set_cons_zero, List.set_cons_succ])
        refine plan_take (i := 9) (v := ?_) rfl (by kernel_rfl) (by kernel_rfl) (by kernel_rfl) (fun _ _ _ h => h) hPT (by rfl) ?_ ?_
        rotate_left
        · (intro w; go_simp; with_reducible rfl)
        (clear hPT; intro hPT; simp only [List.getElem_toArray, List.getElem_cons_zero, List.getElem_cons_succ, Act.put, List.setIfInBounds_toArray, List.set_cons_zero, List.set_cons_succ])
        refine plan_load (fun w' => w'.cell? ⟨b3, o3 + k, none⟩ = some (.int .i64 (n : Int))) (i := 10) (v := ?_) rfl (by kernel_rfl) (by kernel_rfl) (by kernel_rfl) (fun _ _ _ h => h) hPT (by rfl) ?_ ?_ ?_
        rotate_left
        · (first | assumption | (go_simp; done))
        · (intro w hSw; (try dsimp only at hSw); go_simp; with_reducible rfl)
        (clear hPT; intro hPT; simp only [List.getElem_toArray, List.getElem_cons_zero, List.getElem_cons_succ, Act.put, List.setIfInBounds_toArray, List.set_cons_zero, List.set_cons_succ])
        refine plan_one (i := 11) (by kernel_rfl) rfl (by rfl) (fun K hK => ?_)
        (try simp only [List.getElem_toArray, List.getElem_cons_zero, List.getElem_cons_succ, Act.put, List.setIfInBounds_toArray, List.set_cons_zero, List.set_cons_succ])
        go_simp
        refine Calls.mono (rshaded_any vc C n _ (hi.out.no (by (repeat (first | exact Kp.refl _ _ | with_reducible refine Kp.drewN ?_ _ | with_reducible refine Kp.drew ?_ | with_reducible refine Kp.alloc ?_ _ | with_reducible refine Kp.setCell ?_ (fun _ => ?_) _)); all_goals (simp_all; omega))) (by rw [HLN.out]; omega) (by rw [HLN.out]; omega) (fun b hb => by simp at hb; omega)) ?_
        rintro e w5 ⟨v5, rfl, hi5, hk5⟩
        have HK5 := hide ((show Kp No wr _ from (by (repeat (first | exact Kp.refl _ _ | with_reducible refine Kp.drewN ?_ _ | with_reducible refine Kp.drew ?_ | with_reducible refine Kp.alloc ?_ _ | with_reducible refine Kp.setCell ?_ (fun _ => ?_) _)); all_goals (simp_all; omega))).trans hk5)
        have HI5 := hide hi5
        have HB5 := hide (hb.out.kp HK5.out id)
        have hrc5 := HK5.out.cell hrc id
        obtain ⟨A5, c5, rfl, _⟩ := id hi5
        clear hk5 hi5 hc3 q1 q2 q3 q4 q5 q6 q7 hrc
        obtain ⟨q1, q2, q3, q4, q5, q6, q7⟩ := HB5.out.a3
        refine hK.out _ _ _ (t_cons hrc5 (t_cons q1 (t_nil _))) (k_drop (by kernel_rfl) (k_keep (k_keep (k_drop (by kernel_rfl) k_nil)))) (fun hPT' => ?_)
        (clear hPT hK K; have hPT := hPT'; clear hPT'; try simp only [List.getElem_toArray, List.getElem_cons_zero, List.getElem_cons_succ, Act.put, List.setIfInBounds_toArray, List.set_cons_zero, List.set_cons_succ])
        refine plan_take (i := 12) (v := ?_) rfl (by kernel_rfl) (by kernel_rfl) (by kernel_rfl) (fun _ _ _ h => h) hPT (by rfl) ?_ ?_
        rotate_left
        · (intro w; go_simp; with_reducible rfl)
        (clear hPT; intro hPT; simp only [List.getElem_toArray, List.getElem_cons_zero, List.getElem_cons_succ, Act.put, List.setIfInBounds_toArray, List.set_cons_zero, List.set_cons_succ])
        refine plan_one (i := 13) (by kernel_rfl) rfl (by rfl) (fun K hK => ?_)
        (try simp only [List.getElem_toArray, List.getElem_cons_zero, List.getElem_cons_succ, Act.put, List.setIfInBounds_toArray, List.set_cons_zero, List.set_cons_succ])
        go_simp
        refine hK.out [] _ _ (t_nil _) (k_drop (by kernel_rfl) (k_drop (by kernel_rfl) k_nil)) (fun hPT' => ?_)
        (clear hPT hK K; have hPT := hPT'; clear hPT'; try simp only [List.getElem_toArray, List.getElem_cons_zero, List.getElem_cons_succ, Act.put, List.setIfInBounds_toArray, List.set_cons_zero, List.set_cons_succ])
        refine plan_done (by kernel_rfl) ?_ _
        clear hPT
        go_wp2_with fail
        go_roundw
        case rel =>
          refine ⟨k + 1, by omega, hlt, _, HB5.out.set_ 2 _, ?_, (hkp.out.trans HK5.out.of_no).trans (kp_set _ _ _ _)⟩
          rw [HSN.out]
          exact HI5.out.kp (kp_set _ _ _ _) fun b hb e => by unfold At at e; omega
        case measure => (simp [intOf]; omega)
      · obtain rfl : k = ys.length := by omega
        rw [List.take_length, ← HST.out] at hi
        obtain ⟨Ak, ck, rfl, _⟩ := id hi.out
        obtain ⟨r1, r2, r3, r4, r5, r6, r7⟩ := HRr.out.a3
        go_wp2
        have qf := ((HRr.out.set_ 0 (.slice (some ⟨bo, oo, none⟩) O.length co)).set_ 1 (.slice Ar roots.length cr)).set_ 2 (.slice Ak (stepC O c).length ck)
        obtain ⟨t0, t1, t2⟩ := qf.d3
        have hkk : Kp (At (w.heap.size + 1)) wr _ := ((kp_set wr (w.heap.size + 1) 0 (.slice (some ⟨bo, oo, none⟩) O.length co)).trans (kp_set _ _ 1 (.slice Ar roots.length cr))).trans (kp_set _ _ 2 (.slice Ak (stepC O c).length ck))
        refine bodyPost_ret (v := .tuple #[.agg #[.slice (some ⟨bo, oo, none⟩) O.length co, .slice Ar roots.length cr, .slice Ak (stepC O c).length ck], .bool true]) (by simp [results, Tryd.results40, go_sem, t0, t1, t2]) rfl ⟨_, by rw [HD1.out], ?_, ?_⟩
        · exact (hi.out.kp hkk fun b hb e => by unfold At at e; omega).mono fun b _ hb => (HNB.out b hb).1
        · exact HKR.out.trans' hkk fun b hb e => by unfold At at e; omega
  · have HIX := hide (ixOf_not h1)
    have HD1 := hide (decide_eq_false h1)
    have HST := hide (show stepC O c = c by unfold stepC; rw [if_neg h1])
    rw [HIX.out]
    clear h1
    rintro e w1 ⟨rfl, rfl⟩
    go_wp2
    have qf := ((HBR.out.set_ 0 (.slice Ao O.length co)).set_ 1 (.slice Ar roots.length cr)).set_ 2 (.slice Ac c.length cc)
    obtain ⟨t0, t1, t2⟩ := qf.d3
    have hkk : Kp (At (w.heap.size + 1)) W0 _ := ((kp_set W0 (w.heap.size + 1) 0 (.slice Ao O.length co)).trans (kp_set _ _ 1 (.slice Ar roots.length cr))).trans (kp_set _ _ 2 (.slice Ac c.length cc))
    have hkw := HK0.out.trans' hkk fun b hb e => by unfold At at e; omega
    refine bodyPost_ret (v := .tuple #[.agg #[.slice Ao O.length co, .slice Ar roots.length cr, .slice Ac c.length cc], .bool false]) (by simp [results, Tryd.results40, go_sem, t0, t1, t2]) rfl ⟨_, by rw [HD1.out], ?_, hkw⟩
    rw [HST.out]
    exact (HC.out.no hkw).mono fun b _ h => h.1
end Go.Proofs.YtgbdjidjbcbhjaaDoor
