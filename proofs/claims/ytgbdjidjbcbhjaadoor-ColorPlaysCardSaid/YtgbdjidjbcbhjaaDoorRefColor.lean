/- The document's answer, walked: NewColored. Of all heaps that are right. -/
import Derived.Test.YtgbdjidjbcbhjaaDoorRefShade
import Derived.Test.YtgbdjidjbcbhjaaDoorCheney
namespace Go.Proofs.YtgbdjidjbcbhjaaDoor
open Go.RowKit
set_option linter.unusedSimpArgs false

theorem Blk.d3 {w : World} {g : Nat} {t : TypeId} {x y z : Value} (h : Blk w g t #[x, y, z]) : w.cell? ⟨g, 0, none⟩ = some x ∧ w.cell? ⟨g, 1, none⟩ = some y ∧ w.cell? ⟨g, 2, none⟩ = some z := ⟨h.cell 0, h.cell 1, h.cell 2⟩

set_option maxRecDepth 100000 in
set_option maxHeartbeats 4000000 in
theorem newColored_any {F : Nat → Prop} (vo vr : Value) (outs : List (List Int)) (roots : List Int) (w : World) (ho : RowsIn w F vo outs) (hr : IntsIn w F vr roots) (hok : Ok outs roots) :
    Calls Tryd.prog 37 #[.agg #[vo, vr]] w fun e w' => ∃ vc, e = .returned (.agg #[vo, vr, vc]) ∧ IntsIn w' (Hi w.heap.size) vc (newC outs roots) ∧ Kp No w w' := by
  obtain ⟨Ao, co, rfl, hco, hmo, _⟩ := RowsIn.form ho
  obtain ⟨Ar, cr, rfl, hcr, hmr, _⟩ := id hr
  have HR := hide hr
  have HOK := hide hok
  have hn12 := hok.n12
  clear ho hr hok
  have hmk := run_make_row' (P := Tryd.prog) 23 3 (.int .i64 0) 8 Tryd.underlying23 Tryd.infoInt rfl .i64 .i64 outs.length (by omega) (by omega)
  go_enter Tryd.func37, Tryd.ntmps37
  go_wp2_with fail
  obtain ⟨W0, hW0⟩ : ∃ W0, (w.alloc (.cells #[.slice Ao outs.length co, .slice Ar roots.length cr] 25)).alloc (.cells #[.slice none 0 0, .slice none 0 0, .slice none 0 0] 66) = W0 := ⟨_, rfl⟩
  have HK0 := hide (show Kp No w W0 by rw [← hW0]; exact ((Kp.refl No w).alloc _).alloc _)
  have HBH := hide (show Blk W0 w.heap.size 25 #[.slice Ao outs.length co, .slice Ar roots.length cr] by rw [← hW0]; exact (Blk.new _ _ _).alloc _)
  have HBR := hide (show Blk W0 (w.heap.size + 1) 66 #[.slice none 0 0, .slice none 0 0, .slice none 0 0] by rw [← hW0]; exact Blk.at_ _ _ (by simp))
  have hz0 : W0.heap.size = w.heap.size + 2 := by rw [← hW0]; simp
  have HZ0 := hide hz0
  rw [hW0]
  clear hW0
  obtain ⟨p0, p1⟩ := HBH.out.c2
  go_wp2_with fail
  refine plan_start 8 (by kernel_rfl) rfl (fun hPT => ?_)
  refine plan_take (i := 1) (v := ?_) rfl (by kernel_rfl) (by kernel_rfl) (by kernel_rfl) (fun _ _ _ h => h) hPT (by rfl) ?_ ?_
  rotate_left
  · (intro w; go_simp; with_reducible rfl)
  (clear hPT; intro hPT; simp only [List.getElem_toArray, List.getElem_cons_zero, List.getElem_cons_succ, Act.put, List.setIfInBounds_toArray, List.set_cons_zero, List.set_cons_succ])
  refine plan_load (fun w' => w'.cell? ⟨w.heap.size, 0, none⟩ = some (.slice Ao outs.length co) ∧ w'.cell? ⟨w.heap.size, 1, none⟩ = some (.slice Ar roots.length cr)) (i := 0) (v := ?_) rfl (by kernel_rfl) (by kernel_rfl) (by kernel_rfl) (fun _ _ _ h => h) hPT (by rfl) ?_ ?_ ?_
  rotate_left
  · (first | exact ⟨by assumption, by assumption⟩ | (go_simp; done))
  · (intro w hSw; (try dsimp only at hSw); obtain ⟨hSw1, hSw2⟩ := hSw; go_simp; with_reducible rfl)
  (clear hPT; intro hPT; simp only [List.getElem_toArray, List.getElem_cons_zero, List.getElem_cons_succ, Act.put, List.setIfInBounds_toArray, List.set_cons_zero, List.set_cons_succ])
  refine plan_load (fun w' => w'.cell? ⟨w.heap.size, 0, none⟩ = some (.slice Ao outs.length co)) (i := 2) (v := ?_) rfl (by kernel_rfl) (by kernel_rfl) (by kernel_rfl) (fun _ _ _ h => h) hPT (by rfl) ?_ ?_ ?_
  rotate_left
  · (first | assumption | (go_simp; done))
  · (intro w hSw; (try dsimp only at hSw); go_simp; with_reducible rfl)
  (clear hPT; intro hPT; simp only [List.getElem_toArray, List.getElem_cons_zero, List.getElem_cons_succ, Act.put, List.setIfInBounds_toArray, List.set_cons_zero, List.set_cons_succ])
  refine plan_take (i := 3) (v := ?_) rfl (by kernel_rfl) (by kernel_rfl) (by kernel_rfl) (fun _ _ _ h => h) hPT (by rfl) ?_ ?_
  rotate_left
  · (intro w; go_simp; with_reducible rfl)
  (clear hPT; intro hPT; simp only [List.getElem_toArray, List.getElem_cons_zero, List.getElem_cons_succ, Act.put, List.setIfInBounds_toArray, List.set_cons_zero, List.set_cons_succ])
  refine plan_two (i := 4) (j := 6) (by kernel_rfl) rfl rfl (by rfl) (by rfl) (fun K hK => ?ordA) (fun K hK => ?ordB)
  case' ordA =>
    (try simp only [List.getElem_toArray, List.getElem_cons_zero, List.getElem_cons_succ, Act.put, List.setIfInBounds_toArray, List.set_cons_zero, List.set_cons_succ])
    go_simp
    refine hK.out _ _ _ (t_cons (by go_simp) (t_cons (by go_simp) (t_nil _))) k_same (fun hPT' => ?_)
    (clear hPT hK K; have hPT := hPT'; clear hPT'; try simp only [List.getElem_toArray, List.getElem_cons_zero, List.getElem_cons_succ, Act.put, List.setIfInBounds_toArray, List.set_cons_zero, List.set_cons_succ])
    refine plan_take (i := 5) (v := ?_) rfl (by kernel_rfl) (by kernel_rfl) (by kernel_rfl) (fun _ _ _ h => h) hPT (by rfl) ?_ ?_
    rotate_left
    · (intro w; go_simp; with_reducible rfl)
    (clear hPT; intro hPT; simp only [List.getElem_toArray, List.getElem_cons_zero, List.getElem_cons_succ, Act.put, List.setIfInBounds_toArray, List.set_cons_zero, List.set_cons_succ])
    refine plan_one (i := 6) (by kernel_rfl) rfl (by rfl) (fun K hK => ?_)
    (try simp only [List.getElem_toArray, List.getElem_cons_zero, List.getElem_cons_succ, Act.put, List.setIfInBounds_toArray, List.set_cons_zero, List.set_cons_succ])
    go_simp
    refine hK.out _ _ _ (t_cons (by go_simp) (t_cons (by go_simp) (t_nil _))) k_same (fun hPT' => ?_)
    (clear hPT hK K; have hPT := hPT'; clear hPT'; try simp only [List.getElem_toArray, List.getElem_cons_zero, List.getElem_cons_succ, Act.put, List.setIfInBounds_toArray, List.set_cons_zero, List.set_cons_succ])
    refine plan_one (i := 7) (by kernel_rfl) rfl (by rfl) (fun K hK => ?_)
    (try simp only [List.getElem_toArray, List.getElem_cons_zero, List.getElem_cons_succ, Act.put, List.setIfInBounds_toArray, List.set_cons_zero, List.set_cons_succ])
    go_simp
    refine hK.out [] _ _ (t_nil _) (k_drop (by kernel_rfl) (k_drop (by kernel_rfl) k_nil)) (fun hPT' => ?_)
    (clear hPT hK K; have hPT := hPT'; clear hPT'; try simp only [List.getElem_toArray, List.getElem_cons_zero, List.getElem_cons_succ, Act.put, List.setIfInBounds_toArray, List.set_cons_zero, List.set_cons_succ])
    refine plan_done (by kernel_rfl) ?_ _
    clear hPT
    obtain ⟨W, hW⟩ : ∃ W, ((W0.alloc (.cells (madeCells #[.int .i64 0] outs.length) 3)).alloc (.cells #[.slice Ao outs.length co, .slice Ar roots.length cr, .slice (some ⟨w.heap.size + 2, 0, none⟩) outs.length outs.length] 66)).drew = W := ⟨_, rfl⟩
    have HQ := hide (show Blk W (w.heap.size + 2 + 1) 66 #[.slice Ao outs.length co, .slice Ar roots.length cr, .slice (some ⟨w.heap.size + 2, 0, none⟩) outs.length outs.length] by rw [← hW]; exact (Blk.at_ _ _ (by simp; omega)).drew)
    have HG := hide (show W.ownsRow (w.heap.size + 2) 3 1 (.slice (some ⟨w.heap.size + 2, 0, none⟩) outs.length outs.length) outs.length (iv (List.replicate outs.length 0)) by
      have := own_made W0 outs.length (w.heap.size + 2) (by omega) (by omega)
      rw [hz0] at this
      rw [← hW]; exact (this.alloc _).drew)
    have HKW := hide (show Kp No W0 W by rw [← hW]; exact (((Kp.refl No W0).alloc _).alloc _).drew)
    rw [hW]
    clear hW
    obtain ⟨q, hq⟩ : ∃ q, w.heap.size + 2 + 1 = q := ⟨_, rfl⟩
    obtain ⟨gc, hgc⟩ : ∃ gc, w.heap.size + 2 = gc := ⟨_, rfl⟩
    have hql : w.heap.size + 2 ≤ q := by omega
    rw [hq, hgc] at HQ
    rw [hgc] at HG
    rw [hq, hgc]
    have HGE := hide hgc
    clear hq hgc
  case' ordB =>
    (try simp only [List.getElem_toArray, List.getElem_cons_zero, List.getElem_cons_succ, Act.put, List.setIfInBounds_toArray, List.set_cons_zero, List.set_cons_succ])
    go_simp
    refine hK.out _ _ _ (t_cons (by go_simp) (t_cons (by go_simp) (t_nil _))) k_same (fun hPT' => ?_)
    (clear hPT hK K; have hPT := hPT'; clear hPT'; try simp only [List.getElem_toArray, List.getElem_cons_zero, List.getElem_cons_succ, Act.put, List.setIfInBounds_toArray, List.set_cons_zero, List.set_cons_succ])
    refine plan_one (i := 4) (by kernel_rfl) rfl (by rfl) (fun K hK => ?_)
    (try simp only [List.getElem_toArray, List.getElem_cons_zero, List.getElem_cons_succ, Act.put, List.setIfInBounds_toArray, List.set_cons_zero, List.set_cons_succ])
    go_simp
    refine hK.out _ _ _ (t_cons (by go_simp) (t_cons (by go_simp) (t_nil _))) k_same (fun hPT' => ?_)
    (clear hPT hK K; have hPT := hPT'; clear hPT'; try simp only [List.getElem_toArray, List.getElem_cons_zero, List.getElem_cons_succ, Act.put, List.setIfInBounds_toArray, List.set_cons_zero, List.set_cons_succ])
    refine plan_take (i := 5) (v := ?_) rfl (by kernel_rfl) (by kernel_rfl) (by kernel_rfl) (fun _ _ _ h => h) hPT (by rfl) ?_ ?_
    rotate_left
    · (intro w; go_simp; with_reducible rfl)
    (clear hPT; intro hPT; simp only [List.getElem_toArray, List.getElem_cons_zero, List.getElem_cons_succ, Act.put, List.setIfInBounds_toArray, List.set_cons_zero, List.set_cons_succ])
    refine plan_one (i := 7) (by kernel_rfl) rfl (by rfl) (fun K hK => ?_)
    (try simp only [List.getElem_toArray, List.getElem_cons_zero, List.getElem_cons_succ, Act.put, List.setIfInBounds_toArray, List.set_cons_zero, List.set_cons_succ])
    go_simp
    refine hK.out [] _ _ (t_nil _) (k_drop (by kernel_rfl) (k_drop (by kernel_rfl) k_nil)) (fun hPT' => ?_)
    (clear hPT hK K; have hPT := hPT'; clear hPT'; try simp only [List.getElem_toArray, List.getElem_cons_zero, List.getElem_cons_succ, Act.put, List.setIfInBounds_toArray, List.set_cons_zero, List.set_cons_succ])
    refine plan_done (by kernel_rfl) ?_ _
    clear hPT
    obtain ⟨W, hW⟩ : ∃ W, ((W0.alloc (.cells #[.slice Ao outs.length co, .slice Ar roots.length cr, .slice (some ⟨w.heap.size + 2 + 1, 0, none⟩) outs.length outs.length] 66)).alloc (.cells (madeCells #[.int .i64 0] outs.length) 3)).drew = W := ⟨_, rfl⟩
    have HQ := hide (show Blk W (w.heap.size + 2) 66 #[.slice Ao outs.length co, .slice Ar roots.length cr, .slice (some ⟨w.heap.size + 2 + 1, 0, none⟩) outs.length outs.length] by rw [← hW]; exact ((Blk.at_ _ _ (by omega)).alloc _).drew)
    have HG := hide (show W.ownsRow (w.heap.size + 2) 3 1 (.slice (some ⟨w.heap.size + 2 + 1, 0, none⟩) outs.length outs.length) outs.length (iv (List.replicate outs.length 0)) by
      have := own_made (W0.alloc (.cells #[.slice Ao outs.length co, .slice Ar roots.length cr, .slice (some ⟨w.heap.size + 2 + 1, 0, none⟩) outs.length outs.length] 66)) outs.length (w.heap.size + 2) (by simp; omega) (by omega)
      rw [World.size_alloc, hz0] at this
      rw [← hW]; exact this.drew)
    have HKW := hide (show Kp No W0 W by rw [← hW]; exact (((Kp.refl No W0).alloc _).alloc _).drew)
    rw [hW]
    clear hW
    obtain ⟨gc, hgc⟩ : ∃ gc, w.heap.size + 2 + 1 = gc := ⟨_, rfl⟩
    obtain ⟨q, hq⟩ : ∃ q, w.heap.size + 2 = q := ⟨_, rfl⟩
    have hql : w.heap.size + 2 ≤ q := by omega
    rw [hgc, hq] at HQ
    rw [hgc, hq] at HG
    rw [hgc, hq]
    have HGE := hide hq
    clear hq hgc
  all_goals
    clear p0 p1
    have hqw := HQ.out.lt
    have HKA := hide (HK0.out.trans HKW.out)
    have HNC := hide (show newC outs roots = shades (List.replicate outs.length 0) roots from rfl)
    have hzl : (List.replicate outs.length (0 : Int)).length = outs.length := by simp
    have HI0 := hide (show IntsIn W (fun b => w.heap.size + 2 ≤ b ∧ b ≠ q) (.slice (some ⟨gc, 0, none⟩) outs.length outs.length) (List.replicate outs.length 0) from .of_own HG.out fun b hb => ⟨by have := (own_lt HG.out hb).1; have := HGE.out; omega, fun e => own_ne_blk HG.out HQ.out (by decide) (by rw [hb, e])⟩)
    obtain ⟨zs, hzs⟩ : ∃ zs, List.replicate outs.length (0 : Int) = zs := ⟨_, rfl⟩
    rw [hzs] at HI0 HNC hzl
    have HZL := hide hzl
    clear hzs hzl HG
    go_wp2_with fail
    go_loopw [4] (fun t wr => ∃ (k : Nat) (vc : Value), t = .int .i64 k ∧ k ≤ roots.length ∧ Hid (Blk wr q 66 #[.slice Ao outs.length co, .slice Ar roots.length cr, vc]) ∧ Hid (IntsIn wr (fun b => w.heap.size + 2 ≤ b ∧ b ≠ q) vc (shades zs (roots.take k))) ∧ Hid (Kp (At q) W wr)) (fun t _ => roots.length - (intOf t).toNat)
    case atStart => exact ⟨0, _, rfl, Nat.zero_le _, HQ.out, HI0.out, Kp.refl _ _⟩
    case round =>
      obtain ⟨k, vc, rfl, hk, hb, hi, hkp⟩ := hrel
      have hsz := hkp.out.size
      have HBr := hide ((HBH.out.kp HKW.out id).kp hkp.out (fun e => by unfold At at e; omega))
      obtain ⟨p0, p1⟩ := HBr.out.c2
      obtain ⟨q1, q2, q3, q4, q5, q6, q7⟩ := hb.out.a3
      have HKR := hide (show Kp No w wr from HKA.out.trans' hkp.out fun b hb e => by unfold At at e; omega)
      by_cases hlt : k < roots.length
      · obtain ⟨_, _, e, _, _, hcell⟩ := HR.out.no HKR.out
        cases e
        obtain ⟨b3, o3, rfl, _, hc3⟩ := hcell k hlt
        have HSN := hide (show shades zs (roots.take (k + 1)) = shade (shades zs (roots.take k)) roots[k] by rw [List.take_succ_eq_append_getElem hlt, shades_snoc])
        have hrg := HOK.out.root _ (List.getElem_mem hlt)
        obtain ⟨x, hx⟩ : ∃ x, roots[k] = x := ⟨_, rfl⟩
        rw [hx] at hc3 HSN hrg
        obtain ⟨n, rfl⟩ : ∃ n : Nat, x = n := ⟨x.toNat, by omega⟩
        have HLN := hide (show (shades zs (roots.take k)).length = outs.length by rw [shades_length, HZL.out])
        obtain ⟨C, hC⟩ : ∃ C, shades zs (roots.take k) = C := ⟨_, rfl⟩
        rw [hC] at hi HSN HLN
        clear hcell hx hC
        go_wp2_with fail
        refine plan_start 10 (by kernel_rfl) rfl (fun hPT => ?_)
        refine plan_take (i := 0) (v := ?_) rfl (by kernel_rfl) (by kernel_rfl) (by kernel_rfl) (fun _ _ _ h => h) hPT (by rfl) ?_ ?_
        rotate_left
        · (intro w; go_simp; with_reducible rfl)
        (clear hPT; intro hPT; simp only [List.getElem_toArray, List.getElem_cons_zero, List.getElem_cons_succ, Act.put, List.setIfInBounds_toArray, List.set_cons_zero, List.set_cons_succ])
        refine plan_take (i := 2) (v := ?_) rfl (by kernel_rfl) (by kernel_rfl) (by kernel_rfl) (fun _ _ _ h => h) hPT (by rfl) ?_ ?_
        rotate_left
        · (intro w; go_simp; with_reducible rfl)
        (clear hPT; intro hPT; simp only [List.getElem_toArray, List.getElem_cons_zero, List.getElem_cons_succ, Act.put, List.setIfInBounds_toArray, List.set_cons_zero, List.set_cons_succ])
        refine plan_take (i := 4) (v := ?_) rfl (by kernel_rfl) (by kernel_rfl) (by kernel_rfl) (fun _ _ _ h => h) hPT (by rfl) ?_ ?_
        rotate_left
        · (intro w; go_simp; with_reducible rfl)
        (clear hPT; intro hPT; simp only [List.getElem_toArray, List.getElem_cons_zero, List.getElem_cons_succ, Act.put, List.setIfInBounds_toArray, List.set_cons_zero, List.set_cons_succ])
        refine plan_load (fun w' => w'.cell? ⟨q, 2, none⟩ = some vc) (i := 1) (v := ?_) rfl (by kernel_rfl) (by kernel_rfl) (by kernel_rfl) (fun _ _ _ h => h) hPT (by rfl) ?_ ?_ ?_
        rotate_left
        · (first | assumption | (go_simp; done))
        · (intro w hSw; (try dsimp only at hSw); go_simp; with_reducible rfl)
        (clear hPT; intro hPT; simp only [List.getElem_toArray, List.getElem_cons_zero, List.getElem_cons_succ, Act.put, List.setIfInBounds_toArray, List.set_cons_zero, List.set_cons_succ])
        refine plan_load (fun w' => w'.cell? ⟨w.heap.size, 1, none⟩ = some (.slice (some ⟨b3, o3, none⟩) roots.length cr)) (i := 3) (v := ?_) rfl (by kernel_rfl) (by kernel_rfl) (by kernel_rfl) (fun _ _ _ h => h) hPT (by rfl) ?_ ?_ ?_
        rotate_left
        · (first | assumption | (go_simp; done))
        · (intro w hSw; (try dsimp only at hSw); go_simp; with_reducible rfl)
        (clear hPT; intro hPT; simp only [List.getElem_toArray, List.getElem_cons_zero, List.getElem_cons_succ, Act.put, List.setIfInBounds_toArray, List.set_cons_zero, List.set_cons_succ])
        refine plan_take (i := 5) (v := ?_) rfl (by kernel_rfl) (by kernel_rfl) (by kernel_rfl) (fun _ _ _ h => h) hPT (by rfl) ?_ ?_
        rotate_left
        · (intro w; go_simp; with_reducible rfl)
        (clear hPT; intro hPT; simp only [List.getElem_toArray, List.getElem_cons_zero, List.getElem_cons_succ, Act.put, List.setIfInBounds_toArray, List.set_cons_zero, List.set_cons_succ])
        refine plan_load (fun w' => w'.cell? ⟨b3, o3 + k, none⟩ = some (.int .i64 (n : Int))) (i := 6) (v := ?_) rfl (by kernel_rfl) (by kernel_rfl) (by kernel_rfl) (fun _ _ _ h => h) hPT (by rfl) ?_ ?_ ?_
        rotate_left
        · (first | assumption | (go_simp; done))
        · (intro w hSw; (try dsimp only at hSw); go_simp; with_reducible rfl)
        (clear hPT; intro hPT; simp only [List.getElem_toArray, List.getElem_cons_zero, List.getElem_cons_succ, Act.put, List.setIfInBounds_toArray, List.set_cons_zero, List.set_cons_succ])
        refine plan_one (i := 7) (by kernel_rfl) rfl (by rfl) (fun K hK => ?_)
        (try simp only [List.getElem_toArray, List.getElem_cons_zero, List.getElem_cons_succ, Act.put, List.setIfInBounds_toArray, List.set_cons_zero, List.set_cons_succ])
        go_simp
        refine Calls.mono (rshaded_any vc C n _ (hi.out.no (by (repeat (first | exact Kp.refl _ _ | with_reducible refine Kp.drewN ?_ _ | with_reducible refine Kp.drew ?_ | with_reducible refine Kp.alloc ?_ _ | with_reducible refine Kp.setCell ?_ (fun _ => ?_) _)); all_goals (simp_all; omega))) (by rw [HLN.out]; omega) (by rw [HLN.out]; omega) (fun b hb => by simp at hb; omega)) ?_
        rintro e w5 ⟨v5, rfl, hi5, hk5⟩
        have HK5 := hide ((show Kp No wr _ from (by (repeat (first | exact Kp.refl _ _ | with_reducible refine Kp.drewN ?_ _ | with_reducible refine Kp.drew ?_ | with_reducible refine Kp.alloc ?_ _ | with_reducible refine Kp.setCell ?_ (fun _ => ?_) _)); all_goals (simp_all; omega))).trans hk5)
        have HI5 := hide hi5
        have HB5 := hide (hb.out.kp HK5.out id)
        obtain ⟨A5, c5, rfl, _⟩ := id hi5
        clear hk5 hi5 hc3 q1 q2 q3 q4 q5 q6 q7
        obtain ⟨q1, q2, q3, q4, q5, q6, q7⟩ := HB5.out.a3
        refine hK.out _ _ _ (t_cons (HK5.out.cell p1 id) (t_nil _)) (k_drop (by kernel_rfl) (k_keep (k_drop (by kernel_rfl) k_nil))) (fun hPT' => ?_)
        (clear hPT hK K; have hPT := hPT'; clear hPT'; try simp only [List.getElem_toArray, List.getElem_cons_zero, List.getElem_cons_succ, Act.put, List.setIfInBounds_toArray, List.set_cons_zero, List.set_cons_succ])
        refine plan_take (i := 8) (v := ?_) rfl (by kernel_rfl) (by kernel_rfl) (by kernel_rfl) (fun _ _ _ h => h) hPT (by rfl) ?_ ?_
        rotate_left
        · (intro w; go_simp; with_reducible rfl)
        (clear hPT; intro hPT; simp only [List.getElem_toArray, List.getElem_cons_zero, List.getElem_cons_succ, Act.put, List.setIfInBounds_toArray, List.set_cons_zero, List.set_cons_succ])
        refine plan_one (i := 9) (by kernel_rfl) rfl (by rfl) (fun K hK => ?_)
        (try simp only [List.getElem_toArray, List.getElem_cons_zero, List.getElem_cons_succ, Act.put, List.setIfInBounds_toArray, List.set_cons_zero, List.set_cons_succ])
        go_simp
        refine hK.out [] _ _ (t_nil _) (k_drop (by kernel_rfl) k_nil) (fun hPT' => ?_)
        (clear hPT hK K; have hPT := hPT'; clear hPT'; try simp only [List.getElem_toArray, List.getElem_cons_zero, List.getElem_cons_succ, Act.put, List.setIfInBounds_toArray, List.set_cons_zero, List.set_cons_succ])
        refine plan_done (by kernel_rfl) ?_ _
        clear hPT
        go_wp2_with fail
        go_roundw
        case rel =>
          refine ⟨k + 1, _, by go_num, hlt, HB5.out.set_ 2 _, ?_, (hkp.out.trans HK5.out.of_no).trans (kp_set _ _ _ _)⟩
          rw [HSN.out]
          exact HI5.out.kp (kp_set _ _ _ _) fun b hb e => hb.2 e
        case measure => (simp [intOf]; omega)
      · obtain rfl : k = roots.length := by omega
        rw [List.take_length, ← HNC.out] at hi
        obtain ⟨Ac, cc, rfl, _⟩ := id hi.out
        have HRr := hide ((HBR.out.kp HKW.out id).kp hkp.out (fun e => by unfold At at e; omega))
        obtain ⟨r1, r2, r3, r4, r5, r6, r7⟩ := HRr.out.a3
        go_wp2
        have qf := ((HRr.out.set_ 0 (.slice Ao outs.length co)).set_ 1 (.slice Ar roots.length cr)).set_ 2 (.slice Ac (newC outs roots).length cc)
        obtain ⟨t0, t1, t2⟩ := qf.d3
        have hkk : Kp (At (w.heap.size + 1)) wr _ := ((kp_set wr (w.heap.size + 1) 0 (.slice Ao outs.length co)).trans (kp_set _ _ 1 (.slice Ar roots.length cr))).trans (kp_set _ _ 2 (.slice Ac (newC outs roots).length cc))
        trace_state
        refine bodyPost_ret (v := .agg #[.slice Ao outs.length co, .slice Ar roots.length cr, .slice Ac (newC outs roots).length cc]) (by simp [results, Tryd.results37, go_sem, t0, t1, t2]) rfl ⟨_, rfl, ?_, ?_⟩
        · exact (hi.out.kp hkk fun b hb e => by unfold At at e; omega).mono fun b _ hb => by unfold Hi; omega
        · exact HKR.out.trans' hkk fun b hb e => by unfold At at e; omega
end Go.Proofs.YtgbdjidjbcbhjaaDoor
