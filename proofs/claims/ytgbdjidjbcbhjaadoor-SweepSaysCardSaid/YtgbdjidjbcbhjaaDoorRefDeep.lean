/- The document's answer, walked: Deep, Marks. Of heaps that are right. -/
import Derived.Test.YtgbdjidjbcbhjaaDoorDeepPlain
import Derived.Test.YtgbdjidjbcbhjaaDoorRefHeap
import Derived.Test.YtgbdjidjbcbhjaaDoorPlan
namespace Go.Proofs.YtgbdjidjbcbhjaaDoor
open Go.RowKit
set_option linter.unusedSimpArgs false

set_option maxRecDepth 100000 in
set_option maxHeartbeats 4000000 in
theorem rdeep_any {F : Nat → Prop} {outs : List (List Int)} {roots : List Int} (hok : Ok outs roots) (co base : Nat) (hF : ∀ b, F b → b < base) : ∀ (f : Nat) (Ao : Option Addr) (v : Value) (o : List Int) (i : Int) (w : World), RowsIn w F (.slice Ao outs.length co) outs →
    w.ownsRow base 3 1 v o.length (iv o) → Vd outs.length o → 0 ≤ i ∧ i < (outs.length : Int) → outs.length < f + o.length → base ≤ w.heap.size →
    Calls Tryd.prog 72 #[.slice Ao outs.length co, v, .int .i64 i] w fun e w' => ∃ v', e = .returned v' ∧ w'.ownsRow base 3 1 v' (deepF outs f o i).length (iv (deepF outs f o i)) ∧ Kp (Hi base) w w' := by
  intro f
  induction f with
  | zero => intro Ao v o i w _ _ hv _ hl; have := hv.len; omega
  | succ f ih =>
    intro Ao v o i w ho hown hvd hi hl hb
    obtain ⟨_, _, e, hco, hmo, hrow⟩ := RowsIn.form ho
    cases e
    obtain ⟨x, rfl⟩ := Int.eq_ofNat_of_zero_le hi.1
    have hxn : x < outs.length := by omega
    obtain ⟨bo, oo, A', c'', rfl, hFb, hrc, hri⟩ := hrow x hxn
    have hbo : bo < base := hF bo hFb
    have hn12 := hok.n12
    have hol := hvd.len
    have HI := hide (IntsIn.of_own (F := fun _ => True) hown fun _ _ => trivial)
    obtain ⟨Av, cv, rfl, hcv, hmv, _⟩ := id HI.out
    have hadj : outs[x] = adj outs (x : Int) := by rw [adj_eq (by simpa using hxn)]; simp
    rw [hadj] at hrc hri
    have HRI := hide hri
    have HO := hide ho
    have HOWN := hide hown
    have HB := hide hb
    have HIH := hide ih
    have h4 := hok.adjFew (x := (x : Int))
    cases hm : hasB o (x : Int) with
    | true =>
      have HD := hide (show deepF outs (f + 1) o (x : Int) = o by unfold deepF; rw [if_pos (mem_hasB.1 hm)])
      have HM := hide hm
      clear hm ih ho hown hvd hl hb hrow hri hadj hFb hrc
      go_enter Tryd.func72, Tryd.ntmps72
      go_wp2_with fail
      refine Calls.mono (has_any _ o (x : Int) _ HI.out) ?_
      rw [HM.out]
      rintro e w1 ⟨rfl, rfl⟩
      go_wp2_with fail
      go_ret
      exact ⟨_, rfl, by rw [HD.out]; exact HOWN.out, Kp.refl _ _⟩
    | false =>
      have hnm : (x : Int) ∉ o := fun h => by rw [mem_hasB.2 h] at hm; cases hm
      have HD := hide (show deepF outs (f + 1) o (x : Int) = (adj outs (x : Int)).foldl (deepF outs f) (o ++ [(x : Int)]) by unfold deepF; rw [if_neg hnm])
      have HV1 := hide (hvd.snoc hnm hi)
      have HFV := hide (fun k => fold_vd (n := outs.length) (fun o i => deepF_vd hok f o i) ((adj outs (x : Int)).take k) (o ++ [(x : Int)]) (hvd.snoc hnm hi) fun y hy => hok.adjIn y (List.mem_of_mem_take hy))
      have HYR := hide (fun y (hy : y ∈ adj outs (x : Int)) => hok.adjIn y hy)
      have HL := hide hl
      have HM := hide hm
      have HRC := hide hrc
      obtain ⟨ys, hys⟩ : ∃ ys, adj outs (x : Int) = ys := ⟨_, rfl⟩
      rw [hys] at hrc HRC HRI HD HFV HYR h4
      clear hm ih ho hown hvd hl hb hrow hri hadj hnm hys hFb
      go_enter Tryd.func72, Tryd.ntmps72
      go_wp2_with fail
      refine Calls.mono (has_any _ o (x : Int) _ HI.out) ?_
      rw [HM.out]
      rintro e w1 ⟨rfl, rfl⟩
      go_wp2_with (at_builtin; refine wpList_push _ rfl (.tmp 12) (.tmp 14) _ rfl base 3 _ 8 Tryd.underlying23 Tryd.infoInt rfl (.slice Av o.length cv) o.length (iv o) rfl HOWN.out _ rfl 1 _ rfl (by simp) (by omega) (by decide) HB.out ?_; intro g' c' w3 ho' hgr hat; have HO1 := hide ho'; have HK1 := hide (show Kp (Hi base) w w3 from ((Kp.refl _ w).alloc _).grown hgr fun b e _ => (own_lt HOWN.out e).1); clear ho' hgr hat hrc)
      have HOS := hide (show w3.ownsRow base 3 1 (.slice (some ⟨g', 0, none⟩) (o.length + 1) c') (((ys.take 0).foldl (deepF outs f) (o ++ [(x : Int)])).length) (iv ((ys.take 0).foldl (deepF outs f) (o ++ [(x : Int)]))) by
        simp only [List.take_zero, List.foldl_nil]
        rw [iv_snoc, List.length_append]
        exact HO1.out)
      go_loopw [1, 7] (fun v q wr => ∃ k : Nat, q = .int .i64 k ∧ k ≤ ys.length ∧ Hid (wr.ownsRow base 3 1 v ((ys.take k).foldl (deepF outs f) (o ++ [(x : Int)])).length (iv ((ys.take k).foldl (deepF outs f) (o ++ [(x : Int)])))) ∧ Hid (Kp (Hi base) w wr)) (fun _ q _ => ys.length - (intOf q).toNat)
      case atStart => exact ⟨0, rfl, Nat.zero_le _, HOS.out, HK1.out⟩
      case round =>
        obtain ⟨k, rfl, hk, hown2, hkp⟩ := hrel
        have hrc1 := hkp.out.cell HRC.out (by unfold Hi; simp only; omega)
        have hnH : ∀ b, F b → ¬ Hi base b := fun b hb e => by have := hF b hb; unfold Hi at e; omega
        have hws := hkp.out.size
        obtain ⟨_, Av, cv, hvv, hcv, hmv, _⟩ := own_form hown2.out
        rw [iv_length] at hvv hcv
        subst hvv
        by_cases hlt : k < ys.length
        · obtain ⟨_, _, e, _, _, hcell⟩ := HRI.out.kp hkp.out hnH
          cases e
          obtain ⟨b2, o2, rfl, _, hcy⟩ := hcell k hlt
          have hyr := HYR.out _ (List.getElem_mem hlt)
          have HS := hide (show (ys.take (k + 1)).foldl (deepF outs f) (o ++ [(x : Int)]) = deepF outs f ((ys.take k).foldl (deepF outs f) (o ++ [(x : Int)])) ys[k] by rw [List.take_succ_eq_append_getElem hlt, List.foldl_append]; rfl)
          have HFK := hide (HFV.out k)
          have HLK := hide (show outs.length < f + ((ys.take k).foldl (deepF outs f) (o ++ [(x : Int)])).length by
            have h1 := HFK.out.2.length_le
            have h2 := HL.out
            rw [List.length_append, List.length_singleton] at h1
            omega)
          obtain ⟨y, hy⟩ : ∃ y, ys[k] = y := ⟨_, rfl⟩
          obtain ⟨L, hL⟩ : ∃ L, (ys.take k).foldl (deepF outs f) (o ++ [(x : Int)]) = L := ⟨_, rfl⟩
          rw [hy] at hcy hyr HS
          rw [hL] at HFK HLK HS hown2
          rw [hL]
          have HYY := hide hyr
          clear hcell hy hyr hL
          go_wp2_with fail
          refine Calls.mono (HIH.out _ _ L y _ (HO.out.kp hkp.out hnH) hown2.out HFK.out.1 HYY.out HLK.out (by have := HB.out; omega)) ?_
          rintro e w5 ⟨v5, rfl, ho5, hk5⟩
          have HO5 := hide ho5
          have HK5 := hide (hkp.out.trans hk5)
          clear ho5 hk5
          go_wp2_with fail
          go_roundw
          case rel => exact ⟨k + 1, by go_num, hlt, by rw [HS.out]; exact HO5.out, HK5.out⟩
          case measure => (simp [intOf]; omega)
        · obtain rfl : k = ys.length := by omega
          rw [List.take_length] at hown2
          rw [List.take_length]
          go_wp2_with fail
          go_ret
          exact ⟨_, rfl, by rw [HD.out]; exact hown2.out, hkp.out⟩

set_option maxRecDepth 100000 in
set_option maxHeartbeats 4000000 in
theorem rmarks_any {F : Nat → Prop} (vo vr : Value) (outs : List (List Int)) (roots : List Int) (w : World) (ho : RowsIn w F vo outs) (hr : IntsIn w F vr roots) (hok : Ok outs roots) :
    Calls Tryd.prog 44 #[.agg #[vo, vr]] w (FreshInts w (marksN outs roots)) := by
  have HO := hide (ho.mono (F' := Lo w.heap.size) fun k h _ => h)
  have HR := hide (hr.mono (F' := Lo w.heap.size) fun k h _ => h)
  have HOK := hide hok
  have HL := hide hok.n12
  clear ho hr hok
  obtain ⟨Ao, co, rfl, hco, hmo, _⟩ := RowsIn.form HO.out
  obtain ⟨Ar, cr, rfl, hcr, hmr, _⟩ := id HR.out
  have HVD := hide (fun k => deeps_vd HOK.out (l := roots.take k) (Vd.nil_ outs.length) fun x hx => HOK.out.root x (List.mem_of_mem_take hx))
  go_enter Tryd.func44, Tryd.ntmps44
  go_wp2_with fail
  have HB0 := hide (Blk.new w 25 #[.slice Ao outs.length co, .slice Ar roots.length cr])
  have HK0 := hide ((Kp.refl No w).alloc (.cells #[.slice Ao outs.length co, .slice Ar roots.length cr] 25))
  have hz0 : (w.alloc (.cells #[.slice Ao outs.length co, .slice Ar roots.length cr] 25)).heap.size = w.heap.size + 1 := by simp
  obtain ⟨W0, hW0⟩ : ∃ W0, w.alloc (.cells #[.slice Ao outs.length co, .slice Ar roots.length cr] 25) = W0 := ⟨_, rfl⟩
  rw [hW0] at HB0 HK0 hz0 ⊢
  clear hW0
  go_loopw [3, 4] (fun v q wr => ∃ k : Nat, q = .int .i64 k ∧ k ≤ roots.length ∧ Hid (wr.ownsRow (w.heap.size + 1) 3 1 v (deeps outs [] (roots.take k)).length (iv (deeps outs [] (roots.take k)))) ∧ Hid (Kp (Hi (w.heap.size + 1)) W0 wr)) (fun _ q _ => roots.length - (intOf q).toNat)
  case atStart => exact ⟨0, rfl, Nat.zero_le _, World.ownsRow_nil _ _ _ _, Kp.refl _ _⟩
  case round =>
    obtain ⟨k, rfl, hk, hown, hkp⟩ := hrel
    have hws := hkp.out.size
    have hbk := HB0.out.kp hkp.out (by unfold Hi; omega)
    obtain ⟨p1, p2, p3, p4, p5⟩ := hbk.a2
    have HKN := hide (show Kp No w wr from HK0.out.trans' hkp.out fun b hb e => by unfold Hi at e; omega)
    obtain ⟨_, Av, cv, hvv, hcv, hmv, _⟩ := own_form hown.out
    rw [iv_length] at hvv hcv
    subst hvv
    by_cases hlt : k < roots.length
    · obtain ⟨_, _, e, _, _, hcell⟩ := HR.out.no HKN.out
      cases e
      obtain ⟨b2, o2, rfl, hb2, hcy⟩ := hcell k hlt
      have hyr := HOK.out.root _ (List.getElem_mem hlt)
      have HS := hide (show deeps outs [] (roots.take (k + 1)) = deep outs (deeps outs [] (roots.take k)) roots[k] by rw [List.take_succ_eq_append_getElem hlt, deeps_append]; rfl)
      have HFK := hide (HVD.out k)
      obtain ⟨y, hy⟩ : ∃ y, roots[k] = y := ⟨_, rfl⟩
      obtain ⟨L, hL⟩ : ∃ L, deeps outs [] (roots.take k) = L := ⟨_, rfl⟩
      rw [hy] at hcy hyr HS
      rw [hL] at HFK HS hown
      rw [hL]
      have HYY := hide hyr
      have HBK := hide hbk
      clear hcell hy hyr hL hbk
      go_wp2_with fail
      refine plan_start 10 (by kernel_rfl) rfl (fun hPT => ?_)
      refine plan_take (i := 0) (v := ?_) rfl (by kernel_rfl) (by kernel_rfl) (by kernel_rfl) (fun _ _ _ h => h) hPT (by rfl) ?_ ?_
      rotate_left
      · (intro w; go_simp; with_reducible rfl)
      (clear hPT; intro hPT; simp only [List.getElem_toArray, List.getElem_cons_zero, List.getElem_cons_succ, Act.put, List.setIfInBounds_toArray, List.set_cons_zero, List.set_cons_succ])
      refine plan_take (i := 2) (v := ?_) rfl (by kernel_rfl) (by kernel_rfl) (by kernel_rfl) (fun _ _ _ h => h) hPT (by rfl) ?_ ?_
      rotate_left
      · (intro w; go_simp; with_reducible rfl)
      (clear hPT; intro hPT; simp only [List.getElem_toArray, List.getElem_cons_zero, List.getElem_cons_succ, Act.put, List.setIfInBounds_toArray, List.set_cons_zero, List.set_cons_succ])
      refine plan_take (i := 3) (v := ?_) rfl (by kernel_rfl) (by kernel_rfl) (by kernel_rfl) (fun _ _ _ h => h) hPT (by rfl) ?_ ?_
      rotate_left
      · (intro w; go_simp; with_reducible rfl)
      (clear hPT; intro hPT; simp only [List.getElem_toArray, List.getElem_cons_zero, List.getElem_cons_succ, Act.put, List.setIfInBounds_toArray, List.set_cons_zero, List.set_cons_succ])
      refine plan_take (i := 5) (v := ?_) rfl (by kernel_rfl) (by kernel_rfl) (by kernel_rfl) (fun _ _ _ h => h) hPT (by rfl) ?_ ?_
      rotate_left
      · (intro w; go_simp; with_reducible rfl)
      (clear hPT; intro hPT; simp only [List.getElem_toArray, List.getElem_cons_zero, List.getElem_cons_succ, Act.put, List.setIfInBounds_toArray, List.set_cons_zero, List.set_cons_succ])
      refine plan_load (fun w' => w'.cell? ⟨w.heap.size, 0, none⟩ = some (.slice Ao outs.length co)) (i := 1) (v := ?_) rfl (by kernel_rfl) (by kernel_rfl) (by kernel_rfl) (fun _ _ _ h => h) hPT (by rfl) ?_ ?_ ?_
      rotate_left
      · (first | assumption | (go_simp; done))
      · (intro w hSw; (try dsimp only at hSw); go_simp; with_reducible rfl)
      (clear hPT; intro hPT; simp only [List.getElem_toArray, List.getElem_cons_zero, List.getElem_cons_succ, Act.put, List.setIfInBounds_toArray, List.set_cons_zero, List.set_cons_succ])
      refine plan_load (fun w' => w'.cell? ⟨w.heap.size, 1, none⟩ = some (.slice (some ⟨b2, o2, none⟩) roots.length cr)) (i := 4) (v := ?_) rfl (by kernel_rfl) (by kernel_rfl) (by kernel_rfl) (fun _ _ _ h => h) hPT (by rfl) ?_ ?_ ?_
      rotate_left
      · (first | assumption | (go_simp; done))
      · (intro w hSw; (try dsimp only at hSw); go_simp; with_reducible rfl)
      (clear hPT; intro hPT; simp only [List.getElem_toArray, List.getElem_cons_zero, List.getElem_cons_succ, Act.put, List.setIfInBounds_toArray, List.set_cons_zero, List.set_cons_succ])
      refine plan_take (i := 6) (v := ?_) rfl (by kernel_rfl) (by kernel_rfl) (by kernel_rfl) (fun _ _ _ h => h) hPT (by rfl) ?_ ?_
      rotate_left
      · (intro w; go_simp; with_reducible rfl)
      (clear hPT; intro hPT; simp only [List.getElem_toArray, List.getElem_cons_zero, List.getElem_cons_succ, Act.put, List.setIfInBounds_toArray, List.set_cons_zero, List.set_cons_succ])
      refine plan_load (fun w' => w'.cell? ⟨b2, o2 + k, none⟩ = some (.int .i64 y)) (i := 7) (v := ?_) rfl (by kernel_rfl) (by kernel_rfl) (by kernel_rfl) (fun _ _ _ h => h) hPT (by rfl) ?_ ?_ ?_
      rotate_left
      · (first | assumption | (go_simp; done))
      · (intro w hSw; (try dsimp only at hSw); go_simp; with_reducible rfl)
      (clear hPT; intro hPT; simp only [List.getElem_toArray, List.getElem_cons_zero, List.getElem_cons_succ, Act.put, List.setIfInBounds_toArray, List.set_cons_zero, List.set_cons_succ])
      refine plan_one (i := 8) (by kernel_rfl) rfl (by rfl) (fun K hK => ?_)
      (try simp only [List.getElem_toArray, List.getElem_cons_zero, List.getElem_cons_succ, Act.put, List.setIfInBounds_toArray, List.set_cons_zero, List.set_cons_succ])
      go_simp
      refine Calls.mono (rdeep_any HOK.out co (w.heap.size + 1) (fun b hb => Nat.lt_succ_of_lt hb) 13 Ao _ L y _ ((HO.out.no HKN.out).no (by (repeat (first | exact Kp.refl _ _ | with_reducible refine Kp.drewN ?_ _ | with_reducible refine Kp.drew ?_ | with_reducible refine Kp.alloc ?_ _ | with_reducible refine Kp.setCell ?_ (fun _ => ?_) _)); all_goals (simp_all; omega))) (own_kp hown.out ((by (repeat (first | exact Kp.refl _ _ | with_reducible refine Kp.drewN ?_ _ | with_reducible refine Kp.drew ?_ | with_reducible refine Kp.alloc ?_ _ | with_reducible refine Kp.setCell ?_ (fun _ => ?_) _)); all_goals (simp_all; omega)) : Kp No wr _) fun _ _ h => h) HFK.out.1 HYY.out (by have := HL.out; omega) (by simp; omega)) ?_
      rintro e w5 ⟨v5, rfl, ho5, hk5⟩
      have HO5 := hide ho5
      have HK5 := hide (hkp.out.trans ((show Kp _ wr _ from (by (repeat (first | exact Kp.refl _ _ | with_reducible refine Kp.drewN ?_ _ | with_reducible refine Kp.drew ?_ | with_reducible refine Kp.alloc ?_ _ | with_reducible refine Kp.setCell ?_ (fun _ => ?_) _)); all_goals (simp_all; omega))).trans hk5))
      have HB5 := hide (HB0.out.kp HK5.out (by unfold Hi; omega))
      clear ho5 hk5 p1 p2 p3 p4 p5 hcy
      obtain ⟨p1, p2, p3, p4, p5⟩ := HB5.out.a2
      refine hK.out _ _ _ (t_cons p2 (t_nil _)) (k_drop (by kernel_rfl) (k_keep (k_drop (by kernel_rfl) k_nil))) (fun hPT' => ?_)
      (clear hPT hK K; have hPT := hPT'; clear hPT'; try simp only [List.getElem_toArray, List.getElem_cons_zero, List.getElem_cons_succ, Act.put, List.setIfInBounds_toArray, List.set_cons_zero, List.set_cons_succ])
      refine plan_take (i := 9) (v := ?_) rfl (by kernel_rfl) (by kernel_rfl) (by kernel_rfl) (fun _ _ _ h => h) hPT (by rfl) ?_ ?_
      rotate_left
      · (intro w; go_simp; with_reducible rfl)
      (clear hPT; intro hPT; simp only [List.getElem_toArray, List.getElem_cons_zero, List.getElem_cons_succ, Act.put, List.setIfInBounds_toArray, List.set_cons_zero, List.set_cons_succ])
      refine plan_done (by kernel_rfl) ?_ _
      clear hPT
      go_wp2_with fail
      go_roundw
      case rel => exact ⟨k + 1, by go_num, hlt, by rw [HS.out]; exact HO5.out, HK5.out⟩
      case measure => (simp [intOf]; omega)
    · obtain rfl : k = roots.length := by omega
      rw [List.take_length] at hown
      rw [List.take_length]
      go_wp2_with fail
      go_ret
      exact FreshInts.of_own (own_base hown.out fun b hb => by have := (own_lt hown.out hb).1; omega) HKN.out
end Go.Proofs.YtgbdjidjbcbhjaaDoor
