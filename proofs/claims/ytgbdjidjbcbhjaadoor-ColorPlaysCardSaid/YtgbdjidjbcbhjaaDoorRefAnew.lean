/- The document's answer, walked: Anew. Of a heap that is right, and nodes that are closed. -/
import Derived.Test.YtgbdjidjbcbhjaaDoorRefHeap
import Derived.Test.YtgbdjidjbcbhjaaDoorHeapOut
import Derived.Test.YtgbdjidjbcbhjaaDoorDeepPlain
import Derived.Test.YtgbdjidjbcbhjaaDoorCheney
import Derived.Test.YtgbdjidjbcbhjaaDoorPlan
namespace Go.Proofs.YtgbdjidjbcbhjaaDoor
open Go.RowKit
set_option linter.unusedSimpArgs false

theorem ixOf_mem {o : List Int} {x : Int} (h : x ∈ o) : ixOf o x = (o.idxOf x : Int) := by unfold ixOf; rw [if_pos h]
theorem renum_take_succ {o xs : List Int} {i : Nat} (h : i < xs.length) : renum o (xs.take (i + 1)) = renum o (xs.take i) ++ [(o.idxOf xs[i] : Int)] := by
  unfold renum; rw [List.take_succ_eq_append_getElem h, List.map_append]; rfl

set_option maxRecDepth 100000 in
set_option maxHeartbeats 4000000 in
theorem ranew_any {F F' : Nat → Prop} (vo vr u : Value) (outs : List (List Int)) (roots nodes : List Int) (w : World) (ho : RowsIn w F vo outs) (hr : IntsIn w F vr roots) (hok : Ok outs roots) (hu : IntsIn w F' u nodes) (hn : Vd outs.length nodes)
    (hx : ∀ x ∈ roots, x ∈ nodes) (hy : ∀ x ∈ nodes, ∀ y ∈ adj outs x, y ∈ nodes) :
    Calls Tryd.prog 11 #[.agg #[vo, vr], u] w (FreshHeap w (rowsOf outs nodes nodes.length) (renum nodes roots)) := by
  obtain ⟨Ao, co, rfl, hco, hmo, _⟩ := RowsIn.form ho
  obtain ⟨Ar, cr, rfl, hcr, hmr, _⟩ := id hr
  obtain ⟨Au, cu, rfl, hcu, hmu, _⟩ := id hu
  have HO := hide ho
  have HR := hide hr
  have HU := hide hu
  have HOK := hide hok
  have HN := hide hn
  have HNL := hide (show nodes.length ≤ 12 from Nat.le_trans hn.len hok.n12)
  have HX := hide hx
  have HY := hide hy
  clear ho hr hu hok hn hx hy
  go_enter Tryd.func11, Tryd.ntmps11
  go_wp2_with fail
  obtain ⟨W0, hW0⟩ : ∃ W0, ((w.alloc (.cells #[.slice Ao outs.length co, .slice Ar roots.length cr] 25)).alloc (.cells #[.slice none 0 0, .slice none 0 0] 25)).alloc (.cells #[.slice none 0 0, .slice none 0 0] 25) = W0 := ⟨_, rfl⟩
  have HK0 := hide (show Kp No w W0 by rw [← hW0]; exact (((Kp.refl No w).alloc _).alloc _).alloc _)
  have HBH := hide (show Blk W0 w.heap.size 25 #[.slice Ao outs.length co, .slice Ar roots.length cr] by rw [← hW0]; exact ((Blk.new _ _ _).alloc _).alloc _)
  have HBR := hide (show Blk W0 (w.heap.size + 1) 25 #[.slice none 0 0, .slice none 0 0] by rw [← hW0]; exact (Blk.at_ _ _ (by simp)).alloc _)
  have HBO := hide (show Blk W0 (w.heap.size + 2) 25 #[.slice none 0 0, .slice none 0 0] by rw [← hW0]; exact Blk.at_ _ _ (by simp))
  have hz0 : W0.heap.size = w.heap.size + 3 := by rw [← hW0]; simp
  have HZ0 := hide hz0
  rw [hW0]
  clear hW0
  have HA0 := hide (show HeapAt W0 (w.heap.size + 2) W0.heap.size (.slice none 0 0) (.slice none 0 0) [] (rowsOf outs nodes 0) [] from ⟨HBO.out, World.ownsRow_nil _ _ _ _, fun i h _ => by simp at h, World.ownsRow_nil _ _ _ _⟩)
  go_loopw [6] (fun q wr => ∃ k : Nat, q = .int .i64 k ∧ k ≤ nodes.length ∧ Hid (Kp (At (w.heap.size + 2)) W0 wr) ∧ ∃ vo' vs', Hid (HeapAt wr (w.heap.size + 2) W0.heap.size vo' (.slice none 0 0) vs' (rowsOf outs nodes k) []))
    (fun q _ => nodes.length - (intOf q).toNat)
  case atStart => exact ⟨0, rfl, Nat.zero_le _, Kp.refl _ _, _, _, HA0.out⟩
  case round =>
    obtain ⟨k, rfl, hk, HKR, vo', vs', HAK⟩ := hrel
    have HKW := hide (show Kp No w wr from HK0.out.trans' HKR.out fun b hb e => by unfold At at e; omega)
    by_cases hlt : k < nodes.length
    · obtain ⟨_, _, e, _, _, hcell⟩ := HU.out.no HKW.out
      cases e
      obtain ⟨bu, ou, rfl, _, hcu'⟩ := hcell k hlt
      have hxr := HN.out.range _ (List.getElem_mem hlt)
      obtain ⟨x, hx⟩ : ∃ x, nodes[k] = x := ⟨_, rfl⟩
      have HXE := hide hx
      rw [hx] at hcu' hxr
      have hxn : x.toNat < outs.length := by omega
      obtain ⟨_, _, e, _, _, hrow⟩ := RowsIn.form (HO.out.no HKW.out)
      cases e
      obtain ⟨bo, oo, A', c'', rfl, _, hrc, hri⟩ := hrow x.toNat hxn
      have hadj : adj outs x = outs[x.toNat] := adj_eq hxn
      rw [← hadj] at hrc hri
      have HRI := hide hri
      have HSUB := hide (fun y (hy : y ∈ adj outs x) => HY.out x (by rw [← HXE.out]; exact List.getElem_mem hlt) y hy)
      have HFW := hide (HOK.out.adjFew (x := x))
      have HTK := hide (show rowsOf outs nodes (k + 1) = rowsOf outs nodes k ++ [renum nodes (adj outs x)] by unfold rowsOf; rw [List.take_succ_eq_append_getElem hlt, List.map_append, ← HXE.out]; rfl)
      have HWZ := hide (show W0.heap.size ≤ wr.heap.size from HKR.out.size)
      have hx0 : 0 ≤ x := hxr.1
      have hx1 : x < (outs.length : Int) := hxr.2
      obtain ⟨ys, hys⟩ : ∃ ys, adj outs x = ys := ⟨_, rfl⟩
      rw [hys] at hrc HRI HSUB HFW HTK
      have hy4 := HFW.out
      have HB0r := hide (HBH.out.kp HKR.out (fun e => by unfold At at e; omega))
      have HXN := hide hxn
      have HC1 := hide hcu'
      have HC2 := hide hrc
      clear hcell hrow hri hadj hx hys hxr hcu' hrc hxn
      obtain ⟨z, hz⟩ : ∃ z, z = wr := ⟨_, rfl⟩
      subst hz
      go_wp2_with fail
      go_loopw [7, 8] (fun v q wq => ∃ i : Nat, q = .int .i64 i ∧ i ≤ ys.length ∧ Hid (wq.ownsRow z.heap.size 3 1 v i (iv (renum nodes (ys.take i)))) ∧ Hid (Kp No z wq)) (fun _ q _ => ys.length - (intOf q).toNat)
      case atStart => exact ⟨0, rfl, Nat.zero_le _, World.ownsRow_nil _ _ _ _, Kp.refl _ _⟩
      case round =>
        obtain ⟨i, rfl, hi, hown, hkp⟩ := hrel
        obtain ⟨p0, p1⟩ := (HB0r.out.kp hkp.out id).c2
        have hc1 := hkp.out.cell HC1.out id
        have hc2 := hkp.out.cell HC2.out id
        have hxn := HXN.out
        by_cases hlt2 : i < ys.length
        · obtain ⟨_, _, e, _, _, hcell⟩ := HRI.out.no hkp.out
          cases e
          obtain ⟨b3, o3, rfl, _, hc3⟩ := hcell i hlt2
          have HRN := hide (renum_take_succ (o := nodes) hlt2)
          have HIX := hide (ixOf_mem (HSUB.out _ (List.getElem_mem hlt2)))
          obtain ⟨y, hy⟩ : ∃ y, ys[i] = y := ⟨_, rfl⟩
          rw [hy] at hc3 HRN HIX
          have hsz := hkp.out.size
          clear hcell hy
          go_wp2_with fail
          go_quiet (fail)
          go_wp2_with fail
          refine plan_start 17 (by kernel_rfl) rfl (fun hPT => ?_)
          refine plan_take (i := 0) (v := ?_) rfl (by kernel_rfl) (by kernel_rfl) (by kernel_rfl) (fun _ _ _ h => h) hPT (by rfl) ?_ ?_
          rotate_left
          · (intro w; go_simp; with_reducible rfl)
          (clear hPT; intro hPT; simp only [List.getElem_toArray, List.getElem_cons_zero, List.getElem_cons_succ, Act.put, List.setIfInBounds_toArray, List.set_cons_zero, List.set_cons_succ])
          refine plan_take (i := 1) (v := ?_) rfl (by kernel_rfl) (by kernel_rfl) (by kernel_rfl) (fun _ _ _ h => h) hPT (by rfl) ?_ ?_
          rotate_left
          · (intro w; go_simp; with_reducible rfl)
          (clear hPT; intro hPT; simp only [List.getElem_toArray, List.getElem_cons_zero, List.getElem_cons_succ, Act.put, List.setIfInBounds_toArray, List.set_cons_zero, List.set_cons_succ])
          refine plan_take (i := 2) (v := ?_) rfl (by kernel_rfl) (by kernel_rfl) (by kernel_rfl) (fun _ _ _ h => h) hPT (by rfl) ?_ ?_
          rotate_left
          · (intro w; go_simp; with_reducible rfl)
          (clear hPT; intro hPT; simp only [List.getElem_toArray, List.getElem_cons_zero, List.getElem_cons_succ, Act.put, List.setIfInBounds_toArray, List.set_cons_zero, List.set_cons_succ])
          refine plan_take (i := 4) (v := ?_) rfl (by kernel_rfl) (by kernel_rfl) (by kernel_rfl) (fun _ _ _ h => h) hPT (by rfl) ?_ ?_
          rotate_left
          · (intro w; go_simp; with_reducible rfl)
          (clear hPT; intro hPT; simp only [List.getElem_toArray, List.getElem_cons_zero, List.getElem_cons_succ, Act.put, List.setIfInBounds_toArray, List.set_cons_zero, List.set_cons_succ])
          refine plan_take (i := 5) (v := ?_) rfl (by kernel_rfl) (by kernel_rfl) (by kernel_rfl) (fun _ _ _ h => h) hPT (by rfl) ?_ ?_
          rotate_left
          · (intro w; go_simp; with_reducible rfl)
          (clear hPT; intro hPT; simp only [List.getElem_toArray, List.getElem_cons_zero, List.getElem_cons_succ, Act.put, List.setIfInBounds_toArray, List.set_cons_zero, List.set_cons_succ])
          refine plan_take (i := 6) (v := ?_) rfl (by kernel_rfl) (by kernel_rfl) (by kernel_rfl) (fun _ _ _ h => h) hPT (by rfl) ?_ ?_
          rotate_left
          · (intro w; go_simp; with_reducible rfl)
          (clear hPT; intro hPT; simp only [List.getElem_toArray, List.getElem_cons_zero, List.getElem_cons_succ, Act.put, List.setIfInBounds_toArray, List.set_cons_zero, List.set_cons_succ])
          refine plan_take (i := 10) (v := ?_) rfl (by kernel_rfl) (by kernel_rfl) (by kernel_rfl) (fun _ _ _ h => h) hPT (by rfl) ?_ ?_
          rotate_left
          · (intro w; go_simp; with_reducible rfl)
          (clear hPT; intro hPT; simp only [List.getElem_toArray, List.getElem_cons_zero, List.getElem_cons_succ, Act.put, List.setIfInBounds_toArray, List.set_cons_zero, List.set_cons_succ])
          refine plan_load (fun w' => w'.cell? ⟨w.heap.size, 0, none⟩ = some (.slice (some ⟨bo, oo, none⟩) outs.length co)) (i := 3) (v := ?_) rfl (by kernel_rfl) (by kernel_rfl) (by kernel_rfl) (fun _ _ _ h => h) hPT (by rfl) ?_ ?_ ?_
          rotate_left
          · (first | assumption | (go_simp; done))
          · (intro w hSw; (try dsimp only at hSw); go_simp; with_reducible rfl)
          (clear hPT; intro hPT; simp only [List.getElem_toArray, List.getElem_cons_zero, List.getElem_cons_succ, Act.put, List.setIfInBounds_toArray, List.set_cons_zero, List.set_cons_succ])
          refine plan_load (fun w' => w'.cell? ⟨bu, ou + k, none⟩ = some (.int .i64 x)) (i := 7) (v := ?_) rfl (by kernel_rfl) (by kernel_rfl) (by kernel_rfl) (fun _ _ _ h => h) hPT (by rfl) ?_ ?_ ?_
          rotate_left
          · (first | assumption | (go_simp; done))
          · (intro w hSw; (try dsimp only at hSw); go_simp; with_reducible rfl)
          (clear hPT; intro hPT; simp only [List.getElem_toArray, List.getElem_cons_zero, List.getElem_cons_succ, Act.put, List.setIfInBounds_toArray, List.set_cons_zero, List.set_cons_succ])
          refine plan_take (i := 8) (v := ?_) rfl (by kernel_rfl) (by kernel_rfl) (by kernel_rfl) (fun _ _ _ h => h) hPT (by rfl) ?_ ?_
          rotate_left
          · (intro w; go_simp; with_reducible rfl)
          (clear hPT; intro hPT; simp only [List.getElem_toArray, List.getElem_cons_zero, List.getElem_cons_succ, Act.put, List.setIfInBounds_toArray, List.set_cons_zero, List.set_cons_succ])
          refine plan_load (fun w' => w'.cell? ⟨bo, oo + x.toNat, none⟩ = some (.slice (some ⟨b3, o3, none⟩) ys.length c'')) (i := 9) (v := ?_) rfl (by kernel_rfl) (by kernel_rfl) (by kernel_rfl) (fun _ _ _ h => h) hPT (by rfl) ?_ ?_ ?_
          rotate_left
          · (first | assumption | (go_simp; done))
          · (intro w hSw; (try dsimp only at hSw); go_simp; with_reducible rfl)
          (clear hPT; intro hPT; simp only [List.getElem_toArray, List.getElem_cons_zero, List.getElem_cons_succ, Act.put, List.setIfInBounds_toArray, List.set_cons_zero, List.set_cons_succ])
          refine plan_take (i := 11) (v := ?_) rfl (by kernel_rfl) (by kernel_rfl) (by kernel_rfl) (fun _ _ _ h => h) hPT (by rfl) ?_ ?_
          rotate_left
          · (intro w; go_simp; with_reducible rfl)
          (clear hPT; intro hPT; simp only [List.getElem_toArray, List.getElem_cons_zero, List.getElem_cons_succ, Act.put, List.setIfInBounds_toArray, List.set_cons_zero, List.set_cons_succ])
          refine plan_load (fun w' => w'.cell? ⟨b3, o3 + i, none⟩ = some (.int .i64 y)) (i := 12) (v := ?_) rfl (by kernel_rfl) (by kernel_rfl) (by kernel_rfl) (fun _ _ _ h => h) hPT (by rfl) ?_ ?_ ?_
          rotate_left
          · (first | assumption | (go_simp; done))
          · (intro w hSw; (try dsimp only at hSw); go_simp; with_reducible rfl)
          (clear hPT; intro hPT; simp only [List.getElem_toArray, List.getElem_cons_zero, List.getElem_cons_succ, Act.put, List.setIfInBounds_toArray, List.set_cons_zero, List.set_cons_succ])
          refine plan_one (i := 13) (by kernel_rfl) rfl (by rfl) (fun K hK => ?_)
          (try simp only [List.getElem_toArray, List.getElem_cons_zero, List.getElem_cons_succ, Act.put, List.setIfInBounds_toArray, List.set_cons_zero, List.set_cons_succ])
          go_simp
          refine Calls.mono (place_any _ nodes y _ (HU.out.no ((HKW.out.trans hkp.out).trans (by (repeat (first | exact Kp.refl _ _ | with_reducible refine Kp.drewN ?_ _ | with_reducible refine Kp.drew ?_ | with_reducible refine Kp.alloc ?_ _ | with_reducible refine Kp.setCell ?_ (fun _ => ?_) _)); all_goals (simp_all; omega))))) ?_
          rw [HIX.out]
          rintro e w5 ⟨rfl, hw5⟩
          have HK5 := hide (show Kp No wr w5 by rw [← hw5]; exact (by (repeat (first | exact Kp.refl _ _ | with_reducible refine Kp.drewN ?_ _ | with_reducible refine Kp.drew ?_ | with_reducible refine Kp.alloc ?_ _ | with_reducible refine Kp.setCell ?_ (fun _ => ?_) _)); all_goals (simp_all; omega)))
          clear hw5 hc3
          refine hK.out _ _ _ (t_cons (HK5.out.cell hc2 id) (t_cons (HK5.out.cell hc1 id) (t_cons (HK5.out.cell p0 id) (t_nil _)))) (k_drop (by kernel_rfl) k_same) (fun hPT' => ?_)
          (clear hPT hK K; have hPT := hPT'; clear hPT'; try simp only [List.getElem_toArray, List.getElem_cons_zero, List.getElem_cons_succ, Act.put, List.setIfInBounds_toArray, List.set_cons_zero, List.set_cons_succ])
          refine plan_one (i := 14) (by kernel_rfl) rfl (by rfl) (fun K hK => ?_)
          (try simp only [List.getElem_toArray, List.getElem_cons_zero, List.getElem_cons_succ, Act.put, List.setIfInBounds_toArray, List.set_cons_zero, List.set_cons_succ])
          go_simp
          refine hK.out _ _ _ (t_cons (((Kp.refl No w5).alloc _).cell (HK5.out.cell hc2 id) id) (t_cons (((Kp.refl No w5).alloc _).cell (HK5.out.cell hc1 id) id) (t_cons (((Kp.refl No w5).alloc _).cell (HK5.out.cell p0 id) id) (t_nil _)))) k_same (fun hPT' => ?_)
          (clear hPT hK K; have hPT := hPT'; clear hPT'; try simp only [List.getElem_toArray, List.getElem_cons_zero, List.getElem_cons_succ, Act.put, List.setIfInBounds_toArray, List.set_cons_zero, List.set_cons_succ])
          refine plan_one (i := 15) (by kernel_rfl) rfl (by rfl) (fun K hK => ?_)
          (try simp only [List.getElem_toArray, List.getElem_cons_zero, List.getElem_cons_succ, Act.put, List.setIfInBounds_toArray, List.set_cons_zero, List.set_cons_succ])
          refine wp_push _ (.tmp 29) (.tmp 43) _ rfl z.heap.size 3 _ 8 Tryd.underlying23 Tryd.infoInt rfl u7 i _ rfl ((own_kp hown.out HK5.out fun _ _ h => h).alloc _) _ rfl 1 _ rfl ((Blk.new _ _ _).cell 0) (by omega) (by decide) (by have := HK5.out.size; simp; omega) ?_
          intro g' c' w4 ho' hgr hat
          have HO1 := hide ho'
          have HK6 := hide ((hkp.out.trans HK5.out).alloc _ |>.grown hgr fun b h hb => by have := (own_lt hown.out h).1; omega)
          clear ho' hgr hat
          refine hK.out _ _ _ (t_cons (HK6.out.cell HC2.out id) (t_cons (HK6.out.cell HC1.out id) (t_cons (HB0r.out.kp HK6.out id).c2.1 (t_nil _)))) k_same (fun hPT' => ?_)
          (clear hPT hK K; have hPT := hPT'; clear hPT'; try simp only [List.getElem_toArray, List.getElem_cons_zero, List.getElem_cons_succ, Act.put, List.setIfInBounds_toArray, List.set_cons_zero, List.set_cons_succ])
          refine plan_take (i := 16) (v := ?_) rfl (by kernel_rfl) (by kernel_rfl) (by kernel_rfl) (fun _ _ _ h => h) hPT (by rfl) ?_ ?_
          rotate_left
          · (intro w; go_simp; with_reducible rfl)
          (clear hPT; intro hPT; simp only [List.getElem_toArray, List.getElem_cons_zero, List.getElem_cons_succ, Act.put, List.setIfInBounds_toArray, List.set_cons_zero, List.set_cons_succ])
          refine plan_done (by kernel_rfl) ?_ _
          clear hPT
          go_wp2_with fail
          go_roundw
          case rel => exact ⟨i + 1, by go_num, hlt2, by rw [HRN.out, iv_snoc]; exact HO1.out, HK6.out⟩
          case measure => (simp [intOf]; omega)
        · obtain rfl : i = ys.length := by omega
          rw [List.take_length] at hown
          have HAK2 := hide (HAK.out.no hkp.out)
          obtain ⟨R, hR⟩ : ∃ R, renum nodes ys = R := ⟨_, rfl⟩
          have hRl : ys.length = R.length := by rw [← hR, renum_length]
          rw [hR] at hown HTK
          have hOl : (rowsOf outs nodes k).length = k := rowsOf_length (Nat.le_of_lt hlt)
          obtain ⟨e0, Av, cv, hvo, hcv, hmv, _⟩ := own_form HAK.out.out
          rw [HAK.out.len, hOl] at hvo hcv
          subst hvo
          have HOW := hide hown.out
          rw [hRl] at HOW
          obtain ⟨A3, c3', rfl, _⟩ := IntsIn.of_own (F := fun _ => True) HOW.out fun _ _ => trivial
          have HOL := hide hOl
          have HRL := hide hRl
          obtain ⟨q1, q2, q3, q4, q5⟩ := HAK2.out.blk.a2
          clear e0 hR hOl hRl hown
          have hsz := hkp.out.size
          have hk12 := HNL.out
          have hwz := HWZ.out
          have HAKD := hide (fun n => HAK2.out.no ((Kp.refl No wr).drewN n))
          have HOWD := hide (fun n => show (wr.drewN n).ownsRow W0.heap.size 23 1 (.slice Av k cv) k vs' by have := (HAKD.out n).out; rw [HOL.out] at this; exact this)
          go_wp2_with fail
          go_quiet (fail)
          go_wp2_with (at_builtin; go_must (
                       refine wpList_push _ rfl (.tmp 46) (.tmp 48) _ rfl W0.heap.size 23 _ 24 Tryd.underlying22 Tryd.infoRow rfl (.slice Av k cv) k vs' rfl (HOWD.out _) _ rfl 1 _ rfl (by simp) (by omega) (by decide) (by simp; omega) ?_
                       intro g1 c1 w4 ho' hgr hat
                       have HA4 := hide (HAK.out.more (hkp.out.trans ((Kp.refl No wr).drewN nq)) (own_kp HOW.out ((Kp.refl No wr).drewN nq) fun _ _ h => h) (by rw [HOL.out]; exact ho') hgr hwz)
                       have b4 := ((HAKD.out nq).blk.alloc (.cells #[.slice A3 R.length c3'] 23)).grown hgr (own_ne_blk (HAKD.out nq).out (HAKD.out nq).blk (by decide)).symm
                       have HK4 := hide (show Kp (At (w.heap.size + 2)) W0 w4 from (((HKR.out.trans hkp.out.of_no).trans ((Kp.refl No wr).drewN nq).of_no).alloc _).grown hgr fun j e hj => by have := (own_lt HAK2.out.out e).1; omega)
                       clear ho' hgr hat q1 q2 q3 q4 q5
                       obtain ⟨q1, q2, q3, q4, q5⟩ := b4.a2
                       clear b4))
          go_roundw
          case rel =>
            have hm := HA4.out
            rw [HOL.out, ← HTK.out] at hm
            exact ⟨k + 1, by go_num, hlt, HK4.out.trans (kp_set _ _ _ _), _, _, hm⟩
          case measure => (simp [intOf]; omega)
    · obtain rfl : k = nodes.length := by omega
      obtain ⟨e0, Av, cv, hvo, hcv, hmv, _⟩ := own_form HAK.out.out
      rw [HAK.out.len, rowsOf_length (Nat.le_refl _)] at hvo hcv
      subst hvo
      clear e0
      have HB0r := hide (HBH.out.kp HKR.out (fun e => by unfold At at e; omega))
      have hr12 := HOK.out.r12
      obtain ⟨z, hz⟩ : ∃ z, z = wr := ⟨_, rfl⟩
      subst hz
      have HWZ := hide (show W0.heap.size ≤ z.heap.size from HKR.out.size)
      go_wp2_with fail
      go_loopw [9] (fun q wq => ∃ (i : Nat) (vr' : Value), q = .int .i64 i ∧ i ≤ roots.length ∧ Hid (Blk wq (w.heap.size + 2) 25 #[.slice Av nodes.length cv, vr']) ∧ Hid (wq.ownsRow z.heap.size 3 1 vr' i (iv (renum nodes (roots.take i)))) ∧ Hid (Kp (At (w.heap.size + 2)) z wq)) (fun q _ => roots.length - (intOf q).toNat)
      case atStart => exact ⟨0, _, rfl, Nat.zero_le _, HAK.out.blk, World.ownsRow_nil _ _ _ _, Kp.refl _ _⟩
      case round =>
        obtain ⟨i, vr', rfl, hi, hbo, hown, hkp⟩ := hrel
        have HKQ := hide (show Kp No w wr from HKW.out.trans' hkp.out fun b hb e => by unfold At at e; omega)
        obtain ⟨p0, p1⟩ := (HB0r.out.kp hkp.out (fun e => by unfold At at e; omega)).c2
        by_cases hlt2 : i < roots.length
        · obtain ⟨_, _, e, _, _, hcell⟩ := HR.out.no HKQ.out
          cases e
          obtain ⟨b3, o3, rfl, _, hc3⟩ := hcell i hlt2
          have HRN := hide (renum_take_succ (o := nodes) hlt2)
          have HIX := hide (ixOf_mem (HX.out _ (List.getElem_mem hlt2)))
          obtain ⟨y, hy⟩ : ∃ y, roots[i] = y := ⟨_, rfl⟩
          rw [hy] at hc3 HRN HIX
          obtain ⟨q1, q2, q3, q4, q5⟩ := hbo.out.a2
          have hsz := hkp.out.size
          clear hcell hy
          go_wp2_with fail
          refine plan_start 13 (by kernel_rfl) rfl (fun hPT => ?_)
          refine plan_take (i := 0) (v := ?_) rfl (by kernel_rfl) (by kernel_rfl) (by kernel_rfl) (fun _ _ _ h => h) hPT (by rfl) ?_ ?_
          rotate_left
          · (intro w; go_simp; with_reducible rfl)
          (clear hPT; intro hPT; simp only [List.getElem_toArray, List.getElem_cons_zero, List.getElem_cons_succ, Act.put, List.setIfInBounds_toArray, List.set_cons_zero, List.set_cons_succ])
          refine plan_take (i := 2) (v := ?_) rfl (by kernel_rfl) (by kernel_rfl) (by kernel_rfl) (fun _ _ _ h => h) hPT (by rfl) ?_ ?_
          rotate_left
          · (intro w; go_simp; with_reducible rfl)
          (clear hPT; intro hPT; simp only [List.getElem_toArray, List.getElem_cons_zero, List.getElem_cons_succ, Act.put, List.setIfInBounds_toArray, List.set_cons_zero, List.set_cons_succ])
          refine plan_take (i := 3) (v := ?_) rfl (by kernel_rfl) (by kernel_rfl) (by kernel_rfl) (fun _ _ _ h => h) hPT (by rfl) ?_ ?_
          rotate_left
          · (intro w; go_simp; with_reducible rfl)
          (clear hPT; intro hPT; simp only [List.getElem_toArray, List.getElem_cons_zero, List.getElem_cons_succ, Act.put, List.setIfInBounds_toArray, List.set_cons_zero, List.set_cons_succ])
          refine plan_take (i := 5) (v := ?_) rfl (by kernel_rfl) (by kernel_rfl) (by kernel_rfl) (fun _ _ _ h => h) hPT (by rfl) ?_ ?_
          rotate_left
          · (intro w; go_simp; with_reducible rfl)
          (clear hPT; intro hPT; simp only [List.getElem_toArray, List.getElem_cons_zero, List.getElem_cons_succ, Act.put, List.setIfInBounds_toArray, List.set_cons_zero, List.set_cons_succ])
          refine plan_load (fun w' => w'.cell? ⟨w.heap.size + 2, 1, none⟩ = some vr') (i := 1) (v := ?_) rfl (by kernel_rfl) (by kernel_rfl) (by kernel_rfl) (fun _ _ _ h => h) hPT (by rfl) ?_ ?_ ?_
          rotate_left
          · (first | assumption | (go_simp; done))
          · (intro w hSw; (try dsimp only at hSw); go_simp; with_reducible rfl)
          (clear hPT; intro hPT; simp only [List.getElem_toArray, List.getElem_cons_zero, List.getElem_cons_succ, Act.put, List.setIfInBounds_toArray, List.set_cons_zero, List.set_cons_succ])
          refine plan_load (fun w' => w'.cell? ⟨w.heap.size, 1, none⟩ = some (.slice (some ⟨b3, o3, none⟩) roots.length cr)) (i := 4) (v := ?_) rfl (by kernel_rfl) (by kernel_rfl) (by kernel_rfl) (fun _ _ _ h => h) hPT (by rfl) ?_ ?_ ?_
          rotate_left
          · (first | assumption | (go_simp; done))
          · (intro w hSw; (try dsimp only at hSw); go_simp; with_reducible rfl)
          (clear hPT; intro hPT; simp only [List.getElem_toArray, List.getElem_cons_zero, List.getElem_cons_succ, Act.put, List.setIfInBounds_toArray, List.set_cons_zero, List.set_cons_succ])
          refine plan_take (i := 6) (v := ?_) rfl (by kernel_rfl) (by kernel_rfl) (by kernel_rfl) (fun _ _ _ h => h) hPT (by rfl) ?_ ?_
          rotate_left
          · (intro w; go_simp; with_reducible rfl)
          (clear hPT; intro hPT; simp only [List.getElem_toArray, List.getElem_cons_zero, List.getElem_cons_succ, Act.put, List.setIfInBounds_toArray, List.set_cons_zero, List.set_cons_succ])
          refine plan_load (fun w' => w'.cell? ⟨b3, o3 + i, none⟩ = some (.int .i64 y)) (i := 7) (v := ?_) rfl (by kernel_rfl) (by kernel_rfl) (by kernel_rfl) (fun _ _ _ h => h) hPT (by rfl) ?_ ?_ ?_
          rotate_left
          · (first | assumption | (go_simp; done))
          · (intro w hSw; (try dsimp only at hSw); go_simp; with_reducible rfl)
          (clear hPT; intro hPT; simp only [List.getElem_toArray, List.getElem_cons_zero, List.getElem_cons_succ, Act.put, List.setIfInBounds_toArray, List.set_cons_zero, List.set_cons_succ])
          refine plan_one (i := 8) (by kernel_rfl) rfl (by rfl) (fun K hK => ?_)
          (try simp only [List.getElem_toArray, List.getElem_cons_zero, List.getElem_cons_succ, Act.put, List.setIfInBounds_toArray, List.set_cons_zero, List.set_cons_succ])
          go_simp
          refine Calls.mono (place_any _ nodes y _ (HU.out.no (HKQ.out.trans (by (repeat (first | exact Kp.refl _ _ | with_reducible refine Kp.drewN ?_ _ | with_reducible refine Kp.drew ?_ | with_reducible refine Kp.alloc ?_ _ | with_reducible refine Kp.setCell ?_ (fun _ => ?_) _)); all_goals (simp_all; omega))))) ?_
          rw [HIX.out]
          rintro e w5 ⟨rfl, hw5⟩
          have HK5 := hide (show Kp No wr w5 by rw [← hw5]; exact (by (repeat (first | exact Kp.refl _ _ | with_reducible refine Kp.drewN ?_ _ | with_reducible refine Kp.drew ?_ | with_reducible refine Kp.alloc ?_ _ | with_reducible refine Kp.setCell ?_ (fun _ => ?_) _)); all_goals (simp_all; omega)))
          have HB5 := hide (hbo.out.kp HK5.out id)
          clear hw5 hc3
          refine hK.out _ _ _ (t_cons (HK5.out.cell p1 id) (t_cons (HK5.out.cell q2 id) (t_nil _))) (k_drop (by kernel_rfl) k_same) (fun hPT' => ?_)
          (clear hPT hK K; have hPT := hPT'; clear hPT'; try simp only [List.getElem_toArray, List.getElem_cons_zero, List.getElem_cons_succ, Act.put, List.setIfInBounds_toArray, List.set_cons_zero, List.set_cons_succ])
          refine plan_one (i := 9) (by kernel_rfl) rfl (by rfl) (fun K hK => ?_)
          (try simp only [List.getElem_toArray, List.getElem_cons_zero, List.getElem_cons_succ, Act.put, List.setIfInBounds_toArray, List.set_cons_zero, List.set_cons_succ])
          go_simp
          refine hK.out _ _ _ (t_cons (((Kp.refl No w5).alloc _).cell (HK5.out.cell p1 id) id) (t_cons (((Kp.refl No w5).alloc _).cell (HK5.out.cell q2 id) id) (t_nil _))) k_same (fun hPT' => ?_)
          (clear hPT hK K; have hPT := hPT'; clear hPT'; try simp only [List.getElem_toArray, List.getElem_cons_zero, List.getElem_cons_succ, Act.put, List.setIfInBounds_toArray, List.set_cons_zero, List.set_cons_succ])
          refine plan_one (i := 10) (by kernel_rfl) rfl (by rfl) (fun K hK => ?_)
          (try simp only [List.getElem_toArray, List.getElem_cons_zero, List.getElem_cons_succ, Act.put, List.setIfInBounds_toArray, List.set_cons_zero, List.set_cons_succ])
          refine wp_push _ (.tmp 59) (.tmp 67) _ rfl z.heap.size 3 _ 8 Tryd.underlying23 Tryd.infoInt rfl vr' i _ rfl ((own_kp hown.out HK5.out fun _ _ h => h).alloc _) _ rfl 1 _ rfl ((Blk.new _ _ _).cell 0) (by omega) (by decide) (by have := HK5.out.size; simp; omega) ?_
          intro g' c' w4 ho' hgr hat
          have HO1 := hide ho'
          have HK6 := hide (((hkp.out.trans HK5.out.of_no).alloc _).grown hgr fun b h hb => by have := (own_lt hown.out h).1; omega)
          have HB6 := hide ((HB5.out.alloc (.cells #[.int .i64 (nodes.idxOf y : Int)] 3)).grown hgr (own_ne_blk (own_kp hown.out HK5.out fun _ _ h => h) HB5.out (by decide)).symm)
          clear ho' hgr hat q1 q2 q3 q4 q5
          obtain ⟨q1, q2, q3, q4, q5⟩ := HB6.out.a2
          refine hK.out _ _ _ (t_cons (HB0r.out.kp HK6.out (fun e => by unfold At at e; omega)).c2.2 (t_nil _)) (k_keep (k_drop (by kernel_rfl) k_nil)) (fun hPT' => ?_)
          (clear hPT hK K; have hPT := hPT'; clear hPT'; try simp only [List.getElem_toArray, List.getElem_cons_zero, List.getElem_cons_succ, Act.put, List.setIfInBounds_toArray, List.set_cons_zero, List.set_cons_succ])
          refine plan_take (i := 11) (v := ?_) rfl (by kernel_rfl) (by kernel_rfl) (by kernel_rfl) (fun _ _ _ h => h) hPT (by rfl) ?_ ?_
          rotate_left
          · (intro w; go_simp; with_reducible rfl)
          (clear hPT; intro hPT; simp only [List.getElem_toArray, List.getElem_cons_zero, List.getElem_cons_succ, Act.put, List.setIfInBounds_toArray, List.set_cons_zero, List.set_cons_succ])
          refine plan_one (i := 12) (by kernel_rfl) rfl (by rfl) (fun K hK => ?_)
          (try simp only [List.getElem_toArray, List.getElem_cons_zero, List.getElem_cons_succ, Act.put, List.setIfInBounds_toArray, List.set_cons_zero, List.set_cons_succ])
          go_simp
          refine hK.out [] _ _ (t_nil _) (k_drop (by kernel_rfl) k_nil) (fun hPT' => ?_)
          (clear hPT hK K; have hPT := hPT'; clear hPT'; try simp only [List.getElem_toArray, List.getElem_cons_zero, List.getElem_cons_succ, Act.put, List.setIfInBounds_toArray, List.set_cons_zero, List.set_cons_succ])
          refine plan_done (by kernel_rfl) ?_ _
          clear hPT
          go_wp2
          go_roundw
          case rel =>
            exact ⟨i + 1, _, by go_num, hlt2, HB6.out.set_ 1 _, own_kp (by rw [HRN.out, iv_snoc]; exact HO1.out) (kp_set _ _ _ _) (fun b hb e => by unfold At at e; have := (own_lt HO1.out hb).1; have := HZ0.out; have := HWZ.out; omega), HK6.out.trans (kp_set _ _ _ _)⟩
          case measure => (simp [intOf]; omega)
        · obtain rfl : i = roots.length := by omega
          rw [List.take_length] at hown
          obtain ⟨R, hR⟩ : ∃ R, renum nodes roots = R := ⟨_, rfl⟩
          rw [hR] at hown
          have HRR := hide hR
          have hRl : roots.length = R.length := by rw [← hR, renum_length]
          rw [hRl] at hown
          have HOW := hide hown.out
          have HRL := hide hRl
          obtain ⟨Av2, cv2, rfl, _⟩ := IntsIn.of_own (F := fun _ => True) hown.out fun _ _ => trivial
          have HBRr := hide ((HBR.out.kp HKR.out (fun e => by unfold At at e; omega)).kp hkp.out (fun e => by unfold At at e; omega))
          have hsz := hkp.out.size
          have HA3 := hide HAK.out
          clear hR hRl hown
          obtain ⟨q1, q2, q3, q4, q5⟩ := hbo.out.a2
          obtain ⟨s1, s2, s3, s4, s5⟩ := HBRr.out.a2
          go_wp2
          have q : Blk ((wr.setCell ⟨w.heap.size + 1, 0, none⟩ (.slice Av nodes.length cv)).setCell ⟨w.heap.size + 1, 1, none⟩ (.slice Av2 R.length cv2)) (w.heap.size + 1) 25 #[.slice Av nodes.length cv, .slice Av2 R.length cv2] := (HBRr.out.set_ 0 _).set_ 1 _
          have hkk : Kp (fun b => b = w.heap.size + 1) wr ((wr.setCell ⟨w.heap.size + 1, 0, none⟩ (.slice Av nodes.length cv)).setCell ⟨w.heap.size + 1, 1, none⟩ (.slice Av2 R.length cv2)) :=
            ((kp_set wr _ _ _).mono fun b _ e => e).trans' (kp_set _ _ _ _) fun b _ e => e
          obtain ⟨t0, t1⟩ := q.c2
          have hne : ∀ {u : Value} {n : Nat} {e : TypeId} {us : List Value} {B : Nat}, W0.heap.size ≤ B → wr.ownsRow B e 1 u n us → ((wr.setCell ⟨w.heap.size + 1, 0, none⟩ (.slice Av nodes.length cv)).setCell ⟨w.heap.size + 1, 1, none⟩ (.slice Av2 R.length cv2)).ownsRow B e 1 u n us :=
            fun hB h => own_kp h hkk fun b hb e => by have := (own_lt h hb).1; have := HZ0.out; omega
          have hold : ∀ {u : Value} {n : Nat} {e : TypeId} {us : List Value}, z.ownsRow W0.heap.size e 1 u n us → wr.ownsRow W0.heap.size e 1 u n us :=
            fun h => own_kp h hkp.out fun b hb e => by unfold At at e; have := (own_lt h hb).1; have := HZ0.out; omega
          refine bodyPost_ret (v := .agg #[.slice Av nodes.length cv, .slice Av2 R.length cv2]) (by simp [results, Tryd.results11, go_sem, t0, t1]) rfl ⟨_, _, rfl, (own_rows_in (hne (Nat.le_refl _) (hold HA3.out.out)) fun i a b => hne (Nat.le_refl _) (hold (HA3.out.row i a b))).mono fun b _ hb => ?_, (by rw [HRR.out]; exact IntsIn.of_own (F := Hi w.heap.size) (hne HWZ.out HOW.out) fun g hg => by have := (own_lt HOW.out hg).1; have := HWZ.out; have := HZ0.out; unfold Hi; omega), HKQ.out.trans' hkk fun b hb e => ?_⟩
          · unfold Hi at hb ⊢; omega
          · omega
end Go.Proofs.YtgbdjidjbcbhjaaDoor
