/- sweep.anew and sweep.Sweep, walked. -/
import Derived.Test.YtgbdjidjbcbhjaaDoorCollect
namespace Go.Proofs.YtgbdjidjbcbhjaaDoor
open Go.RowKit Go.Shelf
set_option linter.unusedSimpArgs false

theorem Blk.no' {w w' : World} {g : Nat} {t : TypeId} {cs : Array Value} (h : Blk w g t cs) (hk : Kp No w w') : Blk w' g t cs := h.kp hk id
set_option maxRecDepth 100000 in
set_option maxHeartbeats 2000000 in
theorem number_any {F F' : Nat → Prop} (v u : Value) (xs nodes : List Int) (B : Nat) (w : World) (hv : IntsIn w F v xs) (hb : Blk w B 23 #[u]) (hu : IntsIn w F' u nodes) (hx : ∀ x ∈ xs, x ∈ nodes) (hl : xs.length ≤ 100) (hn : nodes.length ≤ 100) :
    Calls Tryd.prog 82 #[v, .pointer (some ⟨B, 0, none⟩)] w (fun e w' => ∃ v', e = .returned v' ∧ w'.ownsRow w.heap.size 3 1 v' xs.length (iv (renum nodes xs)) ∧ Kp No w w') := by
  obtain ⟨A, c, rfl, hc, hm, _⟩ := id hv
  obtain ⟨A', c', rfl, hc', hm', _⟩ := id hu
  have HV := hide hv
  have HU := hide hu
  have HB := hide hb
  have HX := hide hx
  clear hv hu hb hx
  go_enter Tryd.func82, Tryd.ntmps82
  go_wp2_with fail
  go_loopw [4, 9] (fun t q wr => ∃ k : Nat, q = .int .i64 k ∧ k ≤ xs.length ∧ wr.ownsRow w.heap.size 3 1 t k (iv (renum nodes (xs.take k))) ∧ Kp No w wr) (fun _ q _ => xs.length - (intOf q).toNat)
  case atStart => exact ⟨0, rfl, Nat.zero_le _, World.ownsRow_nil _ _ _ _, Kp.refl _ _⟩
  case round =>
    obtain ⟨k, rfl, hk, hown, hkp⟩ := hrel
    have HOWN := hide hown
    have HKP := hide hkp
    clear hown hkp
    by_cases hlt : k < xs.length
    · obtain ⟨_, _, e, _, _, hcell⟩ := HV.out.no HKP.out
      cases e
      obtain ⟨b, o, rfl, _, hcx⟩ := hcell k hlt
      obtain ⟨b1, b2, b3⟩ := (HB.out.kp HKP.out id).a1
      have HM := hide (HX.out _ (List.getElem_mem hlt))
      have HIX := hide (show ixOf nodes xs[k] = (nodes.idxOf xs[k] : Int) by unfold ixOf; rw [if_pos HM.out])
      have HRN := hide (show renum nodes (xs.take (k + 1)) = renum nodes (xs.take k) ++ [(nodes.idxOf xs[k] : Int)] by unfold renum; rw [List.take_succ_eq_append_getElem hlt, List.map_append]; rfl)
      have hsz := HKP.out.size
      clear hcell
      go_wp2_with fail
      refine Calls.mono (index_any _ nodes xs[k] _ (HU.out.no HKP.out)) ?_
      rw [HIX.out]
      rintro e w2 ⟨rfl, rfl⟩
      go_wp2_with (at_builtin; refine wpList_push _ rfl (.tmp 13) (.tmp 17) _ rfl w.heap.size 3 _ 8 Tryd.underlying23 Tryd.infoInt rfl u4 k _ rfl HOWN.out _ rfl 1 _ rfl (by simp) (by omega) (by decide) hsz ?_; intro g' c2 w3 ho' hgr hat; have HO' := hide ho'; have HG := hide hgr; clear ho' hgr hat)
      go_roundw
      case rel =>
        refine ⟨k + 1, by go_num, hlt, by rw [HRN.out, iv_snoc]; exact HO'.out, ?_⟩
        exact (HKP.out.alloc _).grown HG.out fun b h hb => by have := (own_lt HOWN.out h).1; omega
      case measure => simp [intOf]; omega
    · obtain rfl : k = xs.length := by omega
      rw [List.take_length] at HOWN
      go_wp2
      go_ret
      exact ⟨_, rfl, HOWN.out, HKP.out⟩

set_option maxRecDepth 100000 in
set_option maxHeartbeats 4000000 in
theorem anew_any {F F' : Nat → Prop} (vo vr u : Value) (outs : List (List Int)) (roots nodes : List Int) (w : World) (ho : RowsIn w F vo outs) (hr : IntsIn w F vr roots) (hok : Ok outs roots) (hu : IntsIn w F' u nodes) (hn : Vd outs.length nodes)
    (hx : ∀ x ∈ roots, x ∈ nodes) (hy : ∀ x ∈ nodes, ∀ y ∈ adj outs x, y ∈ nodes) :
    Calls Tryd.prog 76 #[.agg #[vo, vr], u] w (FreshHeap w (rowsOf outs nodes nodes.length) (renum nodes roots)) := by
  obtain ⟨Ao, co, rfl, hco, hmo, _⟩ := RowsIn.form ho
  obtain ⟨Ar, cr, rfl, hcr, hmr, _⟩ := id hr
  obtain ⟨Au, cu, rfl, hcu, hmu, _⟩ := id hu
  have HO := hide ho
  have HR := hide hr
  have HU := hide hu
  have HOK := hide hok
  have HN := hide hn
  have HNL := hide (show nodes.length ≤ 12 from Nat.le_trans hn.len hok.n12)
  have HX := hide hx
  have HY := hide hy
  clear ho hr hu hok hn hx hy
  go_enter Tryd.func76, Tryd.ntmps76
  go_wp2_with fail
  obtain ⟨W0, hW0⟩ : ∃ W0, (((w.alloc (.cells #[.slice Ao outs.length co, .slice Ar roots.length cr] 25)).alloc (.cells #[.slice Au nodes.length cu] 23)).alloc (.cells #[.slice none 0 0, .slice none 0 0] 25)).alloc (.cells #[.slice none 0 0, .slice none 0 0] 25) = W0 := ⟨_, rfl⟩
  have HK0 := hide (show Kp No w W0 by rw [← hW0]; exact ((((Kp.refl No w).alloc _).alloc _).alloc _).alloc _)
  have HBH := hide (show Blk W0 w.heap.size 25 #[.slice Ao outs.length co, .slice Ar roots.length cr] by rw [← hW0]; exact (((Blk.new _ _ _).alloc _).alloc _).alloc _)
  have HBN := hide (show Blk W0 (w.heap.size + 1) 23 #[.slice Au nodes.length cu] by rw [← hW0]; exact ((Blk.at_ _ _ (by simp)).alloc _).alloc _)
  have HBR := hide (show Blk W0 (w.heap.size + 2) 25 #[.slice none 0 0, .slice none 0 0] by rw [← hW0]; exact (Blk.at_ _ _ (by simp)).alloc _)
  have HBO := hide (show Blk W0 (w.heap.size + 3) 25 #[.slice none 0 0, .slice none 0 0] by rw [← hW0]; exact Blk.at_ _ _ (by simp))
  have hz0 : W0.heap.size = w.heap.size + 4 := by rw [← hW0]; simp
  have HZ0 := hide hz0
  rw [hW0]
  clear hW0
  have HA0 := hide (show HeapAt W0 (w.heap.size + 3) W0.heap.size (.slice none 0 0) (.slice none 0 0) [] (rowsOf outs nodes 0) [] from ⟨HBO.out, World.ownsRow_nil _ _ _ _, fun i h _ => by simp at h, World.ownsRow_nil _ _ _ _⟩)
  go_loopw [12] (fun q wr => ∃ k : Nat, q = .int .i64 k ∧ k ≤ nodes.length ∧ Kp (At (w.heap.size + 3)) W0 wr ∧ ∃ vo' vs', HeapAt wr (w.heap.size + 3) W0.heap.size vo' (.slice none 0 0) vs' (rowsOf outs nodes k) [])
    (fun q _ => nodes.length - (intOf q).toNat)
  case atStart => exact ⟨0, rfl, Nat.zero_le _, Kp.refl _ _, _, _, HA0.out⟩
  case round =>
    obtain ⟨k, rfl, hk, hkr, vo', vs', hak⟩ := hrel
    have HKR := hide hkr
    have HAK := hide hak
    have HKW := hide (show Kp No w wr from HK0.out.trans' hkr fun b hb e => by unfold At at e; omega)
    clear hkr
    by_cases hlt : k < nodes.length
    · obtain ⟨_, _, e, _, _, hcell⟩ := HU.out.no HKW.out
      cases e
      obtain ⟨bu, ou, rfl, _, hcu'⟩ := hcell k hlt
      have hxr := HN.out.range _ (List.getElem_mem hlt)
      obtain ⟨x, hx⟩ : ∃ x, nodes[k] = x := ⟨_, rfl⟩
      have HXE := hide hx
      rw [hx] at hcu' hxr
      have hxn : x.toNat < outs.length := by omega
      obtain ⟨_, _, e, _, _, hrow⟩ := RowsIn.form (HO.out.no HKW.out)
      cases e
      obtain ⟨bo, oo, A', c'', rfl, _, hrc, hri⟩ := hrow x.toNat hxn
      have hadj : adj outs x = outs[x.toNat] := adj_eq hxn
      rw [← hadj] at hrc hri
      have HRI := hide hri
      have HSUB := hide (fun y (hy : y ∈ adj outs x) => HY.out x (by rw [← HXE.out]; exact List.getElem_mem hlt) y hy)
      have HFW := hide (HOK.out.adjFew (x := x))
      have hOl : (rowsOf outs nodes k).length = k := rowsOf_length (Nat.le_of_lt hlt)
      obtain ⟨e0, Av, cv, hvo, hcv, hmv, _⟩ := own_form hak.out
      rw [hak.len, hOl] at hvo hcv
      subst hvo
      obtain ⟨p1, p2, p3, p4, p5⟩ := hak.blk.a2
      obtain ⟨q1, q2, q3, q4, q5⟩ := (HBH.out.kp HKR.out (fun e => by unfold At at e; omega)).a2
      have HOL := hide hOl
      have HTK := hide (show rowsOf outs nodes (k + 1) = rowsOf outs nodes k ++ [renum nodes (adj outs x)] by unfold rowsOf; rw [List.take_succ_eq_append_getElem hlt, List.map_append, ← HXE.out]; rfl)
      have HWZ := hide (show W0.heap.size ≤ wr.heap.size from HKR.out.size)
      have hx0 : 0 ≤ x := hxr.1
      have hx1 : x < (outs.length : Int) := hxr.2
      have HBNr := hide (HBN.out.kp HKR.out (fun e => by unfold At at e; omega))
      clear hcell hrow hri hadj hak hOl e0 hx
      go_wp2_with fail
      refine plan_start 13 (by kernel_rfl) rfl (fun hPT => ?_)
      refine plan_take (i := 0) (v := ?_) rfl (by kernel_rfl) (by kernel_rfl) (by kernel_rfl) (fun _ _ _ h => h) hPT (by rfl) ?_ ?_
      rotate_left
      · (intro w; go_simp; with_reducible rfl)
      (clear hPT; intro hPT; simp only [List.getElem_toArray, List.getElem_cons_zero, List.getElem_cons_succ, Act.put, List.setIfInBounds_toArray, List.set_cons_zero, List.set_cons_succ])
      refine plan_take (i := 2) (v := ?_) rfl (by kernel_rfl) (by kernel_rfl) (by kernel_rfl) (fun _ _ _ h => h) hPT (by rfl) ?_ ?_
      rotate_left
      · (intro w; go_simp; with_reducible rfl)
      (clear hPT; intro hPT; simp only [List.getElem_toArray, List.getElem_cons_zero, List.getElem_cons_succ, Act.put, List.setIfInBounds_toArray, List.set_cons_zero, List.set_cons_succ])
      refine plan_take (i := 3) (v := ?_) rfl (by kernel_rfl) (by kernel_rfl) (by kernel_rfl) (fun _ _ _ h => h) hPT (by rfl) ?_ ?_
      rotate_left
      · (intro w; go_simp; with_reducible rfl)
      (clear hPT; intro hPT; simp only [List.getElem_toArray, List.getElem_cons_zero, List.getElem_cons_succ, Act.put, List.setIfInBounds_toArray, List.set_cons_zero, List.set_cons_succ])
      refine plan_take (i := 5) (v := ?_) rfl (by kernel_rfl) (by kernel_rfl) (by kernel_rfl) (fun _ _ _ h => h) hPT (by rfl) ?_ ?_
      rotate_left
      · (intro w; go_simp; with_reducible rfl)
      (clear hPT; intro hPT; simp only [List.getElem_toArray, List.getElem_cons_zero, List.getElem_cons_succ, Act.put, List.setIfInBounds_toArray, List.set_cons_zero, List.set_cons_succ])
      refine plan_load (fun w' => w'.cell? ⟨w.heap.size + 3, 0, none⟩ = some (.slice Av k cv)) (i := 1) (v := ?_) rfl (by kernel_rfl) (by kernel_rfl) (by kernel_rfl) (fun _ _ _ h => h) hPT (by rfl) ?_ ?_ ?_
      rotate_left
      · (first | assumption | (go_simp; done))
      · (intro w hSw; (try dsimp only at hSw); go_simp; with_reducible rfl)
      (clear hPT; intro hPT; simp only [List.getElem_toArray, List.getElem_cons_zero, List.getElem_cons_succ, Act.put, List.setIfInBounds_toArray, List.set_cons_zero, List.set_cons_succ])
      refine plan_load (fun w' => w'.cell? ⟨w.heap.size, 0, none⟩ = some (.slice (some ⟨bo, oo, none⟩) outs.length co)) (i := 4) (v := ?_) rfl (by kernel_rfl) (by kernel_rfl) (by kernel_rfl) (fun _ _ _ h => h) hPT (by rfl) ?_ ?_ ?_
      rotate_left
      · (first | assumption | (go_simp; done))
      · (intro w hSw; (try dsimp only at hSw); go_simp; with_reducible rfl)
      (clear hPT; intro hPT; simp only [List.getElem_toArray, List.getElem_cons_zero, List.getElem_cons_succ, Act.put, List.setIfInBounds_toArray, List.set_cons_zero, List.set_cons_succ])
      refine plan_take (i := 6) (v := ?_) rfl (by kernel_rfl) (by kernel_rfl) (by kernel_rfl) (fun _ _ _ h => h) hPT (by rfl) ?_ ?_
      rotate_left
      · (intro w; go_simp; with_reducible rfl)
      (clear hPT; intro hPT; simp only [List.getElem_toArray, List.getElem_cons_zero, List.getElem_cons_succ, Act.put, List.setIfInBounds_toArray, List.set_cons_zero, List.set_cons_succ])
      refine plan_load (fun w' => w'.cell? ⟨bo, oo + x.toNat, none⟩ = some (.slice A' (adj outs x).length c'')) (i := 7) (v := ?_) rfl (by kernel_rfl) (by kernel_rfl) (by kernel_rfl) (fun _ _ _ h => h) hPT (by rfl) ?_ ?_ ?_
      rotate_left
      · (first | assumption | (go_simp; done))
      · (intro w hSw; (try dsimp only at hSw); go_simp; with_reducible rfl)
      (clear hPT; intro hPT; simp only [List.getElem_toArray, List.getElem_cons_zero, List.getElem_cons_succ, Act.put, List.setIfInBounds_toArray, List.set_cons_zero, List.set_cons_succ])
      refine plan_one (i := 8) (by kernel_rfl) rfl (by rfl) (fun K hK => ?_)
      (try simp only [List.getElem_toArray, List.getElem_cons_zero, List.getElem_cons_succ, Act.put, List.setIfInBounds_toArray, List.set_cons_zero, List.set_cons_succ])
      go_simp
      refine Calls.mono (number_any _ _ (adj outs x) nodes _ _ (HRI.out.no (Kp.refl No _).drew) (HBNr.out.drew) ((HU.out.no HKW.out).no (Kp.refl No _).drew) HSUB.out (by have := HFW.out; omega) (by have := HNL.out; omega)) ?_
      rintro e w3 ⟨v, rfl, hown, hk3⟩
      obtain ⟨R, hR⟩ : ∃ R, renum nodes (adj outs x) = R := ⟨_, rfl⟩
      have hRl : (adj outs x).length = R.length := by rw [← hR, renum_length]
      rw [hR, hRl] at hown
      rw [hR] at HTK
      have HR4 := hide (show R.length ≤ 4 by rw [← hRl]; exact HFW.out)
      obtain ⟨e0, A3, c3', hv3, _⟩ := own_form hown
      clear e0 hR hRl
      rw [iv_length] at hv3
      subst hv3
      have HK3 := hide ((Kp.refl No wr).drew.trans hk3)
      have HA3 := hide (HAK.out.no HK3.out)
      have HOW := hide hown
      have HB3 := hide ((HBH.out.kp HKR.out (fun e => by unfold At at e; omega)).no' HK3.out)
      clear p1 p2 p3 p4 p5 q1 q2 q3 q4 q5 hown hk3
      obtain ⟨p1, p2, p3, p4, p5⟩ := HA3.out.blk.a2
      obtain ⟨q1, q2, q3, q4, q5⟩ := HB3.out.a2
      refine hK.out _ _ _ (t_cons q1 (t_cons p1 (t_nil _))) (k_drop (by kernel_rfl) k_same) (fun hPT' => ?_)
      (clear hPT hK K; have hPT := hPT'; clear hPT'; try simp only [List.getElem_toArray, List.getElem_cons_zero, List.getElem_cons_succ, Act.put, List.setIfInBounds_toArray, List.set_cons_zero, List.set_cons_succ])
      refine plan_one (i := 9) (by kernel_rfl) rfl (by rfl) (fun K hK => ?_)
      (try simp only [List.getElem_toArray, List.getElem_cons_zero, List.getElem_cons_succ, Act.put, List.setIfInBounds_toArray, List.set_cons_zero, List.set_cons_succ])
      go_simp
      refine hK.out _ _ _ (t_cons (by go_simp) (t_cons (by go_simp) (t_nil _))) k_same (fun hPT' => ?_)
      (clear hPT hK K; have hPT := hPT'; clear hPT'; try simp only [List.getElem_toArray, List.getElem_cons_zero, List.getElem_cons_succ, Act.put, List.setIfInBounds_toArray, List.set_cons_zero, List.set_cons_succ])
      refine plan_one (i := 10) (by kernel_rfl) rfl (by rfl) (fun K hK => ?_)
      (try simp only [List.getElem_toArray, List.getElem_cons_zero, List.getElem_cons_succ, Act.put, List.setIfInBounds_toArray, List.set_cons_zero, List.set_cons_succ])
      refine wp_push _ (.tmp 17) (.tmp 25) _ rfl W0.heap.size 23 _ 24 Tryd.underlying22 Tryd.infoRow rfl (.slice Av k cv) k vs' rfl (by have := HA3.out.out; rw [HOL.out] at this; exact this.alloc _) _ rfl 1 _ rfl ((Blk.new _ _ _).cell 0) (by have := HNL.out; omega) (by decide) (by have := HWZ.out; have := HK3.out.size; simp; omega) ?_
      intro g' c' w4 ho' hgr hat
      have HA4 := hide (HAK.out.more HK3.out (by simpa using HOW.out) (by rw [HOL.out]; exact ho') hgr HWZ.out)
      have b4 := (HA3.out.blk.alloc (.cells #[.slice A3 R.length c3'] 23)).grown hgr (own_ne_blk HA3.out.out HA3.out.blk (by decide)).symm
      have HK4 := hide (show Kp (At (w.heap.size + 3)) W0 w4 from ((HKR.out.trans HK3.out.of_no).alloc _).grown hgr fun j e hj => by have := (own_lt HA3.out.out e).1; omega)
      have d4 := (HB3.out.alloc (.cells #[.slice A3 R.length c3'] 23)).grown hgr (own_ne_blk HA3.out.out HB3.out (by decide)).symm
      clear ho' hgr hat p1 p2 p3 p4 p5 q1 q2 q3 q4 q5
      obtain ⟨p1, p2, p3, p4, p5⟩ := b4.a2
      obtain ⟨q1, q2, q3, q4, q5⟩ := d4.a2
      clear b4 d4
      refine hK.out _ _ _ (t_cons q1 (t_nil _)) (k_keep (k_drop (by kernel_rfl) k_nil)) (fun hPT' => ?_)
      (clear hPT hK K; have hPT := hPT'; clear hPT'; try simp only [List.getElem_toArray, List.getElem_cons_zero, List.getElem_cons_succ, Act.put, List.setIfInBounds_toArray, List.set_cons_zero, List.set_cons_succ])
      refine plan_take (i := 11) (v := ?_) rfl (by kernel_rfl) (by kernel_rfl) (by kernel_rfl) (fun _ _ _ h => h) hPT (by rfl) ?_ ?_
      rotate_left
      · (intro w; go_simp; with_reducible rfl)
      (clear hPT; intro hPT; simp only [List.getElem_toArray, List.getElem_cons_zero, List.getElem_cons_succ, Act.put, List.setIfInBounds_toArray, List.set_cons_zero, List.set_cons_succ])
      refine plan_one (i := 12) (by kernel_rfl) rfl (by rfl) (fun K hK => ?_)
      (try simp only [List.getElem_toArray, List.getElem_cons_zero, List.getElem_cons_succ, Act.put, List.setIfInBounds_toArray, List.set_cons_zero, List.set_cons_succ])
      go_simp
      refine hK.out [] _ _ (t_nil _) (k_drop (by kernel_rfl) k_nil) (fun hPT' => ?_)
      (clear hPT hK K; have hPT := hPT'; clear hPT'; try simp only [List.getElem_toArray, List.getElem_cons_zero, List.getElem_cons_succ, Act.put, List.setIfInBounds_toArray, List.set_cons_zero, List.set_cons_succ])
      refine plan_done (by kernel_rfl) ?_ _
      clear hPT
      go_wp2
      go_roundw
      case rel =>
        have hm := HA4.out
        rw [HOL.out, ← HTK.out] at hm
        exact ⟨k + 1, by go_num, hlt, HK4.out.trans (kp_set _ _ _ _), _, _, hm⟩
      case measure => simp [intOf]; omega
    · obtain rfl : k = nodes.length := by omega
      clear hak
      obtain ⟨e0, Av, cv, hvo, hcv, hmv, _⟩ := own_form HAK.out.out
      rw [HAK.out.len, rowsOf_length (Nat.le_refl _)] at hvo hcv
      subst hvo
      clear e0
      obtain ⟨p1, p2, p3, p4, p5⟩ := HAK.out.blk.a2
      obtain ⟨q1, q2, q3, q4, q5⟩ := (HBH.out.kp HKR.out (fun e => by unfold At at e; omega)).a2
      have HBNr := hide (HBN.out.kp HKR.out (fun e => by unfold At at e; omega))
      have HBRr := hide (HBR.out.kp HKR.out (fun e => by unfold At at e; omega))
      have HR12 := hide HOK.out.r12
      go_wp2_with fail
      refine Calls.mono (number_any _ _ roots nodes _ _ (HR.out.no HKW.out) HBNr.out (HU.out.no HKW.out) HX.out (by have := HR12.out; omega) (by have := HNL.out; omega)) ?_
      rintro e w3 ⟨v, rfl, hown, hk3⟩
      obtain ⟨R, hR⟩ : ∃ R, renum nodes roots = R := ⟨_, rfl⟩
      rw [show roots.length = R.length by rw [← hR, renum_length], hR] at hown
      have HRR := hide hR
      obtain ⟨e0, Av2, cv2, hv3, _⟩ := own_form hown
      clear e0
      rw [iv_length] at hv3
      subst hv3
      have HOW := hide hown
      have HA3 := hide (HAK.out.no hk3)
      have HBR3 := hide (HBRr.out.no' hk3)
      have HKF := hide (HKW.out.trans hk3)
      have HSZ := hide (show W0.heap.size ≤ wr.heap.size from HKR.out.size)
      clear hown hk3 p1 p2 p3 p4 p5 q1 q2 q3 q4 q5 hR
      obtain ⟨p1, p2, p3, p4, p5⟩ := HA3.out.blk.a2
      obtain ⟨q1, q2, q3, q4, q5⟩ := HBR3.out.a2
      go_wp2
      have q : Blk (((w3.setCell ⟨w.heap.size + 3, 1, none⟩ (.slice Av2 R.length cv2)).setCell ⟨w.heap.size + 2, 0, none⟩ (.slice Av nodes.length cv)).setCell ⟨w.heap.size + 2, 1, none⟩ (.slice Av2 R.length cv2)) (w.heap.size + 2) 25 #[.slice Av nodes.length cv, .slice Av2 R.length cv2] := ((HBR3.out.far (by simp) _).set_ 0 _).set_ 1 _
      have hkk : Kp (fun b => b = w.heap.size + 3 ∨ b = w.heap.size + 2) w3 (((w3.setCell ⟨w.heap.size + 3, 1, none⟩ (.slice Av2 R.length cv2)).setCell ⟨w.heap.size + 2, 0, none⟩ (.slice Av nodes.length cv)).setCell ⟨w.heap.size + 2, 1, none⟩ (.slice Av2 R.length cv2)) :=
        (((kp_set w3 _ _ _).mono fun b _ e => .inl e).trans' (kp_set _ _ _ _) fun b _ e => .inr e).trans' (kp_set _ _ _ _) fun b _ e => .inr e
      obtain ⟨q0, q1⟩ := q.c2
      have hne : ∀ {u : Value} {n : Nat} {e : TypeId} {us : List Value} {B : Nat}, W0.heap.size ≤ B → w3.ownsRow B e 1 u n us → (((w3.setCell ⟨w.heap.size + 3, 1, none⟩ (.slice Av2 R.length cv2)).setCell ⟨w.heap.size + 2, 0, none⟩ (.slice Av nodes.length cv)).setCell ⟨w.heap.size + 2, 1, none⟩ (.slice Av2 R.length cv2)).ownsRow B e 1 u n us :=
        fun hB h => own_kp h hkk fun b hb e => by have := (own_lt h hb).1; have := HZ0.out; omega
      refine bodyPost_ret (v := .agg #[.slice Av nodes.length cv, .slice Av2 R.length cv2]) (by simp [results, Tryd.results76, go_sem, q0, q1]) rfl ⟨_, _, rfl, (own_rows_in (hne (Nat.le_refl _) HA3.out.out) fun i a b => hne (Nat.le_refl _) (HA3.out.row i a b)).mono fun b _ hb => ?_, (by rw [HRR.out]; exact IntsIn.of_own (F := Hi w.heap.size) (hne HSZ.out HOW.out) fun g hg => by have := (own_lt HOW.out hg).1; have := HSZ.out; have := HZ0.out; unfold Hi; omega), HKF.out.trans' hkk fun b hb e => ?_⟩
      · unfold Hi at hb ⊢; omega
      · omega

/-- what Sweep leaves -/
def SweepPost (w : World) (l : List Int) (outs : List (List Int)) (roots : List Int) (e : Ending) (w' : World) : Prop :=
  ∃ v vo vr, e = .returned (.tuple #[v, .agg #[vo, vr], .nilIface]) ∧ IntsIn w' (Hi w.heap.size) v l ∧ RowsIn w' (Hi w.heap.size) vo outs ∧ IntsIn w' (Hi w.heap.size) vr roots ∧ Kp No w w'

theorem left_vd {outs : List (List Int)} {roots : List Int} (hok : Ok outs roots) : Vd outs.length (leftL (reachN outs roots)) := by
  refine ⟨?_, fun x hx => ?_⟩
  · unfold leftL bitsTo
    have : ((List.range 12).filter fun i => (reachN outs roots).testBit i).Nodup := List.Pairwise.filter _ List.nodup_range
    exact List.Pairwise.map _ (fun a b h e => h (by omega)) this
  · unfold leftL at hx
    obtain ⟨i, hi, rfl⟩ := List.mem_map.1 hx
    have := ((reachN_bit hok).1 (mem_bitsTo.1 hi).2).range hok
    omega
theorem mem_left {outs : List (List Int)} {roots : List Int} (hok : Ok outs roots) {x : Int} : x ∈ leftL (reachN outs roots) ↔ Comes outs roots x := by
  unfold leftL
  constructor
  · intro hx
    obtain ⟨i, hi, rfl⟩ := List.mem_map.1 hx
    exact (reachN_bit hok).1 (mem_bitsTo.1 hi).2
  · intro hx
    have hr := hx.range hok
    have := hok.n12
    refine List.mem_map.2 ⟨x.toNat, mem_bitsTo.2 ⟨by omega, (reachN_bit hok).2 (by rw [Int.toNat_of_nonneg hr.1]; exact hx)⟩, by omega⟩

/-- the heap that is left -/
def leftO (outs : List (List Int)) (roots : List Int) : List (List Int) := rowsOf outs (leftL (reachN outs roots)) (leftL (reachN outs roots)).length
def leftR (outs : List (List Int)) (roots : List Int) : List Int := renum (leftL (reachN outs roots)) roots

set_option maxRecDepth 100000 in
set_option maxHeartbeats 2000000 in
theorem sweep_ok {F : Nat → Prop} (vo vr : Value) (outs : List (List Int)) (roots : List Int) (w : World) (ho : RowsIn w F vo outs) (hr : IntsIn w F vr roots) (hok : Ok outs roots) :
    Calls Tryd.prog 49 #[.agg #[vo, vr]] w (SweepPost w (leftL (reachN outs roots)) (leftO outs roots) (leftR outs roots)) := by
  obtain ⟨Ao, co, rfl, hco, hmo, _⟩ := RowsIn.form ho
  obtain ⟨Ar, cr, rfl, hcr, hmr, _⟩ := id hr
  have HO := hide ho
  have HR := hide hr
  have HOK := hide hok
  have HVD := hide (left_vd hok)
  have HM := hide (fun x => mem_left hok (x := x))
  have HRL := hide (reachN_lt hok)
  clear ho hr hok
  go_enter Tryd.func49, Tryd.ntmps49
  go_wp2_with fail
  have HK0 := hide (((Kp.refl No w).alloc (.cells #[.slice Ao outs.length co, .slice Ar roots.length cr] 25)).alloc (.cells #[.slice none 0 0, .slice none 0 0] 25))
  have HB0 := hide ((Blk.new w 25 #[.slice Ao outs.length co, .slice Ar roots.length cr]).alloc (.cells #[.slice none 0 0, .slice none 0 0] 25))
  have hc0 : Blk ((w.alloc (.cells #[.slice Ao outs.length co, .slice Ar roots.length cr] 25)).alloc (.cells #[.slice none 0 0, .slice none 0 0] 25)) (w.heap.size + 1) 25 #[.slice none 0 0, .slice none 0 0] := Blk.at_ _ _ (by simp)
  have HC0 := hide hc0
  clear hc0
  refine Calls.mono (reach_ok _ _ outs roots _ (HO.out.no HK0.out) (HR.out.no HK0.out) HOK.out) ?_
  rintro e w1 ⟨rfl, hk1⟩
  have HK1 := hide (HK0.out.trans hk1)
  have HB1 := hide (HB0.out.no' hk1)
  have HC1 := hide (HC0.out.no' hk1)
  obtain ⟨s, hs⟩ : ∃ s, reachN outs roots = s := ⟨_, rfl⟩
  rw [hs] at HVD HM HRL
  have HSE := hide hs
  rw [hs]
  clear hk1 hs
  go_wp2_with fail
  refine Calls.mono (bits_any _ _) ?_
  rintro e w2 ⟨rfl, hw2⟩
  have HK2 := hide (show Kp No w1 w2 by rw [hw2]; exact (Kp.refl No w1).alloc _)
  have HS2 := hide (show Blk w2 w1.heap.size 3 #[.int .i64 s] by rw [hw2]; exact Blk.new w1 _ _)
  clear hw2
  go_wp2_with fail
  refine Calls.mono (collect_any s w1.heap.size HRL.out _ HS2.out) ?_
  rintro e w3 ⟨v, rfl, hv, hk3⟩
  have HK3 := hide (HK2.out.trans hk3)
  have HV3 := hide hv
  have HS2' := hide (show w.heap.size + 1 < w2.heap.size from (HC1.out.no' HK2.out).lt)
  obtain ⟨Av, cv, rfl, hcv, hmv, _⟩ := id hv
  have HB3 := hide (HB1.out.no' HK3.out)
  have HC3 := hide (HC1.out.no' HK3.out)
  obtain ⟨b1, b2, b3, b4, b5⟩ := HB3.out.a2
  clear hv hk3
  go_wp2_with fail
  refine Calls.mono (anew_any _ _ _ outs roots (leftL s) _ (HO.out.no (HK1.out.trans HK3.out)) (HR.out.no (HK1.out.trans HK3.out)) HOK.out HV3.out HVD.out (fun x hx => (HM.out x).2 (.root hx)) (fun x hx y hy => (HM.out y).2 (.next ((HM.out x).1 hx) hy))) ?_
  rintro e w4 ⟨vo', vr', rfl, ho', hr', hk4⟩
  obtain ⟨Ao', co', rfl, _⟩ := RowsIn.form ho'
  obtain ⟨Ar', cr', rfl, _⟩ := id hr'
  have HO' := hide (ho'.mono (F' := Hi w3.heap.size) fun b _ h => h)
  have HR' := hide hr'
  have HC4 := hide (HC3.out.no' hk4)
  have HV4 := hide (HV3.out.no hk4)
  have HK4 := hide ((HK1.out.trans HK3.out).trans hk4)
  have HSZ := hide (show w.heap.size + 1 < w3.heap.size from HC3.out.lt)
  clear hk4 ho' hr' b1 b2 b3 b4 b5
  obtain ⟨b1, b2, b3, b4, b5⟩ := HC4.out.a2
  go_wp2
  have q : Blk ((w4.setCell ⟨w.heap.size + 1, 0, none⟩ (.slice Ao' (rowsOf outs (leftL s) (leftL s).length).length co')).setCell ⟨w.heap.size + 1, 1, none⟩ (.slice Ar' (renum (leftL s) roots).length cr')) (w.heap.size + 1) 25 #[.slice Ao' (rowsOf outs (leftL s) (leftL s).length).length co', .slice Ar' (renum (leftL s) roots).length cr'] := (HC4.out.set_ 0 _).set_ 1 _
  have hkk : Kp (At (w.heap.size + 1)) w4 ((w4.setCell ⟨w.heap.size + 1, 0, none⟩ (.slice Ao' (rowsOf outs (leftL s) (leftL s).length).length co')).setCell ⟨w.heap.size + 1, 1, none⟩ (.slice Ar' (renum (leftL s) roots).length cr')) := (kp_set _ _ _ _).trans (kp_set _ _ _ _)
  obtain ⟨q0, q1⟩ := q.c2
  have hfar : ∀ b, Hi w2.heap.size b → ¬ At (w.heap.size + 1) b := fun b hb e => by unfold Hi at hb; unfold At at e; have := HS2'.out; omega
  have hfar3 : ∀ b, Hi w3.heap.size b → ¬ At (w.heap.size + 1) b := fun b hb e => by unfold Hi at hb; unfold At at e; have := HSZ.out; omega
  refine bodyPost_ret (v := .tuple #[.slice Av (leftL s).length cv, .agg #[.slice Ao' (rowsOf outs (leftL s) (leftL s).length).length co', .slice Ar' (renum (leftL s) roots).length cr'], .nilIface]) (by simp [results, Tryd.results49, go_sem, q0, q1]) rfl ⟨_, _, _, rfl, ?_, ?_, ?_, HK4.out.trans' hkk fun b hb e => by unfold At at e; omega⟩
  · rw [HSE.out]
    exact (HV4.out.kp hkk hfar).mono fun b _ hb => by unfold Hi at hb ⊢; have := HS2'.out; omega
  · rw [show leftO outs roots = rowsOf outs (leftL s) (leftL s).length by unfold leftO; rw [HSE.out]]
    exact (HO'.out.kp hkk hfar3).mono fun b _ hb => by unfold Hi at hb ⊢; have := HSZ.out; omega
  · rw [show leftR outs roots = renum (leftL s) roots by unfold leftR; rw [HSE.out]]
    exact (HR'.out.kp hkk hfar3).mono fun b _ hb => by unfold Hi at hb ⊢; have := HSZ.out; omega

theorem sweep_bad {F : Nat → Prop} (vo vr : Value) (outs : List (List Int)) (roots : List Int) (w : World) (ho : RowsIn w F vo outs) (hr : IntsIn w F vr roots) (hbad : chk outs roots ≠ 0) :
    Calls Tryd.prog 49 #[.agg #[vo, vr]] w fun e w' => e = .returned (.tuple #[.slice none 0 0, .agg #[.slice none 0 0, .slice none 0 0], .iface 84 (.int .i64 (chk outs roots))]) ∧ Kp No w w' := by
  have HO := hide ho
  have HR := hide hr
  have HB := hide hbad
  clear ho hr hbad
  go_enter Tryd.func49, Tryd.ntmps49
  go_wp2_with fail
  have HK0 := hide (((Kp.refl No w).alloc (.cells #[vo, vr] 25)).alloc (.cells #[.slice none 0 0, .slice none 0 0] 25))
  have hc0 : Blk ((w.alloc (.cells #[vo, vr] 25)).alloc (.cells #[.slice none 0 0, .slice none 0 0] 25)) (w.heap.size + 1) 25 #[.slice none 0 0, .slice none 0 0] := Blk.at_ _ _ (by simp)
  have HC0 := hide hc0
  clear hc0
  refine Calls.mono (reach_bad _ _ outs roots _ (HO.out.no HK0.out) (HR.out.no HK0.out) HB.out) ?_
  rintro e w1 ⟨rfl, hk1⟩
  have HK1 := hide (HK0.out.trans hk1)
  have HC1 := hide (HC0.out.no' hk1)
  obtain ⟨c, hc⟩ : ∃ c, chk outs roots = c := ⟨_, rfl⟩
  have HCE := hide hc
  rw [hc]
  clear hk1 hc
  obtain ⟨b1, b2, b3, b4, b5⟩ := HC1.out.a2
  go_wp2
  have q : Blk ((w1.setCell ⟨w.heap.size + 1, 0, none⟩ (.slice none 0 0)).setCell ⟨w.heap.size + 1, 1, none⟩ (.slice none 0 0)) (w.heap.size + 1) 25 #[.slice none 0 0, .slice none 0 0] := (HC1.out.set_ 0 _).set_ 1 _
  obtain ⟨q0, q1⟩ := q.c2
  refine bodyPost_ret (v := .tuple #[.slice none 0 0, .agg #[.slice none 0 0, .slice none 0 0], .iface 84 (.int .i64 c)]) (by simp [results, Tryd.results49, go_sem, q0, q1]) rfl ⟨by rw [HCE.out], ?_⟩
  exact HK1.out.trans' ((kp_set _ _ _ _).trans (kp_set _ _ _ _)) fun b hb e => by unfold At at e; omega
end Go.Proofs.YtgbdjidjbcbhjaaDoor
