/- The document's answer, walked: Do of a heap that counts: root, drop, link, cut. -/
import Derived.Test.YtiibadganlincaaDoorRefDo0
namespace Go.Proofs.YtiibadganlincaaDoor
open Go.RowKit
set_option linter.unusedSimpArgs false

theorem putI_end (xs : List Int) (x : Int) : putI xs xs.length x = xs ++ [x] := by unfold putI; rw [List.take_length, List.drop_length]
theorem erase_le (l : List Int) (x : Int) : (l.erase x).length ≤ l.length := List.length_erase_le ..
theorem few_set {o : List (List Int)} {n : Nat} {l : List Int} (h : ∀ l ∈ o, l.length ≤ 4) (hl : l.length ≤ 4) : ∀ r ∈ o.set n l, r.length ≤ 4 := fun r hr => by
  rcases List.mem_or_eq_of_mem_set hr with h' | rfl
  · exact h r h'
  · exact hl
/-- what is swept is told -/
theorem rswept_mid {F : Nat → Prop} {vo vr vh : Value} {w W : World} {X : Nat} (s t : Cn) (h : DoSt w F X vo vr vh (rcOf s) W) (hF : ∀ b, w.heap.size ≤ b → F b) (hlen : s.gone.length = s.outs.length) (hn : s.outs.length ≤ 12) (hr : s.roots.length ≤ 12) (hf : ∀ l ∈ s.outs, l.length ≤ 4) (ht : sweptR (rcOf s) = rcOf t) :
    Calls Tryd.prog 24 #[.agg #[vo, vr, vh]] W fun e w' => ∃ vo' vr' vh', e = .returned (.agg #[vo', vr', vh']) ∧ RcIs w' (fun b => F b ∧ b ≠ X ∧ b ≠ X + 1) vo' vr' vh' (rcOf t) ∧ Kp No W w' := by
  have := rswept_any vo vr vh (rcOf s) W h.rc (by unfold rcOf; rw [List.length_map]; exact hlen) hn hr hf (h.new hF)
  rw [ht] at this
  exact this

set_option maxRecDepth 100000 in
set_option maxHeartbeats 4000000 in
theorem rdo_root {F : Nat → Prop} (vo vr vh : Value) (s : Cn) (i j : Int) (w : World) (h : RcIs w F vo vr vh (rcOf s)) (hP : PInv s []) (hF : ∀ b, w.heap.size ≤ b → F b) (hi : isB s i = true) :
    Calls Tryd.prog 6 #[.agg #[vo, vr, vh], .int .i64 1, .int .i64 i, .int .i64 j] w (RDoPost F w (rootS s i) 0 (rootE s i)) := by
  obtain ⟨Ao, co, Ar, cr, Ah, ch, rfl, rfl, rfl⟩ := h.slices
  have HS := hide (DoSt.start h)
  have HI := hide (fun x (W : World) hW => ris_any _ _ _ (rcOf s) x W (HS.out.rc.no hW))
  have HIB := hide (isR_isB hP)
  have HP := hide hP
  have HF := hide hF
  have HIs := hide hi
  obtain ⟨W, hW⟩ : ∃ W, (w.alloc (.cells #[.slice Ao (rcOf s).outs.length co, .slice Ar (rcOf s).roots.length cr, .slice Ah (rcOf s).here.length ch] 28)).alloc (.cells #[.slice none 0 0, .slice none 0 0, .slice none 0 0] 28) = W := ⟨_, rfl⟩
  rw [hW] at HS HI
  have HW := hide hW
  obtain ⟨x1, x2, x3, x4, x5, x6, x7⟩ := HS.out.box.a3
  clear h hP hF hW hi
  go_enter Tryd.func6, Tryd.ntmps6
  go_upto_region 1 with fail
  rw [HW.out]
  go_wp2_with fail
  refine Calls.mono (HI.out i W (Kp.refl _ _)) ?_
  rw [HIB.out, HIs.out]
  rintro e w5 ⟨rfl, hk5⟩
  have HK5 := hide hk5
  have HS5 := hide (HS.out.no hk5)
  clear hk5 x1 x2 x3 x4 x5 x6 x7
  obtain ⟨x1, x2, x3, x4, x5, x6, x7⟩ := HS5.out.box.a3
  have HRR := hide HP.out.r12
  by_cases h12 : (rcOf s).roots.length < 12
  · have h12' : ¬ (12 : Int) ≤ ((rcOf s).roots.length : Int) := by omega
    have HE := hide (show rootE s i = 0 by unfold rootE; rw [if_pos HIs.out, if_neg (by have h : s.roots.length < 12 := h12; omega)])
    have HPUT := hide (put_any _ (rcOf s).roots (rcOf s).roots.length i w5 HS5.out.rc.root (Nat.le_refl _) (by omega))
    go_wp2_with fail
    refine Calls.mono HPUT.out ?_
    rintro e w6 ⟨v6, rfl, hi6, hk6⟩
    obtain ⟨A6, c6, rfl, _⟩ := id hi6
    have HSZ := hide HS5.out.size
    have HN5 := hide (HS5.out.new HF.out)
    have HI6 := hide (hi6.mono (F' := fun b => F b ∧ b ≠ w.heap.size ∧ b ≠ w.heap.size + 1) fun b _ hb => HN5.out b hb)
    have HS6 := hide (HS5.out.no hk6)
    clear hi6 hk6 HPUT x1 x2 x3 x4 x5 x6 x7
    obtain ⟨x1, x2, x3, x4, x5, x6, x7⟩ := HS6.out.box.a3
    have HS7 := hide (HS6.out.roots HI6.out)
    have HPE := hide (putI_end (rcOf s).roots i)
    rw [HPE.out, List.length_append, List.length_singleton] at HS7
    rw [HPE.out]
    go_upto_region 31 with fail
    obtain ⟨W8, hW8⟩ : ∃ W8, w6.setCell ⟨w.heap.size, 1, none⟩ (.slice A6 ((rcOf s).roots.length + 1) c6) = W8 := ⟨_, rfl⟩
    rw [hW8] at HS7 ⊢
    have HS8 := hide (show DoSt w F w.heap.size (.slice Ao (rcOf s).outs.length co) (.slice A6 ((rcOf s).roots.length + 1) c6) (.slice Ah (rcOf s).here.length ch) (rcOf { s with roots := s.roots ++ [i] }) W8 from HS7.out)
    have HG := hide (show s.gone.length = s.outs.length ∧ s.outs.length ≤ 12 ∧ (s.roots ++ [i]).length ≤ 12 ∧ (∀ l ∈ s.outs, l.length ≤ 4) from ⟨HP.out.glen, HP.out.n12, by rw [List.length_append, List.length_singleton]; exact h12, HP.out.few⟩)
    clear hW8 HS7 HS6 HI6 HS5 x1 x2 x3 x4 x5 x6 x7 h12 h12'
    have HSW := hide (rswept_mid { s with roots := s.roots ++ [i] } (rootS s i) HS8.out HF.out HG.out.1 HG.out.2.1 HG.out.2.2.1 HG.out.2.2.2 (swept_root HP.out HE.out))
    obtain ⟨x1, x2, x3, x4, x5, x6, x7⟩ := HS8.out.box.a3
    go_wp2_with fail
    refine Calls.mono HSW.out ?_
    rintro e w9 ⟨uo, ur, uh, rfl, hrc9, hk9⟩
    obtain ⟨Bo, bo, Br, br, Bh, bh, rfl, rfl, rfl⟩ := hrc9.slices
    have HS9 := hide (HS8.out.no hk9)
    have HRC9 := hide hrc9
    clear hk9 hrc9 x1 x2 x3 x4 x5 x6 x7
    obtain ⟨y1, y2, y3, y4, y5, y6, y7⟩ := HS9.out.res.a3
    go_wp2_with fail
    obtain ⟨t1, t2, t3, t4, t5⟩ := HS9.out.tell' HRC9.out
    refine bodyPost_ret (v := .tuple #[.agg #[.slice Bo (rcOf (rootS s i)).outs.length bo, .slice Br (rcOf (rootS s i)).roots.length br, .slice Bh (rcOf (rootS s i)).here.length bh], .int .i64 0, .int .i64 0]) (by simp [results, Tryd.results6, go_sem, t2, t3, t4]) rfl ?_
    exact ⟨_, _, _, by rw [HE.out]; rfl, t1, t5⟩
  · have HE := hide (show rootE s i = 4 ∧ rootS s i = s from by
      have e : rootE s i = 4 := by unfold rootE; rw [if_pos HIs.out, if_pos (by have h : ¬ s.roots.length < 12 := h12; have := HRR.out; omega)]
      exact ⟨e, by unfold rootS; rw [e, if_neg (by decide)]⟩)
    obtain ⟨y1, y2, y3, y4, y5, y6, y7⟩ := HS5.out.res.a3
    go_wp2_with fail
    obtain ⟨t1, t2, t3, t4, t5⟩ := HS5.out.tell
    refine bodyPost_ret (v := .tuple #[.agg #[.slice Ao (rcOf s).outs.length co, .slice Ar (rcOf s).roots.length cr, .slice Ah (rcOf s).here.length ch], .int .i64 0, .int .i64 4]) (by simp [results, Tryd.results6, go_sem, t2, t3, t4]) rfl ?_
    exact ⟨_, _, _, by rw [HE.out.1]; rfl, by rw [HE.out.2]; exact t1, t5⟩

set_option maxRecDepth 100000 in
set_option maxHeartbeats 4000000 in
theorem rdo_drop {F : Nat → Prop} (vo vr vh : Value) (s : Cn) (i j : Int) (w : World) (h : RcIs w F vo vr vh (rcOf s)) (hP : PInv s []) (hF : ∀ b, w.heap.size ≤ b → F b) (hi : isB s i = true) :
    Calls Tryd.prog 6 #[.agg #[vo, vr, vh], .int .i64 2, .int .i64 i, .int .i64 j] w (RDoPost F w (dropS s i) 0 (dropE s i)) := by
  obtain ⟨Ao, co, Ar, cr, Ah, ch, rfl, rfl, rfl⟩ := h.slices
  have HS := hide (DoSt.start h)
  have HI := hide (fun x (W : World) hW => ris_any _ _ _ (rcOf s) x W (HS.out.rc.no hW))
  have HIB := hide (isR_isB hP)
  have HP := hide hP
  have HF := hide hF
  have HIs := hide hi
  obtain ⟨W, hW⟩ : ∃ W, (w.alloc (.cells #[.slice Ao (rcOf s).outs.length co, .slice Ar (rcOf s).roots.length cr, .slice Ah (rcOf s).here.length ch] 28)).alloc (.cells #[.slice none 0 0, .slice none 0 0, .slice none 0 0] 28) = W := ⟨_, rfl⟩
  rw [hW] at HS HI
  have HW := hide hW
  obtain ⟨x1, x2, x3, x4, x5, x6, x7⟩ := HS.out.box.a3
  clear h hP hF hW hi
  go_enter Tryd.func6, Tryd.ntmps6
  go_upto_region 1 with fail
  rw [HW.out]
  go_wp2_with fail
  refine Calls.mono (HI.out i W (Kp.refl _ _)) ?_
  rw [HIB.out, HIs.out]
  rintro e w5 ⟨rfl, hk5⟩
  have HK5 := hide hk5
  have HS5 := hide (HS.out.no hk5)
  clear hk5 x1 x2 x3 x4 x5 x6 x7
  obtain ⟨x1, x2, x3, x4, x5, x6, x7⟩ := HS5.out.box.a3
  have HRR := hide HP.out.r12
  have HHAS := hide (has_any _ (rcOf s).roots i w5 HS5.out.rc.root)
  go_wp2_with fail
  refine Calls.mono HHAS.out ?_
  cases hb : hasB (rcOf s).roots i with
  | true =>
    have HE := hide (show dropE s i = 0 by unfold dropE; rw [if_pos HIs.out, if_pos (show i ∈ s.roots from hasB_mem.1 hb)])
    have HPUT := hide (rwithout_any _ (rcOf s).roots i w5 HS5.out.rc.root (Nat.le_trans HRR.out (by omega)))
    clear hb HHAS
    rintro e w5' ⟨rfl, rfl⟩
    go_wp2_with fail
    refine Calls.mono HPUT.out ?_
    rintro e w6 ⟨v6, rfl, hi6, hk6⟩
    obtain ⟨A6, c6, rfl, _⟩ := id hi6
    have HN5 := hide (HS5.out.new HF.out)
    have HI6 := hide (hi6.mono (F' := fun b => F b ∧ b ≠ w.heap.size ∧ b ≠ w.heap.size + 1) fun b _ hb => HN5.out b hb)
    have HS6 := hide (HS5.out.no hk6)
    clear hi6 hk6 HPUT x1 x2 x3 x4 x5 x6 x7
    obtain ⟨x1, x2, x3, x4, x5, x6, x7⟩ := HS6.out.box.a3
    have HS7 := hide (HS6.out.roots HI6.out)
    have HEL := hide (show ((rcOf s).roots.erase i).length ≤ 12 from Nat.le_trans (erase_le _ _) HRR.out)
    obtain ⟨l, hl⟩ : ∃ l, ((rcOf s).roots.erase i).length = l := ⟨_, rfl⟩
    rw [hl] at HS7 ⊢
    have HLE := hide hl
    clear hl
    go_upto_region 31 with fail
    obtain ⟨W8, hW8⟩ : ∃ W8, w6.setCell ⟨w.heap.size, 1, none⟩ (.slice A6 l c6) = W8 := ⟨_, rfl⟩
    rw [hW8] at HS7 ⊢
    have HS8 := hide (show DoSt w F w.heap.size (.slice Ao (rcOf s).outs.length co) (.slice A6 l c6) (.slice Ah (rcOf s).here.length ch) (rcOf { s with roots := s.roots.erase i }) W8 from HS7.out)
    have HG := hide (show s.gone.length = s.outs.length ∧ s.outs.length ≤ 12 ∧ (s.roots.erase i).length ≤ 12 ∧ (∀ l ∈ s.outs, l.length ≤ 4) from ⟨HP.out.glen, HP.out.n12, HEL.out, HP.out.few⟩)
    clear hW8 HS7 HS6 HI6 HS5 x1 x2 x3 x4 x5 x6 x7
    have HSW := hide (rswept_mid { s with roots := s.roots.erase i } (dropS s i) HS8.out HF.out HG.out.1 HG.out.2.1 HG.out.2.2.1 HG.out.2.2.2 (swept_drop HP.out HE.out))
    obtain ⟨x1, x2, x3, x4, x5, x6, x7⟩ := HS8.out.box.a3
    go_wp2_with fail
    refine Calls.mono HSW.out ?_
    rintro e w9 ⟨uo, ur, uh, rfl, hrc9, hk9⟩
    obtain ⟨Bo, bo, Br, br, Bh, bh, rfl, rfl, rfl⟩ := hrc9.slices
    have HS9 := hide (HS8.out.no hk9)
    have HRC9 := hide hrc9
    clear hk9 hrc9 x1 x2 x3 x4 x5 x6 x7
    obtain ⟨y1, y2, y3, y4, y5, y6, y7⟩ := HS9.out.res.a3
    go_wp2_with fail
    obtain ⟨t1, t2, t3, t4, t5⟩ := HS9.out.tell' HRC9.out
    refine bodyPost_ret (v := .tuple #[.agg #[.slice Bo (rcOf (dropS s i)).outs.length bo, .slice Br (rcOf (dropS s i)).roots.length br, .slice Bh (rcOf (dropS s i)).here.length bh], .int .i64 0, .int .i64 0]) (by simp [results, Tryd.results6, go_sem, t2, t3, t4]) rfl ?_
    exact ⟨_, _, _, by rw [HE.out]; rfl, t1, t5⟩
  | false =>
    have HE := hide (show dropE s i = 5 ∧ dropS s i = s from by
      have e : dropE s i = 5 := by unfold dropE; rw [if_pos HIs.out, if_neg (fun h => by rw [show hasB (rcOf s).roots i = true from hasB_mem.2 h] at hb; cases hb)]
      exact ⟨e, by unfold dropS; rw [e, if_neg (by decide)]⟩)
    clear hb HHAS
    rintro e w5' ⟨rfl, rfl⟩
    obtain ⟨y1, y2, y3, y4, y5, y6, y7⟩ := HS5.out.res.a3
    go_wp2_with fail
    obtain ⟨t1, t2, t3, t4, t5⟩ := HS5.out.tell
    refine bodyPost_ret (v := .tuple #[.agg #[.slice Ao (rcOf s).outs.length co, .slice Ar (rcOf s).roots.length cr, .slice Ah (rcOf s).here.length ch], .int .i64 0, .int .i64 5]) (by simp [results, Tryd.results6, go_sem, t2, t3, t4]) rfl ?_
    exact ⟨_, _, _, by rw [HE.out.1]; rfl, by rw [HE.out.2]; exact t1, t5⟩

set_option maxRecDepth 100000 in
set_option maxHeartbeats 4000000 in
theorem rdo_link {F : Nat → Prop} (vo vr vh : Value) (s : Cn) (i j : Int) (w : World) (h : RcIs w F vo vr vh (rcOf s)) (hP : PInv s []) (hF : ∀ b, w.heap.size ≤ b → F b) (hi : isB s i = true) (hj : isB s j = true) :
    Calls Tryd.prog 6 #[.agg #[vo, vr, vh], .int .i64 3, .int .i64 i, .int .i64 j] w (RDoPost F w (linkS s i j) 0 (linkE s i j)) := by
  obtain ⟨Ao, co, Ar, cr, Ah, ch, rfl, rfl, rfl⟩ := h.slices
  have HS := hide (DoSt.start h)
  have HI := hide (fun x (W : World) hW => ris_any _ _ _ (rcOf s) x W (HS.out.rc.no hW))
  have HIB := hide (isR_isB hP)
  have HP := hide hP
  have HF := hide hF
  have HIs := hide hi
  have HJs := hide hj
  clear hj
  obtain ⟨W, hW⟩ : ∃ W, (w.alloc (.cells #[.slice Ao (rcOf s).outs.length co, .slice Ar (rcOf s).roots.length cr, .slice Ah (rcOf s).here.length ch] 28)).alloc (.cells #[.slice none 0 0, .slice none 0 0, .slice none 0 0] 28) = W := ⟨_, rfl⟩
  rw [hW] at HS HI
  have HW := hide hW
  obtain ⟨x1, x2, x3, x4, x5, x6, x7⟩ := HS.out.box.a3
  clear h hP hF hW hi
  go_enter Tryd.func6, Tryd.ntmps6
  go_upto_region 1 with fail
  rw [HW.out]
  go_wp2_with fail
  refine Calls.mono (HI.out i W (Kp.refl _ _)) ?_
  rw [HIB.out, HIs.out]
  rintro e w5 ⟨rfl, hk5⟩
  have HK5 := hide hk5
  have HS5 := hide (HS.out.no hk5)
  clear hk5 x1 x2 x3 x4 x5 x6 x7
  obtain ⟨x1, x2, x3, x4, x5, x6, x7⟩ := HS5.out.box.a3
  go_wp2_with fail
  refine Calls.mono (HI.out j _ HK5.out) ?_
  rw [HIB.out, HJs.out]
  rintro e w6 ⟨rfl, hk6⟩
  have HS5 := hide (HS5.out.no hk6)
  clear hk6 x1 x2 x3 x4 x5 x6 x7
  obtain ⟨x1, x2, x3, x4, x5, x6, x7⟩ := HS5.out.box.a3
  obtain ⟨⟨hi0, hi1⟩, _⟩ := isB_iff.1 HIs.out
  obtain ⟨x, rfl⟩ := Int.eq_ofNat_of_zero_le hi0
  have hxn : x < (rcOf s).outs.length := by have h : (x : Int) < (s.outs.length : Int) := hi1; show x < s.outs.length; omega
  have hadj : (rcOf s).outs[x] = adj s.outs (x : Int) := by rw [adj_eq (show ((x : Nat) : Int).toNat < s.outs.length by rw [Int.toNat_natCast]; exact hxn)]; rfl
  have HXN := hide hxn
  have HFEW := hide (show (adj s.outs (x : Int)).length ≤ 4 from HP.out.ok.adjFew (x := (x : Int)))
  have HSET := hide (fun l => show (rcOf { s with outs := s.outs.set x l }).outs = (rcOf s).outs.set x l from rfl)
  obtain ⟨_, _, e, hco, hmo, hrow⟩ := HS5.out.rc.out.form
  cases e
  obtain ⟨b, o, A', c', rfl, _, hrc, hri⟩ := hrow x hxn
  rw [hadj] at hrc hri
  have HRI := hide hri
  have HRC := hide (show ∀ W, Kp No w6 W → W.cell? ⟨b, o + x, none⟩ = some (.slice A' (adj s.outs (x : Int)).length c') from fun W hW => hW.cell hrc id)
  have hxl : (x : Int) < ((rcOf s).outs.length : Int) := by omega
  clear hrow hadj hri hi1
  obtain ⟨L, hL⟩ : ∃ L, adj s.outs (x : Int) = L := ⟨_, rfl⟩
  rw [hL] at HRC HRI HFEW hrc
  by_cases h4 : L.length < 4
  · have h4' : ¬ (4 : Int) ≤ (L.length : Int) := by omega
    have HE := hide (show linkE s (x : Int) j = 0 by unfold linkE; rw [if_pos ⟨HIs.out, HJs.out⟩, hL, if_neg (by omega)])
    have HLL := hide hL
    clear hL
    go_wp2_with fail
    refine plan_start 19 (by kernel_rfl) rfl (fun hPT => ?_)
    refine plan_take (i := 0) (v := ?_) rfl (by kernel_rfl) (by kernel_rfl) (by kernel_rfl) (fun _ _ _ h => h) hPT (by rfl) ?_ ?_
    rotate_left
    · (intro w; go_simp; with_reducible rfl)
    (clear hPT; intro hPT; simp only [List.getElem_toArray, List.getElem_cons_zero, List.getElem_cons_succ, Act.put, List.setIfInBounds_toArray, List.set_cons_zero, List.set_cons_succ])
    refine plan_take (i := 2) (v := ?_) rfl (by kernel_rfl) (by kernel_rfl) (by kernel_rfl) (fun _ _ _ h => h) hPT (by rfl) ?_ ?_
    rotate_left
    · (intro w; go_simp; with_reducible rfl)
    (clear hPT; intro hPT; simp only [List.getElem_toArray, List.getElem_cons_zero, List.getElem_cons_succ, Act.put, List.setIfInBounds_toArray, List.set_cons_zero, List.set_cons_succ])
    refine plan_take (i := 3) (v := ?_) rfl (by kernel_rfl) (by kernel_rfl) (by kernel_rfl) (fun _ _ _ h => h) hPT (by rfl) ?_ ?_
    rotate_left
    · (intro w; go_simp; with_reducible rfl)
    (clear hPT; intro hPT; simp only [List.getElem_toArray, List.getElem_cons_zero, List.getElem_cons_succ, Act.put, List.setIfInBounds_toArray, List.set_cons_zero, List.set_cons_succ])
    refine plan_take (i := 5) (v := ?_) rfl (by kernel_rfl) (by kernel_rfl) (by kernel_rfl) (fun _ _ _ h => h) hPT (by rfl) ?_ ?_
    rotate_left
    · (intro w; go_simp; with_reducible rfl)
    (clear hPT; intro hPT; simp only [List.getElem_toArray, List.getElem_cons_zero, List.getElem_cons_succ, Act.put, List.setIfInBounds_toArray, List.set_cons_zero, List.set_cons_succ])
    refine plan_take (i := 8) (v := ?_) rfl (by kernel_rfl) (by kernel_rfl) (by kernel_rfl) (fun _ _ _ h => h) hPT (by rfl) ?_ ?_
    rotate_left
    · (intro w; go_simp; with_reducible rfl)
    (clear hPT; intro hPT; simp only [List.getElem_toArray, List.getElem_cons_zero, List.getElem_cons_succ, Act.put, List.setIfInBounds_toArray, List.set_cons_zero, List.set_cons_succ])
    refine plan_take (i := 10) (v := ?_) rfl (by kernel_rfl) (by kernel_rfl) (by kernel_rfl) (fun _ _ _ h => h) hPT (by rfl) ?_ ?_
    rotate_left
    · (intro w; go_simp; with_reducible rfl)
    (clear hPT; intro hPT; simp only [List.getElem_toArray, List.getElem_cons_zero, List.getElem_cons_succ, Act.put, List.setIfInBounds_toArray, List.set_cons_zero, List.set_cons_succ])
    refine plan_take (i := 14) (v := ?_) rfl (by kernel_rfl) (by kernel_rfl) (by kernel_rfl) (fun _ _ _ h => h) hPT (by rfl) ?_ ?_
    rotate_left
    · (intro w; go_simp; with_reducible rfl)
    (clear hPT; intro hPT; simp only [List.getElem_toArray, List.getElem_cons_zero, List.getElem_cons_succ, Act.put, List.setIfInBounds_toArray, List.set_cons_zero, List.set_cons_succ])
    refine plan_load (fun w' => w'.cell? ⟨w.heap.size, 0, none⟩ = some (.slice (some ⟨b, o, none⟩) (rcOf s).outs.length co)) (i := 1) (v := ?_) rfl (by kernel_rfl) (by kernel_rfl) (by kernel_rfl) (fun _ _ _ h => h) hPT (by rfl) ?_ ?_ ?_
    rotate_left
    · (first | assumption | (go_simp; done))
    · (intro w hSw; (try dsimp only at hSw); go_simp; with_reducible rfl)
    (clear hPT; intro hPT; simp only [List.getElem_toArray, List.getElem_cons_zero, List.getElem_cons_succ, Act.put, List.setIfInBounds_toArray, List.set_cons_zero, List.set_cons_succ])
    refine plan_load (fun w' => w'.cell? ⟨w.heap.size, 0, none⟩ = some (.slice (some ⟨b, o, none⟩) (rcOf s).outs.length co)) (i := 4) (v := ?_) rfl (by kernel_rfl) (by kernel_rfl) (by kernel_rfl) (fun _ _ _ h => h) hPT (by rfl) ?_ ?_ ?_
    rotate_left
    · (first | assumption | (go_simp; done))
    · (intro w hSw; (try dsimp only at hSw); go_simp; with_reducible rfl)
    (clear hPT; intro hPT; simp only [List.getElem_toArray, List.getElem_cons_zero, List.getElem_cons_succ, Act.put, List.setIfInBounds_toArray, List.set_cons_zero, List.set_cons_succ])
    refine plan_load (fun w' => w'.cell? ⟨w.heap.size, 0, none⟩ = some (.slice (some ⟨b, o, none⟩) (rcOf s).outs.length co)) (i := 9) (v := ?_) rfl (by kernel_rfl) (by kernel_rfl) (by kernel_rfl) (fun _ _ _ h => h) hPT (by rfl) ?_ ?_ ?_
    rotate_left
    · (first | assumption | (go_simp; done))
    · (intro w hSw; (try dsimp only at hSw); go_simp; with_reducible rfl)
    (clear hPT; intro hPT; simp only [List.getElem_toArray, List.getElem_cons_zero, List.getElem_cons_succ, Act.put, List.setIfInBounds_toArray, List.set_cons_zero, List.set_cons_succ])
    refine plan_take (i := 6) (v := ?_) rfl (by kernel_rfl) (by kernel_rfl) (by kernel_rfl) (fun _ _ _ h => h) hPT (by rfl) ?_ ?_
    rotate_left
    · (intro w; go_simp; with_reducible rfl)
    (clear hPT; intro hPT; simp only [List.getElem_toArray, List.getElem_cons_zero, List.getElem_cons_succ, Act.put, List.setIfInBounds_toArray, List.set_cons_zero, List.set_cons_succ])
    refine plan_take (i := 11) (v := ?_) rfl (by kernel_rfl) (by kernel_rfl) (by kernel_rfl) (fun _ _ _ h => h) hPT (by rfl) ?_ ?_
    rotate_left
    · (intro w; go_simp; with_reducible rfl)
    (clear hPT; intro hPT; simp only [List.getElem_toArray, List.getElem_cons_zero, List.getElem_cons_succ, Act.put, List.setIfInBounds_toArray, List.set_cons_zero, List.set_cons_succ])
    refine plan_load (fun w' => w'.cell? ⟨b, o + x, none⟩ = some (.slice A' L.length c')) (i := 7) (v := ?_) rfl (by kernel_rfl) (by kernel_rfl) (by kernel_rfl) (fun _ _ _ h => h) hPT (by rfl) ?_ ?_ ?_
    rotate_left
    · (first | assumption | (go_simp; done))
    · (intro w hSw; (try dsimp only at hSw); go_simp; with_reducible rfl)
    (clear hPT; intro hPT; simp only [List.getElem_toArray, List.getElem_cons_zero, List.getElem_cons_succ, Act.put, List.setIfInBounds_toArray, List.set_cons_zero, List.set_cons_succ])
    refine plan_load (fun w' => w'.cell? ⟨b, o + x, none⟩ = some (.slice A' L.length c')) (i := 12) (v := ?_) rfl (by kernel_rfl) (by kernel_rfl) (by kernel_rfl) (fun _ _ _ h => h) hPT (by rfl) ?_ ?_ ?_
    rotate_left
    · (first | assumption | (go_simp; done))
    · (intro w hSw; (try dsimp only at hSw); go_simp; with_reducible rfl)
    (clear hPT; intro hPT; simp only [List.getElem_toArray, List.getElem_cons_zero, List.getElem_cons_succ, Act.put, List.setIfInBounds_toArray, List.set_cons_zero, List.set_cons_succ])
    refine plan_take (i := 13) (v := ?_) rfl (by kernel_rfl) (by kernel_rfl) (by kernel_rfl) (fun _ _ _ h => h) hPT (by rfl) ?_ ?_
    rotate_left
    · (intro w; go_simp; with_reducible rfl)
    (clear hPT; intro hPT; simp only [List.getElem_toArray, List.getElem_cons_zero, List.getElem_cons_succ, Act.put, List.setIfInBounds_toArray, List.set_cons_zero, List.set_cons_succ])
    refine plan_one (i := 15) (by kernel_rfl) rfl (by rfl) (fun K hK => ?_)
    (try simp only [List.getElem_toArray, List.getElem_cons_zero, List.getElem_cons_succ, Act.put, List.setIfInBounds_toArray, List.set_cons_zero, List.set_cons_succ])
    go_simp
    refine Calls.mono (put_any _ L L.length j _ (HRI.out.no (by (repeat (first | exact Kp.refl _ _ | with_reducible refine Kp.drewN ?_ _ | with_reducible refine Kp.drew ?_ | with_reducible refine Kp.alloc ?_ _ | with_reducible refine Kp.setCell ?_ (fun _ => ?_) _)); all_goals (simp_all; omega))) (Nat.le_refl _) (by have := HFEW.out; omega)) ?_
    rintro e w7 ⟨v7, rfl, hi7, hk7⟩
    have HN6 := hide (HS5.out.new HF.out)
    have HK7 := hide (show Kp No w6 w7 from (show Kp No w6 _ from (by (repeat (first | exact Kp.refl _ _ | with_reducible refine Kp.drewN ?_ _ | with_reducible refine Kp.drew ?_ | with_reducible refine Kp.alloc ?_ _ | with_reducible refine Kp.setCell ?_ (fun _ => ?_) _)); all_goals (simp_all; omega))).trans hk7)
    have HI7 := hide (hi7.mono (F' := fun b => F b ∧ b ≠ w.heap.size ∧ b ≠ w.heap.size + 1) fun b _ hb => HN6.out b (by simpa [Hi] using hb))
    obtain ⟨A7, c7, rfl, _⟩ := id hi7
    clear hi7 hk7
    have HPE := hide (putI_end L j)
    rw [HPE.out] at HI7 ⊢
    refine hK.out _ _ _ (t_cons (HRC.out _ HK7.out) (t_cons (HRC.out _ HK7.out) (t_cons (HK7.out.cell x1 id) (t_cons (HK7.out.cell x1 id) (t_cons (HK7.out.cell x1 id) (t_nil _)))))) k_same (fun hPT' => ?_)
    (clear hPT hK K; have hPT := hPT'; clear hPT'; try simp only [List.getElem_toArray, List.getElem_cons_zero, List.getElem_cons_succ, Act.put, List.setIfInBounds_toArray, List.set_cons_zero, List.set_cons_succ])
    refine plan_one (i := 16) (by kernel_rfl) rfl (by rfl) (fun K hK => ?_)
    (try simp only [List.getElem_toArray, List.getElem_cons_zero, List.getElem_cons_succ, Act.put, List.setIfInBounds_toArray, List.set_cons_zero, List.set_cons_succ])
    go_simp
    rw [List.length_append, List.length_singleton] at HI7
    refine Calls.mono (routs_any _ _ (rcOf s).outs x (L ++ [j]) w7 (HS5.out.rc.out.no HK7.out) HI7.out HXN.out (Nat.le_trans HP.out.n12 (by omega)) (fun b hb => HN6.out b (Nat.le_trans HK7.out.size hb))) ?_
    rintro e w8 ⟨v8, rfl, ho8, hk8⟩
    obtain ⟨A8, c8, rfl, _⟩ := RowsIn.form ho8
    rw [List.length_set] at ho8 ⊢
    have HO8 := hide ho8
    have HK8 := hide (HK7.out.trans hk8)
    have HS6 := hide (HS5.out.no HK8.out)
    have hrc8 := HRC.out _ HK8.out
    have hx18 := HK8.out.cell x1 id
    clear ho8 hk8 x1 x2 x3 x4 x5 x6 x7
    obtain ⟨x1, x2, x3, x4, x5, x6, x7⟩ := HS6.out.box.a3
    refine hK.out _ _ _ (t_cons hrc8 (t_cons hrc8 (t_cons hx18 (t_cons hx18 (t_cons hx18 (t_nil _)))))) k_same (fun hPT' => ?_)
    (clear hPT hK K; have hPT := hPT'; clear hPT'; try simp only [List.getElem_toArray, List.getElem_cons_zero, List.getElem_cons_succ, Act.put, List.setIfInBounds_toArray, List.set_cons_zero, List.set_cons_succ])
    refine plan_take (i := 17) (v := ?_) rfl (by kernel_rfl) (by kernel_rfl) (by kernel_rfl) (fun _ _ _ h => h) hPT (by rfl) ?_ ?_
    rotate_left
    · (intro w; go_simp; with_reducible rfl)
    (clear hPT; intro hPT; simp only [List.getElem_toArray, List.getElem_cons_zero, List.getElem_cons_succ, Act.put, List.setIfInBounds_toArray, List.set_cons_zero, List.set_cons_succ])
    refine plan_one (i := 18) (by kernel_rfl) rfl (by rfl) (fun K hK => ?_)
    (try simp only [List.getElem_toArray, List.getElem_cons_zero, List.getElem_cons_succ, Act.put, List.setIfInBounds_toArray, List.set_cons_zero, List.set_cons_succ])
    go_simp
    refine hK.out [] _ _ (t_nil _) (k_drop (by kernel_rfl) (k_drop (by kernel_rfl) (k_drop (by kernel_rfl) (k_drop (by kernel_rfl) (k_drop (by kernel_rfl) k_nil))))) (fun hPT' => ?_)
    (clear hPT hK K; have hPT := hPT'; clear hPT'; try simp only [List.getElem_toArray, List.getElem_cons_zero, List.getElem_cons_succ, Act.put, List.setIfInBounds_toArray, List.set_cons_zero, List.set_cons_succ])
    refine plan_done (by kernel_rfl) ?_ _
    clear hPT
    go_upto_region 31 with fail
    have HS7 := hide (HS6.out.outs HO8.out)
    obtain ⟨W8, hW8⟩ : ∃ W8, w8.setCell ⟨w.heap.size, 0, none⟩ (.slice A8 (rcOf s).outs.length c8) = W8 := ⟨_, rfl⟩
    rw [hW8] at HS7 ⊢
    have HS8 := hide (show DoSt w F w.heap.size (.slice A8 (rcOf s).outs.length c8) (.slice Ar (rcOf s).roots.length cr) (.slice Ah (rcOf s).here.length ch) (rcOf { s with outs := s.outs.set x (L ++ [j]) }) W8 from HS7.out)
    have HG := hide (show s.gone.length = (s.outs.set x (L ++ [j])).length ∧ (s.outs.set x (L ++ [j])).length ≤ 12 ∧ s.roots.length ≤ 12 ∧ (∀ l ∈ s.outs.set x (L ++ [j]), l.length ≤ 4) from ⟨by rw [List.length_set]; exact HP.out.glen, by rw [List.length_set]; exact HP.out.n12, HP.out.r12, few_set HP.out.few (by rw [List.length_append, List.length_singleton]; have := h4; omega)⟩)
    have HEQ := hide (show sweptR (rcOf { s with outs := s.outs.set x (L ++ [j]) }) = rcOf (linkS s (x : Int) j) from by
      have := swept_link HP.out HE.out
      rw [HLL.out, Int.toNat_natCast] at this
      exact this)
    clear hW8 HS7 HS6 HI7 HS5 x1 x2 x3 x4 x5 x6 x7 hrc8 hx18 hrc
    have HSW := hide (rswept_mid { s with outs := s.outs.set x (L ++ [j]) } (linkS s (x : Int) j) HS8.out HF.out HG.out.1 HG.out.2.1 HG.out.2.2.1 HG.out.2.2.2 HEQ.out)
    obtain ⟨x1, x2, x3, x4, x5, x6, x7⟩ := HS8.out.box.a3
    go_wp2_with fail
    refine Calls.mono HSW.out ?_
    rintro e w9 ⟨uo, ur, uh, rfl, hrc9, hk9⟩
    obtain ⟨Bo, bo, Br, br, Bh, bh, rfl, rfl, rfl⟩ := hrc9.slices
    have HS9 := hide (HS8.out.no hk9)
    have HRC9 := hide hrc9
    clear hk9 hrc9 x1 x2 x3 x4 x5 x6 x7
    obtain ⟨y1, y2, y3, y4, y5, y6, y7⟩ := HS9.out.res.a3
    go_wp2_with fail
    obtain ⟨t1, t2, t3, t4, t5⟩ := HS9.out.tell' HRC9.out
    refine bodyPost_ret (v := .tuple #[.agg #[.slice Bo (rcOf (linkS s (x : Int) j)).outs.length bo, .slice Br (rcOf (linkS s (x : Int) j)).roots.length br, .slice Bh (rcOf (linkS s (x : Int) j)).here.length bh], .int .i64 0, .int .i64 0]) (by simp [results, Tryd.results6, go_sem, t2, t3, t4]) rfl ?_
    exact ⟨_, _, _, by rw [HE.out]; rfl, t1, t5⟩
  · have HE := hide (show linkE s (x : Int) j = 4 ∧ linkS s (x : Int) j = s from by
      have e : linkE s (x : Int) j = 4 := by unfold linkE; rw [if_pos ⟨HIs.out, HJs.out⟩, hL, if_pos (by have := HFEW.out; omega)]
      exact ⟨e, by unfold linkS; rw [e, if_neg (by decide)]⟩)
    have h4' : (4 : Int) ≤ (L.length : Int) := by omega
    clear h4 hL
    obtain ⟨y1, y2, y3, y4, y5, y6, y7⟩ := HS5.out.res.a3
    go_wp2_with fail
    obtain ⟨t1, t2, t3, t4, t5⟩ := HS5.out.tell
    refine bodyPost_ret (v := .tuple #[.agg #[.slice (some ⟨b, o, none⟩) (rcOf s).outs.length co, .slice Ar (rcOf s).roots.length cr, .slice Ah (rcOf s).here.length ch], .int .i64 0, .int .i64 4]) (by simp [results, Tryd.results6, go_sem, t2, t3, t4]) rfl ?_
    exact ⟨_, _, _, by rw [HE.out.1]; rfl, by rw [HE.out.2]; exact t1, t5⟩

set_option maxRecDepth 100000 in
set_option maxHeartbeats 4000000 in
theorem rdo_cut {F : Nat → Prop} (vo vr vh : Value) (s : Cn) (i j : Int) (w : World) (h : RcIs w F vo vr vh (rcOf s)) (hP : PInv s []) (hF : ∀ b, w.heap.size ≤ b → F b) (hi : isB s i = true) (hj : isB s j = true) :
    Calls Tryd.prog 6 #[.agg #[vo, vr, vh], .int .i64 4, .int .i64 i, .int .i64 j] w (RDoPost F w (cutS s i j) 0 (cutE s i j)) := by
  obtain ⟨Ao, co, Ar, cr, Ah, ch, rfl, rfl, rfl⟩ := h.slices
  have HS := hide (DoSt.start h)
  have HI := hide (fun x (W : World) hW => ris_any _ _ _ (rcOf s) x W (HS.out.rc.no hW))
  have HIB := hide (isR_isB hP)
  have HP := hide hP
  have HF := hide hF
  have HIs := hide hi
  have HJs := hide hj
  clear hj
  obtain ⟨W, hW⟩ : ∃ W, (w.alloc (.cells #[.slice Ao (rcOf s).outs.length co, .slice Ar (rcOf s).roots.length cr, .slice Ah (rcOf s).here.length ch] 28)).alloc (.cells #[.slice none 0 0, .slice none 0 0, .slice none 0 0] 28) = W := ⟨_, rfl⟩
  rw [hW] at HS HI
  have HW := hide hW
  obtain ⟨x1, x2, x3, x4, x5, x6, x7⟩ := HS.out.box.a3
  clear h hP hF hW hi
  go_enter Tryd.func6, Tryd.ntmps6
  go_upto_region 1 with fail
  rw [HW.out]
  go_wp2_with fail
  refine Calls.mono (HI.out i W (Kp.refl _ _)) ?_
  rw [HIB.out, HIs.out]
  rintro e w5 ⟨rfl, hk5⟩
  have HK5 := hide hk5
  have HS5 := hide (HS.out.no hk5)
  clear hk5 x1 x2 x3 x4 x5 x6 x7
  obtain ⟨x1, x2, x3, x4, x5, x6, x7⟩ := HS5.out.box.a3
  go_wp2_with fail
  refine Calls.mono (HI.out j _ HK5.out) ?_
  rw [HIB.out, HJs.out]
  rintro e w6 ⟨rfl, hk6⟩
  have HS5 := hide (HS5.out.no hk6)
  clear hk6 x1 x2 x3 x4 x5 x6 x7
  obtain ⟨x1, x2, x3, x4, x5, x6, x7⟩ := HS5.out.box.a3
  obtain ⟨⟨hi0, hi1⟩, _⟩ := isB_iff.1 HIs.out
  obtain ⟨x, rfl⟩ := Int.eq_ofNat_of_zero_le hi0
  have hxn : x < (rcOf s).outs.length := by have h : (x : Int) < (s.outs.length : Int) := hi1; show x < s.outs.length; omega
  have hadj : (rcOf s).outs[x] = adj s.outs (x : Int) := by rw [adj_eq (show ((x : Nat) : Int).toNat < s.outs.length by rw [Int.toNat_natCast]; exact hxn)]; rfl
  have HXN := hide hxn
  have HFEW := hide (show (adj s.outs (x : Int)).length ≤ 4 from HP.out.ok.adjFew (x := (x : Int)))
  have HSET := hide (fun l => show (rcOf { s with outs := s.outs.set x l }).outs = (rcOf s).outs.set x l from rfl)
  obtain ⟨_, _, e, hco, hmo, hrow⟩ := HS5.out.rc.out.form
  cases e
  obtain ⟨b, o, A', c', rfl, _, hrc, hri⟩ := hrow x hxn
  rw [hadj] at hrc hri
  have HRI := hide hri
  have HRC := hide (show ∀ W, Kp No w6 W → W.cell? ⟨b, o + x, none⟩ = some (.slice A' (adj s.outs (x : Int)).length c') from fun W hW => hW.cell hrc id)
  have hxl : (x : Int) < ((rcOf s).outs.length : Int) := by omega
  clear hrow hadj hri hi1
  obtain ⟨L, hL⟩ : ∃ L, adj s.outs (x : Int) = L := ⟨_, rfl⟩
  rw [hL] at HRC HRI HFEW hrc
  have HHAS := hide (has_any _ L j w6 HRI.out)
  have HLL := hide hL
  clear hL
  go_wp2_with fail
  refine Calls.mono HHAS.out ?_
  cases hb : hasB L j with
  | true =>
    have HE := hide (show cutE s (x : Int) j = 0 by unfold cutE; rw [if_pos ⟨HIs.out, HJs.out⟩, HLL.out, if_pos (hasB_mem.1 hb)])
    clear hb HHAS
    rintro e w6' ⟨rfl, rfl⟩
    go_wp2_with fail
    refine plan_start 13 (by kernel_rfl) rfl (fun hPT => ?_)
    refine plan_take (i := 0) (v := ?_) rfl (by kernel_rfl) (by kernel_rfl) (by kernel_rfl) (fun _ _ _ h => h) hPT (by rfl) ?_ ?_
    rotate_left
    · (intro w; go_simp; with_reducible rfl)
    (clear hPT; intro hPT; simp only [List.getElem_toArray, List.getElem_cons_zero, List.getElem_cons_succ, Act.put, List.setIfInBounds_toArray, List.set_cons_zero, List.set_cons_succ])
    refine plan_take (i := 2) (v := ?_) rfl (by kernel_rfl) (by kernel_rfl) (by kernel_rfl) (fun _ _ _ h => h) hPT (by rfl) ?_ ?_
    rotate_left
    · (intro w; go_simp; with_reducible rfl)
    (clear hPT; intro hPT; simp only [List.getElem_toArray, List.getElem_cons_zero, List.getElem_cons_succ, Act.put, List.setIfInBounds_toArray, List.set_cons_zero, List.set_cons_succ])
    refine plan_take (i := 3) (v := ?_) rfl (by kernel_rfl) (by kernel_rfl) (by kernel_rfl) (fun _ _ _ h => h) hPT (by rfl) ?_ ?_
    rotate_left
    · (intro w; go_simp; with_reducible rfl)
    (clear hPT; intro hPT; simp only [List.getElem_toArray, List.getElem_cons_zero, List.getElem_cons_succ, Act.put, List.setIfInBounds_toArray, List.set_cons_zero, List.set_cons_succ])
    refine plan_take (i := 5) (v := ?_) rfl (by kernel_rfl) (by kernel_rfl) (by kernel_rfl) (fun _ _ _ h => h) hPT (by rfl) ?_ ?_
    rotate_left
    · (intro w; go_simp; with_reducible rfl)
    (clear hPT; intro hPT; simp only [List.getElem_toArray, List.getElem_cons_zero, List.getElem_cons_succ, Act.put, List.setIfInBounds_toArray, List.set_cons_zero, List.set_cons_succ])
    refine plan_take (i := 8) (v := ?_) rfl (by kernel_rfl) (by kernel_rfl) (by kernel_rfl) (fun _ _ _ h => h) hPT (by rfl) ?_ ?_
    rotate_left
    · (intro w; go_simp; with_reducible rfl)
    (clear hPT; intro hPT; simp only [List.getElem_toArray, List.getElem_cons_zero, List.getElem_cons_succ, Act.put, List.setIfInBounds_toArray, List.set_cons_zero, List.set_cons_succ])
    refine plan_load (fun w' => w'.cell? ⟨w.heap.size, 0, none⟩ = some (.slice (some ⟨b, o, none⟩) (rcOf s).outs.length co)) (i := 1) (v := ?_) rfl (by kernel_rfl) (by kernel_rfl) (by kernel_rfl) (fun _ _ _ h => h) hPT (by rfl) ?_ ?_ ?_
    rotate_left
    · (first | assumption | (go_simp; done))
    · (intro w hSw; (try dsimp only at hSw); go_simp; with_reducible rfl)
    (clear hPT; intro hPT; simp only [List.getElem_toArray, List.getElem_cons_zero, List.getElem_cons_succ, Act.put, List.setIfInBounds_toArray, List.set_cons_zero, List.set_cons_succ])
    refine plan_load (fun w' => w'.cell? ⟨w.heap.size, 0, none⟩ = some (.slice (some ⟨b, o, none⟩) (rcOf s).outs.length co)) (i := 4) (v := ?_) rfl (by kernel_rfl) (by kernel_rfl) (by kernel_rfl) (fun _ _ _ h => h) hPT (by rfl) ?_ ?_ ?_
    rotate_left
    · (first | assumption | (go_simp; done))
    · (intro w hSw; (try dsimp only at hSw); go_simp; with_reducible rfl)
    (clear hPT; intro hPT; simp only [List.getElem_toArray, List.getElem_cons_zero, List.getElem_cons_succ, Act.put, List.setIfInBounds_toArray, List.set_cons_zero, List.set_cons_succ])
    refine plan_take (i := 6) (v := ?_) rfl (by kernel_rfl) (by kernel_rfl) (by kernel_rfl) (fun _ _ _ h => h) hPT (by rfl) ?_ ?_
    rotate_left
    · (intro w; go_simp; with_reducible rfl)
    (clear hPT; intro hPT; simp only [List.getElem_toArray, List.getElem_cons_zero, List.getElem_cons_succ, Act.put, List.setIfInBounds_toArray, List.set_cons_zero, List.set_cons_succ])
    refine plan_load (fun w' => w'.cell? ⟨b, o + x, none⟩ = some (.slice A' L.length c')) (i := 7) (v := ?_) rfl (by kernel_rfl) (by kernel_rfl) (by kernel_rfl) (fun _ _ _ h => h) hPT (by rfl) ?_ ?_ ?_
    rotate_left
    · (first | assumption | (go_simp; done))
    · (intro w hSw; (try dsimp only at hSw); go_simp; with_reducible rfl)
    (clear hPT; intro hPT; simp only [List.getElem_toArray, List.getElem_cons_zero, List.getElem_cons_succ, Act.put, List.setIfInBounds_toArray, List.set_cons_zero, List.set_cons_succ])
    refine plan_one (i := 9) (by kernel_rfl) rfl (by rfl) (fun K hK => ?_)
    (try simp only [List.getElem_toArray, List.getElem_cons_zero, List.getElem_cons_succ, Act.put, List.setIfInBounds_toArray, List.set_cons_zero, List.set_cons_succ])
    go_simp
    refine Calls.mono (rwithout_any _ L j _ (HRI.out.no (by (repeat (first | exact Kp.refl _ _ | with_reducible refine Kp.drewN ?_ _ | with_reducible refine Kp.drew ?_ | with_reducible refine Kp.alloc ?_ _ | with_reducible refine Kp.setCell ?_ (fun _ => ?_) _)); all_goals (simp_all; omega))) (by have := HFEW.out; omega)) ?_
    rintro e w7 ⟨v7, rfl, hi7, hk7⟩
    have HN6 := hide (HS5.out.new HF.out)
    have HK7 := hide (show Kp No w6 w7 from (show Kp No w6 _ from (by (repeat (first | exact Kp.refl _ _ | with_reducible refine Kp.drewN ?_ _ | with_reducible refine Kp.drew ?_ | with_reducible refine Kp.alloc ?_ _ | with_reducible refine Kp.setCell ?_ (fun _ => ?_) _)); all_goals (simp_all; omega))).trans hk7)
    have HI7 := hide (hi7.mono (F' := fun b => F b ∧ b ≠ w.heap.size ∧ b ≠ w.heap.size + 1) fun b _ hb => HN6.out b (by simpa [Hi] using hb))
    obtain ⟨A7, c7, rfl, _⟩ := id hi7
    clear hi7 hk7
    have HEL := hide (show (L.erase j).length ≤ 4 from Nat.le_trans (erase_le _ _) HFEW.out)
    obtain ⟨l, hl⟩ : ∃ l, (L.erase j).length = l := ⟨_, rfl⟩
    rw [hl] at HI7 ⊢
    clear hl
    refine hK.out _ _ _ (t_cons (HRC.out _ HK7.out) (t_cons (HK7.out.cell x1 id) (t_cons (HK7.out.cell x1 id) (t_nil _)))) k_same (fun hPT' => ?_)
    (clear hPT hK K; have hPT := hPT'; clear hPT'; try simp only [List.getElem_toArray, List.getElem_cons_zero, List.getElem_cons_succ, Act.put, List.setIfInBounds_toArray, List.set_cons_zero, List.set_cons_succ])
    refine plan_one (i := 10) (by kernel_rfl) rfl (by rfl) (fun K hK => ?_)
    (try simp only [List.getElem_toArray, List.getElem_cons_zero, List.getElem_cons_succ, Act.put, List.setIfInBounds_toArray, List.set_cons_zero, List.set_cons_succ])
    go_simp
    refine Calls.mono (routs_any _ _ (rcOf s).outs x (L.erase j) w7 (HS5.out.rc.out.no HK7.out) HI7.out HXN.out (Nat.le_trans HP.out.n12 (by omega)) (fun b hb => HN6.out b (Nat.le_trans HK7.out.size hb))) ?_
    rintro e w8 ⟨v8, rfl, ho8, hk8⟩
    obtain ⟨A8, c8, rfl, _⟩ := RowsIn.form ho8
    rw [List.length_set] at ho8 ⊢
    have HO8 := hide ho8
    have HK8 := hide (HK7.out.trans hk8)
    have HS6 := hide (HS5.out.no HK8.out)
    have hrc8 := HRC.out _ HK8.out
    have hx18 := HK8.out.cell x1 id
    clear ho8 hk8 x1 x2 x3 x4 x5 x6 x7
    obtain ⟨x1, x2, x3, x4, x5, x6, x7⟩ := HS6.out.box.a3
    refine hK.out _ _ _ (t_cons hrc8 (t_cons hx18 (t_cons hx18 (t_nil _)))) k_same (fun hPT' => ?_)
    (clear hPT hK K; have hPT := hPT'; clear hPT'; try simp only [List.getElem_toArray, List.getElem_cons_zero, List.getElem_cons_succ, Act.put, List.setIfInBounds_toArray, List.set_cons_zero, List.set_cons_succ])
    refine plan_take (i := 11) (v := ?_) rfl (by kernel_rfl) (by kernel_rfl) (by kernel_rfl) (fun _ _ _ h => h) hPT (by rfl) ?_ ?_
    rotate_left
    · (intro w; go_simp; with_reducible rfl)
    (clear hPT; intro hPT; simp only [List.getElem_toArray, List.getElem_cons_zero, List.getElem_cons_succ, Act.put, List.setIfInBounds_toArray, List.set_cons_zero, List.set_cons_succ])
    refine plan_one (i := 12) (by kernel_rfl) rfl (by rfl) (fun K hK => ?_)
    (try simp only [List.getElem_toArray, List.getElem_cons_zero, List.getElem_cons_succ, Act.put, List.setIfInBounds_toArray, List.set_cons_zero, List.set_cons_succ])
    go_simp
    refine hK.out [] _ _ (t_nil _) (k_drop (by kernel_rfl) (k_drop (by kernel_rfl) (k_drop (by kernel_rfl) k_nil))) (fun hPT' => ?_)
    (clear hPT hK K; have hPT := hPT'; clear hPT'; try simp only [List.getElem_toArray, List.getElem_cons_zero, List.getElem_cons_succ, Act.put, List.setIfInBounds_toArray, List.set_cons_zero, List.set_cons_succ])
    refine plan_done (by kernel_rfl) ?_ _
    clear hPT
    go_upto_region 31 with fail
    have HS7 := hide (HS6.out.outs HO8.out)
    obtain ⟨W8, hW8⟩ : ∃ W8, w8.setCell ⟨w.heap.size, 0, none⟩ (.slice A8 (rcOf s).outs.length c8) = W8 := ⟨_, rfl⟩
    rw [hW8] at HS7 ⊢
    have HS8 := hide (show DoSt w F w.heap.size (.slice A8 (rcOf s).outs.length c8) (.slice Ar (rcOf s).roots.length cr) (.slice Ah (rcOf s).here.length ch) (rcOf { s with outs := s.outs.set x (L.erase j) }) W8 from HS7.out)
    have HG := hide (show s.gone.length = (s.outs.set x (L.erase j)).length ∧ (s.outs.set x (L.erase j)).length ≤ 12 ∧ s.roots.length ≤ 12 ∧ (∀ l ∈ s.outs.set x (L.erase j), l.length ≤ 4) from ⟨by rw [List.length_set]; exact HP.out.glen, by rw [List.length_set]; exact HP.out.n12, HP.out.r12, few_set HP.out.few (HEL.out)⟩)
    have HEQ := hide (show sweptR (rcOf { s with outs := s.outs.set x (L.erase j) }) = rcOf (cutS s (x : Int) j) from by
      have := swept_cut HP.out HE.out
      rw [HLL.out, Int.toNat_natCast] at this
      exact this)
    clear hW8 HS7 HS6 HI7 HS5 x1 x2 x3 x4 x5 x6 x7 hrc8 hx18 hrc
    have HSW := hide (rswept_mid { s with outs := s.outs.set x (L.erase j) } (cutS s (x : Int) j) HS8.out HF.out HG.out.1 HG.out.2.1 HG.out.2.2.1 HG.out.2.2.2 HEQ.out)
    obtain ⟨x1, x2, x3, x4, x5, x6, x7⟩ := HS8.out.box.a3
    go_wp2_with fail
    refine Calls.mono HSW.out ?_
    rintro e w9 ⟨uo, ur, uh, rfl, hrc9, hk9⟩
    obtain ⟨Bo, bo, Br, br, Bh, bh, rfl, rfl, rfl⟩ := hrc9.slices
    have HS9 := hide (HS8.out.no hk9)
    have HRC9 := hide hrc9
    clear hk9 hrc9 x1 x2 x3 x4 x5 x6 x7
    obtain ⟨y1, y2, y3, y4, y5, y6, y7⟩ := HS9.out.res.a3
    go_wp2_with fail
    obtain ⟨t1, t2, t3, t4, t5⟩ := HS9.out.tell' HRC9.out
    refine bodyPost_ret (v := .tuple #[.agg #[.slice Bo (rcOf (cutS s (x : Int) j)).outs.length bo, .slice Br (rcOf (cutS s (x : Int) j)).roots.length br, .slice Bh (rcOf (cutS s (x : Int) j)).here.length bh], .int .i64 0, .int .i64 0]) (by simp [results, Tryd.results6, go_sem, t2, t3, t4]) rfl ?_
    exact ⟨_, _, _, by rw [HE.out]; rfl, t1, t5⟩
  | false =>
    have HE := hide (show cutE s (x : Int) j = 5 ∧ cutS s (x : Int) j = s from by
      have e : cutE s (x : Int) j = 5 := by unfold cutE; rw [if_pos ⟨HIs.out, HJs.out⟩, HLL.out, if_neg (fun h => by rw [hasB_mem.2 h] at hb; cases hb)]
      exact ⟨e, by unfold cutS; rw [e, if_neg (by decide)]⟩)
    clear hb HHAS
    rintro e w6' ⟨rfl, rfl⟩
    obtain ⟨y1, y2, y3, y4, y5, y6, y7⟩ := HS5.out.res.a3
    go_wp2_with fail
    obtain ⟨t1, t2, t3, t4, t5⟩ := HS5.out.tell
    refine bodyPost_ret (v := .tuple #[.agg #[.slice (some ⟨b, o, none⟩) (rcOf s).outs.length co, .slice Ar (rcOf s).roots.length cr, .slice Ah (rcOf s).here.length ch], .int .i64 0, .int .i64 5]) (by simp [results, Tryd.results6, go_sem, t2, t3, t4]) rfl ?_
    exact ⟨_, _, _, by rw [HE.out.1]; rfl, by rw [HE.out.2]; exact t1, t5⟩
end Go.Proofs.YtiibadganlincaaDoor
