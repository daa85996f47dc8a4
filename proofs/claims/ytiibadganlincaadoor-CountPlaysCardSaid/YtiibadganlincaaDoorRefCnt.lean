/- The document's answer, walked: Is, and Count, of a heap that counts; Without. No condition. -/
import Derived.Test.YtiibadganlincaaDoorOffPlain
import Derived.Test.YtiibadganlincaaDoorCountTrue
import Derived.Test.YtiibadganlincaaDoorClone
import Derived.Deep.Cut
namespace Go.Proofs.YtiibadganlincaaDoor
open Go.RowKit
set_option linter.unusedSimpArgs false

/-- bools, read -/
def BoolsIn (w : World) (F : Nat → Prop) (v : Value) (bs : List Bool) : Prop := CellsIn w F v (bv bs)
section
variable {w w' : World} {F F' S : Nat → Prop} {v : Value} {bs : List Bool}
theorem BoolsIn.no (h : BoolsIn w F v bs) (hk : Kp No w w') : BoolsIn w' F v bs := CellsIn.no h hk
theorem BoolsIn.kp (h : BoolsIn w F v bs) (hk : Kp S w w') (hs : ∀ k, F k → ¬ S k) : BoolsIn w' F v bs := CellsIn.kp h hk hs
theorem BoolsIn.mono (h : BoolsIn w F v bs) (hF : ∀ k, k < w.heap.size → F k → F' k) : BoolsIn w F' v bs := CellsIn.mono h hF
theorem BoolsIn.nil_ (w : World) (F : Nat → Prop) : BoolsIn w F (.slice none 0 0) [] := CellsIn.nil_ w F
theorem BoolsIn.form (h : BoolsIn w F v bs) : ∃ A c, v = .slice A bs.length c ∧ bs.length ≤ c ∧ c ≤ 9223372036854775807 ∧ ∀ k (h : k < bs.length), ∃ b o, A = some ⟨b, o, none⟩ ∧ F b ∧ w.cell? ⟨b, o + k, none⟩ = some (.bool bs[k]) := by
  obtain ⟨A, c, e, h1, h2, h3⟩ := h
  rw [bv_length] at e h1
  refine ⟨A, c, e, h1, h2, fun k hk => ?_⟩
  obtain ⟨b, o, h4, h5, h6⟩ := h3 k (by rw [bv_length]; exact hk)
  exact ⟨b, o, h4, h5, by rw [h6, bv_get hk]⟩
end
theorem one_bv (bs : List Bool) : ∀ u ∈ bv bs, u.oneCell' = true := by
  intro u hu
  unfold bv at hu
  obtain ⟨b, _, rfl⟩ := List.mem_map.1 hu
  rfl

/-- the reference's heap, read -/
structure RcIs (w : World) (F : Nat → Prop) (vo vr vh : Value) (c : Rc) : Prop where
  out : RowsIn w F vo c.outs
  root : IntsIn w F vr c.roots
  here : BoolsIn w F vh c.here
section
variable {w w' : World} {F F' S : Nat → Prop} {vo vr vh : Value} {c : Rc}
theorem RcIs.no (h : RcIs w F vo vr vh c) (hk : Kp No w w') : RcIs w' F vo vr vh c := ⟨h.out.no hk, h.root.no hk, h.here.no hk⟩
theorem RcIs.kp (h : RcIs w F vo vr vh c) (hk : Kp S w w') (hs : ∀ k, F k → ¬ S k) : RcIs w' F vo vr vh c := ⟨h.out.kp hk hs, h.root.kp hk hs, h.here.kp hk hs⟩
theorem RcIs.mono (h : RcIs w F vo vr vh c) (hF : ∀ k, k < w.heap.size → F k → F' k) : RcIs w F' vo vr vh c := ⟨h.out.mono hF, h.root.mono hF, h.here.mono hF⟩
theorem RcIs.slices (h : RcIs w F vo vr vh c) : ∃ Ao co Ar cr Ah ch, vo = .slice Ao c.outs.length co ∧ vr = .slice Ar c.roots.length cr ∧ vh = .slice Ah c.here.length ch := by
  obtain ⟨Ao, co, e1, _⟩ := h.out.form
  obtain ⟨Ar, cr, e2, _⟩ := h.root
  obtain ⟨Ah, ch, e3, _⟩ := h.here.form
  exact ⟨Ao, co, Ar, cr, Ah, ch, e1, e2, e3⟩
end

theorem hasB_mem {l : List Int} {x : Int} : hasB l x = true ↔ x ∈ l := by unfold hasB; rw [decide_eq_true_eq]
def isR (c : Rc) (x : Int) : Bool := btw x 0 ((c.here.length : Int) - 1) && hAt c.here x.toNat

set_option maxRecDepth 100000 in
set_option maxHeartbeats 2000000 in
theorem ris_any {F : Nat → Prop} (vo vr vh : Value) (c : Rc) (x : Int) (w : World) (h : RcIs w F vo vr vh c) :
    Calls Tryd.prog 20 #[.agg #[vo, vr, vh], .int .i64 x] w fun e w' => e = .returned (.bool (isR c x)) ∧ Kp No w w' := by
  obtain ⟨Ao, co, Ar, cr, Ah, ch, rfl, rfl, rfl⟩ := h.slices
  obtain ⟨_, _, e, hle, hmx, hcell⟩ := h.here.form
  cases e
  have HK := hide ((Kp.refl No w).alloc (.cells #[.slice Ao c.outs.length co, .slice Ar c.roots.length cr, .slice Ah c.here.length ch] 28))
  by_cases h0 : 0 ≤ x
  · by_cases h1 : x < (c.here.length : Int)
    · obtain ⟨k, rfl⟩ := Int.eq_ofNat_of_zero_le h0
      have hk : k < c.here.length := by omega
      obtain ⟨b, o, rfl, _, hc⟩ := hcell k hk
      have HR := hide (show isR c (k : Int) = c.here[k] by unfold isR; rw [btw_iff.2 ⟨by omega, by omega⟩, Bool.true_and, Int.toNat_natCast, hAt_eq hk])
      obtain ⟨d, hd⟩ : ∃ d, c.here[k] = d := ⟨_, rfl⟩
      rw [hd] at hc HR
      have hc' := HK.out.cell hc id
      clear hcell hd h
      go_enter Tryd.func20, Tryd.ntmps20
      go_wp2
      go_ret
      exact ⟨by rw [HR.out]; rfl, HK.out⟩
    · have HR := hide (show isR c x = false by unfold isR; rw [show btw x 0 ((c.here.length : Int) - 1) = false by rw [Bool.eq_false_iff, Ne, btw_iff]; omega]; rfl)
      clear hcell h
      go_enter Tryd.func20, Tryd.ntmps20
      go_wp2
      go_ret
      exact ⟨by rw [HR.out]; rfl, HK.out⟩
  · have HR := hide (show isR c x = false by unfold isR; rw [show btw x 0 ((c.here.length : Int) - 1) = false by rw [Bool.eq_false_iff, Ne, btw_iff]; omega]; rfl)
    clear hcell h
    go_enter Tryd.func20, Tryd.ntmps20
    go_wp2
    go_ret
    exact ⟨by rw [HR.out]; rfl, HK.out⟩

set_option maxRecDepth 100000 in
set_option maxHeartbeats 2000000 in
theorem rwithout_any {F : Nat → Prop} (v : Value) (xs : List Int) (x : Int) (w : World) (hv : IntsIn w F v xs) (hl : xs.length ≤ 1000) :
    Calls Tryd.prog 22 #[v, .int .i64 x] w fun e w' => ∃ v', e = .returned v' ∧ IntsIn w' (Hi w.heap.size) v' (xs.erase x) ∧ Kp No w w' := by
  have HV := hide hv
  obtain ⟨A, c, rfl, hc, hm, _⟩ := hv
  go_enter Tryd.func22, Tryd.ntmps22
  go_wp2_with fail
  go_loopw [5, 6, 7] (fun s5 s6 s7 wr => ∃ k : Nat, s7 = .int .i64 k ∧ k ≤ xs.length ∧ s6 = .bool (hasB (xs.take k) x) ∧ Hid (wr.ownsRow w.heap.size 3 1 s5 ((xs.take k).erase x).length (iv ((xs.take k).erase x))) ∧ Hid (Kp No w wr)) (fun _ _ s7 _ => xs.length - (intOf s7).toNat)
  case atStart => exact ⟨0, rfl, Nat.zero_le _, rfl, hide (World.ownsRow_nil _ _ _ _), Kp.refl _ _⟩
  case round =>
    obtain ⟨k, rfl, hk, rfl, ho, hkr⟩ := hrel
    by_cases hlt : k < xs.length
    · obtain ⟨_, _, e, _, _, hcell⟩ := HV.out.no hkr.out
      cases e
      obtain ⟨b, o, rfl, _, hcx⟩ := hcell k hlt
      have HT := hide (show xs.take (k + 1) = xs.take k ++ [xs[k]] from List.take_succ_eq_append_getElem hlt)
      obtain ⟨y, hy⟩ : ∃ y, xs[k] = y := ⟨_, rfl⟩
      rw [hy] at hcx HT
      have hsz : w.heap.size ≤ wr.heap.size := hkr.out.size
      have hll : ((xs.take k).erase x).length ≤ 1000 := Nat.le_trans (List.length_erase_le ..) (by rw [List.length_take]; omega)
      obtain ⟨L, hL⟩ : ∃ L, xs.take k = L := ⟨_, rfl⟩
      rw [hL] at HT ho hll ⊢
      clear hcell hy hL
      have HE := hide (show (L ++ [y]).erase x = if hasB L x = true then L.erase x ++ [y] else if y = x then L.erase x else L.erase x ++ [y] by
        rw [List.erase_append]
        by_cases h : x ∈ L
        · rw [if_pos h, if_pos (hasB_mem.2 h)]
        · rw [if_neg h, if_neg (by rw [hasB_mem]; exact h)]
          rw [List.erase_of_not_mem h]
          by_cases e : y = x
          · subst e; simp
          · rw [if_neg e, List.erase_of_not_mem (by simp; exact fun h => e h.symm)])
      have HH := hide (show hasB (L ++ [y]) x = (hasB L x || decide (y = x)) by
        rw [Bool.eq_iff_iff, hasB_mem, List.mem_append, Bool.or_eq_true, hasB_mem, decide_eq_true_eq]
        simp [eq_comm])
      by_cases hyx : y = x
      · have hyx' : (y == x) = true := by simp [hyx]
        have HYX := hide hyx
        clear hyx
        cases hg : hasB L x with
        | false =>
          have HE' := hide (show (L ++ [y]).erase x = L.erase x by rw [HE.out, hg, if_neg (by decide), if_pos HYX.out])
          have HH' := hide (show hasB (L ++ [y]) x = true by rw [HH.out, decide_eq_true HYX.out, Bool.or_true])
          clear hg HE HH
          go_wp2_with fail
          exact ⟨⟨k + 1, by go_num, hlt, by rw [HT.out, HH'.out], by rw [HT.out, HE'.out]; exact ho, hkr⟩, by simp [intOf]; omega⟩
        | true =>
          have HE' := hide (show (L ++ [y]).erase x = L.erase x ++ [y] by rw [HE.out, hg, if_pos rfl])
          have HH' := hide (show hasB (L ++ [y]) x = true by rw [HH.out, hg, Bool.true_or])
          clear hg HE HH
          go_wp2_with (at_builtin; refine wpList_push _ rfl (.tmp 24) (.tmp 29) _ rfl w.heap.size 3 _ 8 Tryd.underlying25 Tryd.infoInt rfl u5 (L.erase x).length (iv (L.erase x)) rfl ho.out (.int .i64 y) rfl 1 _ rfl (by simp) (by omega) (by decide) hsz ?_; intro g0 c0' w7 ho' hgr hat; have HO7 := hide ho'; have HK7 := hide ((hkr.out.alloc _).grown hgr fun b e hb => by have := (own_lt ho.out e).1; omega); clear ho' hgr hat)
          exact ⟨⟨k + 1, by go_num, hlt, by rw [HT.out, HH'.out], by rw [HT.out, HE'.out, List.length_append, List.length_singleton]; exact hide (by simpa [iv] using HO7.out), HK7⟩, by simp [intOf]; omega⟩
      · have hyx' : (y == x) = false := by simp [hyx]
        have HE' := hide (show (L ++ [y]).erase x = L.erase x ++ [y] by rw [HE.out, if_neg hyx]; split <;> rfl)
        have HH' := hide (show hasB (L ++ [y]) x = hasB L x by rw [HH.out, decide_eq_false hyx, Bool.or_false])
        clear hyx HE HH
        obtain ⟨gb, hgb⟩ : ∃ gb, hasB L x = gb := ⟨_, rfl⟩
        rw [hgb] at HH' ⊢
        clear hgb
        go_wp2_with (at_builtin; refine wpList_push _ rfl (.tmp 24) (.tmp 29) _ rfl w.heap.size 3 _ 8 Tryd.underlying25 Tryd.infoInt rfl u5 (L.erase x).length (iv (L.erase x)) rfl ho.out (.int .i64 y) rfl 1 _ rfl (by simp) (by omega) (by decide) hsz ?_; intro g0 c0' w7 ho' hgr hat; have HO7 := hide ho'; have HK7 := hide ((hkr.out.alloc _).grown hgr fun b e hb => by have := (own_lt ho.out e).1; omega); clear ho' hgr hat)
        exact ⟨⟨k + 1, by go_num, hlt, by rw [HT.out, HH'.out], by rw [HT.out, HE'.out, List.length_append, List.length_singleton]; exact hide (by simpa [iv] using HO7.out), HK7⟩, by simp [intOf]; omega⟩
    · obtain rfl : k = xs.length := by omega
      have HTA := hide (List.take_length (l := xs))
      rw [HTA.out] at ho
      obtain ⟨e1, A1, c1, ev1, _, _, _⟩ := own_form ho.out
      clear e1
      go_wp2_with fail
      go_ret
      exact ⟨_, rfl, .of_own ho.out fun b hb => (own_lt ho.out hb).1, hkr.out⟩

theorem cnt_row (l : List Int) (k : Nat) (x : Int) : (l.take k).count x ≤ l.length := cnt_le l k x

set_option maxRecDepth 100000 in
set_option maxHeartbeats 4000000 in
theorem rcount_any {F : Nat → Prop} (vo vr vh : Value) (c : Rc) (x : Int) (w : World) (h : RcIs w F vo vr vh c) (hn : c.outs.length ≤ 12) (hr : c.roots.length ≤ 12) (hf : ∀ l ∈ c.outs, l.length ≤ 4) :
    Calls Tryd.prog 13 #[.agg #[vo, vr, vh], .int .i64 x] w fun e w' => e = .returned (.int .i64 (cntR c x : Nat)) ∧ Kp No w w' := by
  obtain ⟨Ao, co, Ar, cr, Ah, ch, rfl, rfl, rfl⟩ := h.slices
  have HH := hide h
  have HF := hide hf
  obtain ⟨W1, hW1⟩ : ∃ W1, w.alloc (.cells #[.slice Ao c.outs.length co, .slice Ar c.roots.length cr, .slice Ah c.here.length ch] 28) = W1 := ⟨_, rfl⟩
  have HK := hide (show Kp No w W1 by rw [← hW1]; exact (Kp.refl No w).alloc _)
  have HB := hide (show Blk W1 w.heap.size 28 #[.slice Ao c.outs.length co, .slice Ar c.roots.length cr, .slice Ah c.here.length ch] by rw [← hW1]; exact Blk.new w _ _)
  have HC := hide (show c.roots.count x + c.outs.flatten.count x = cntR c x from rfl)
  have HTA := hide (cnt_all c.roots x)
  have HFA := hide (show (c.outs.take c.outs.length).flatten.count x = c.outs.flatten.count x by rw [List.take_length])
  obtain ⟨p0, p1, p2⟩ : W1.cell? ⟨w.heap.size, 0, none⟩ = some (.slice Ao c.outs.length co) ∧ W1.cell? ⟨w.heap.size, 1, none⟩ = some (.slice Ar c.roots.length cr) ∧ W1.cell? ⟨w.heap.size, 2, none⟩ = some (.slice Ah c.here.length ch) := ⟨HB.out.cell 0, HB.out.cell 1, HB.out.cell 2⟩
  have hrl : c.roots.count x ≤ 12 := Nat.le_trans List.count_le_length hr
  clear h hf
  go_enter Tryd.func13, Tryd.ntmps13
  go_upto_region 1 with fail
  clear hW1
  go_wp2_with fail
  go_loopw [5, 6] (fun s5 s6 wr => ∃ k : Nat, s6 = .int .i64 k ∧ k ≤ c.roots.length ∧ s5 = .int .i64 ((c.roots.take k).count x : Nat) ∧ wr = W1) (fun _ s6 _ => c.roots.length - (intOf s6).toNat)
  case atStart => exact ⟨0, rfl, Nat.zero_le _, rfl, rfl⟩
  case round =>
    obtain ⟨k, rfl, hk, rfl, hw⟩ := hrel
    have hw := hw.symm
    subst hw
    by_cases hlt : k < c.roots.length
    · obtain ⟨_, _, e, _, _, hcell⟩ := HH.out.root.no HK.out
      cases e
      obtain ⟨b, o, rfl, _, hcx⟩ := hcell k hlt
      have HT := hide (cnt_take hlt x)
      have hb := cnt_le c.roots k x
      obtain ⟨y, hy⟩ : ∃ y, c.roots[k] = y := ⟨_, rfl⟩
      rw [hy] at hcx HT
      obtain ⟨m, hm⟩ : ∃ m, (c.roots.take k).count x = m := ⟨_, rfl⟩
      rw [hm] at HT hb ⊢
      clear hcell hy hm
      by_cases hyx : y = x
      · have hyx' : (y == x) = true := by simp [hyx]
        have HT' := hide (HT.out.trans (by rw [if_pos hyx]))
        clear hyx
        go_wp2_with fail
        exact ⟨⟨k + 1, by go_num, hlt, by rw [HT'.out]; go_num, by trivial⟩, by simp [intOf]; omega⟩
      · have hyx' : (y == x) = false := by simp [hyx]
        have HT' := hide (HT.out.trans (by rw [if_neg hyx]))
        clear hyx
        go_wp2_with fail
        exact ⟨⟨k + 1, by go_num, hlt, by rw [HT'.out]; go_num, by trivial⟩, by simp [intOf]; omega⟩
    · obtain rfl : k = c.roots.length := by omega
      rw [HTA.out]
      obtain ⟨m, hm⟩ : ∃ m, c.roots.count x = m := ⟨_, rfl⟩
      rw [hm] at hrl HC ⊢
      clear hm
      go_wp2_with fail
      go_loopw [5, 7] (fun s5 s7 wr => ∃ j : Nat, s7 = .int .i64 j ∧ j ≤ c.outs.length ∧ s5 = .int .i64 (m + (c.outs.take j).flatten.count x : Nat) ∧ wr = W1) (fun _ s7 _ => c.outs.length - (intOf s7).toNat)
      case atStart => exact ⟨0, rfl, Nat.zero_le _, rfl, rfl⟩
      case round =>
        obtain ⟨j, rfl, hj, rfl, hw⟩ := hrel
        have hw := hw.symm
        subst hw
        by_cases hjl : j < c.outs.length
        · obtain ⟨_, _, e, _, _, hrow⟩ := RowsIn.form (HH.out.out.no HK.out)
          cases e
          obtain ⟨b, o, A', c', rfl, _, hrc, hri⟩ := hrow j hjl
          have HFT := hide (flat_take hjl x)
          have hfl := flat_le hn HF.out x j
          have hRl := HF.out _ (List.getElem_mem hjl)
          obtain ⟨R, hR⟩ : ∃ R, c.outs[j] = R := ⟨_, rfl⟩
          rw [hR] at hrc hri HFT hRl
          obtain ⟨f, hf⟩ : ∃ f, (c.outs.take j).flatten.count x = f := ⟨_, rfl⟩
          rw [hf] at HFT hfl ⊢
          have HRI := hide hri
          have HRA := hide (cnt_all R x)
          clear hrow hR hf hri
          go_wp2_with fail
          go_loopw [5, 8] (fun s5 s8 wr => ∃ k : Nat, s8 = .int .i64 k ∧ k ≤ R.length ∧ s5 = .int .i64 (m + f + (R.take k).count x : Nat) ∧ wr = W1) (fun _ s8 _ => R.length - (intOf s8).toNat)
          case atStart => exact ⟨0, rfl, Nat.zero_le _, rfl, rfl⟩
          case round =>
            obtain ⟨k, rfl, hk, rfl, hw⟩ := hrel
            have hw := hw.symm
            subst hw
            by_cases hkl : k < R.length
            · obtain ⟨_, _, e, _, _, hcell⟩ := HRI.out
              cases e
              obtain ⟨b2, o2, rfl, _, hcx⟩ := hcell k hkl
              have HT := hide (cnt_take hkl x)
              have hb := cnt_le R k x
              obtain ⟨y, hy⟩ : ∃ y, R[k] = y := ⟨_, rfl⟩
              rw [hy] at hcx HT
              obtain ⟨n, hn'⟩ : ∃ n, (R.take k).count x = n := ⟨_, rfl⟩
              rw [hn'] at HT hb ⊢
              clear hcell hy hn'
              by_cases hyx : y = x
              · have hyx' : (y == x) = true := by simp [hyx]
                have HT' := hide (HT.out.trans (by rw [if_pos hyx]))
                clear hyx
                go_wp2_with fail
                exact ⟨⟨k + 1, by go_num, hkl, by rw [HT'.out]; go_num, by trivial⟩, by simp [intOf]; omega⟩
              · have hyx' : (y == x) = false := by simp [hyx]
                have HT' := hide (HT.out.trans (by rw [if_neg hyx]))
                clear hyx
                go_wp2_with fail
                exact ⟨⟨k + 1, by go_num, hkl, by rw [HT'.out]; go_num, by trivial⟩, by simp [intOf]; omega⟩
            · obtain rfl : k = R.length := by omega
              rw [HRA.out]
              go_wp2_with fail
              exact ⟨⟨j + 1, by go_num, hjl, by rw [HFT.out]; go_num, by trivial⟩, by simp [intOf]; omega⟩
        · obtain rfl : j = c.outs.length := by omega
          rw [HFA.out, HC.out]
          go_wp2_with fail
          go_ret
          exact ⟨rfl, HK.out⟩
end Go.Proofs.YtiibadganlincaaDoor
