/- The document's answer, walked: swept. -/
import Derived.Test.YtiibadganlincaaDoorRefCnt
import Derived.Test.YtiibadganlincaaDoorRefShade
import Derived.Test.YtiibadganlincaaDoorCountMake
namespace Go.Proofs.YtiibadganlincaaDoor
open Go.RowKit
set_option linter.unusedSimpArgs false

theorem rem_few {c d : Rc} (h : Rem c d) (hf : ∀ l ∈ c.outs, l.length ≤ 4) : ∀ l ∈ d.outs, l.length ≤ 4 := by
  induction h with
  | refl => exact hf
  | off i _ _ _ ih =>
    intro l hl
    rcases List.mem_or_eq_of_mem_set hl with h | rfl
    · exact ih l h
    · simp

set_option maxRecDepth 100000 in
set_option maxHeartbeats 8000000 in
theorem rswept_any {F : Nat → Prop} (vo vr vh : Value) (c : Rc) (w : World) (h : RcIs w F vo vr vh c) (hlen : c.here.length = c.outs.length) (hn : c.outs.length ≤ 12) (hr : c.roots.length ≤ 12) (hf : ∀ l ∈ c.outs, l.length ≤ 4) (hF : ∀ b, w.heap.size ≤ b → F b) :
    Calls Tryd.prog 24 #[.agg #[vo, vr, vh]] w fun e w' => ∃ vo' vr' vh', e = .returned (.agg #[vo', vr', vh']) ∧ RcIs w' F vo' vr' vh' (sweptR c) ∧ Kp No w w' := by
  have HLEN := hide hlen
  have HN := hide hn
  have HR := hide hr
  have HFEW := hide hf
  have HFF := hide hF
  obtain ⟨X, hX⟩ : ∃ X, w.heap.size = X := ⟨_, rfl⟩
  have HX := hide hX
  obtain ⟨W1, hW1⟩ : ∃ W1, w.alloc (.cells #[vo, vr, vh] 28) = W1 := ⟨_, rfl⟩
  have HS1 := hide (show W1.heap.size = X + 1 by rw [← hW1, ← hX]; simp)
  have HK1 := hide (show Kp No w W1 by rw [← hW1]; exact (Kp.refl No w).alloc _)
  have HB1 := hide (show Blk W1 X 28 #[vo, vr, vh] by rw [← hW1, ← hX]; exact Blk.new w _ _)
  obtain ⟨W2, hW2⟩ : ∃ W2, W1.alloc (.cells #[.slice none 0 0, .slice none 0 0, .slice none 0 0] 28) = W2 := ⟨_, rfl⟩
  have HK2 := hide (HK1.out.trans (show Kp No W1 W2 by rw [← hW2]; exact (Kp.refl No W1).alloc _))
  have HR2 := hide (show Blk W2 (X + 1) 28 #[.slice none 0 0, .slice none 0 0, .slice none 0 0] by rw [← hW2, ← HS1.out]; exact Blk.new W1 _ _)
  have HB2 := hide (HB1.out.kp (show Kp No W1 W2 by rw [← hW2]; exact (Kp.refl No W1).alloc _) id)
  have HC2 := hide ((h.mono (F' := fun b => F b ∧ b ≠ X ∧ b ≠ X + 1) fun b h1 h2 => ⟨h2, by omega, by omega⟩).no HK2.out)
  have HE1 := hide hW1
  have HE2 := hide hW2
  clear h hlen hf hF hW1 hW2 hn hr
  go_enter Tryd.func24, Tryd.ntmps24
  go_upto_region 1 with fail
  rw [HE1.out]
  rw [HE2.out]
  clear hX
  go_wp2_with fail
  go_loopw [3] (fun s3 wr => ∃ (n : Nat) (vo vr vh : Value), s3 = .int .i64 n ∧ n ≤ 13 ∧ Hid (RcIs wr (fun b => F b ∧ b ≠ X ∧ b ≠ X + 1) vo vr vh (offN c n)) ∧ Hid (Blk wr X 28 #[vo, vr, vh]) ∧ Hid (Blk wr (X + 1) 28 #[.slice none 0 0, .slice none 0 0, .slice none 0 0]) ∧ Hid (Kp No w wr)) (fun s3 _ => 13 - (intOf s3).toNat)
  case atStart => exact ⟨0, vo, vr, vh, rfl, by omega, HC2, HB2, HR2, HK2⟩
  case round =>
    obtain ⟨n, uo, ur, uh, rfl, hn, hrc, hbx, hrx, hkr⟩ := hrel
    by_cases hn13 : n < 13
    · have hn13' : (n : Int) < 13 := by omega
      have HD0 := hide (offN_rem c n)
      have HNX := hide (show offN c (n + 1) = offTo (offN c n) c.here.length from rfl)
      obtain ⟨d0, hd0⟩ : ∃ d0, offN c n = d0 := ⟨_, rfl⟩
      rw [hd0] at HD0 HNX hrc
      clear hd0
      obtain ⟨N, hN⟩ : ∃ N, c.here.length = N := ⟨_, rfl⟩
      have HNN := hide hN
      rw [hN] at HNX
      have hN12 : N ≤ 12 := by have := HLEN.out; have := HN.out; omega
      clear hN
      go_wp2_with fail
      go_loopw [4] (fun s4 wr => ∃ (i : Nat) (vo vr vh : Value), s4 = .int .i64 i ∧ i ≤ N ∧ Hid (RcIs wr (fun b => F b ∧ b ≠ X ∧ b ≠ X + 1) vo vr vh (offTo d0 i)) ∧ Hid (Blk wr X 28 #[vo, vr, vh]) ∧ Hid (Blk wr (X + 1) 28 #[.slice none 0 0, .slice none 0 0, .slice none 0 0]) ∧ Hid (Kp No w wr)) (fun s4 _ => N - (intOf s4).toNat)
      case atStart => exact ⟨0, _, _, _, rfl, Nat.zero_le _, hrc, hbx, hrx, hkr⟩
      case round =>
        clear hrc hbx hrx hkr
        obtain ⟨i, vo, vr, vh, rfl, hi, hrc, hbx, hrx, hkr⟩ := hrel
        have HD := hide (offTo_rem HD0.out i)
        have HO1 := hide (show offTo d0 (i + 1) = off1 (offTo d0 i) i from rfl)
        obtain ⟨d, hd⟩ : ∃ d, offTo d0 i = d := ⟨_, rfl⟩
        rw [hd] at HD HO1 hrc
        have HDE := hide hd
        clear hd
        have HHL := hide (rem_hlen HD.out)
        have HOL := hide (rem_olen HD.out)
        have HRT := hide (rem_roots HD.out)
        have hhl : d.here.length = N := by have := HHL.out; have := HNN.out; omega
        obtain ⟨Ao, co, Ar, cr, Ah, ch, rfl, rfl, rfl⟩ := hrc.out.slices
        rw [hhl] at hbx hrc
        obtain ⟨x1, x2, x3, x4, x5, x6, x7⟩ := hbx.out.a3
        by_cases hlt : i < N
        · obtain ⟨_, _, e, hle, hmx, hcell⟩ := hrc.out.here.form
          rw [hhl] at e
          cases e
          obtain ⟨b, o, rfl, _, hcx⟩ := hcell i (by omega)
          have HAT := hide (show hAt d.here i = d.here[i]'(by omega) from hAt_eq (by omega))
          obtain ⟨q, hq⟩ : ∃ q, d.here[i]'(by omega) = q := ⟨_, rfl⟩
          rw [hq] at hcx HAT
          clear hcell hq
          cases q with
          | false =>
            have HSK := hide (show off1 d i = d by unfold off1; rw [if_neg (by rw [HAT.out]; exact fun h => by cases h.1)])
            clear hhl hle hmx
            go_wp2_with fail
            exact ⟨⟨i + 1, _, _, _, by go_num, hlt, by rw [HO1.out, HSK.out]; exact hrc, hbx, hrx, hkr⟩, by simp [intOf]; omega⟩
          | true =>
            clear hle hmx
            have HCNT := hide (rcount_any _ _ _ d (i : Int) wr hrc.out (by have := HOL.out; have := HN.out; omega) (by rw [HRT.out]; exact HR.out) (rem_few HD.out HFEW.out))
            go_wp2_with fail
            refine Calls.mono HCNT.out ?_
            rintro e w5 ⟨rfl, hk5⟩
            have HRC5 := hide (hrc.out.no hk5)
            have HB5 := hide (hbx.out.kp hk5 id)
            have HR5 := hide (hrx.out.kp hk5 id)
            have HK5 := hide (hkr.out.trans hk5)
            clear hk5 x1 x2 x3 x4 x5 x6 x7 hcx HCNT
            obtain ⟨m, hm⟩ : ∃ m, cntR d (i : Int) = m := ⟨_, rfl⟩
            rw [hm]
            have HM := hide hm
            clear hm
            by_cases hm0 : m = 0
            · subst hm0
              have HSK := hide (show off1 d i = offR d i by unfold off1; rw [if_pos ⟨HAT.out, HM.out⟩])
              have HN2 := hide HNN.out
              have HIO := hide (show i < d.outs.length by have := HOL.out; have := HLEN.out; have := HNN.out; omega)
              have HIN := hide hlt
              have hs5 := HK5.out.size
              have hx5 := HR5.out.lt
              obtain ⟨x1, x2, x3, x4, x5, x6, x7⟩ := HB5.out.a3
              have HCO := hide (routs_any _ (.slice none 0 0) d.outs i [] w5 HRC5.out.out (IntsIn.nil_ _ _) HIO.out (by have := HOL.out; have := HN.out; omega) (fun b hb => ⟨HFF.out b (by omega), by omega, by omega⟩))
              go_wp2_with fail
              refine Calls.mono HCO.out ?_
              rintro e w6 ⟨v6, rfl, ho6, hk6⟩
              obtain ⟨A6, c6, rfl, _⟩ := RowsIn.form ho6
              rw [List.length_set] at ho6 ⊢
              have HO6 := hide ho6
              have HB6 := hide (HB5.out.kp hk6 id)
              have HR6 := hide (HR5.out.kp hk6 id)
              have HK6 := hide (HK5.out.trans hk6)
              have HRC6 := hide (HRC5.out.no hk6)
              clear ho6 hk6 x1 x2 x3 x4 x5 x6 x7 HCO
              obtain ⟨x1, x2, x3, x4, x5, x6, x7⟩ := HB6.out.a3
              go_upto_region 9 with fail
              obtain ⟨W7, hW7⟩ : ∃ W7, w6.setCell ⟨X, 0, none⟩ (.slice A6 d.outs.length c6) = W7 := ⟨_, rfl⟩
              have hk7 : Kp (At X) w6 W7 := by rw [← hW7]; exact kp_set _ _ _ _
              have HO7 := hide (HO6.out.kp hk7 fun b hb e => hb.2.1 e)
              have HRT7 := hide (HRC6.out.root.kp hk7 fun b hb e => hb.2.1 e)
              have HHE7 := hide (HRC6.out.here.kp hk7 fun b hb e => hb.2.1 e)
              have HB7 := hide (show Blk W7 X 28 #[.slice A6 d.outs.length c6, .slice Ar d.roots.length cr, .slice (some ⟨b, o, none⟩) N ch] by rw [← hW7]; exact HB6.out.set_ 0 _)
              have HR7 := hide (HR6.out.kp hk7 (fun e => by unfold At at e; omega))
              have HK7 := hide (HK6.out.trans' hk7 fun b hb e => by unfold At at e; have := HX.out; omega)
              rw [hW7]
              clear hW7 hk7 x1 x2 x3 x4 x5 x6 x7 HO6 HB6 HR6 HRC6
              obtain ⟨x1, x2, x3, x4, x5, x6, x7⟩ := HB7.out.a3
              have HSZ := hide (HK7.out.size)
              have HX7 := hide (HR7.out.lt)
              have HL7 := hide (show 0 + (bv d.here).length ≤ 1073741824 by rw [bv_length]; omega)
              have HBL := hide (show (bv d.here).length = N by rw [bv_length]; exact hhl)
              clear hhl hs5 hx5
              go_upto_region 11 with (at_builtin; refine wpList_add (F := fun b => F b ∧ b ≠ X ∧ b ≠ X + 1) _ rfl (.tmp 33) (.tmp 35) _ rfl W7.heap.size 4 _ 1 Tryd.underlying26 Tryd.infoBool rfl _ 0 [] rfl (World.ownsRow_nil _ _ _ _) _ rfl (bv d.here) HHE7.out (one_bv _) HL7.out (by decide) (Nat.le_refl _) ?_; intro v8 w8 ho8 hgr8 hat8; have HK8 := hide ((Kp.refl No W7).grown hgr8 (fun k e hk => by cases e)); have HO8 := hide (show w8.ownsRow W7.heap.size 4 1 v8 N (bv d.here) by rw [HBL.out, Nat.zero_add, List.nil_append] at ho8; exact ho8); clear ho8 hgr8 hat8)
              obtain ⟨g, c8, hv8, hcc8, hcm8, hcl8, hfr8, hbg8, hgs8⟩ := own_cap HO8.out (k := i) (by rw [HBL.out]; exact HIN.out)
              rw [HBL.out] at hv8 hcc8
              subst hv8
              have HST := hide (own_set HO8.out (g := g) rfl i HIN.out (.bool false))
              have HKC := hide (show Kp No W7 (w8.setCell ⟨g, i, none⟩ (.bool false)) from HK8.out.trans' (kp_set _ _ _ _) fun b hb e => by unfold At at e; omega)
              have HGB := hide hbg8
              have hxg : X ≠ g := by have := HX7.out; omega
              clear x1 x2 x3 x4 x5 x6 x7
              obtain ⟨x1, x2, x3, x4, x5, x6, x7⟩ := (HB7.out.kp HKC.out id).a3
              go_upto_region 12 with fail
              obtain ⟨W8, hW8⟩ : ∃ W8, w8.setCell ⟨g, i, none⟩ (.bool false) = W8 := ⟨_, rfl⟩
              rw [hW8] at HST HKC x1 x2 x3 x4 x5 x6 x7 ⊢
              clear hW8 hcl8 hfr8 hgs8 hbg8
              go_wp2_with fail
              obtain ⟨W9, hW9⟩ : ∃ W9, W8.setCell ⟨X, 2, none⟩ (.slice (some ⟨g, 0, none⟩) N c8) = W9 := ⟨_, rfl⟩
              have hk9 : Kp (At X) W8 W9 := by rw [← hW9]; exact kp_set _ _ _ _
              have HO9 := hide ((HO7.out.no HKC.out).kp hk9 fun b hb e => hb.2.1 e)
              have HRT9 := hide ((HRT7.out.no HKC.out).kp hk9 fun b hb e => hb.2.1 e)
              have HHE9 := hide (show BoolsIn W9 (fun b => F b ∧ b ≠ X ∧ b ≠ X + 1) (.slice (some ⟨g, 0, none⟩) N c8) (d.here.set i false) by
                have hst := HST.out
                rw [← bv_set] at hst
                refine BoolsIn.kp (show BoolsIn W8 (fun b => F b ∧ b ≠ X ∧ b ≠ X + 1) _ _ from CellsIn.of_own hst fun b hb => ?_) hk9 fun b hb e => hb.2.1 e
                have h1 := (own_lt hst hb).1
                have := HSZ.out
                have := HX7.out
                exact ⟨HFF.out b (by omega), by omega, by omega⟩)
              have HB9 := hide (show Blk W9 X 28 #[.slice A6 d.outs.length c6, .slice Ar d.roots.length cr, .slice (some ⟨g, 0, none⟩) N c8] by rw [← hW9]; exact (HB7.out.kp HKC.out id).set_ 2 _)
              have HR9 := hide ((HR7.out.kp HKC.out id).kp hk9 (fun e => by unfold At at e; omega))
              have HK9 := hide ((HK7.out.trans HKC.out).trans' hk9 fun b hb e => by unfold At at e; have := HX.out; omega)
              have HRC9 := hide (show RcIs W9 (fun b => F b ∧ b ≠ X ∧ b ≠ X + 1) (.slice A6 d.outs.length c6) (.slice Ar d.roots.length cr) (.slice (some ⟨g, 0, none⟩) N c8) (offR d i) from ⟨HO9.out, HRT9.out, HHE9.out⟩)
              rw [hW9]
              exact ⟨⟨i + 1, _, _, _, by go_num, HIN.out, by rw [HO1.out, HSK.out]; exact HRC9, HB9, HR9, HK9⟩, by simp [intOf]; omega⟩
            · have hm0' : (((m : Nat) : Int) == 0) = false := by rw [beq_eq_false_iff_ne]; omega
              have HSK := hide (show off1 d i = d by unfold off1; rw [if_neg (by rw [HM.out]; exact fun h => hm0 h.2)])
              clear hm0
              go_wp2_with fail
              exact ⟨⟨i + 1, _, _, _, by go_num, hlt, by rw [HO1.out, HSK.out]; exact HRC5, HB5, HR5, HK5⟩, by simp [intOf]; omega⟩
        · obtain rfl : i = N := by omega
          go_wp2_with fail
          exact ⟨⟨n + 1, _, _, _, by go_num, by omega, by rw [HNX.out, HDE.out]; exact hrc, hbx, hrx, hkr⟩, by simp [intOf]; omega⟩
    · obtain rfl : n = 13 := by omega
      have HEND := hide (show offN c 13 = sweptR c from rfl)
      obtain ⟨Ao, co, Ar, cr, Ah, ch, rfl, rfl, rfl⟩ := hrc.out.slices
      have HRC := hide hrc.out
      rw [HEND.out] at HRC
      obtain ⟨d, hd⟩ : ∃ d, sweptR c = d := ⟨_, rfl⟩
      rw [hd] at HEND HRC
      rw [HEND.out] at hbx
      have HDD := hide hd
      clear hd hrc
      obtain ⟨x1, x2, x3, x4, x5, x6, x7⟩ := hbx.out.a3
      obtain ⟨y1, y2, y3, y4, y5, y6, y7⟩ := hrx.out.a3
      go_wp2_with fail
      have hk3 : Kp (At (X + 1)) wr (((wr.setCell ⟨X + 1, 0, none⟩ (.slice Ao d.outs.length co)).setCell ⟨X + 1, 1, none⟩ (.slice Ar d.roots.length cr)).setCell ⟨X + 1, 2, none⟩ (.slice Ah d.here.length ch)) := ((kp_set _ _ _ _).trans (kp_set _ _ _ _)).trans (kp_set _ _ _ _)
      have hb3 := ((hrx.out.set_ 0 (.slice Ao d.outs.length co)).set_ 1 (.slice Ar d.roots.length cr)).set_ 2 (.slice Ah d.here.length ch)
      obtain ⟨t0, t1, t2, _⟩ := hb3.a3
      refine bodyPost_ret (v := .agg #[.slice Ao d.outs.length co, .slice Ar d.roots.length cr, .slice Ah d.here.length ch]) (by simp [results, Tryd.results24, go_sem, t0, t1, t2]) rfl ?_
      refine ⟨_, _, _, rfl, ?_, hkr.out.trans' hk3 fun b hb e => by unfold At at e; have := HX.out; omega⟩
      rw [HDD.out]
      exact (HRC.out.kp hk3 fun b hb e => hb.2.2 e).mono fun b _ h => h.1
end Go.Proofs.YtiibadganlincaaDoor
