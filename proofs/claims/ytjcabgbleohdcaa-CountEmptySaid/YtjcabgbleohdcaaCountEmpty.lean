/- The law CountEmpty, walked: of all steps. -/
import Derived.Test.YtjcabgbleohdcaaCountBack
import Derived.Test.YtjcabgbleohdcaaRounds
namespace Go.Proofs.Ytjcabgbleohdcaa
open Go.RowKit
set_option linter.unusedSimpArgs false

set_option maxRecDepth 100000 in
set_option maxHeartbeats 8000000 in
theorem countEmpty_any {F : Nat → Prop} (vt : Value) (steps : List (List Int)) (w : World) (ht : RowsIn w F vt steps) : Calls Try.prog 6 #[vt] w fun e w' => e = .returned (.bool true) ∧ Kp No w w' := by
  have HT := hide ht
  have HP := hide (PInv.counted steps)
  obtain ⟨s, hs⟩ : ∃ s, countedS steps = s := ⟨_, rfl⟩
  have HSE := hide hs
  rw [hs] at HP
  clear ht hs
  go_enter Try.func6, Try.ntmps6
  go_wp2_with fail
  refine Calls.mono (countFact_any _) ?_
  rintro e w1 ⟨rfl, hk1⟩
  have HK1 := hide hk1
  clear hk1
  go_wp2_with fail
  refine Calls.mono (counted_any _ steps _ (HT.out.no HK1.out)) ?_
  rw [HSE.out]
  rintro e w2 ⟨p, rfl, hc2, hk2⟩
  have HC2 := hide hc2
  have HK2 := hide (HK1.out.trans hk2)
  have HS1 := hide (show w.heap.size ≤ w1.heap.size from HK1.out.size)
  have HS2 := hide (show w1.heap.size ≤ w2.heap.size from hk2.size)
  clear hc2 hk2
  go_wp2_with fail
  refine Calls.mono (cheap_any _ HP.out HC2.out) ?_
  rintro e w3 ⟨vo, vr, rfl, ho, hr, hk3⟩
  obtain ⟨Ao, co, rfl, hco, hmo, _⟩ := ho.form
  obtain ⟨Ar, cr, rfl, hcr, hmr, _⟩ := id hr
  obtain ⟨W, hW⟩ : ∃ W, w3.alloc (.cells #[.slice Ao s.outs.length co, .slice Ar s.roots.length cr] 28) = W := ⟨_, rfl⟩
  have hk4 : Kp No w3 W := by rw [← hW]; exact (Kp.refl No _).alloc _
  have HB := hide (show Blk W w3.heap.size 28 #[.slice Ao s.outs.length co, .slice Ar s.roots.length cr] from by rw [← hW]; exact Blk.new _ _ _)
  have HO := hide (ho.no hk4)
  have HR := hide (hr.no hk4)
  have HWS := hide (show w2.heap.size ≤ W.heap.size from Nat.le_trans hk3.size hk4.size)
  have H23 := hide (show w2.heap.size ≤ w3.heap.size from hk3.size)
  have HC := hide ((HC2.out.tight.no hk3).no hk4)
  have HK := hide ((HK2.out.trans hk3).trans hk4)
  clear ho hr hk3 hk4 HC2 HK1 HK2 HT
  obtain ⟨b1, b2, b3, b4, b5⟩ := HB.out.a2
  go_wp2_with fail
  clear hW
  refine Calls.mono (rounds_ok _ _ _ _ _ HO.out HR.out HP.out.ok) ?_
  rintro e w5 ⟨rfl, hk5⟩
  have HB5 := hide (HB.out.kp hk5 id)
  have HFB := hide (show Fx w2.heap.size w5.heap.size w3.heap.size from ⟨H23.out, HB5.out.lt⟩)
  have HR5 := hide ((HR.out.no hk5).mono (F' := Fx w2.heap.size w5.heap.size) fun k h1 h2 => ⟨h2, h1⟩)
  have HC5 := hide (show CnIs w5 p (Sx w1.heap.size w2.heap.size w5.heap.size) s from (HC.out.no hk5).mono fun b h => ⟨h.1, .inl h.2⟩)
  have HK5 := hide (HK.out.trans hk5)
  have HB1 := hide (show w1.heap.size ≤ w5.heap.size by have := HS2.out; have := HWS.out; have := hk5.size; omega)
  have HR12 := hide HP.out.r12
  clear hk5 b1 b2 b3 b4 b5
  obtain ⟨b1, b2, b3, b4, b5⟩ := HB5.out.a2
  have HEND := hide (drops_end HP.out)
  obtain ⟨m, hm⟩ : ∃ m, roundsN s.outs = m := ⟨_, rfl⟩
  rw [hm] at HEND
  rw [hm]
  clear hm
  go_wp2_with fail
  clear b1 b2 b3 b4 b5
  go_loopw [8] (fun q wr => ∃ k : Nat, q = .int .i64 k ∧ k ≤ s.roots.length ∧ CnIs wr p (Sx w1.heap.size w2.heap.size w5.heap.size) (dropsS s (s.roots.take k)) ∧ Kp (Sx w1.heap.size w2.heap.size w5.heap.size) w5 wr) (fun q _ => s.roots.length - (intOf q).toNat)
  case atStart => exact ⟨0, rfl, Nat.zero_le _, HC5.out, Kp.refl _ _⟩
  case round =>
    obtain ⟨k, rfl, hk, hc, hkp⟩ := hrel
    have HC := hide hc
    have HKP := hide hkp
    clear hc hkp
    obtain ⟨b1, b2, b3, b4, b5⟩ := (HB5.out.kp HKP.out (fx_sx HFB.out)).a2
    by_cases hlt : k < s.roots.length
    · have hk12 : k < 12 := by have := HR12.out; omega
      have HRk := HR5.out.kp HKP.out fun b h => fx_sx h
      obtain ⟨_, _, e, _, _, hcell⟩ := HRk
      cases e
      obtain ⟨b, o, rfl, _, hx⟩ := hcell k hlt
      have HPk := hide (drops_at HP.out k hk).1
      have HE0 := hide (show errV (dropE (dropsS s (s.roots.take k)) s.roots[k]) = .nilIface by rw [drops_ok HP.out hlt]; rfl)
      have HNX := hide (show dropS (dropsS s (s.roots.take k)) s.roots[k] = dropsS s (s.roots.take (k + 1)) by unfold dropsS; rw [List.take_succ_eq_append_getElem hlt, List.foldl_append]; rfl)
      clear hcell
      go_wp2_with fail
      refine Calls.mono (cdrop_any _ _ HPk.out (sx_new HKP.out (Nat.le_refl _) HB1.out) HC.out) ?_
      unfold CnPost
      rw [HE0.out, HNX.out]
      rintro e w6 ⟨rfl, hc6, hk6⟩
      have HC6 := hide hc6
      have HK6 := hide (HKP.out.trans hk6)
      clear hc6 hk6 hx b1 b2 b3 b4 b5
      go_wp2
      go_roundw
      case rel => exact ⟨k + 1, by go_num, hlt, HC6.out, HK6.out⟩
      case measure => simp [intOf]; omega
    · obtain rfl : k = s.roots.length := by omega
      have HPk := hide (drops_at HP.out _ (Nat.le_refl _)).1
      have HRE := hide (show (dropsS s (s.roots.take s.roots.length)).roots = [] by rw [(drops_at HP.out _ (Nat.le_refl _)).2.1, List.drop_length])
      have HEND2 := HEND.out
      rw [List.take_length] at HC HPk HRE
      obtain ⟨t, ht⟩ : ∃ t, dropsS s s.roots = t := ⟨_, rfl⟩
      rw [ht] at HC HPk HRE HEND2
      have HEN := hide HEND2
      clear HEND2 HEND ht
      go_wp2_with fail
      refine Calls.mono (cheap_any _ HPk.out HC.out) ?_
      rw [HRE.out]
      rintro e w6 ⟨vo', vr', rfl, ho', hr', hk6⟩
      obtain ⟨Ao', co', rfl, _⟩ := ho'.form
      obtain ⟨Ar', cr', rfl, _⟩ := id hr'
      obtain ⟨V, hV⟩ : ∃ V, w6.alloc (.cells #[.slice Ao' t.outs.length co', .slice Ar' ([] : List Int).length cr'] 28) = V := ⟨_, rfl⟩
      have hkv : Kp No w6 V := by rw [← hV]; exact (Kp.refl No _).alloc _
      have HBV := hide (show Blk V w6.heap.size 28 #[.slice Ao' t.outs.length co', .slice Ar' ([] : List Int).length cr'] from by rw [← hV]; exact Blk.new _ _ _)
      have HCV := hide ((HC.out.no hk6).no hkv)
      have HKV := hide (sx_no HK5.out (HKP.out.trans (hk6.trans hkv).of_no) HS1.out)
      clear ho' hr' hk6 hkv b1 b2 b3 b4 b5
      obtain ⟨b1, b2, b3, b4, b5⟩ := HBV.out.a2
      simp only [List.length_nil] at hV b2
      go_wp2_with fail
      clear hV
      refine Calls.mono (here_any _ HPk.out HCV.out) ?_
      rintro e w7 ⟨rfl, rfl⟩
      obtain ⟨h, hh⟩ : ∃ h, hereB t = h := ⟨_, rfl⟩
      rw [hh] at HEN
      rw [hh]
      clear hh
      by_cases h0 : m = 0
      · obtain rfl := HEN.out.2 h0
        subst h0
        go_wp2
        go_ret
        exact ⟨rfl, HKV.out⟩
      · have h1 : h ≠ 0 := fun e => h0 (HEN.out.1 e)
        have e1 : ((h : Int) == 0) = false := by rw [beq_eq_false_iff_ne]; omega
        have e2 : ((m : Int) == 0) = false := by rw [beq_eq_false_iff_ne]; omega
        clear h0 h1
        go_wp2
        go_ret
        exact ⟨rfl, HKV.out⟩
end Go.Proofs.Ytjcabgbleohdcaa
