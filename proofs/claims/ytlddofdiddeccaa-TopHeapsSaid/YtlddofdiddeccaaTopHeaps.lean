/- TopHeaps, walked: of every heap. -/
import Derived.Test.YtlddofdiddeccaaColorNew
import Derived.Test.YtlddofdiddeccaaHeapsPlain
import Derived.Test.YtlddofdiddeccaaSweepFact
import Derived.BigQuiet
namespace Go.Proofs.Ytlddofdiddeccaa
open Go.RowKit
set_option linter.unusedSimpArgs false

theorem colors_any {p base : Nat} {vo vr vc : Value} {vs : List Value} {outs : List (List Int)} {roots c : List Int} (w : World) (hm : MarkAt w p base vo vr vc vs outs roots c) (hl : c.length ≤ 12) :
    Calls Try.prog 14 #[.pointer (some ⟨p, 0, none⟩)] w (CloneInts w c) := by
  obtain ⟨b1, b2, b3, b4, b5, b6, b7⟩ := hm.blk.a3
  have HI := hide (own_ints hm.col)
  clear hm
  go_enter Try.func14, Try.ntmps14
  go_wp2_with fail
  refine Calls.mono (clone_any _ c _ HI.out (by omega)) ?_
  rintro e w1 ⟨v, rfl, h1, h2⟩
  have H1 := hide h1
  have H2 := hide h2
  clear h1 h2
  go_wp2
  go_ret
  exact ⟨_, rfl, H1.out, H2.out⟩
theorem step_any {p base : Nat} {vo vr vc : Value} {vs : List Value} {outs : List (List Int)} {roots c : List Int} (w : World) (hm : MarkAt w p base vo vr vc vs outs roots c) (hok : Ok outs roots) (hcl : c.length = outs.length) :
    Calls Try.prog 8 #[.pointer (some ⟨p, 0, none⟩)] w fun e w' => e = .returned (.bool (decide ((1 : Int) ∈ c))) ∧ MarkAt w' p base vo vr vc vs outs roots (stepC outs c) ∧ Kp (fun b => vc.ownBlock = some b) w w' := by
  by_cases h : (1 : Int) ∈ c
  · rw [decide_eq_true h]
    exact step_yes w hm h hok hcl
  · rw [decide_eq_false h]
    refine (step_no w hm h).mono ?_
    rintro e w' ⟨rfl, rfl⟩
    have e : stepC outs c = c := by unfold stepC; rw [if_neg h]
    exact ⟨rfl, by rw [e]; exact hm, Kp.refl _ _⟩
theorem new_bad {F : Nat → Prop} (vo vr : Value) (outs : List (List Int)) (roots : List Int) (w : World) (ho : RowsIn w F vo outs) (hr : IntsIn w F vr roots) (hbad : chk outs roots ≠ 0) :
    Calls Try.prog 7 #[.agg #[vo, vr]] w fun e w' => e = .returned (.tuple #[.pointer none, .iface 65 (.int .i64 (chk outs roots))]) ∧ Kp No w w' := by
  have HO := hide ho
  have HR := hide hr
  have HE := hide (errV_pos hbad)
  clear ho hr hbad
  go_enter Try.func7, Try.ntmps7
  go_wp2_with fail
  refine Calls.mono (check_any vo vr outs roots _ (HO.out.no ((Kp.refl No _).alloc _)) (HR.out.no ((Kp.refl No _).alloc _))) ?_
  rw [HE.out]
  rintro e w1 ⟨rfl, hk1⟩
  have HK1 := hide (((Kp.refl No w).alloc (.cells #[vo, vr] 25)).trans' hk1 fun _ _ h => h)
  clear hk1
  go_wp2
  exact bodyPost_ret (v := .tuple #[.pointer none, .iface 65 (.int .i64 (chk outs roots))]) (by simp [results, Try.results7, go_sem]) rfl ⟨rfl, HK1.out⟩

/-- black is what is marked -/
theorem heaps_at {outs : List (List Int)} {roots : List Int} (hok : Ok outs roots) (i : Nat) :
    (cAt (stepsC outs outs.length (newC outs roots)) i == 2) = hasB (leftL (reachN outs roots)) (i : Int) := by
  have hc := (Col.new_ hok).steps hok outs.length
  have hg := no_grey outs (newC outs roots) (k := outs.length) (by rw [newC_length]; exact Nat.le_refl _)
  have hb := black_bit hok hc ((Sound.new_ hok).steps hok outs.length) hg i
  rw [Bool.eq_iff_iff, beq_iff_eq, hb]
  unfold hasB bt
  rw [decide_eq_true_iff, mem_left hok, reachN_bit hok]

set_option maxRecDepth 100000 in
set_option maxHeartbeats 8000000 in
theorem topHeaps_any {F : Nat → Prop} (vo vr : Value) (outs : List (List Int)) (roots : List Int) (w : World) (ho : RowsIn w F vo outs) (hr : IntsIn w F vr roots) :
    Calls Try.prog 3 #[.agg #[vo, vr]] w fun e w' => e = .returned (.bool true) ∧ Kp No w w' := by
  have HO := hide ho
  have HR := hide hr
  clear ho hr
  have HOK0 := hide (show Ok [[]] [0] from ok_of_chk (by decide))
  have HN0 := hide (show newC [[]] [0] = [1] by decide)
  go_enter Try.func3, Try.ntmps3
  go_wp2_with fail
  have HNP := hide (new_ok (F := fun _ => True) (.slice (some ⟨w.heap.size + 1 + 1, 0, none⟩) 1 1) (.slice (some ⟨w.heap.size + 1 + 1 + 1, 0, none⟩) 1 1) [[]] [0]
    ((((w.alloc (.cells #[vo, vr] 25)).alloc (.cells #[] 3)).alloc (.cells #[.slice (some ⟨w.heap.size + 1, 0, none⟩) 0 0] 23)).alloc (.cells #[.int .i64 0] 3))
    (rows_blk (vs := [_]) (by (repeat (first | with_reducible refine Blk.drewN ?_ _ | with_reducible refine Blk.drew ?_ | (with_reducible refine Blk.at_ _ _ ?_; (first | rfl | (simp; done))) | with_reducible refine Blk.alloc ?_ _))) rfl trivial (by simp) rfl (by
      intro i h h'
      match i, h with
      | 0, _ => exact ints_blk (xs := []) (cs := #[]) (by (repeat (first | with_reducible refine Blk.drewN ?_ _ | with_reducible refine Blk.drew ?_ | (with_reducible refine Blk.at_ _ _ ?_; (first | rfl | (simp; done))) | with_reducible refine Blk.alloc ?_ _))) trivial (by simp) rfl))
    (one_blk (by (repeat (first | with_reducible refine Blk.drewN ?_ _ | with_reducible refine Blk.drew ?_ | (with_reducible refine Blk.at_ _ _ ?_; (first | rfl | (simp; done))) | with_reducible refine Blk.alloc ?_ _))) trivial) HOK0.out)
  refine Calls.mono HNP.out ?_
  clear HNP
  unfold NewPost
  rw [HN0.out]
  rintro e w1 ⟨p, vo', vr', vc, vs, rfl, hm, hp, hk1⟩
  have HM := hide hm
  have hb1 := (((((Blk.new w 25 #[vo, vr]).alloc (.cells #[] 3)).alloc (.cells #[.slice (some ⟨w.heap.size + 1, 0, none⟩) 0 0] 23)).alloc (.cells #[.int .i64 0] 3))).kp hk1 id
  have hk1' := (((((Kp.refl No w).alloc (.cells #[vo, vr] 25)).alloc (.cells #[] 3)).alloc (.cells #[.slice (some ⟨w.heap.size + 1, 0, none⟩) 0 0] 23)).alloc (.cells #[.int .i64 0] 3)).trans' hk1 fun _ _ h => h
  have hsz : w.heap.size + 4 ≤ ((((w.alloc (.cells #[vo, vr] 25)).alloc (.cells #[] 3)).alloc (.cells #[.slice (some ⟨w.heap.size + 1, 0, none⟩) 0 0] 23)).alloc (.cells #[.int .i64 0] 3)).heap.size := by simp
  obtain ⟨w0, hw0⟩ : ∃ w0, ((((w.alloc (.cells #[vo, vr] 25)).alloc (.cells #[] 3)).alloc (.cells #[.slice (some ⟨w.heap.size + 1, 0, none⟩) 0 0] 23)).alloc (.cells #[.int .i64 0] 3)) = w0 := ⟨_, rfl⟩
  rw [hw0] at HM hp hsz
  clear hw0 hm hk1
  have HB1 := hide hb1
  have HK1 := hide hk1'
  have HSZ := hide hsz
  clear hb1 hk1' hsz
  go_wp2_with fail
  refine Calls.mono (step_yes _ HM.out (by decide) HOK0.out (by decide)) ?_
  rintro e w2 ⟨rfl, hm2, hk2⟩
  have HK2 := hide (HK1.out.trans' hk2 fun b hb h => by have := (own_lt HM.out.col h).1; have := HSZ.out; omega)
  have HB2 := hide (HB1.out.kp hk2 fun h => by have := (own_lt HM.out.col h).1; have := HSZ.out; omega)
  clear hm2 hk2 HM HB1 HK1 hp
  obtain ⟨a1, a2, a3, a4, a5⟩ := HB2.out.a2
  by_cases hc : chk outs roots = 0
  · have HOK := hide (ok_of_chk hc)
    clear hc
    have HPT := hide (left_part HOK.out)
    have HOK2 := hide (show Ok (leftO outs roots) (leftR outs roots) from HPT.out.ok_)
    have HS1 := hide (fun (vo vr : Value) w ho hr => sweep_ok (F := F) vo vr outs roots w ho hr HOK.out)
    have HC2 := hide (fun (vo vr : Value) w (ho : RowsIn w (fun _ => True) vo (leftO outs roots)) (hr : IntsIn w (fun _ => True) vr (leftR outs roots)) => copy_ok vo vr _ _ w ho hr HOK2.out)
    have HRP := hide (show copyRows (leftO outs roots) (leftR outs roots) = copyRows outs roots from rows_part HPT.out)
    have HQP := hide (show renum (order (leftO outs roots) (leftR outs roots)) (leftR outs roots) = renum (order outs roots) roots from roots_part HPT.out)
    have HLEN := hide (left_len HOK.out)
    have HSET := hide (left_set HOK.out)
    have HAT := hide (heaps_at HOK.out)
    have HVD := hide (left_vd HOK.out)
    have HL := hide HOK.out.n12
    have HLL := hide (show (leftL (reachN outs roots)).length ≤ 12 from Nat.le_trans HVD.out.len HL.out)
    have HRN := hide (reachN_lt HOK.out)
    have HCN := hide (fun k => (stepsC_length outs (newC outs roots) k).trans (newC_length outs roots))
    unfold CopyPost at HC2
    rw [HRP.out, HQP.out] at HC2
    obtain ⟨c0, hc0⟩ : ∃ c0, newC outs roots = c0 := ⟨_, rfl⟩
    rw [hc0] at HAT HCN
    obtain ⟨L, hL⟩ : ∃ L, leftL (reachN outs roots) = L := ⟨_, rfl⟩
    obtain ⟨O, hO⟩ : ∃ O, leftO outs roots = O := ⟨_, rfl⟩
    obtain ⟨R, hR⟩ : ∃ R, leftR outs roots = R := ⟨_, rfl⟩
    rw [hL] at HS1 HLEN HSET HAT HLL HVD
    rw [hO, hR] at HS1 HC2
    clear HPT HOK2 HRP HQP hL hO hR
    obtain ⟨Ao, co, rfl, hco, hmo, _⟩ := RowsIn.form HO.out
    obtain ⟨Ar, cr, rfl, hcr, hmr, _⟩ := id HR.out
    go_wp2_with fail
    refine Calls.mono (HS1.out _ _ _ (HO.out.no HK2.out) (HR.out.no HK2.out)) ?_
    unfold SweepPost
    rintro e w3 ⟨v, vo', vr', rfl, hv, ho', hr', hk3⟩
    obtain ⟨Av, cv, rfl, hcv, hmv, _⟩ := id hv
    obtain ⟨Ax, cx, rfl, hcx, hmx, _⟩ := ho'.form
    obtain ⟨Aq, cq, rfl, hcq, hmq, _⟩ := id hr'
    obtain ⟨W3, hW3⟩ : ∃ W3, w3.alloc (.cells #[.slice Ax O.length cx, .slice Aq R.length cq] 25) = W3 := ⟨_, rfl⟩
    have hk33 : Kp No w3 W3 := by rw [← hW3]; exact (Kp.refl No w3).alloc _
    have HBX := hide (show Blk W3 w3.heap.size 25 #[.slice Ax O.length cx, .slice Aq R.length cq] by rw [← hW3]; exact Blk.new _ _ _)
    have HK3 := hide ((HK2.out.trans hk3).trans hk33)
    have HB3 := hide ((HB2.out.no' hk3).no' hk33)
    have HV3 := hide ((hv.mono (F' := fun _ => True) fun _ _ _ => trivial).no hk33)
    have HX3 := hide ((ho'.mono (F' := fun _ => True) fun _ _ _ => trivial).no hk33)
    have HQ3 := hide ((hr'.mono (F' := fun _ => True) fun _ _ _ => trivial).no hk33)
    clear hv ho' hr' hk3 hk33 a1 a2 a3 a4 a5 HS1
    obtain ⟨a1, a2, a3, a4, a5⟩ := HB3.out.a2
    obtain ⟨b1, b2, b3, b4, b5⟩ := HBX.out.a2
    go_wp2_with fail
    clear hW3
    refine Calls.mono (copy_ok _ _ outs roots _ (HO.out.no HK3.out) (HR.out.no HK3.out) HOK.out) ?_
    unfold CopyPost
    rintro e w4 ⟨v, vo', vr', rfl, hv, ho', hr', hk4⟩
    obtain ⟨Ak, ck, rfl, hck, hmk, _⟩ := id hv
    obtain ⟨Ay, cy, rfl, hcy, hmy, _⟩ := ho'.form
    obtain ⟨Az, cz, rfl, hcz, hmz, _⟩ := id hr'
    have HY := hide (ho'.mono (F' := fun _ => True) fun _ _ _ => trivial)
    have HZ := hide (hr'.mono (F' := fun _ => True) fun _ _ _ => trivial)
    obtain ⟨YR, hYR⟩ : ∃ YR, copyRows outs roots = YR := ⟨_, rfl⟩
    obtain ⟨YQ, hYQ⟩ : ∃ YQ, renum (order outs roots) roots = YQ := ⟨_, rfl⟩
    rw [hYR] at HY HC2 hcy ⊢
    rw [hYQ] at HZ HC2 hcz ⊢
    rw [← HLEN.out]
    obtain ⟨W4, hW4⟩ : ∃ W4, w4.alloc (.cells #[.slice Ay YR.length cy, .slice Az YQ.length cz] 25) = W4 := ⟨_, rfl⟩
    have hk44 : Kp No w4 W4 := by rw [← hW4]; exact (Kp.refl No w4).alloc _
    have HBY := hide (show Blk W4 w4.heap.size 25 #[.slice Ay YR.length cy, .slice Az YQ.length cz] by rw [← hW4]; exact Blk.new _ _ _)
    have HK34 := hide (hk4.trans hk44)
    have HY4 := hide (HY.out.no hk44)
    have HZ4 := hide (HZ.out.no hk44)
    have HB4 := hide (HB3.out.no' HK34.out)
    have HBX4 := hide (HBX.out.no' HK34.out)
    have HK4 := hide (HK3.out.trans HK34.out)
    have HV4 := hide ((HV3.out.no HK34.out).mono (F' := Lo W4.heap.size) fun k h _ => h)
    have HX4 := hide (HX3.out.no HK34.out)
    have HQ4 := hide (HQ3.out.no HK34.out)
    clear hv ho' hr' hk4 hk44 a1 a2 a3 a4 a5 b1 b2 b3 b4 b5 HY HZ HB3 HBX HK3 HV3 HX3 HQ3 HK34 hYR hYQ
    obtain ⟨a1, a2, a3, a4, a5⟩ := HB4.out.a2
    go_wp2_with fail
    clear hW4
    refine Calls.mono (new_ok _ _ outs roots _ (HO.out.no HK4.out) (HR.out.no HK4.out) HOK.out) ?_
    unfold NewPost
    rw [hc0]
    rintro e w5 ⟨p, vo', vr', vc, vs, rfl, hm, hp, hk5⟩
    have HM := hide hm
    have HB5 := hide (HB4.out.no' hk5)
    have HK5 := hide (HK4.out.trans hk5)
    have HK45 := hide hk5
    clear hm hk5 a1 a2 a3 a4 a5 hc0
    obtain ⟨a1, a2, a3, a4, a5⟩ := HB5.out.a2
    go_wp2_with fail
    refine Calls.mono (reach_ok _ _ outs roots _ (HO.out.no HK5.out) (HR.out.no HK5.out) HOK.out) ?_
    rintro e w6 ⟨rfl, hk6⟩
    have HB6 := hide (HB5.out.no' hk6)
    have HM6 := hide (HM.out.no hk6)
    have HK46 := hide (HK45.out.trans hk6)
    have HK6 := hide (HK5.out.trans hk6)
    clear hk6 a1 a2 a3 a4 a5
    obtain ⟨b1, b2, b3, b4, b5⟩ := (HBX4.out.no' HK46.out).a2
    go_wp2_with fail
    refine Calls.mono (HC2.out _ _ _ (HX4.out.no HK46.out) (HQ4.out.no HK46.out)) ?_
    rintro e w7 ⟨v, vo'', vr'', rfl, _, ho', hr', hk7⟩
    obtain ⟨Ae, ce, rfl, hce, hme, _⟩ := ho'.form
    obtain ⟨Af, cf, rfl, hcf, hmf, _⟩ := id hr'
    obtain ⟨W7, hW7⟩ : ∃ W7, w7.alloc (.cells #[.slice Ae YR.length ce, .slice Af YQ.length cf] 25) = W7 := ⟨_, rfl⟩
    have hk77 : Kp No w7 W7 := by rw [← hW7]; exact (Kp.refl No w7).alloc _
    have HBZ := hide (show Blk W7 w7.heap.size 25 #[.slice Ae YR.length ce, .slice Af YQ.length cf] by rw [← hW7]; exact Blk.new _ _ _)
    have HK67 := hide (hk7.trans hk77)
    have HE7 := hide ((ho'.mono (F' := fun _ => True) fun _ _ _ => trivial).no hk77)
    have HF7 := hide ((hr'.mono (F' := fun _ => True) fun _ _ _ => trivial).no hk77)
    have HK47 := hide (HK46.out.trans HK67.out)
    have HB7 := hide (HB6.out.no' HK67.out)
    have HM7 := hide (HM6.out.no HK67.out)
    have HV7 := hide (HV4.out.no HK47.out)
    have HK7 := hide (HK6.out.trans HK67.out)
    clear ho' hr' hk7 hk77 b1 b2 b3 b4 b5 HC2 HX4 HQ4
    obtain ⟨b1, b2, b3, b4, b5⟩ := (HBY.out.no' HK47.out).a2
    obtain ⟨c1, c2, c3, c4, c5⟩ := HBZ.out.a2
    have E2 := hide (show eqHB YR YR YQ YQ = true by unfold eqHB eqB eqBB; simp)
    go_wp2_with fail
    clear hW7
    refine Calls.mono (heaps_any _ _ _ _ YR YR YQ YQ _ (HY4.out.no HK47.out) (HZ4.out.no HK47.out) HE7.out HF7.out) ?_
    rw [E2.out]
    rintro e w8 ⟨rfl, hk8⟩
    have hne : ((L.length : Int) != (L.length : Int)) = false := by simp
    have HB8 := hide (HB7.out.no' hk8)
    have HM8 := hide (HM7.out.no hk8)
    have HV8 := hide (HV7.out.no hk8)
    have HK8 := hide (HK7.out.trans hk8)
    clear hk8 b1 b2 b3 b4 b5 c1 c2 c3 c4 c5 HY4 HZ4 HE7 HF7 HBZ HBY HBX4 E2 HK45 HK46 HK47 HK67
    go_wp2_with fail
    refine Calls.mono (set_any _ L _ HV8.out (by have := HLL.out; omega) fun x hx => by have := HVD.out.range x hx; have := HL.out; omega) ?_
    rw [HSET.out]
    rintro e w9 ⟨rfl, rfl⟩
    obtain ⟨s, hs⟩ : ∃ s, reachN outs roots = s := ⟨_, rfl⟩
    rw [hs]
    have hnn : ((s : Int) != (s : Int)) = false := by simp
    obtain ⟨a1, a2, a3, a4, a5⟩ := HB8.out.a2
    have HW4 := hide (show w.heap.size < W4.heap.size from HB4.out.lt)
    clear hs
    go_wp2_with fail
    go_loopw [18] (fun q wr => ∃ k : Nat, q = .int .i64 k ∧ k ≤ outs.length ∧ MarkAt wr p W4.heap.size vo' vr' vc vs outs roots (stepsC outs k c0) ∧ Kp (Hi W4.heap.size) w8 wr)
      (fun q _ => outs.length - (intOf q).toNat)
    case atStart => exact ⟨0, rfl, Nat.zero_le _, HM8.out, Kp.refl _ _⟩
    case round =>
      obtain ⟨k, rfl, hk, hmk, hkp⟩ := hrel
      have HMK := hide hmk
      have HKP := hide hkp
      clear a1 a2 a3 a4 a5
      obtain ⟨a1, a2, a3, a4, _⟩ := (HB8.out.kp hkp fun h => by unfold Hi at h; have := HW4.out; omega).a2
      clear hmk hkp
      by_cases hlt : k < outs.length
      · have HS := hide (show stepsC outs (k + 1) c0 = stepC outs (stepsC outs k c0) from rfl)
        go_wp2_with fail
        refine Calls.mono (step_any _ HMK.out HOK.out (HCN.out k)) ?_
        rintro e wb ⟨rfl, hmb, hkb⟩
        have HMB := hide hmb
        have HKB := hide (HKP.out.trans' hkb fun b hb e => (own_lt HMK.out.col e).1)
        clear hmb hkb a1 a2 a3 a4
        go_wp2
        go_roundw
        case rel => exact ⟨k + 1, by go_num, hlt, by rw [HS.out]; exact HMB.out, HKB.out⟩
        case measure => simp [intOf]; omega
      · obtain rfl : k = outs.length := by omega
        have HCO := hide (HCN.out outs.length)
        have HBB := hide (HB8.out.kp HKP.out fun h => by unfold Hi at h; have := HW4.out; omega)
        have HKK := hide (show Kp No w wr from HK8.out.trans' HKP.out fun b hb h => by unfold Hi at h; have := HW4.out; omega)
        obtain ⟨cn, hcn⟩ : ∃ cn, stepsC outs outs.length c0 = cn := ⟨_, rfl⟩
        rw [hcn] at HMK HCO HAT
        clear hcn HCN
        have HVV := hide (HV8.out.kp HKP.out fun b hb h => by unfold Lo at hb; unfold Hi at h; omega)
        go_wp2_with fail
        refine Calls.mono (colors_any _ HMK.out (by rw [HCO.out]; exact HL.out)) ?_
        rintro e wc ⟨vq, rfl, hvq, hkc⟩
        obtain ⟨e0, A5, c5, hvv, hc5, hm5, _⟩ := own_form hvq
        clear e0
        rw [iv_length, HCO.out] at hvv
        rw [iv_length, HCO.out] at hc5
        subst hvv
        have HVQ := hide hvq
        have HBC := hide (HBB.out.no' hkc)
        have HKC := hide (HKK.out.trans hkc)
        have HVC := hide (HVV.out.no hkc)
        clear hvq hkc a1 a2 a3 a4
        obtain ⟨a1, a2, a3, a4, _⟩ := HBC.out.a2
        go_wp2_with fail
        go_loopw [20] (fun q wq => ∃ i : Nat, q = .int .i64 i ∧ i ≤ outs.length ∧ Kp No wc wq) (fun q _ => outs.length - (intOf q).toNat)
        case atStart => exact ⟨0, rfl, Nat.zero_le _, Kp.refl _ _⟩
        case round =>
          obtain ⟨i, rfl, hi, hkq⟩ := hrel
          have HKQ := hide hkq
          clear a1 a2 a3 a4
          obtain ⟨a1, a2, a3, a4, _⟩ := (HBC.out.no' hkq).a2
          clear hkq
          by_cases hil : i < outs.length
          · have hi12 : i < 12 := by have := HL.out; omega
            obtain ⟨g, c9, e, _, _, hcell, _, _, _, _⟩ := own_int (own_kp HVQ.out HKQ.out fun _ _ h => h) (k := i) (by rw [HCO.out]; exact hil)
            rw [HCO.out] at e
            injection e with e1 e2 e3
            subst e1 e3
            clear e2
            rw [← cAt_eq (by rw [HCO.out]; exact hil)] at hcell
            have hat := HAT.out i
            obtain ⟨d, hd⟩ : ∃ d, cAt cn i = d := ⟨_, rfl⟩
            rw [hd] at hcell hat
            have HAI := hide hat.symm
            have HVR := hide (HVC.out.no HKQ.out)
            clear hd hat
            cases hb : d == 2 with
            | true =>
              obtain rfl : d = 2 := beq_iff_eq.1 hb
              rw [hb] at HAI
              clear hb
              go_wp2_with fail
              go_quiet ((go_at_call 15; exact Calls.quiet_of ((has_any _ L (i : Int) _ (HVR.out.no ((Kp.refl No _).drewN _))).mono fun e w' h => ⟨h.1.trans (ret_bool HAI.out), 0, h.2.symm⟩)))
              go_wp2
              go_roundw
              case rel => exact ⟨i + 1, by go_num, hil, HKQ.out.drewN _⟩
              case measure => simp [intOf]; omega
            | false =>
              rw [hb] at HAI
              go_wp2_with fail
              go_quiet ((go_at_call 15; exact Calls.quiet_of ((has_any _ L (i : Int) _ (HVR.out.no ((Kp.refl No _).drewN _))).mono fun e w' h => ⟨h.1.trans (ret_bool HAI.out), 0, h.2.symm⟩)))
              go_wp2
              go_roundw
              case rel => exact ⟨i + 1, by go_num, hil, HKQ.out.drewN _⟩
              case measure => simp [intOf]; omega
          · obtain rfl : i = outs.length := by omega
            go_wp2
            go_ret
            exact ⟨rfl, HKC.out.trans HKQ.out⟩
  · have HC := hide hc
    clear hc
    have hc0 : chk outs roots ≠ 0 := HC.out
    clear hc0
    go_wp2_with fail
    refine Calls.mono (sweep_bad _ _ outs roots _ (HO.out.no HK2.out) (HR.out.no HK2.out) HC.out) ?_
    rintro e w3 ⟨rfl, hk3⟩
    have HB3 := hide (HB2.out.no' hk3)
    have HK3 := hide ((HK2.out.trans hk3).alloc (.cells #[.slice none 0 0, .slice none 0 0] 25))
    clear a1 a2 a3 a4 a5 hk3
    obtain ⟨a1, a2, a3, a4, a5⟩ := HB3.out.a2
    go_wp2_with fail
    refine Calls.mono (copy_bad _ _ outs roots _ (HO.out.no HK3.out) (HR.out.no HK3.out) HC.out) ?_
    rintro e w4 ⟨rfl, hk4⟩
    have HB4 := hide ((HB3.out.alloc (.cells #[.slice none 0 0, .slice none 0 0] 25)).no' hk4)
    have HK4 := hide ((HK3.out.trans hk4).alloc (.cells #[.slice none 0 0, .slice none 0 0] 25))
    clear a1 a2 a3 a4 a5 hk4
    obtain ⟨a1, a2, a3, a4, a5⟩ := HB4.out.a2
    go_wp2_with fail
    refine Calls.mono (new_bad _ _ outs roots _ (HO.out.no HK4.out) (HR.out.no HK4.out) HC.out) ?_
    rintro e w5 ⟨rfl, hk5⟩
    have HB5 := hide ((HB4.out.alloc (.cells #[.slice none 0 0, .slice none 0 0] 25)).no' hk5)
    have HK5 := hide (HK4.out.trans hk5)
    clear a1 a2 a3 a4 a5 hk5
    obtain ⟨a1, a2, a3, a4, a5⟩ := HB5.out.a2
    go_wp2_with fail
    refine Calls.mono (reach_bad _ _ outs roots _ (HO.out.no HK5.out) (HR.out.no HK5.out) HC.out) ?_
    rintro e w6 ⟨rfl, hk6⟩
    have HK6 := hide (HK5.out.trans hk6)
    clear a1 a2 a3 a4 a5 hk6
    go_wp2
    go_ret
    exact ⟨rfl, HK6.out⟩
end Go.Proofs.Ytlddofdiddeccaa
