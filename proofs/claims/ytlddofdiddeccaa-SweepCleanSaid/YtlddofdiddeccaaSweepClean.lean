/- The law SweepClean, walked: of every heap. -/
import Derived.Test.YtlddofdiddeccaaSweepFact
import Derived.Test.YtlddofdiddeccaaAnewPlain
import Derived.BigQuiet
namespace Go.Proofs.Ytlddofdiddeccaa
open Go.RowKit
set_option linter.unusedSimpArgs false

theorem renum_at {o xs : List Int} (h : ∀ x ∈ xs, x ∈ o) {i : Nat} (hi : i < xs.length) : ∃ y : Nat, ∃ hy : y < o.length, (renum o xs)[i]'(by rw [renum_length]; exact hi) = (y : Int) ∧ o[y] = xs[i] := by
  have hm := h _ (List.getElem_mem hi)
  refine ⟨o.idxOf xs[i], List.idxOf_lt_length_iff.2 hm, by simp [renum], List.getElem_idxOf _⟩

set_option maxRecDepth 100000 in
set_option maxHeartbeats 8000000 in
theorem sweepClean_any {F : Nat → Prop} (vo vr : Value) (outs : List (List Int)) (roots : List Int) (w : World) (ho : RowsIn w F vo outs) (hr : IntsIn w F vr roots) :
    Calls Try.prog 5 #[.agg #[vo, vr]] w fun e w' => e = .returned (.bool true) ∧ Kp No w w' := by
  have HO := hide ho
  have HR := hide hr
  clear ho hr
  by_cases hc : chk outs roots = 0
  · have HOK := hide (ok_of_chk hc)
    clear hc
    have HPT := hide (left_part HOK.out)
    have HOK2 := hide (show Ok (leftO outs roots) (leftR outs roots) from HPT.out.ok_)
    have HAG := hide (left_again HOK.out)
    have HTW := hide (left_twice HOK.out)
    have HAT := hide (show ∀ k x, (leftL (reachN outs roots))[k]? = some x → (leftO outs roots)[k]? = some (renum (leftL (reachN outs roots)) (adj outs x)) from fun k x hk => by
      obtain ⟨h1, h2⟩ := List.getElem?_eq_some_iff.1 hk
      rw [List.getElem?_eq_getElem (by unfold leftO; rw [rowsOf_length (Nat.le_refl _)]; exact h1), ← h2]
      exact congrArg some (anewO_at h1))
    have HOL := hide (show (leftO outs roots).length = (leftL (reachN outs roots)).length from anewO_length)
    obtain ⟨L, hL⟩ : ∃ L, leftL (reachN outs roots) = L := ⟨_, rfl⟩
    obtain ⟨O, hO⟩ : ∃ O, leftO outs roots = O := ⟨_, rfl⟩
    obtain ⟨R, hR⟩ : ∃ R, leftR outs roots = R := ⟨_, rfl⟩
    have HS1 := hide (fun (vo vr : Value) w ho hr => sweep_ok (F := F) vo vr outs roots w ho hr HOK.out)
    rw [hL, hO, hR] at HS1
    have HS2 := hide (fun (vo vr : Value) w (ho : RowsIn w (fun _ => True) vo O) (hr : IntsIn w (fun _ => True) vr R) => sweep_ok vo vr O R w ho hr (by rw [← hO, ← hR]; exact HOK2.out))
    have e1 : leftL (reachN O R) = upTo L.length := by rw [← hO, ← hR, ← hL]; exact HAG.out
    have e2 : leftO O R = O := by rw [← hO, ← hR]; exact HTW.out.1
    have e3 : leftR O R = R := by rw [← hO, ← hR]; exact HTW.out.2
    rw [e1, e2, e3] at HS2
    rw [hL, hO] at HAT HOL
    rw [hL] at HPT
    clear hL hO hR HAG HTW HOK2 e1 e2 e3
    have HL := hide HOK.out.n12
    have HLL := hide (show L.length ≤ 12 from Nat.le_trans HPT.out.vd.len HOK.out.n12)
    have E1 := hide (show eqB (upTo L.length) (upTo L.length) = true by unfold eqB; exact decide_eq_true rfl)
    have E2 := hide (show eqHB O O R R = true by unfold eqHB eqB eqBB; simp)
    go_enter Try.func5, Try.ntmps5
    go_wp2_with fail
    refine Calls.mono (sweepFact_any _) ?_
    rintro e w1 ⟨rfl, hk1⟩
    have hb1 := (Blk.new w 25 #[vo, vr]).kp hk1 id
    obtain ⟨a1, a2, a3, a4, a5⟩ := hb1.a2
    have HB1 := hide hb1
    have HK1 := hide (((Kp.refl No w).alloc (.cells #[vo, vr] 25)).trans' hk1 fun _ _ h => h)
    clear hk1 hb1
    obtain ⟨Ao, co, rfl, hco, hmo, _⟩ := RowsIn.form HO.out
    obtain ⟨Ar, cr, rfl, hcr, hmr, _⟩ := id HR.out
    go_wp2_with fail
    refine Calls.mono (HS1.out _ _ _ (HO.out.no HK1.out) (HR.out.no HK1.out)) ?_
    rintro e w2 ⟨v, vo', vr', rfl, hv, ho', hr', hk2⟩
    obtain ⟨Av, cv, rfl, hcv, hmv, _⟩ := id hv
    obtain ⟨Ax, cx, rfl, hcx, hmx, _⟩ := ho'.form
    obtain ⟨Aq, cq, rfl, hcq, hmq, _⟩ := id hr'
    have HV := hide (hv.mono (F' := fun _ => True) fun _ _ _ => trivial)
    have HX := hide (ho'.mono (F' := fun _ => True) fun _ _ _ => trivial)
    have HQ := hide (hr'.mono (F' := fun _ => True) fun _ _ _ => trivial)
    obtain ⟨W2, hW2⟩ : ∃ W2, w2.alloc (.cells #[.slice Ax O.length cx, .slice Aq R.length cq] 25) = W2 := ⟨_, rfl⟩
    have hk22 : Kp No w2 W2 := by rw [← hW2]; exact (Kp.refl No w2).alloc _
    have HBX := hide (show Blk W2 w2.heap.size 25 #[.slice Ax O.length cx, .slice Aq R.length cq] by rw [← hW2]; exact Blk.new _ _ _)
    have HK2 := hide ((HK1.out.trans hk2).trans hk22)
    have HBH := hide ((HB1.out.no' hk2).no' hk22)
    have HV2 := hide (HV.out.no hk22)
    have HX2 := hide (HX.out.no hk22)
    have HQ2 := hide (HQ.out.no hk22)
    clear hv ho' hr' hk2 hk22 a1 a2 a3 a4 HV HX HQ HB1
    obtain ⟨b1, b2, b3, b4, b5⟩ := HBX.out.a2
    go_wp2_with fail
    clear hW2
    refine Calls.mono (HS2.out _ _ _ HX2.out HQ2.out) ?_
    rintro e w3 ⟨v, vo', vr', rfl, hv, ho', hr', hk3⟩
    obtain ⟨Am, cm, rfl, hcm, hmm, _⟩ := id hv
    obtain ⟨Ay, cy, rfl, hcy, hmy, _⟩ := ho'.form
    obtain ⟨Az, cz, rfl, hcz, hmz, _⟩ := id hr'
    obtain ⟨W3, hW3⟩ : ∃ W3, w3.alloc (.cells #[.slice Ay O.length cy, .slice Az R.length cz] 25) = W3 := ⟨_, rfl⟩
    have hk33 : Kp No w3 W3 := by rw [← hW3]; exact (Kp.refl No w3).alloc _
    have HBY := hide (show Blk W3 w3.heap.size 25 #[.slice Ay O.length cy, .slice Az R.length cz] by rw [← hW3]; exact Blk.new _ _ _)
    have HK23 := hide (hk3.trans hk33)
    have HM := hide ((hv.mono (F' := fun _ => True) fun _ _ _ => trivial).no hk33)
    have HY := hide ((ho'.mono (F' := fun _ => True) fun _ _ _ => trivial).no hk33)
    have HZ := hide ((hr'.mono (F' := fun _ => True) fun _ _ _ => trivial).no hk33)
    clear hv ho' hr' hk3 hk33 b1 b2 b3 b4 b5
    have hl12 := HLL.out
    go_wp2_with fail
    refine Calls.mono (count_any L.length (by omega) _) ?_
    rintro e w4 ⟨Ac, cc, rfl, hct, hk4⟩
    have HCT := hide hct
    have HM4 := hide (HM.out.no hk4)
    have HK24 := hide (HK23.out.trans hk4)
    have HBY4 := hide (HBY.out.no' hk4)
    have HY4 := hide (HY.out.no hk4)
    have HZ4 := hide (HZ.out.no hk4)
    clear hct hk4 hW3 HM HY HZ HBY
    go_wp2_with fail
    refine Calls.mono (ints_any _ _ (upTo L.length) (upTo L.length) _ HM4.out HCT.out) ?_
    rw [E1.out]
    rintro e w5 ⟨rfl, n5, hw5⟩
    have hk5 : Kp No w4 w5 := by rw [hw5]; exact (Kp.refl No w4).drewN _
    have HK25 := hide (HK24.out.trans hk5)
    obtain ⟨c1, c2, c3, c4, c5⟩ := (HBY4.out.no' hk5).a2
    obtain ⟨b1, b2, b3, b4, b5⟩ := (HBX.out.no' HK25.out).a2
    have HY5 := hide (HY4.out.no hk5)
    have HZ5 := hide (HZ4.out.no hk5)
    clear hw5 hk5 HY4 HZ4
    go_wp2_with fail
    refine Calls.mono (heaps_any _ _ _ _ O O R R _ (HX2.out.no HK25.out) (HQ2.out.no HK25.out) HY5.out HZ5.out) ?_
    rw [E2.out]
    rintro e w6 ⟨rfl, hk6⟩
    have HK26 := hide (HK25.out.trans hk6)
    have HK6 := hide (HK2.out.trans HK26.out)
    clear c1 c2 c3 c4 c5 b1 b2 b3 b4 b5 hk6 HK23 HK24 HK25 HM4 HCT HY5 HZ5 HBY4 E1 E2 HS1 HS2
    have HV6 := hide (HV2.out.no HK26.out)
    have HX6 := hide (HX2.out.no HK26.out)
    have HBX6 := hide (HBX.out.no' HK26.out)
    have HBH6 := hide (HBH.out.no' HK26.out)
    rw [HOL.out] at HBX6 ⊢
    clear HV2 HX2 HQ2 HBX HBH HK26 HK2
    obtain ⟨a1, a2, a3, a4, _⟩ := HBH6.out.a2
    obtain ⟨b1, b2, b3, b4, b5⟩ := HBX6.out.a2
    have hol := HOL.out
    clear hol
    go_wp2_with fail
    go_loopw [10] (fun p wr => ∃ k : Nat, p = .int .i64 k ∧ k ≤ L.length ∧ Kp No w6 wr) (fun p _ => L.length - (intOf p).toNat)
    case atStart => exact ⟨0, rfl, Nat.zero_le _, Kp.refl _ _⟩
    case round =>
      obtain ⟨k, rfl, hk, hkp⟩ := hrel
      clear a1 a2 a3 a4 b1 b2 b3 b4 b5
      obtain ⟨a1, a2, a3, a4, _⟩ := (HBH6.out.no' hkp).a2
      obtain ⟨b1, b2, b3, b4, b5⟩ := (HBX6.out.no' hkp).a2
      have HKP := hide hkp
      clear hkp
      by_cases hlt : k < L.length
      · have HVR := hide (HV6.out.no HKP.out)
        obtain ⟨_, _, e, _, _, hcell⟩ := HVR.out
        cases e
        obtain ⟨bv, ov, rfl, _, hcv'⟩ := hcell k hlt
        clear hcell
        obtain ⟨hx0, hx1⟩ := HPT.out.vd.range _ (List.getElem_mem hlt)
        have HCL := hide (HPT.out.closed _ (List.getElem_mem hlt))
        have HATk := hide (HAT.out k L[k] (List.getElem?_eq_getElem hlt))
        obtain ⟨x, hx⟩ : ∃ x, L[k] = x := ⟨_, rfl⟩
        rw [hx] at hx0 hx1 HCL HATk hcv'
        clear hx
        obtain ⟨_, _, e, _, _, hrow⟩ := RowsIn.form (HO.out.no (HK6.out.trans HKP.out))
        cases e
        obtain ⟨bo, oo, A', c', rfl, _, hrc, hri⟩ := hrow x.toNat (by omega)
        clear hrow
        rw [← adj_eq (outs := outs) (x := x) (by omega)] at hrc hri
        obtain ⟨_, _, e, hla, hma, _⟩ := id hri
        cases e
        have HRI := hide hri
        clear hri
        have hkO : k < O.length := by rw [HOL.out]; exact hlt
        obtain ⟨_, _, e, _, _, hrow⟩ := RowsIn.form (HX6.out.no HKP.out)
        rw [HOL.out] at e
        cases e
        obtain ⟨bx, ox, A2, c2, rfl, _, hxc, hxi⟩ := hrow k hkO
        clear hrow
        have hOk : O[k] = renum L (adj outs x) := by have := HATk.out; rw [List.getElem?_eq_getElem hkO] at this; exact Option.some.inj this
        rw [hOk] at hxc hxi
        rw [renum_length] at hxc
        clear hOk hkO
        obtain ⟨_, _, e, hlx, hmx', _⟩ := id hxi
        rw [renum_length] at hlx
        injection e with e1 e2 e3
        subst e1 e3
        clear e2
        have HXI := hide hxi
        clear hxi
        have HBT := hide (show btw x 0 ((outs.length : Int) - 1) = true from btw_iff.2 ⟨hx0, by omega⟩)
        have hl12' := HL.out
        go_wp2_with fail
        go_quiet (first
          | (go_at_call 18; exact Calls.quiet_of ((in_any x 0 ((outs.length : Int) - 1) _).mono fun e w' h => ⟨h.1.trans (ret_bool HBT.out), 0, h.2.symm⟩)))
        go_wp2_with fail
        have HC := hide (And.intro hcv' (And.intro hrc hxc))
        clear hcv' hrc hxc
        obtain ⟨W1, hW1⟩ : ∃ W1 : World, wr.drewN nq = W1 := ⟨_, rfl⟩
        have HW1 := hide (show Kp No wr W1 by rw [← hW1]; exact (Kp.refl No wr).drewN _)
        rw [hW1]
        clear hW1
        go_loopw [11] (fun p wq => ∃ i : Nat, p = .int .i64 i ∧ i ≤ (adj outs x).length ∧ Kp No wr wq) (fun p _ => (adj outs x).length - (intOf p).toNat)
        case atStart => exact ⟨0, rfl, Nat.zero_le _, HW1.out⟩
        case round =>
          obtain ⟨i, rfl, hi, hkq⟩ := hrel
          obtain ⟨q1, q2, q3⟩ := HC.out
          have q1' := hkq.cell q1 id
          have q2' := hkq.cell q2 id
          have q3' := hkq.cell q3 id
          clear q1 q2 q3 a1 a2 a3 a4 b1 b2 b3 b4 b5
          obtain ⟨a1, a2, a3, a4, _⟩ := (HBH6.out.no' (HKP.out.trans hkq)).a2
          obtain ⟨b1, b2, b3, b4, b5⟩ := (HBX6.out.no' (HKP.out.trans hkq)).a2
          have HKQ := hide hkq
          clear hkq
          by_cases hil : i < (adj outs x).length
          · obtain ⟨_, _, e, _, _, hcell⟩ := HRI.out.no HKQ.out
            cases e
            obtain ⟨b2', o2', rfl, _, hci⟩ := hcell i hil
            clear hcell
            obtain ⟨_, _, e, _, _, hcell⟩ := HXI.out.no HKQ.out
            cases e
            obtain ⟨b3', o3', rfl, _, hcx'⟩ := hcell i (by rw [renum_length]; exact hil)
            clear hcell
            obtain ⟨y, hy, hyr, hyo⟩ := renum_at (o := L) (xs := adj outs x) HCL.out hil
            rw [hyr] at hcx'
            obtain ⟨_, _, e, _, _, hcell⟩ := HV6.out.no (HKP.out.trans HKQ.out)
            cases e
            obtain ⟨_, _, e, _, hcy⟩ := hcell y hy
            cases e
            clear hcell
            rw [hyo] at hcy
            have HBY := hide (show btw (y : Int) 0 ((L.length : Int) - 1) = true from btw_iff.2 ⟨by omega, by omega⟩)
            clear hyr hyo
            go_wp2_with fail
            go_quiet (first
              | (go_at_call 18; exact Calls.quiet_of ((in_any (y : Int) 0 ((L.length : Int) - 1) _).mono fun e w' h => ⟨h.1.trans (ret_bool HBY.out), 0, h.2.symm⟩)))
            go_wp2
            exact ⟨⟨i + 1, by go_num, hil, HKQ.out.drewN _⟩, by simp [intOf]; omega⟩
          · obtain rfl : i = (adj outs x).length := by omega
            go_wp2
            exact ⟨⟨k + 1, by go_num, hlt, HKP.out.trans HKQ.out⟩, by simp [intOf]; omega⟩
      · obtain rfl : k = L.length := by omega
        go_wp2
        go_ret
        exact ⟨rfl, HK6.out.trans HKP.out⟩
  · have HC := hide hc
    clear hc
    go_enter Try.func5, Try.ntmps5
    go_wp2_with fail
    refine Calls.mono (sweepFact_any _) ?_
    rintro e w1 ⟨rfl, hk1⟩
    have hb1 := (Blk.new w 25 #[vo, vr]).kp hk1 id
    obtain ⟨a1, a2, a3, a4, a5⟩ := hb1.a2
    have HK1 := hide (((Kp.refl No w).alloc (.cells #[vo, vr] 25)).trans' hk1 fun _ _ h => h)
    clear hk1 hb1
    go_wp2_with fail
    refine Calls.mono (sweep_bad _ _ outs roots _ (HO.out.no HK1.out) (HR.out.no HK1.out) HC.out) ?_
    rintro e w2 ⟨rfl, hk2⟩
    have HK2 := hide (HK1.out.trans hk2)
    clear hk2
    go_wp2
    go_ret
    exact ⟨rfl, HK2.out.alloc _⟩
end Go.Proofs.Ytlddofdiddeccaa
