/- The law CheneySame, walked: of every heap. -/
import Derived.Test.YtkfibfacfgiplaaCheneyFact
import Derived.Test.YtkfibfacfgiplaaSet
import Derived.Test.YtkfibfacfgiplaaReach
import Derived.BigQuiet
namespace Go.Proofs.Ytkfibfacfgiplaa
open Go.RowKit

theorem IntsIn.take {w : World} {F : Nat → Prop} {A : Option Addr} {n c : Nat} {xs : List Int} (h : IntsIn w F (.slice A n c) xs) {k : Nat} (hk : k ≤ xs.length) : IntsIn w F (.slice A k c) (xs.take k) := by
  obtain ⟨A', c', e, h1, h2, h3⟩ := h
  cases e
  refine ⟨A, c, by rw [List.length_take]; congr 1; omega, by rw [List.length_take]; omega, h2, fun j hj => ?_⟩
  rw [List.length_take] at hj
  obtain ⟨b, o, e, hF, hc⟩ := h3 j (by omega)
  exact ⟨b, o, e, hF, by rw [List.getElem_take]; exact hc⟩

section
variable {outs : List (List Int)} {roots : List Int}
theorem copyRows_at (hok : Ok outs roots) {k : Nat} (hk : k < (order outs roots).length) : (copyRows outs roots)[k]'(by rw [copyRows_length]; exact hk) = renum (order outs roots) (adj outs (order outs roots)[k]) := by
  rw [← adj_copy hk, adj_eq (by simpa [copyRows_length] using hk)]
  simp
theorem renum_at {o xs : List Int} (h : ∀ x ∈ xs, x ∈ o) {i : Nat} (hi : i < xs.length) : ∃ y : Nat, ∃ hy : y < o.length, (renum o xs)[i]'(by rw [renum_length]; exact hi) = (y : Int) ∧ o[y] = xs[i] := by
  have hm := h _ (List.getElem_mem hi)
  refine ⟨o.idxOf xs[i], List.idxOf_lt_length_iff.2 hm, by simp [renum], List.getElem_idxOf _⟩
theorem has_take {o : List Int} (hn : o.Nodup) {k : Nat} (hk : k < o.length) : hasB (o.take k) o[k] = false := by
  unfold hasB
  rw [decide_eq_false_iff_not]
  intro hm
  obtain ⟨j, hj, hjk⟩ := List.getElem_of_mem hm
  rw [List.length_take] at hj
  rw [List.getElem_take] at hjk
  have := (List.getElem_inj hn).1 hjk
  omega
end

set_option maxRecDepth 100000 in
set_option maxHeartbeats 4000000 in
theorem cheneySame_any {F : Nat → Prop} (vo vr : Value) (outs : List (List Int)) (roots : List Int) (w : World) (ho : RowsIn w F vo outs) (hr : IntsIn w F vr roots) :
    Calls Try.prog 6 #[.agg #[vo, vr]] w fun e w' => e = .returned (.bool true) ∧ Kp No w w' := by
  have HO := hide ho
  have HR := hide hr
  clear ho hr
  by_cases hc : chk outs roots = 0
  · have HOK := hide (ok_of_chk hc)
    clear hc
    go_enter Try.func6, Try.ntmps6
    go_wp2_with fail
    refine Calls.mono (cheneyFact_any _) ?_
    rintro e w1 ⟨rfl, hk1⟩
    have hb1 := (Blk.new w 25 #[vo, vr]).kp hk1 id
    obtain ⟨a1, a2, a3, a4, a5⟩ := hb1.a2
    have HB1 := hide hb1
    have HK1 := hide (((Kp.refl No w).alloc (.cells #[vo, vr] 25)).trans' hk1 fun _ _ h => h)
    clear hk1 hb1
    obtain ⟨Ao, co, rfl, hco, hmo, _⟩ := RowsIn.form HO.out
    obtain ⟨Ar, cr, rfl, hcr, hmr, _⟩ := id HR.out
    go_wp2_with fail
    refine Calls.mono (copy_ok _ _ outs roots _ (HO.out.no HK1.out) (HR.out.no HK1.out) HOK.out) ?_
    unfold CopyPost
    rintro e w2 ⟨v', ov', rv', rfl, hv', hov', hrv', hk2⟩
    obtain ⟨Av, cv, rfl, hcv, hmv, _⟩ := id hv'
    obtain ⟨Ax, cx, rfl, hcx, hmx, _⟩ := hov'.form
    obtain ⟨Aq, cq, rfl, hcq, hmq, _⟩ := id hrv'
    have HV := hide (hv'.mono (F' := fun _ => True) fun _ _ _ => trivial)
    have HX := hide (hov'.mono (F' := fun _ => True) fun _ _ _ => trivial)
    have HQ := hide (hrv'.mono (F' := fun _ => True) fun _ _ _ => trivial)
    have HK2 := hide (HK1.out.trans hk2)
    have hb2 := HB1.out.kp hk2 id
    clear a1 a2 a3 a4 hv' hov' hrv'
    obtain ⟨a1, a2, a3, a4, a6⟩ := hb2.a2
    have HB2 := hide hb2
    clear hk2 hb2
    go_wp2_with fail
    have HK2a := hide (HK2.out.alloc (.cells #[.slice Ax (copyRows outs roots).length cx, .slice Aq (renum (order outs roots) roots).length cq] 25))
    refine Calls.mono (reach_ok _ _ outs roots _ (HO.out.no HK2a.out) (HR.out.no HK2a.out) HOK.out) ?_
    rintro e w3 ⟨rfl, hk3⟩
    have HK23 := hide (((Kp.refl No w2).alloc (.cells #[.slice Ax (copyRows outs roots).length cx, .slice Aq (renum (order outs roots) roots).length cq] 25)).trans' hk3 fun _ _ h => h)
    have HBX := hide ((Blk.new w2 25 #[.slice Ax (copyRows outs roots).length cx, .slice Aq (renum (order outs roots) roots).length cq]).kp hk3 id)
    have HK3 := hide (HK2.out.trans HK23.out)
    have HBH := hide (HB2.out.kp HK23.out id)
    have HV3 := hide (HV.out.no HK23.out)
    have HX3 := hide (HX.out.no HK23.out)
    have HQ3 := hide (HQ.out.no HK23.out)
    clear a1 a2 a3 a4 hk3 HV HX HQ HK2a HK23 HB2 HK2 HB1 HK1
    obtain ⟨a1, a2, a3, a4, _⟩ := HBH.out.a2
    obtain ⟨b1, b2, b3, b4, b5⟩ := HBX.out.a2
    have hl1 : (copyRows outs roots).length = (order outs roots).length := copyRows_length
    have hl2 : (renum (order outs roots) roots).length = roots.length := renum_length _ _
    have hl3 := order_length HOK.out
    have hdl : decide (outs.length < (order outs roots).length) = false := decide_eq_false (by omega)
    have HL := hide HOK.out.n12
    have hr12 := HOK.out.r12
    have HLC := hide hl1
    rw [hl1] at b1 hcx HBX ⊢
    rw [hl2] at b2 hcq HBX ⊢
    have HLL := hide (show (order outs roots).length ≤ 12 from by have := HL.out; omega)
    have HND := hide (order_nodup HOK.out)
    have HRG := hide (order_range HOK.out)
    have HCL := hide (order_closed HOK.out)
    have HRO := hide (order_root HOK.out)
    have HSET := hide (sumP_or (order_nodup HOK.out) fun x hx => by have := order_range HOK.out x hx; have := HL.out; omega)
    have HRN := hide (show orIn 0 (order outs roots) = reachN outs roots from rfl)
    have HAT := hide (fun k hk => copyRows_at (outs := outs) (roots := roots) HOK.out (k := k) hk)
    go_wp2_with fail
    go_loopw [9] (fun p wr => ∃ k : Nat, p = .int .i64 k ∧ k ≤ (order outs roots).length ∧ Kp No w3 wr) (fun p _ => (order outs roots).length - (intOf p).toNat)
    case atStart => exact ⟨0, rfl, Nat.zero_le _, Kp.refl _ _⟩
    case round =>
      obtain ⟨k, rfl, hk, hkp⟩ := hrel
      clear a1 a2 a3 a4 b1 b2 b3 b4 b5
      obtain ⟨a1, a2, a3, a4, _⟩ := (HBH.out.kp hkp id).a2
      obtain ⟨b1, b2, b3, b4, b5⟩ := (HBX.out.kp hkp id).a2
      have HKP := hide hkp
      clear hkp
      by_cases hlt : k < (order outs roots).length
      · have HVR := hide (HV3.out.no HKP.out)
        obtain ⟨_, _, e, _, _, hcell⟩ := HVR.out
        cases e
        obtain ⟨bv, ov, rfl, _, hcv'⟩ := hcell k hlt
        clear hcell
        obtain ⟨hx0, hx1⟩ := HRG.out _ (List.getElem_mem hlt)
        -- the node's row, and its copy's
        obtain ⟨_, _, e, _, _, hrow⟩ := RowsIn.form (HO.out.no (HK3.out.trans HKP.out))
        cases e
        obtain ⟨bo, oo, A', c', rfl, _, hrc, hri⟩ := hrow (order outs roots)[k].toNat (by omega)
        clear hrow
        rw [← adj_eq (outs := outs) (x := (order outs roots)[k]) (by omega)] at hrc hri
        obtain ⟨_, _, e, hla, hma, _⟩ := id hri
        cases e
        have HRI := hide hri
        clear hri
        obtain ⟨_, _, e, _, _, hrow⟩ := RowsIn.form (HX3.out.no HKP.out)
        cases e
        obtain ⟨bx, ox, A2, c2, rfl, _, hxc, hxi⟩ := hrow k (by have := HLC.out; omega)
        clear hrow
        rw [HAT.out k hlt] at hxc hxi
        rw [renum_length] at hxc
        obtain ⟨_, _, e, hlx, hmx', _⟩ := id hxi
        rw [renum_length] at hlx
        injection e with e1 e2 e3
        subst e1 e3
        clear e2
        have HXI := hide hxi
        clear hxi
        have HTK := hide (has_take HND.out hlt)
        have HBT := hide (show btw (order outs roots)[k] 0 ((outs.length : Int) - 1) = true from btw_iff.2 ⟨hx0, by omega⟩)
        go_wp2_with fail
        go_quiet (first
          | (go_at_call 30; exact Calls.quiet_of ((in_any (order outs roots)[k] 0 ((outs.length : Int) - 1) _).mono fun e w' h => ⟨h.1.trans (ret_bool HBT.out), 0, h.2.symm⟩))
          | (go_at_call 32; exact Calls.quiet_of ((has_any _ ((order outs roots).take k) (order outs roots)[k] _ ((HVR.out.take (Nat.le_of_lt hlt)).no ((Kp.refl No _).drewN _))).mono fun e w' h => ⟨h.1.trans (ret_bool HTK.out), 0, h.2.symm⟩)))
        go_wp2_with fail
        have HC := hide (And.intro hcv' (And.intro hrc hxc))
        clear hcv' hrc hxc
        obtain ⟨W1, hW1⟩ : ∃ W1 : World, wr.drewN nq = W1 := ⟨_, rfl⟩
        have HW1 := hide (show Kp No wr W1 by rw [← hW1]; exact (Kp.refl No wr).drewN _)
        rw [hW1]
        clear hW1
        go_loopw [10] (fun p wq => ∃ i : Nat, p = .int .i64 i ∧ i ≤ (adj outs (order outs roots)[k]).length ∧ Kp No wr wq) (fun p _ => (adj outs (order outs roots)[k]).length - (intOf p).toNat)
        case atStart => exact ⟨0, rfl, Nat.zero_le _, HW1.out⟩
        case round =>
          obtain ⟨i, rfl, hi, hkq⟩ := hrel
          obtain ⟨q1, q2, q3⟩ := HC.out
          have q1' := hkq.cell q1 id
          have q2' := hkq.cell q2 id
          have q3' := hkq.cell q3 id
          clear q1 q2 q3 a1 a2 a3 a4 b1 b2 b3 b4 b5
          obtain ⟨a1, a2, a3, a4, _⟩ := (HBH.out.kp (HKP.out.trans hkq) id).a2
          obtain ⟨b1, b2, b3, b4, b5⟩ := (HBX.out.kp (HKP.out.trans hkq) id).a2
          have HKQ := hide hkq
          clear hkq
          by_cases hil : i < (adj outs (order outs roots)[k]).length
          · obtain ⟨_, _, e, _, _, hcell⟩ := HRI.out.no HKQ.out
            cases e
            obtain ⟨b2', o2', rfl, _, hci⟩ := hcell i hil
            clear hcell
            obtain ⟨_, _, e, _, _, hcell⟩ := HXI.out.no HKQ.out
            cases e
            obtain ⟨b3', o3', rfl, _, hcx'⟩ := hcell i (by rw [renum_length]; exact hil)
            clear hcell
            obtain ⟨y, hy, hyr, hyo⟩ := renum_at (o := order outs roots) (xs := adj outs (order outs roots)[k]) (HCL.out _ (List.getElem_mem hlt)) hil
            rw [hyr] at hcx'
            obtain ⟨_, _, e, _, _, hcell⟩ := HV3.out.no (HKP.out.trans HKQ.out)
            cases e
            obtain ⟨_, _, e, _, hcy⟩ := hcell y hy
            cases e
            clear hcell
            rw [hyo] at hcy
            have HBY := hide (show btw (y : Int) 0 (((order outs roots).length : Int) - 1) = true from btw_iff.2 ⟨by omega, by omega⟩)
            clear hyr hyo
            go_wp2_with fail
            go_quiet (first
              | (go_at_call 30; exact Calls.quiet_of ((in_any (y : Int) 0 (((order outs roots).length : Int) - 1) _).mono fun e w' h => ⟨h.1.trans (ret_bool HBY.out), 0, h.2.symm⟩)))
            go_wp2
            exact ⟨⟨i + 1, by go_num, hil, HKQ.out.drewN _⟩, by simp [intOf]; omega⟩
          · obtain rfl : i = (adj outs (order outs roots)[k]).length := by omega
            go_wp2
            exact ⟨⟨k + 1, by go_num, hlt, HKP.out.trans HKQ.out⟩, by simp [intOf]; omega⟩
      · obtain rfl : k = (order outs roots).length := by omega
        obtain ⟨wo, rfl⟩ : ∃ wo : World, wo = wr := ⟨_, rfl⟩
        go_wp2_with fail
        go_loopw [11] (fun p wq => ∃ i : Nat, p = .int .i64 i ∧ i ≤ roots.length ∧ Kp No wo wq) (fun p _ => roots.length - (intOf p).toNat)
        case atStart => exact ⟨0, rfl, Nat.zero_le _, Kp.refl _ _⟩
        case round =>
          obtain ⟨i, rfl, hi, hkq⟩ := hrel
          clear a1 a2 a3 a4 b1 b2 b3 b4 b5
          obtain ⟨a1, a2, a3, a4, _⟩ := (HBH.out.kp (HKP.out.trans hkq) id).a2
          obtain ⟨b1, b2, b3, b4, b5⟩ := (HBX.out.kp (HKP.out.trans hkq) id).a2
          have HKQ := hide hkq
          clear hkq
          by_cases hil : i < roots.length
          · obtain ⟨_, _, e, _, _, hcell⟩ := HR.out.no (HK3.out.trans (HKP.out.trans HKQ.out))
            cases e
            obtain ⟨b2', o2', rfl, _, hci⟩ := hcell i hil
            clear hcell
            obtain ⟨_, _, e, _, _, hcell⟩ := HQ3.out.no (HKP.out.trans HKQ.out)
            rw [renum_length] at e
            cases e
            obtain ⟨b3', o3', rfl, _, hcx'⟩ := hcell i (by rw [renum_length]; exact hil)
            clear hcell
            obtain ⟨y, hy, hyr, hyo⟩ := renum_at (o := order outs roots) (xs := roots) HRO.out hil
            rw [hyr] at hcx'
            obtain ⟨_, _, e, _, _, hcell⟩ := HV3.out.no (HKP.out.trans HKQ.out)
            cases e
            obtain ⟨_, _, rfl, _, hcy⟩ := hcell y hy
            clear hcell
            rw [hyo] at hcy
            have HBY := hide (show btw (y : Int) 0 (((order outs roots).length : Int) - 1) = true from btw_iff.2 ⟨by omega, by omega⟩)
            clear hyr hyo
            go_wp2_with fail
            go_quiet (first
              | (go_at_call 30; exact Calls.quiet_of ((in_any (y : Int) 0 (((order outs roots).length : Int) - 1) _).mono fun e w' h => ⟨h.1.trans (ret_bool HBY.out), 0, h.2.symm⟩)))
            go_wp2
            exact ⟨⟨i + 1, by go_num, hil, HKQ.out.drewN _⟩, by simp [intOf]; omega⟩
          · obtain rfl : i = roots.length := by omega
            have HEQ := hide (show ((sumP (order outs roots) : Int) == (reachN outs roots : Int)) = true by rw [HSET.out, HRN.out]; simp)
            go_wp2_with fail
            refine Calls.mono (set_any _ (order outs roots) _ (HV3.out.no (HKP.out.trans HKQ.out)) (by have := HLL.out; omega) fun x hx => by have := HRG.out x hx; have := HL.out; omega) ?_
            rintro e w5 ⟨rfl, rfl⟩
            have heq := HEQ.out
            go_wp2
            go_ret
            exact ⟨rfl, HK3.out.trans (HKP.out.trans HKQ.out)⟩
  · have HC := hide hc
    go_enter Try.func6, Try.ntmps6
    go_wp2_with fail
    refine Calls.mono (cheneyFact_any _) ?_
    rintro e w1 ⟨rfl, hk1⟩
    have hb1 := (Blk.new w 25 #[vo, vr]).kp hk1 id
    obtain ⟨a1, a2, a3, a4, a5⟩ := hb1.a2
    have HB1 := hide hb1
    have HK1 := hide (((Kp.refl No w).alloc (.cells #[vo, vr] 25)).trans' hk1 fun _ _ h => h)
    clear hk1 hb1
    go_wp2_with fail
    refine Calls.mono (copy_bad vo vr outs roots _ (HO.out.no HK1.out) (HR.out.no HK1.out) HC.out) ?_
    rintro e w2 ⟨rfl, hk2⟩
    have HK2 := hide (HK1.out.trans hk2)
    have hb2 := HB1.out.kp hk2 id
    clear a1 a2 a3 a4 hk2
    obtain ⟨a1, a2, a3, a4, a6⟩ := hb2.a2
    clear hb2
    go_wp2_with fail
    have HK2a := hide (HK2.out.alloc (.cells #[.slice none 0 0, .slice none 0 0] 25))
    refine Calls.mono (reach_bad vo vr outs roots _ (HO.out.no HK2a.out) (HR.out.no HK2a.out) HC.out) ?_
    rintro e w3 ⟨rfl, hk3⟩
    have HK3 := hide (HK2a.out.trans hk3)
    clear hk3
    go_wp2
    go_ret
    exact ⟨rfl, HK3.out⟩
end Go.Proofs.Ytkfibfacfgiplaa
