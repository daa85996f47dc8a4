/- The law SweepMark, walked: of every heap. -/
import Derived.Test.YtlddofdiddeccaaSweepFact
import Derived.Test.YtlddofdiddeccaaSet
import Derived.BigQuiet
namespace Go.Proofs.Ytlddofdiddeccaa
open Go.RowKit
set_option linter.unusedSimpArgs false

theorem marks_set {outs : List (List Int)} {roots : List Int} (hok : Ok outs roots) : sumP (marksN outs roots) = reachN outs roots := by
  have hv := marks_vd hok
  have hr : ∀ x ∈ marksN outs roots, 0 ≤ x ∧ x < 12 := fun x hx => by have := hv.range x hx; have := hok.n12; omega
  rw [sumP_or hv.nodup hr]
  apply Nat.eq_of_testBit_eq
  intro i
  rw [Bool.eq_iff_iff, testBit_orIn, reachN_bit hok]
  constructor
  · rintro (h | ⟨x, hx, rfl⟩)
    · simp at h
    · have := (hv.range x hx).1
      rw [Int.toNat_of_nonneg this]
      exact (mem_marks hok).1 hx
  · exact fun h => .inr ⟨_, (mem_marks hok).2 h, by simp⟩

set_option maxRecDepth 100000 in
set_option maxHeartbeats 4000000 in
theorem sweepMark_any {F : Nat → Prop} (vo vr : Value) (outs : List (List Int)) (roots : List Int) (w : World) (ho : RowsIn w F vo outs) (hr : IntsIn w F vr roots) :
    Calls Try.prog 4 #[.agg #[vo, vr]] w fun e w' => e = .returned (.bool true) ∧ Kp No w w' := by
  have HO := hide ho
  have HR := hide hr
  clear ho hr
  by_cases hc : chk outs roots = 0
  · have HOK := hide (ok_of_chk hc)
    clear hc
    go_enter Try.func4, Try.ntmps4
    go_wp2_with fail
    refine Calls.mono (sweepFact_any _) ?_
    rintro e w1 ⟨rfl, hk1⟩
    have hb1 := (Blk.new w 25 #[vo, vr]).kp hk1 id
    obtain ⟨a1, a2, a3, a4, a5⟩ := hb1.a2
    have HB1 := hide hb1
    have HK1 := hide (((Kp.refl No w).alloc (.cells #[vo, vr] 25)).trans' hk1 fun _ _ h => h)
    clear hk1 hb1
    obtain ⟨Ao, co, rfl, hco, hmo, _⟩ := RowsIn.form HO.out
    obtain ⟨Ar, cr, rfl, hcr, hmr, _⟩ := id HR.out
    go_wp2_with fail
    refine Calls.mono (mark_ok _ _ outs roots _ (HO.out.no HK1.out) (HR.out.no HK1.out) HOK.out) ?_
    rintro e w2 ⟨v, rfl, hv, hk2⟩
    obtain ⟨Av, cv, rfl, hcv, hmv, _⟩ := id hv
    have HK2 := hide (HK1.out.trans hk2)
    have HB2 := hide (HB1.out.no' hk2)
    have HV2 := hide hv
    clear hv hk2 a1 a2 a3 a4
    obtain ⟨a1, a2, a3, a4, _⟩ := HB2.out.a2
    go_wp2_with fail
    refine Calls.mono (reach_ok _ _ outs roots _ (HO.out.no HK2.out) (HR.out.no HK2.out) HOK.out) ?_
    rintro e w3 ⟨rfl, hk3⟩
    have HK3 := hide (HK2.out.trans hk3)
    have HB3 := hide (HB2.out.no' hk3)
    have HV3 := hide (HV2.out.no hk3)
    clear hk3 a1 a2 a3 a4
    obtain ⟨a1, a2, a3, a4, _⟩ := HB3.out.a2
    have HL := hide HOK.out.n12
    have hl12 := HL.out
    have HND := hide (marks_vd HOK.out)
    have HLL := hide (HND.out.len)
    have HSET := hide (marks_set HOK.out)
    have HRL := hide (reachN_lt HOK.out)
    have HMB := hide (fun x (hx : x ∈ marksN outs roots) => show bt (reachN outs roots) x.toNat = true by
      unfold bt
      have := (HND.out.range x hx).1
      rw [reachN_bit HOK.out, Int.toNat_of_nonneg this]
      exact (mem_marks HOK.out).1 hx)
    obtain ⟨n, hn⟩ : ∃ n, reachN outs roots = n := ⟨_, rfl⟩
    obtain ⟨m, hm⟩ : ∃ m, marksN outs roots = m := ⟨_, rfl⟩
    rw [hm] at HND HLL HSET HMB HV3 hcv
    rw [hn] at HSET HRL HMB
    rw [hm, hn]
    have hm12 : m.length ≤ 12 := by have := HLL.out; omega
    clear hn hm HV2
    go_wp2_with fail
    go_loopw [8] (fun p wr => ∃ k : Nat, p = .int .i64 k ∧ k ≤ m.length ∧ Kp No w3 wr) (fun p _ => m.length - (intOf p).toNat)
    case atStart => exact ⟨0, rfl, Nat.zero_le _, Kp.refl _ _⟩
    case round =>
      obtain ⟨k, rfl, hk, hkp⟩ := hrel
      clear a1 a2 a3 a4
      obtain ⟨a1, a2, a3, a4, _⟩ := (HB3.out.no' hkp).a2
      have HKP := hide hkp
      clear hkp
      by_cases hlt : k < m.length
      · have HVR := hide (HV3.out.no HKP.out)
        obtain ⟨_, _, e, _, _, hcell⟩ := HVR.out
        cases e
        obtain ⟨bv, ov, rfl, _, hcv'⟩ := hcell k hlt
        clear hcell
        obtain ⟨hx0, hx1⟩ := HND.out.range _ (List.getElem_mem hlt)
        have HTK := hide (has_take HND.out.nodup hlt)
        have HBT := hide (show btw m[k] 0 ((outs.length : Int) - 1) = true from btw_iff.2 ⟨hx0, by omega⟩)
        have HBB := hide (HMB.out _ (List.getElem_mem hlt))
        have hx12 : m[k] < 62 := by omega
        go_wp2_with fail
        go_quiet (first
          | (go_at_call 18; exact Calls.quiet_of ((in_any m[k] 0 ((outs.length : Int) - 1) _).mono fun e w' h => ⟨h.1.trans (ret_bool HBT.out), 0, h.2.symm⟩))
          | (go_at_call 15; exact Calls.quiet_of ((has_any _ (m.take k) m[k] _ ((HVR.out.take (Nat.le_of_lt hlt)).no ((Kp.refl No _).drewN _))).mono fun e w' h => ⟨h.1.trans (ret_bool HTK.out), 0, h.2.symm⟩))
          | (go_at_call 19; exact Calls.quiet_of ((bit_int n m[k] (Nat.lt_trans HRL.out (by decide)) hx0 hx12 _).mono fun e w' h => ⟨h.1.trans (ret_bool HBB.out), 0, h.2.symm⟩)))
        go_wp2
        go_roundw
        case rel => exact ⟨k + 1, by go_num, hlt, HKP.out.drewN _⟩
        case measure => simp [intOf]; omega
      · obtain rfl : k = m.length := by omega
        go_wp2_with fail
        refine Calls.mono (set_any _ m _ (HV3.out.no HKP.out) (by omega) fun x hx => by have := HND.out.range x hx; have := HL.out; omega) ?_
        rw [HSET.out]
        rintro e w4 ⟨rfl, rfl⟩
        go_wp2
        go_ret
        exact ⟨ret_bool (by simp), HK3.out.trans HKP.out⟩
  · have HC := hide hc
    clear hc
    go_enter Try.func4, Try.ntmps4
    go_wp2_with fail
    refine Calls.mono (sweepFact_any _) ?_
    rintro e w1 ⟨rfl, hk1⟩
    have hb1 := (Blk.new w 25 #[vo, vr]).kp hk1 id
    obtain ⟨a1, a2, a3, a4, a5⟩ := hb1.a2
    have HB1 := hide hb1
    have HK1 := hide (((Kp.refl No w).alloc (.cells #[vo, vr] 25)).trans' hk1 fun _ _ h => h)
    clear hk1 hb1
    go_wp2_with fail
    refine Calls.mono (mark_bad _ _ outs roots _ (HO.out.no HK1.out) (HR.out.no HK1.out) HC.out) ?_
    rintro e w2 ⟨rfl, hk2⟩
    have HK2 := hide (HK1.out.trans hk2)
    have HB2 := hide (HB1.out.no' hk2)
    clear hk2 a1 a2 a3 a4
    obtain ⟨a1, a2, a3, a4, _⟩ := HB2.out.a2
    go_wp2_with fail
    refine Calls.mono (reach_bad _ _ outs roots _ (HO.out.no HK2.out) (HR.out.no HK2.out) HC.out) ?_
    rintro e w3 ⟨rfl, hk3⟩
    have HK3 := hide (HK2.out.trans hk3)
    clear hk3
    go_wp2
    go_ret
    exact ⟨rfl, HK3.out⟩
end Go.Proofs.Ytlddofdiddeccaa
