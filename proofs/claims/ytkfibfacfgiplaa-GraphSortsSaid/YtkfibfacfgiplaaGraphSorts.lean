/- The law GraphSorts, walked: of every heap. -/
import Derived.Test.YtkfibfacfgiplaaGraphFact
import Derived.Test.YtkfibfacfgiplaaSortsPlain
import Derived.Test.YtkfibfacfgiplaaWithout
import Derived.BigQuiet
namespace Go.Proofs.Ytkfibfacfgiplaa
open Go.RowKit

theorem pt_snoc {outs : List (List Int)} {L : List Int} {i : Int} {j : Nat} (h : j < L.length) : (!(hasB L i) || (L.take (j + 1)).any fun x => hasB (adj outs x) i) = ((!(hasB L i) || (L.take j).any fun x => hasB (adj outs x) i) || hasB (adj outs L[j]) i) := by
  rw [List.take_succ_eq_append_getElem h, List.any_append]
  simp [Bool.or_assoc]

set_option maxHeartbeats 2000000 in
theorem graphSorts_any {F : Nat → Prop} (vo vr : Value) (outs : List (List Int)) (roots : List Int) (w : World) (ho : RowsIn w F vo outs) (hr : IntsIn w F vr roots) :
    Calls Try.prog 5 #[.agg #[vo, vr]] w fun e w' => e = .returned (.bool true) ∧ Kp No w w' := by
  have HO := hide ho
  have HR := hide hr
  clear ho hr
  by_cases hc : chk outs roots = 0
  · have HOK := hide (ok_of_chk hc)
    clear hc
    go_enter Try.func5, Try.ntmps5
    go_wp2_with fail
    refine Calls.mono (graphFact_any _) ?_
    rintro e w1 ⟨rfl, hk1⟩
    have hb1 := (Blk.new w 25 #[vo, vr]).kp hk1 id
    obtain ⟨a1, a2, a3, a4, a5⟩ := hb1.a2
    have HB1 := hide hb1
    have HK1 := hide (((Kp.refl No w).alloc (.cells #[vo, vr] 25)).trans' hk1 fun _ _ h => h)
    clear hk1 hb1
    obtain ⟨Ao, co, rfl, hco, hmo, _⟩ := RowsIn.form HO.out
    go_wp2_with fail
    refine Calls.mono (rounds_ok _ _ outs roots _ (HO.out.no HK1.out) (HR.out.no HK1.out) HOK.out) ?_
    rintro e w2 ⟨rfl, hk2⟩
    have hb2 := HB1.out.kp hk2 id
    clear a1 a2 a3 a4
    obtain ⟨a1, a2, a3, a4, _⟩ := hb2.a2
    have HB2 := hide hb2
    have HK2 := hide (HK1.out.trans hk2)
    clear hk2 hb2
    have HN := hide (roundsN_lt HOK.out)
    have HL := hide HOK.out.n12
    go_wp2_with fail
    refine Calls.mono (count_any outs.length (by have := HL.out; omega) _) ?_
    rintro e w3 ⟨A3, c3, rfl, hi3, hk3⟩
    have HI3 := hide (hi3.mono (F' := fun _ => True) fun _ _ _ => trivial)
    have HK3 := hide (HK2.out.trans hk3)
    have hb3 := HB2.out.kp hk3 id
    clear a1 a2 a3 a4
    obtain ⟨a1, a2, a3, a4, _⟩ := hb3.a2
    have HB3 := hide hb3
    clear hi3 hk3 hb3
    go_wp2_with fail
    go_loopw [6, 7] (fun v p wr => ∃ k : Nat, p = .int .i64 k ∧ k ≤ outs.length ∧ IntsIn wr (fun _ => True) v (sAll outs (upTo outs.length) k) ∧ Kp No w3 wr) (fun _ p _ => outs.length - (intOf p).toNat)
    case atStart => exact ⟨0, rfl, Nat.zero_le _, HI3.out, Kp.refl _ _⟩
    case round =>
      obtain ⟨k, rfl, hk, hi, hkp⟩ := hrel
      clear a1 a2 a3 a4
      obtain ⟨a1, a2, a3, a4, _⟩ := (HB3.out.kp hkp id).a2
      have HI := hide hi
      have HKP := hide hkp
      clear hi hkp
      by_cases hlt : k < outs.length
      · go_wp2_with fail
        go_loopw [6, 8] (fun v p wr' => ∃ i : Nat, p = .int .i64 i ∧ i ≤ outs.length ∧ IntsIn wr' (fun _ => True) v (sPass outs (sAll outs (upTo outs.length) k) i) ∧ Kp No w3 wr') (fun _ p _ => outs.length - (intOf p).toNat)
        case atStart => exact ⟨0, rfl, Nat.zero_le _, HI.out, HKP.out⟩
        case round =>
          obtain ⟨i, rfl, hi, hiv, hkp⟩ := hrel
          clear a1 a2 a3 a4
          obtain ⟨a1, a2, a3, a4, _⟩ := (HB3.out.kp hkp id).a2
          have hsub : (sPass outs (sAll outs (upTo outs.length) k) i).Sublist (upTo outs.length) := (fold_sub _ _).trans (sAll_sub _ _)
          have HRL := hide (show ∀ x ∈ sPass outs (sAll outs (upTo outs.length) k) i, 0 ≤ x ∧ x < outs.length from fun x hx => mem_upTo.1 (hsub.subset hx))
          have hll := hsub.length_le
          rw [upTo_length] at hll
          have HSS := hide (sPass_succ (outs := outs) (sAll outs (upTo outs.length) k) i)
          clear hsub
          generalize hLe : sPass outs (sAll outs (upTo outs.length) k) i = L at *
          have HLE := hide hLe
          clear hLe
          have HIV := hide hiv
          have HKP' := hide hkp
          obtain ⟨AL, cL, rfl, hcL, hmL, _⟩ := hiv
          clear hkp
          have hl12 : L.length ≤ 12 := by have := HL.out; omega
          by_cases hil : i < outs.length
          · go_wp2_with fail
            refine Calls.mono (has_any _ L (i : Int) _ HIV.out) ?_
            rintro e w4 ⟨rfl, rfl⟩
            go_wp2_with fail
            go_loopw [9, 10] (fun b p wv => ∃ j : Nat, p = .int .i64 j ∧ j ≤ L.length ∧ b = .bool (!(hasB L i) || (L.take j).any fun x => hasB (adj outs x) i) ∧ Kp No w3 wv ∧ IntsIn wv (fun _ => True) (.slice AL L.length cL) L) (fun _ p _ => L.length - (intOf p).toNat)
            case atStart => exact ⟨0, rfl, Nat.zero_le _, by simp, HKP'.out, HIV.out⟩
            case round =>
              obtain ⟨j, rfl, hj, rfl, hkp, hiv⟩ := hrel
              clear a1 a2 a3 a4
              obtain ⟨a1, a2, a3, a4, _⟩ := (HB3.out.kp hkp id).a2
              have HKV := hide hkp
              have HVV := hide hiv
              clear hkp hiv
              by_cases hjl : j < L.length
              · have HPS := hide (pt_snoc (outs := outs) (i := (i : Int)) hjl)
                obtain ⟨_, _, e, _, _, hcell⟩ := HVV.out
                cases e
                obtain ⟨bl, ol, rfl, _, hcl⟩ := hcell j hjl
                clear hcell
                have hx := HRL.out _ (List.getElem_mem hjl)
                obtain ⟨hx0, hx1⟩ := hx
                obtain ⟨_, _, e, _, _, hrow⟩ := RowsIn.form (HO.out.no (HK3.out.trans HKV.out))
                cases e
                obtain ⟨bo, oo, A', c', rfl, _, hrc, hri⟩ := hrow L[j].toNat (by omega)
                clear hrow
                rw [← adj_eq (outs := outs) (x := L[j]) (by omega)] at hrc hri
                have HRI := hide hri
                clear hri
                cases hb : (!(hasB L (i : Int)) || (L.take j).any fun x => hasB (adj outs x) (i : Int)) with
                | true =>
                  go_wp2_with fail
                  go_quiet (fail)
                  go_wp2
                  exact ⟨⟨j + 1, by go_num, hjl, by rw [HPS.out, hb]; rfl, HKV.out.drewN _, HVV.out.no ((Kp.refl No _).drewN _)⟩, by simp [intOf]; omega⟩
                | false =>
                  go_wp2_with fail
                  go_quiet ((go_at_call 32; exact Calls.quiet_of ((has_any _ (adj outs L[j]) (i : Int) _ (HRI.out.no ((Kp.refl No _).drewN _))).mono fun e w' h => ⟨h.1, 0, h.2.symm⟩)))
                  go_wp2
                  exact ⟨⟨j + 1, by go_num, hjl, by rw [HPS.out, hb]; rfl, HKV.out.drewN _, HVV.out.no ((Kp.refl No _).drewN _)⟩, by simp [intOf]; omega⟩
              · obtain rfl : j = L.length := by omega
                rw [List.take_length]
                have HPT := hide (show (!(hasB L (i : Int)) || L.any fun x => hasB (adj outs x) (i : Int)) = pt outs L (i : Int) from rfl)
                cases hp : pt outs L (i : Int) with
                | true =>
                  have hs : sPass outs (sAll outs (upTo outs.length) k) (i + 1) = L := by rw [HSS.out]; unfold sStep; rw [if_pos hp]
                  rw [HPT.out, hp]
                  go_wp2
                  go_roundw
                  case rel => exact ⟨i + 1, by go_num, hil, by rw [hs]; exact HVV.out, HKV.out⟩
                  case measure => simp [intOf]; omega
                | false =>
                  have hs : sPass outs (sAll outs (upTo outs.length) k) (i + 1) = L.erase (i : Int) := by rw [HSS.out]; unfold sStep; rw [if_neg (by simp [hp])]
                  rw [HPT.out, hp]
                  go_wp2_with fail
                  refine Calls.mono (without_any _ L (i : Int) _ HVV.out (by omega)) ?_
                  rintro e w4 ⟨A4, c4, rfl, hi4, hk4⟩
                  have HI4 := hide (hi4.mono (F' := fun _ => True) fun _ _ _ => trivial)
                  have HK4 := hide (HKV.out.trans hk4)
                  clear hi4 hk4
                  go_wp2
                  go_roundw
                  case rel => exact ⟨i + 1, by go_num, hil, by rw [hs]; exact HI4.out, HK4.out⟩
                  case measure => simp [intOf]; omega
          · obtain rfl : i = outs.length := by omega
            go_wp2
            go_roundw
            case rel => exact ⟨k + 1, by go_num, hlt, by rw [show sAll outs (upTo outs.length) (k + 1) = L from HLE.out]; exact HIV.out, HKP'.out⟩
            case measure => simp [intOf]; omega
      · obtain rfl : k = outs.length := by omega
        obtain ⟨AL, cL, rfl, hcL, hmL, _⟩ := id HI.out
        have HI' := hide (show IntsIn wr (fun _ => True) (.slice AL (leftN outs).length cL) (leftN outs) from HI.out)
        have HLN := hide (left_none HOK.out)
        have hAL : (sAll outs (upTo outs.length) outs.length).length = (leftN outs).length := rfl
        rw [hAL] at hcL ⊢
        clear hAL HI
        go_wp2_with fail
        go_loop [11] (fun p => ∃ i : Nat, p = .int .i64 i ∧ i ≤ outs.length) (fun p => outs.length - (intOf p).toNat)
        case atStart => exact ⟨0, rfl, Nat.zero_le _⟩
        case round =>
          obtain ⟨i, rfl, hi⟩ := hrel
          by_cases hil : i < outs.length
          · have hi12 : i < 12 := by have := HL.out; omega
            go_wp2_with fail
            refine Calls.mono (bit_any (roundsN outs) i (by have := HN.out; omega) (by omega) _) ?_
            rintro e w4 ⟨rfl, rfl⟩
            cases hb : bt (roundsN outs) i with
            | false =>
              go_wp2
              go_round
              case rel => exact ⟨i + 1, by go_num, hil⟩
              case measure => simp [intOf]; omega
            | true =>
              have HLC := hide (left_cyc HOK.out hb)
              go_wp2_with fail
              refine Calls.mono (has_any _ (leftN outs) (i : Int) _ HI'.out) ?_
              rw [HLC.out]
              rintro e w4 ⟨rfl, rfl⟩
              go_wp2
              go_round
              case rel => exact ⟨i + 1, by go_num, hil⟩
              case measure => simp [intOf]; omega
          · obtain rfl : i = outs.length := by omega
            have he : ((((roundsN outs : Nat) : Int) == 0) == (((leftN outs).length : Int) == 0)) = true := by
              have := HLN.out
              rw [beq_iff_eq, Bool.eq_iff_iff, beq_iff_eq, beq_iff_eq]
              omega
            go_wp2
            go_ret
            exact ⟨rfl, HK3.out.trans HKP.out⟩
  · have HC := hide hc
    go_enter Try.func5, Try.ntmps5
    go_wp2_with fail
    refine Calls.mono (graphFact_any _) ?_
    rintro e w1 ⟨rfl, hk1⟩
    have hb1 := (Blk.new w 25 #[vo, vr]).kp hk1 id
    obtain ⟨a1, a2, a3, a4, a5⟩ := hb1.a2
    have HK1 := hide (((Kp.refl No w).alloc (.cells #[vo, vr] 25)).trans' hk1 fun _ _ h => h)
    clear hk1 hb1
    go_wp2_with fail
    refine Calls.mono (rounds_bad vo vr outs roots _ (HO.out.no HK1.out) (HR.out.no HK1.out) HC.out) ?_
    rintro e w2 ⟨rfl, hk2⟩
    have HK2 := hide (HK1.out.trans hk2)
    clear hk2
    go_wp2
    go_ret
    exact ⟨rfl, HK2.out⟩
end Go.Proofs.Ytkfibfacfgiplaa
