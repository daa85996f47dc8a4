/- The law TrialSays, walked: of all heaps and nodes. -/
import Derived.Test.YtgbdjidjbcbhjaaDoorRefTrial
import Derived.Test.YtgbdjidjbcbhjaaDoorCheneySays
import Derived.Test.YtgbdjidjbcbhjaaDoorTrialFact
namespace Go.Proofs.YtgbdjidjbcbhjaaDoor
open Go.RowKit
set_option linter.unusedSimpArgs false

theorem count_take_succ {xs : List Int} {k : Nat} (h : k < xs.length) (y : Int) : (xs.take (k + 1)).count y = (xs.take k).count y + (if xs[k] == y then 1 else 0) := by
  rw [List.take_succ_eq_append_getElem h, List.count_append, List.count_singleton]
theorem flat_take_succ {ls : List (List Int)} {k : Nat} (h : k < ls.length) (y : Int) : (ls.take (k + 1)).flatten.count y = (ls.take k).flatten.count y + (ls[k]).count y := by
  rw [List.take_succ_eq_append_getElem h, List.flatten_append, List.count_append]; simp
/-- how often all are pointed to -/
def wantL (xs : List Int) (n : Nat) : List Int := (List.range n).map fun i : Nat => (xs.count (i : Int) : Int)
theorem wantL_succ (xs : List Int) (n : Nat) : wantL xs (n + 1) = wantL xs n ++ [(xs.count (n : Int) : Int)] := by unfold wantL; rw [List.range_succ, List.map_append]; rfl
theorem wantL_length (xs : List Int) (n : Nat) : (wantL xs n).length = n := by simp [wantL]
theorem wantL_dif (xs : List Int) (n : Nat) : dif n xs [] = wantL xs n := by
  unfold dif wantL
  apply List.map_congr_left
  intro i _
  simp
theorem chkF_of {outs : List (List Int)} {roots : List Int} {x : Int} (h : chk outs roots = 0) : chkF outs roots x = if btw x 0 ((outs.length : Int) - 1) = true then 0 else 1 := by unfold chkF; rw [if_pos h]
theorem chkF_bad {outs : List (List Int)} {roots : List Int} {x : Int} (h : chk outs roots ≠ 0) : chkF outs roots x = chk outs roots := by unfold chkF; rw [if_neg h]

set_option maxRecDepth 100000 in
set_option maxHeartbeats 8000000 in
theorem trialSays_any {F : Nat → Prop} (vo vr : Value) (outs : List (List Int)) (roots : List Int) (x : Int) (w : World) (ho : RowsIn w F vo outs) (hr : IntsIn w F vr roots) (hh : Handle w) :
    Calls Tryd.prog 5 #[.agg #[vo, vr], .int .i64 x] w fun e w' => e = .returned (.bool true) ∧ Kp No w w' := by
  have HO := hide ho
  have HR := hide hr
  have HH := hide hh
  obtain ⟨Ao, co, rfl, hco, hmo, _⟩ := RowsIn.form ho
  obtain ⟨Ar, cr, rfl, hcr, hmr, _⟩ := id hr
  clear ho hr hh
  go_enter Tryd.func5, Tryd.ntmps5
  go_wp2_with fail
  refine Calls.mono (rheap_any _ _ outs roots _ (HO.out.no ((Kp.refl No w).alloc _)) (HR.out.no ((Kp.refl No w).alloc _))) ?_
  rintro e w1 ⟨rfl, hk1⟩
  have HB1 := hide ((Blk.new w 25 #[.slice Ao outs.length co, .slice Ar roots.length cr]).kp hk1 id)
  have HK1 := hide (((Kp.refl No w).alloc (.cells #[.slice Ao outs.length co, .slice Ar roots.length cr] 25)).trans hk1)
  clear hk1
  by_cases hc : chk outs roots = 0
  · have HOK := hide (ok_of_chk hc)
    have HCF := hide (chkF_of (x := x) hc)
    have hn12 := (ok_of_chk hc).n12
    have hr12 := (ok_of_chk hc).r12
    rw [hc, show ((0 : Nat) : Int) = 0 from rfl]
    clear hc
    go_wp2_with fail
    go_loopw [6, 7] (fun v q wr => ∃ i : Nat, q = .int .i64 i ∧ i ≤ outs.length ∧ Hid (wr.ownsRow w1.heap.size 3 1 v i (iv (wantL (roots ++ outs.flatten) i))) ∧ Hid (Kp No w1 wr)) (fun _ q _ => outs.length - (intOf q).toNat)
    case atStart => exact ⟨0, rfl, Nat.zero_le _, World.ownsRow_nil _ _ _ _, Kp.refl _ _⟩
    case round =>
      obtain ⟨i, rfl, hi, hown, hkp⟩ := hrel
      have hws := hkp.out.size
      have HBr := hide (HB1.out.kp hkp.out id)
      obtain ⟨p0, p1⟩ := HBr.out.c2
      by_cases hlt : i < outs.length
      · have HWS := hide (wantL_succ (roots ++ outs.flatten) i)
        have HRr := hide (HR.out.no (HK1.out.trans hkp.out))
        have HOr := hide (HO.out.no (HK1.out.trans hkp.out))
        go_wp2_with fail
        go_loop [8, 9] (fun n q => ∃ k : Nat, q = .int .i64 k ∧ k ≤ roots.length ∧ n = .int .i64 ((roots.take k).count (i : Int) : Nat)) (fun _ q => roots.length - (intOf q).toNat)
        case atStart => exact ⟨0, rfl, Nat.zero_le _, rfl⟩
        case round =>
          obtain ⟨k, rfl, hk, rfl⟩ := hrel
          by_cases hkl : k < roots.length
          · obtain ⟨_, _, e, _, _, hcell⟩ := HRr.out
            cases e
            obtain ⟨b, o, rfl, _, hcx⟩ := hcell k hkl
            have HCS := hide (count_take_succ hkl (i : Int))
            have hcl : (roots.take k).count (i : Int) ≤ 12 := Nat.le_trans List.count_le_length (by simp; omega)
            obtain ⟨r, hr⟩ : ∃ r, roots[k] = r := ⟨_, rfl⟩
            rw [hr] at hcx HCS
            obtain ⟨N, hN⟩ : ∃ N, (roots.take k).count (i : Int) = N := ⟨_, rfl⟩
            rw [hN] at hcl HCS ⊢
            clear hcell hr hN
            cases hb : (r == (i : Int)) with
            | true =>
              have HC' := hide (show (roots.take (k + 1)).count (i : Int) = N + 1 by rw [HCS.out, hb]; rfl)
              clear HCS
              go_wp2_with fail
              go_round
              case rel => exact ⟨k + 1, by go_num, hkl, by rw [HC'.out]; go_num⟩
              case measure => (simp [intOf]; omega)
            | false =>
              have HC' := hide (show (roots.take (k + 1)).count (i : Int) = N by rw [HCS.out, hb]; rfl)
              clear HCS
              go_wp2_with fail
              go_round
              case rel => exact ⟨k + 1, by go_num, hkl, by rw [HC'.out]⟩
              case measure => (simp [intOf]; omega)
          · obtain rfl : k = roots.length := by omega
            rw [List.take_length]
            have hcl : roots.count (i : Int) ≤ 12 := Nat.le_trans List.count_le_length hr12
            go_wp2_with fail
            go_loop [8, 10] (fun n q => ∃ j : Nat, q = .int .i64 j ∧ j ≤ outs.length ∧ n = .int .i64 (roots.count (i : Int) + (outs.take j).flatten.count (i : Int) : Nat)) (fun _ q => outs.length - (intOf q).toNat)
            case atStart => exact ⟨0, rfl, Nat.zero_le _, by simp⟩
            case round =>
              obtain ⟨j, rfl, hj, rfl⟩ := hrel
              by_cases hjl : j < outs.length
              · obtain ⟨_, _, e, _, _, hrow⟩ := RowsIn.form HOr.out
                cases e
                obtain ⟨bo, oo, A', c'', rfl, _, hrc, hri⟩ := hrow j hjl
                have HRI := hide hri
                have HFS := hide (flat_take_succ hjl (i : Int))
                have hfl : (outs.take j).flatten.count (i : Int) ≤ 48 := by
                  have h1 := List.count_le_length (a := (i : Int)) (l := (outs.take j).flatten)
                  have h2 := flat_len (n := 4) (ls := outs.take j) fun l hl => HOK.out.few l (List.mem_of_mem_take hl)
                  rw [List.length_take] at h2
                  omega
                have hl4 : (outs[j]).length ≤ 4 := HOK.out.few _ (List.getElem_mem hjl)
                obtain ⟨ys, hys⟩ : ∃ ys, outs[j] = ys := ⟨_, rfl⟩
                rw [hys] at hrc HRI HFS hl4
                obtain ⟨N, hN⟩ : ∃ N, roots.count (i : Int) + (outs.take j).flatten.count (i : Int) = N := ⟨_, rfl⟩
                have hN60 : N ≤ 60 := by omega
                have HFS' := hide (show roots.count (i : Int) + (outs.take (j + 1)).flatten.count (i : Int) = N + ys.count (i : Int) by rw [HFS.out]; omega)
                rw [hN]
                clear hrow hri hys hN HFS hfl
                go_wp2_with fail
                go_loop [8, 11] (fun n q => ∃ t : Nat, q = .int .i64 t ∧ t ≤ ys.length ∧ n = .int .i64 (N + (ys.take t).count (i : Int) : Nat)) (fun _ q => ys.length - (intOf q).toNat)
                case atStart => exact ⟨0, rfl, Nat.zero_le _, by simp⟩
                case round =>
                  obtain ⟨t, rfl, ht, rfl⟩ := hrel
                  by_cases htl : t < ys.length
                  · obtain ⟨_, _, e, _, _, hcell⟩ := HRI.out
                    cases e
                    obtain ⟨b, o, rfl, _, hcx⟩ := hcell t htl
                    have HCS := hide (count_take_succ htl (i : Int))
                    have hcl2 : (ys.take t).count (i : Int) ≤ 4 := Nat.le_trans List.count_le_length (by simp; omega)
                    obtain ⟨r, hr⟩ : ∃ r, ys[t] = r := ⟨_, rfl⟩
                    rw [hr] at hcx HCS
                    obtain ⟨M, hM⟩ : ∃ M, (ys.take t).count (i : Int) = M := ⟨_, rfl⟩
                    rw [hM] at hcl2 HCS ⊢
                    clear hcell hr hM
                    cases hb : (r == (i : Int)) with
                    | true =>
                      have HC' := hide (show N + (ys.take (t + 1)).count (i : Int) = N + M + 1 by rw [HCS.out, hb]; rfl)
                      clear HCS
                      go_wp2_with fail
                      go_round
                      case rel => exact ⟨t + 1, by go_num, htl, by rw [HC'.out]; go_num⟩
                      case measure => (simp [intOf]; omega)
                    | false =>
                      have HC' := hide (show N + (ys.take (t + 1)).count (i : Int) = N + M by rw [HCS.out, hb]; rfl)
                      clear HCS
                      go_wp2_with fail
                      go_round
                      case rel => exact ⟨t + 1, by go_num, htl, by rw [HC'.out]⟩
                      case measure => (simp [intOf]; omega)
                  · obtain rfl : t = ys.length := by omega
                    rw [List.take_length, ← HFS'.out]
                    go_wp2_with fail
                    go_round
                    case rel => exact ⟨j + 1, by go_num, hjl, rfl⟩
                    case measure => (simp [intOf]; omega)
              · obtain rfl : j = outs.length := by omega
                have HWS' := hide (show wantL (roots ++ outs.flatten) (i + 1) = wantL (roots ++ outs.flatten) i ++ [((roots.count (i : Int) + outs.flatten.count (i : Int) : Nat) : Int)] by rw [HWS.out, List.count_append])
                have hwl := wantL_length (roots ++ outs.flatten) i
                rw [List.take_length]
                obtain ⟨N, hN⟩ : ∃ N, roots.count (i : Int) + outs.flatten.count (i : Int) = N := ⟨_, rfl⟩
                rw [hN] at HWS' ⊢
                clear hN hwl
                go_wp2_with (at_builtin; refine wpList_push _ rfl (.tmp 75) (.tmp 77) _ rfl w1.heap.size 3 _ 8 Tryd.underlying23 Tryd.infoInt rfl u6 i (iv (wantL (roots ++ outs.flatten) i)) rfl hown.out _ rfl 1 _ rfl (by simp) (by omega) (by decide) hws ?_; intro g' c' w3 ho' hgr hat; have HO1 := hide ho'; have HG := hide hgr; clear ho' hgr hat)
                go_roundw
                case rel => exact ⟨i + 1, by go_num, hlt, by rw [HWS'.out, iv_snoc]; exact HO1.out, (hkp.out.alloc _).grown HG.out fun b h hb => by have := (own_lt hown.out h).1; omega⟩
                case measure => (simp [intOf]; omega)
      · obtain rfl : i = outs.length := by omega
        have HIW := hide (IntsIn.of_own (F := fun _ => True) hown.out fun _ _ => trivial)
        have HDE := hide (wantL_dif (roots ++ outs.flatten) outs.length)
        obtain ⟨WL, hWL⟩ : ∃ WL, wantL (roots ++ outs.flatten) outs.length = WL := ⟨_, rfl⟩
        rw [hWL] at HIW HDE
        have HKW := hide (HK1.out.trans hkp.out)
        clear hWL
        go_wp2_with fail
        refine Calls.mono (counts_ok _ _ outs roots _ (HO.out.no HKW.out) (HR.out.no HKW.out) HOK.out) ?_
        unfold CountsPost
        rw [HDE.out]
        rintro e w3 ⟨v3, rfl, hv3, hk3⟩
        have HI3 := hide (IntsIn.of_own (F := fun _ => True) hv3 fun _ _ => trivial)
        have HK3 := hide (HKW.out.trans hk3)
        have HB3 := hide (HBr.out.kp hk3 id)
        have HIW3 := hide (HIW.out.no hk3)
        clear hv3 hk3 p0 p1
        go_wp2_with fail
        refine Calls.mono (same_nil _ (HH.out.no HK3.out)) ?_
        rintro e w4 ⟨rfl, hk4⟩
        have HK4 := hide (HK3.out.trans hk4)
        have HB4 := hide (HB3.out.kp hk4 id)
        have HI4 := hide (HI3.out.no hk4)
        have HIW4 := hide (HIW3.out.no hk4)
        clear hk4
        go_wp2_with fail
        refine Calls.mono (ints_any _ _ WL WL _ HI4.out HIW4.out) ?_
        rw [eqB_self]
        rintro e w5 ⟨rfl, n5, hw5⟩
        have HK5 := hide (show Kp No w w5 by rw [hw5]; exact HK4.out.drewN _)
        have HB5 := hide (show Blk w5 w.heap.size 25 #[.slice Ao outs.length co, .slice Ar roots.length cr] by rw [hw5]; exact HB4.out.drewN _)
        clear hw5
        obtain ⟨a1, a2, a3, a4, a5⟩ := HB5.out.a2
        have HSN := hide (fun (w : World) (h : Handle w) => same_nil w h)
        go_wp2_with fail
        refine Calls.mono (in_any _ _ _ _) ?_
        cases hbt : btw x 0 ((outs.length : Int) - 1) with
        | true =>
          have hcf : chkF outs roots x = 0 := by rw [HCF.out, hbt]; rfl
          have HX := hide (chkF_zero hcf).2
          have HFS := hide (freeR_set HOK.out HX.out)
          clear hbt hcf
          rintro e w6 ⟨rfl, rfl⟩
          go_wp2_with fail
          refine Calls.mono (rtrial_any _ _ outs roots x _ (HO.out.no HK5.out) (HR.out.no HK5.out) HOK.out HX.out) ?_
          rw [HFS.out]
          rintro e w7 ⟨rfl, hk7⟩
          have HK7 := hide (HK5.out.trans hk7)
          have HB7 := hide (HB5.out.kp hk7 id)
          clear hk7 a1 a2 a3 a4 a5
          obtain ⟨a1, a2, a3, a4, a5⟩ := HB7.out.a2
          go_wp2_with fail
          refine Calls.mono (free_ok _ _ outs roots x _ (HO.out.no HK7.out) (HR.out.no HK7.out) HOK.out HX.out) ?_
          rintro e w8 ⟨rfl, hk8⟩
          have HK8 := hide (HK7.out.trans hk8)
          clear hk8 a1 a2 a3 a4 a5
          go_wp2_with fail
          refine Calls.mono (HSN.out _ (HH.out.no HK8.out)) ?_
          rintro e w9 ⟨rfl, hk9⟩
          have HK9 := hide (HK8.out.trans hk9)
          clear hk9
          go_wp2
          go_ret
          exact ⟨by simp, HK9.out⟩
        | false =>
          have hcf : chkF outs roots x = 1 := by rw [HCF.out, hbt]; rfl
          have HBAD := hide (show chkF outs roots x ≠ 0 by omega)
          have HS1 := hide (fun (w : World) (h : Handle w) => same_err 1 (by omega) w h)
          have he1 : errV 1 = .iface 84 (.int .i64 1) := rfl
          rw [he1] at HS1
          have HF1 := hide (free_bad (F := F) (.slice Ao outs.length co) (.slice Ar roots.length cr) outs roots x w5 (HO.out.no HK5.out) (HR.out.no HK5.out) HBAD.out)
          rw [hcf] at HF1
          clear hbt hcf he1
          rintro e w6 ⟨rfl, rfl⟩
          go_wp2_with fail
          refine Calls.mono HF1.out ?_
          rintro e w8 ⟨rfl, hk8⟩
          have HK8 := hide (HK5.out.trans hk8)
          clear hk8 a1 a2 a3 a4 a5
          go_wp2_with fail
          refine Calls.mono (HS1.out _ (HH.out.no HK8.out)) ?_
          rintro e w9 ⟨rfl, hk9⟩
          have HK9 := hide (HK8.out.trans hk9)
          clear hk9
          go_wp2
          go_ret
          exact ⟨by simp, HK9.out⟩
  · have HBAD := hide hc
    have HFB := hide (show chkF outs roots x ≠ 0 by rw [chkF_bad hc]; exact hc)
    have HCF := hide (chkF_bad (x := x) hc)
    obtain ⟨c, hcc⟩ : ∃ c, chk outs roots = c := ⟨_, rfl⟩
    have HCC := hide hcc
    have HSE := hide (fun (w : World) (h : Handle w) => show Calls Tryd.prog 13 #[.iface 84 (.int .i64 c), .int .i64 (c : Int)] w fun r w' => r = .returned (.bool true) ∧ Kp No w w' by
      have := same_err c (by have := chk_le outs roots; omega) w h
      rwa [errV_pos (by rw [← hcc]; exact hc)] at this)
    rw [hcc] at hc HCF ⊢
    have hc0 : ¬ ((c : Int) = 0) := by omega
    clear hcc hc
    go_wp2_with fail
    go_loopw [6, 7] (fun v q wr => v = .slice none 0 0 ∧ q = .int .i64 0 ∧ wr = w1) (fun _ _ _ => 0)
    case atStart => exact ⟨rfl, rfl, rfl⟩
    case round =>
      obtain ⟨rfl, rfl, rfl⟩ := hrel
      obtain ⟨a1, a2, a3, a4, a5⟩ := HB1.out.a2
      by_cases hpos : 0 < (outs.length : Int)
      · skip
        go_wp2_with fail
        refine Calls.mono (counts_bad _ _ outs roots _ (HO.out.no HK1.out) (HR.out.no HK1.out) HBAD.out) ?_
        rw [HCC.out]
        rintro e w3 ⟨rfl, hk3⟩
        have HK3 := hide (HK1.out.trans hk3)
        have HB3 := hide (HB1.out.kp hk3 id)
        clear hk3 a1 a2 a3 a4 a5
        go_wp2_with fail
        refine Calls.mono (HSE.out _ (HH.out.no HK3.out)) ?_
        rintro e w4 ⟨rfl, hk4⟩
        have HK4 := hide (HK3.out.trans hk4)
        have HB4 := hide (HB3.out.kp hk4 id)
        clear hk4
        go_wp2_with fail
        refine Calls.mono (ints_any (F := No) (F' := No) _ _ [] [] _ (.nil_ _ _) (.nil_ _ _)) ?_
        rw [eqB_self]
        rintro e w5 ⟨rfl, n5, hw5⟩
        have HK5 := hide (show Kp No w w5 by rw [hw5]; exact HK4.out.drewN _)
        have HB5 := hide (show Blk w5 w.heap.size 25 #[.slice Ao outs.length co, .slice Ar roots.length cr] by rw [hw5]; exact HB4.out.drewN _)
        have HF1 := hide (free_bad (F := F) (.slice Ao outs.length co) (.slice Ar roots.length cr) outs roots x w5 (HO.out.no HK5.out) (HR.out.no HK5.out) HFB.out)
        rw [HCF.out] at HF1
        clear hw5
        obtain ⟨a1, a2, a3, a4, a5⟩ := HB5.out.a2
        go_wp2_with fail
        refine Calls.mono HF1.out ?_
        rintro e w8 ⟨rfl, hk8⟩
        have HK8 := hide (HK5.out.trans hk8)
        clear hk8 a1 a2 a3 a4 a5
        go_wp2_with fail
        refine Calls.mono (HSE.out _ (HH.out.no HK8.out)) ?_
        rintro e w9 ⟨rfl, hk9⟩
        have HK9 := hide (HK8.out.trans hk9)
        clear hk9
        go_wp2
        go_ret
        exact ⟨by simp, HK9.out⟩
      · skip
        go_wp2_with fail
        refine Calls.mono (counts_bad _ _ outs roots _ (HO.out.no HK1.out) (HR.out.no HK1.out) HBAD.out) ?_
        rw [HCC.out]
        rintro e w3 ⟨rfl, hk3⟩
        have HK3 := hide (HK1.out.trans hk3)
        have HB3 := hide (HB1.out.kp hk3 id)
        clear hk3 a1 a2 a3 a4 a5
        go_wp2_with fail
        refine Calls.mono (HSE.out _ (HH.out.no HK3.out)) ?_
        rintro e w4 ⟨rfl, hk4⟩
        have HK4 := hide (HK3.out.trans hk4)
        have HB4 := hide (HB3.out.kp hk4 id)
        clear hk4
        go_wp2_with fail
        refine Calls.mono (ints_any (F := No) (F' := No) _ _ [] [] _ (.nil_ _ _) (.nil_ _ _)) ?_
        rw [eqB_self]
        rintro e w5 ⟨rfl, n5, hw5⟩
        have HK5 := hide (show Kp No w w5 by rw [hw5]; exact HK4.out.drewN _)
        have HB5 := hide (show Blk w5 w.heap.size 25 #[.slice Ao outs.length co, .slice Ar roots.length cr] by rw [hw5]; exact HB4.out.drewN _)
        have HF1 := hide (free_bad (F := F) (.slice Ao outs.length co) (.slice Ar roots.length cr) outs roots x w5 (HO.out.no HK5.out) (HR.out.no HK5.out) HFB.out)
        rw [HCF.out] at HF1
        clear hw5
        obtain ⟨a1, a2, a3, a4, a5⟩ := HB5.out.a2
        go_wp2_with fail
        refine Calls.mono HF1.out ?_
        rintro e w8 ⟨rfl, hk8⟩
        have HK8 := hide (HK5.out.trans hk8)
        clear hk8 a1 a2 a3 a4 a5
        go_wp2_with fail
        refine Calls.mono (HSE.out _ (HH.out.no HK8.out)) ?_
        rintro e w9 ⟨rfl, hk9⟩
        have HK9 := hide (HK8.out.trans hk9)
        clear hk9
        go_wp2
        go_ret
        exact ⟨by simp, HK9.out⟩
end Go.Proofs.YtgbdjidjbcbhjaaDoor
