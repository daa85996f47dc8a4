/- The document's answer, walked: Trial, of all heaps that are right. -/
import Derived.Test.YtgbdjidjbcbhjaaDoorRefAnew
import Derived.Test.YtgbdjidjbcbhjaaDoorTrialSaysPlain
namespace Go.Proofs.YtgbdjidjbcbhjaaDoor
open Go.RowKit
set_option linter.unusedSimpArgs false

theorem freeR_snoc {o p : List Int} {k : Nat} (hk : k < o.length) : (o.take (k + 1)).filter (fun y => !hasB p y) = (o.take k).filter (fun y => !hasB p y) ++ (if hasB p o[k] then [] else [o[k]]) := by
  rw [List.take_succ_eq_append_getElem hk, List.filter_append]
  congr 1
  cases h : hasB p o[k] <;> simp [h]

set_option maxRecDepth 100000 in
set_option maxHeartbeats 4000000 in
theorem rtrial_any {F : Nat → Prop} (vo vr : Value) (outs : List (List Int)) (roots : List Int) (x : Int) (w : World) (ho : RowsIn w F vo outs) (hr : IntsIn w F vr roots) (hok : Ok outs roots) (hx : Ok outs [x]) :
    Calls Tryd.prog 23 #[.agg #[vo, vr], .int .i64 x] w fun e w' => e = .returned (.int .i64 (sumP (freeR outs roots x) : Nat)) ∧ Kp No w w' := by
  obtain ⟨Ao, co, rfl, hco, hmo, _⟩ := RowsIn.form ho
  obtain ⟨Ar, cr, rfl, hcr, hmr, _⟩ := id hr
  have HO := hide ho
  have HR := hide hr
  have HOK := hide hok
  have HX := hide hx
  have hn12 := hok.n12
  have HHO := hide (heldR_ok hok hx)
  have HPR := hide (order_range hx)
  have HPL := hide (Nat.le_trans (order_length hx) hn12)
  clear ho hr hok hx
  go_enter Tryd.func23, Tryd.ntmps23
  go_wp2_with fail
  obtain ⟨W0, hW0⟩ : ∃ W0, (w.alloc (.cells #[.slice Ao outs.length co, .slice Ar roots.length cr] 25)).alloc (.cells #[.int .i64 x] 3) = W0 := ⟨_, rfl⟩
  have HK0 := hide (show Kp No w W0 by rw [← hW0]; exact ((Kp.refl No w).alloc _).alloc _)
  have HB0 := hide (show Blk W0 w.heap.size 25 #[.slice Ao outs.length co, .slice Ar roots.length cr] by rw [← hW0]; exact (Blk.new _ _ _).alloc _)
  have HB1 := hide (show Blk W0 (w.heap.size + 1) 3 #[.int .i64 x] by rw [← hW0]; exact Blk.at_ _ _ (by simp))
  rw [hW0]
  clear hW0
  refine Calls.mono (from_any (F' := fun _ => True) _ _ outs [x] _ (HO.out.no HK0.out) (one_blk HB1.out trivial) HX.out.fwd_ (by simp)) ?_
  rw [order_fwd]
  rintro e w1 ⟨Ap, cp, rfl, hip, hk1⟩
  have HK1 := hide (HK0.out.trans hk1)
  have HBH := hide (HB0.out.kp hk1 id)
  have HIP := hide hip
  obtain ⟨P, hP⟩ : ∃ P, order outs [x] = P := ⟨_, rfl⟩
  rw [hP] at HHO HPR HPL HIP ⊢
  have HPE := hide hP
  have hpl := HPL.out
  clear hk1 hip hP
  go_wp2_with fail
  go_loopw [6, 7] (fun v q wr => ∃ i : Nat, q = .int .i64 i ∧ i ≤ P.length ∧ Hid (wr.ownsRow w1.heap.size 3 1 v (heldR outs roots P (P.take i)).length (iv (heldR outs roots P (P.take i)))) ∧ Hid (Kp No w1 wr)) (fun _ q _ => P.length - (intOf q).toNat)
  case atStart => exact ⟨0, rfl, Nat.zero_le _, World.ownsRow_nil _ _ _ _, Kp.refl _ _⟩
  case round =>
    obtain ⟨i, rfl, hi, hown, hkp⟩ := hrel
    have hws := hkp.out.size
    have HBr := hide (HBH.out.kp hkp.out id)
    obtain ⟨p0, p1⟩ := HBr.out.c2
    by_cases hlt : i < P.length
    · obtain ⟨_, _, e, _, _, hcell⟩ := HIP.out.no hkp.out
      cases e
      obtain ⟨b, o, rfl, _, hcx⟩ := hcell i hlt
      have HSN := hide (show heldR outs roots P (P.take (i + 1)) = heldR outs roots P (P.take i) ++ (if hasB roots P[i] then [P[i]] else []) ++ hRow outs P P[i] outs.length by rw [List.take_succ_eq_append_getElem hlt, heldR_snoc])
      have hll := heldR_length hn12 (roots := roots) (part := P) (P.take i)
      rw [List.length_take, Nat.min_eq_left (Nat.le_of_lt hlt)] at hll
      obtain ⟨y, hy⟩ : ∃ y, P[i] = y := ⟨_, rfl⟩
      have HYE := hide hy
      rw [hy] at hcx HSN
      obtain ⟨L, hL⟩ : ∃ L, heldR outs roots P (P.take i) = L := ⟨_, rfl⟩
      rw [hL] at hown HSN hll
      have hll' : L.length ≤ 156 := by omega
      have HCX := hide hcx
      have hjoin : ∀ (bb : Bool), hasB roots y = bb → True := fun _ _ => trivial
      clear hcell hy hL hll hjoin
      obtain ⟨bb, hbb⟩ : ∃ bb, hasB roots y = bb := ⟨_, rfl⟩
      have HBB := hide hbb
      rw [hbb] at HSN
      clear hbb
      go_wp2_with fail
      go_quiet ((go_at_call 51; exact Calls.quiet_of ((has_any _ roots y _ ((HR.out.no (HK1.out.trans hkp.out)).no ((Kp.refl No _).drewN _))).mono fun e w' h => ⟨h.1.trans (ret_bool HBB.out), 0, h.2.symm⟩)))
      have HCX0 := hide (show w1.cell? ⟨b, o + i, none⟩ = some (.int .i64 y) by
        obtain ⟨_, _, e, _, _, hcell⟩ := HIP.out
        cases e
        obtain ⟨b', o', e, _, hc⟩ := hcell i hlt
        cases e
        rwa [HYE.out] at hc)
      have HOD0 := hide (fun n => own_kp hown.out ((Kp.refl No wr).drewN n) fun _ _ h => h)
      obtain ⟨n0, hn0⟩ : ∃ n0, nq = n0 := ⟨_, rfl⟩
      cases bb with
      | true =>
        go_wp2_with (at_builtin; refine wpList_push _ rfl (.tmp 30) (.tmp 35) _ rfl w1.heap.size 3 _ 8 Tryd.underlying23 Tryd.infoInt rfl u6 L.length (iv L) rfl (HOD0.out _) _ rfl 1 _ rfl (by simp) (by omega) (by decide) (by simp; omega) ?_; intro g' c' w3 ho' hgr hat; have HO1 := hide ho'; have HG := hide hgr; clear ho' hgr hat)
        have HKP3 := hide (show Kp No w1 w3 from ((hkp.out.drewN _).alloc _).grown HG.out fun b h hb => by have := (own_lt hown.out h).1; omega)
        go_loopw [6, 8] (fun v q wq => ∃ j : Nat, q = .int .i64 j ∧ j ≤ outs.length ∧ Hid (wq.ownsRow w1.heap.size 3 1 v ((L ++ [y]) ++ hRow outs P y j).length (iv ((L ++ [y]) ++ hRow outs P y j))) ∧ Hid (Kp No w1 wq)) (fun _ q _ => outs.length - (intOf q).toNat)
        case atStart => exact ⟨0, rfl, Nat.zero_le _, by rw [show L ++ [y] ++ hRow outs P y 0 = L ++ [y] by simp [hRow], iv_snoc, List.length_append]; exact HO1.out, HKP3.out⟩
        case round =>
          obtain ⟨j, rfl, hj, hown2, hkp2⟩ := hrel
          have hws2 := hkp2.out.size
          have HBq := hide (HBH.out.kp hkp2.out id)
          obtain ⟨p0, p1⟩ := HBq.out.c2
          have hcx := HCX0.out
          have hcx := hkp2.out.cell hcx id
          by_cases hlt2 : j < outs.length
          · obtain ⟨_, _, e, _, _, hrow⟩ := RowsIn.form (HO.out.no (HK1.out.trans hkp2.out))
            cases e
            obtain ⟨bo, oo, A', c'', rfl, _, hrc, hri⟩ := hrow j hlt2
            have hadj : outs[j] = adj outs (j : Int) := by rw [adj_eq (by simpa using hlt2)]; simp
            rw [hadj] at hrc hri
            have HRS := hide (hRow_succ outs P y j)
            have hrl := hRow_length outs P y j
            obtain ⟨b1, hb1⟩ : ∃ b1, hasB P (j : Int) = b1 := ⟨_, rfl⟩
            obtain ⟨b2, hb2⟩ : ∃ b2, hasB (adj outs (j : Int)) y = b2 := ⟨_, rfl⟩
            have HQ1 := hide (fun n => show Calls Tryd.prog 51 #[.slice (some ⟨b, o, none⟩) P.length cp, .int .i64 (j : Int)] (wr.drewN n) fun e w' => e = .returned (.bool b1) ∧ ∃ n', w' = (wr.drewN n).drewN n' from (has_any _ P (j : Int) _ ((HIP.out.no hkp2.out).no ((Kp.refl No _).drewN n))).mono fun e w' h => ⟨h.1.trans (ret_bool hb1), 0, h.2.symm⟩)
            obtain ⟨ys, hys⟩ : ∃ ys, adj outs (j : Int) = ys := ⟨_, rfl⟩
            rw [hys] at hrc hri hb2
            have HQ2 := hide (fun n => show Calls Tryd.prog 51 #[.slice A' ys.length c'', .int .i64 y] (wr.drewN n) fun e w' => e = .returned (.bool b2) ∧ ∃ n', w' = (wr.drewN n).drewN n' from (has_any _ ys y _ (hri.no ((Kp.refl No _).drewN n))).mono fun e w' h => ⟨h.1.trans (ret_bool hb2), 0, h.2.symm⟩)
            rw [hys, hb1, hb2] at HRS
            obtain ⟨H, hH⟩ : ∃ H, hRow outs P y j = H := ⟨_, rfl⟩
            rw [hH] at hown2 HRS hrl
            clear hrow hri hadj hb1 hb2 hys hH
            cases b1 with
            | true =>
              have HRS' := hide (show hRow outs P y (j + 1) = H by rw [HRS.out]; simp)
              go_wp2_with fail
              go_big_quiet ((go_at_call 51; with_reducible exact Calls.quiet_of (HQ1.out _)))
              go_wp2_with fail
              go_roundw
              case rel => exact ⟨j + 1, by go_num, hlt2, by rw [HRS'.out]; exact own_kp hown2.out (Kp.drewN (Kp.refl No wr) _) fun _ _ h => h, hkp2.out.trans (Kp.drewN (Kp.refl No wr) _)⟩
              case measure => (simp [intOf]; omega)
            | false =>
              cases b2 with
              | false =>
                have HRS' := hide (show hRow outs P y (j + 1) = H by rw [HRS.out]; simp)
                go_wp2_with fail
                go_big_quiet (first
                  | (go_at_call 51; with_reducible exact Calls.quiet_of (HQ1.out _))
                  | (go_at_call 51; with_reducible exact Calls.quiet_of (HQ2.out _)))
                go_wp2_with fail
                go_roundw
                case rel => exact ⟨j + 1, by go_num, hlt2, by rw [HRS'.out]; exact own_kp hown2.out (Kp.drewN (Kp.refl No wr) _) fun _ _ h => h, hkp2.out.trans (Kp.drewN (Kp.refl No wr) _)⟩
                case measure => (simp [intOf]; omega)
              | true =>
                have HRS' := hide (show (L ++ [y]) ++ hRow outs P y (j + 1) = ((L ++ [y]) ++ H) ++ [y] by rw [HRS.out]; simp)
                have hml : ((L ++ [y]) ++ H).length ≤ 200 := by simp; omega
                obtain ⟨N, hN⟩ : ∃ N, (L ++ [y]) ++ H = N := ⟨_, rfl⟩
                rw [hN] at hown2 HRS' hml
                have HOD := hide (fun n => own_kp hown2.out ((Kp.refl No wr).drewN n) fun _ _ h => h)
                clear hN
                go_wp2_with fail
                go_big_quiet (first
                  | (go_at_call 51; with_reducible exact Calls.quiet_of (HQ1.out _))
                  | (go_at_call 51; with_reducible exact Calls.quiet_of (HQ2.out _)))
                go_wp2_with (at_builtin; refine wpList_push _ rfl (.tmp 60) (.tmp 65) _ rfl w1.heap.size 3 _ 8 Tryd.underlying23 Tryd.infoInt rfl u6 N.length (iv N) rfl (HOD.out _) _ rfl 1 _ rfl (by simp) (by omega) (by decide) (by simp; omega) ?_; intro g' c' w3 ho' hgr hat; have HO1 := hide ho'; have HG := hide hgr; clear ho' hgr hat)
                go_roundw
                case rel => exact ⟨j + 1, by go_num, hlt2, by rw [HRS'.out, iv_snoc, List.length_append]; exact HO1.out, ((hkp2.out.trans (Kp.drewN (Kp.refl No wr) _)).alloc _).grown HG.out fun b h hb => by have := (own_lt hown2.out h).1; omega⟩
                case measure => (simp [intOf]; omega)
          · obtain rfl : j = outs.length := by omega
            have HFN := hide (show heldR outs roots P (P.take (i + 1)) = (L ++ [y]) ++ hRow outs P y outs.length by rw [HSN.out]; simp)
            go_wp2_with fail
            go_roundw
            case rel => exact ⟨i + 1, by go_num, hlt, by rw [HFN.out]; exact hown2.out, hkp2.out⟩
            case measure => (simp [intOf]; omega)

      | false =>
        go_wp2_with fail
        go_loopw [6, 8] (fun v q wq => ∃ j : Nat, q = .int .i64 j ∧ j ≤ outs.length ∧ Hid (wq.ownsRow w1.heap.size 3 1 v (L ++ hRow outs P y j).length (iv (L ++ hRow outs P y j))) ∧ Hid (Kp No w1 wq)) (fun _ q _ => outs.length - (intOf q).toNat)
        case atStart => exact ⟨0, rfl, Nat.zero_le _, by rw [show L ++ hRow outs P y 0 = L by simp [hRow]]; exact HOD0.out nq, hkp.out.drewN _⟩
        case round =>
          obtain ⟨j, rfl, hj, hown2, hkp2⟩ := hrel
          have hws2 := hkp2.out.size
          have HBq := hide (HBH.out.kp hkp2.out id)
          obtain ⟨p0, p1⟩ := HBq.out.c2
          have hcx := HCX0.out
          have hcx := hkp2.out.cell hcx id
          by_cases hlt2 : j < outs.length
          · obtain ⟨_, _, e, _, _, hrow⟩ := RowsIn.form (HO.out.no (HK1.out.trans hkp2.out))
            cases e
            obtain ⟨bo, oo, A', c'', rfl, _, hrc, hri⟩ := hrow j hlt2
            have hadj : outs[j] = adj outs (j : Int) := by rw [adj_eq (by simpa using hlt2)]; simp
            rw [hadj] at hrc hri
            have HRS := hide (hRow_succ outs P y j)
            have hrl := hRow_length outs P y j
            obtain ⟨b1, hb1⟩ : ∃ b1, hasB P (j : Int) = b1 := ⟨_, rfl⟩
            obtain ⟨b2, hb2⟩ : ∃ b2, hasB (adj outs (j : Int)) y = b2 := ⟨_, rfl⟩
            have HQ1 := hide (fun n => show Calls Tryd.prog 51 #[.slice (some ⟨b, o, none⟩) P.length cp, .int .i64 (j : Int)] (wr.drewN n) fun e w' => e = .returned (.bool b1) ∧ ∃ n', w' = (wr.drewN n).drewN n' from (has_any _ P (j : Int) _ ((HIP.out.no hkp2.out).no ((Kp.refl No _).drewN n))).mono fun e w' h => ⟨h.1.trans (ret_bool hb1), 0, h.2.symm⟩)
            obtain ⟨ys, hys⟩ : ∃ ys, adj outs (j : Int) = ys := ⟨_, rfl⟩
            rw [hys] at hrc hri hb2
            have HQ2 := hide (fun n => show Calls Tryd.prog 51 #[.slice A' ys.length c'', .int .i64 y] (wr.drewN n) fun e w' => e = .returned (.bool b2) ∧ ∃ n', w' = (wr.drewN n).drewN n' from (has_any _ ys y _ (hri.no ((Kp.refl No _).drewN n))).mono fun e w' h => ⟨h.1.trans (ret_bool hb2), 0, h.2.symm⟩)
            rw [hys, hb1, hb2] at HRS
            obtain ⟨H, hH⟩ : ∃ H, hRow outs P y j = H := ⟨_, rfl⟩
            rw [hH] at hown2 HRS hrl
            clear hrow hri hadj hb1 hb2 hys hH
            cases b1 with
            | true =>
              have HRS' := hide (show hRow outs P y (j + 1) = H by rw [HRS.out]; simp)
              go_wp2_with fail
              go_big_quiet ((go_at_call 51; with_reducible exact Calls.quiet_of (HQ1.out _)))
              go_wp2_with fail
              go_roundw
              case rel => exact ⟨j + 1, by go_num, hlt2, by rw [HRS'.out]; exact own_kp hown2.out (Kp.drewN (Kp.refl No wr) _) fun _ _ h => h, hkp2.out.trans (Kp.drewN (Kp.refl No wr) _)⟩
              case measure => (simp [intOf]; omega)
            | false =>
              cases b2 with
              | false =>
                have HRS' := hide (show hRow outs P y (j + 1) = H by rw [HRS.out]; simp)
                go_wp2_with fail
                go_big_quiet (first
                  | (go_at_call 51; with_reducible exact Calls.quiet_of (HQ1.out _))
                  | (go_at_call 51; with_reducible exact Calls.quiet_of (HQ2.out _)))
                go_wp2_with fail
                go_roundw
                case rel => exact ⟨j + 1, by go_num, hlt2, by rw [HRS'.out]; exact own_kp hown2.out (Kp.drewN (Kp.refl No wr) _) fun _ _ h => h, hkp2.out.trans (Kp.drewN (Kp.refl No wr) _)⟩
                case measure => (simp [intOf]; omega)
              | true =>
                have HRS' := hide (show L ++ hRow outs P y (j + 1) = (L ++ H) ++ [y] by rw [HRS.out]; simp)
                have hml : (L ++ H).length ≤ 200 := by simp; omega
                obtain ⟨N, hN⟩ : ∃ N, L ++ H = N := ⟨_, rfl⟩
                rw [hN] at hown2 HRS' hml
                have HOD := hide (fun n => own_kp hown2.out ((Kp.refl No wr).drewN n) fun _ _ h => h)
                clear hN
                go_wp2_with fail
                go_big_quiet (first
                  | (go_at_call 51; with_reducible exact Calls.quiet_of (HQ1.out _))
                  | (go_at_call 51; with_reducible exact Calls.quiet_of (HQ2.out _)))
                go_wp2_with (at_builtin; refine wpList_push _ rfl (.tmp 60) (.tmp 65) _ rfl w1.heap.size 3 _ 8 Tryd.underlying23 Tryd.infoInt rfl u6 N.length (iv N) rfl (HOD.out _) _ rfl 1 _ rfl (by simp) (by omega) (by decide) (by simp; omega) ?_; intro g' c' w3 ho' hgr hat; have HO1 := hide ho'; have HG := hide hgr; clear ho' hgr hat)
                go_roundw
                case rel => exact ⟨j + 1, by go_num, hlt2, by rw [HRS'.out, iv_snoc, List.length_append]; exact HO1.out, ((hkp2.out.trans (Kp.drewN (Kp.refl No wr) _)).alloc _).grown HG.out fun b h hb => by have := (own_lt hown2.out h).1; omega⟩
                case measure => (simp [intOf]; omega)
          · obtain rfl : j = outs.length := by omega
            have HFN := hide (show heldR outs roots P (P.take (i + 1)) = L ++ hRow outs P y outs.length by rw [HSN.out]; simp)
            go_wp2_with fail
            go_roundw
            case rel => exact ⟨i + 1, by go_num, hlt, by rw [HFN.out]; exact hown2.out, hkp2.out⟩
            case measure => (simp [intOf]; omega)

    · obtain rfl : i = P.length := by omega
      rw [List.take_length] at hown
      have HHL := hide (show (heldR outs roots P P).length ≤ 1000 by have := heldR_length hn12 (roots := roots) (part := P) P; omega)
      have HFE := hide (show freeR outs roots x = P.filter fun y => !hasB (order outs (fwd [] (heldR outs roots P P))) y by unfold freeR; rw [HPE.out])
      obtain ⟨H, hH⟩ : ∃ H, heldR outs roots P P = H := ⟨_, rfl⟩
      rw [hH] at HHO hown HHL HFE
      clear hH
      have HIH := hide (IntsIn.of_own (F := fun _ => True) hown.out fun _ _ => trivial)
      have HKW := hide (HK1.out.trans hkp.out)
      go_wp2_with fail
      refine Calls.mono (from_any _ _ outs H _ (HO.out.no HKW.out) HIH.out HHO.out HHL.out) ?_
      rintro e w3 ⟨A3, c3, rfl, hi3, hk3⟩
      have HI3 := hide hi3
      have HK3 := hide (hkp.out.trans hk3)
      obtain ⟨K, hK⟩ : ∃ K, order outs (fwd [] H) = K := ⟨_, rfl⟩
      rw [hK] at HI3 HFE ⊢
      clear hi3 hk3 hK
      go_wp2_with fail
      go_loopw [10, 11] (fun v q wq => ∃ j : Nat, q = .int .i64 j ∧ j ≤ P.length ∧ Hid (wq.ownsRow w3.heap.size 3 1 v ((P.take j).filter fun y => !hasB K y).length (iv ((P.take j).filter fun y => !hasB K y))) ∧ Hid (Kp No w3 wq)) (fun _ q _ => P.length - (intOf q).toNat)
      case atStart => exact ⟨0, rfl, Nat.zero_le _, World.ownsRow_nil _ _ _ _, Kp.refl _ _⟩
      case round =>
        obtain ⟨j, rfl, hj, hown2, hkp2⟩ := hrel
        have hws2 := hkp2.out.size
        by_cases hlt2 : j < P.length
        · obtain ⟨_, _, e, _, _, hcell⟩ := HIP.out.no (HK3.out.trans hkp2.out)
          cases e
          obtain ⟨b, o, rfl, _, hcx⟩ := hcell j hlt2
          have HSN := hide (freeR_snoc (p := K) hlt2)
          have hll : ((P.take j).filter fun y => !hasB K y).length ≤ 12 := Nat.le_trans (List.length_filter_le _ _) (by simp; omega)
          obtain ⟨y, hy⟩ : ∃ y, P[j] = y := ⟨_, rfl⟩
          obtain ⟨L, hL⟩ : ∃ L, ((P.take j).filter fun y => !hasB K y) = L := ⟨_, rfl⟩
          rw [hy] at hcx HSN
          rw [hL] at hll hown2 HSN
          obtain ⟨bb, hbb⟩ : ∃ bb, hasB K y = bb := ⟨_, rfl⟩
          have HBB := hide hbb
          rw [hbb] at HSN
          clear hcell hy hL hbb
          go_wp2_with fail
          refine Calls.mono (has_any _ K y _ (HI3.out.no hkp2.out)) ?_
          rw [HBB.out]
          rintro e w4 ⟨rfl, rfl⟩
          cases bb with
          | true =>
            have HSN' := hide (show ((P.take (j + 1)).filter fun y => !hasB K y) = L by rw [HSN.out]; simp)
            go_wp2_with fail
            go_roundw
            case rel => exact ⟨j + 1, by go_num, hlt2, by rw [HSN'.out]; exact hown2.out, hkp2.out⟩
            case measure => (simp [intOf]; omega)
          | false =>
            have HSN' := hide (show ((P.take (j + 1)).filter fun y => !hasB K y) = L ++ [y] by rw [HSN.out]; simp)
            go_wp2_with (at_builtin; refine wpList_push _ rfl (.tmp 84) (.tmp 89) _ rfl w3.heap.size 3 _ 8 Tryd.underlying23 Tryd.infoInt rfl u10 L.length (iv L) rfl hown2.out _ rfl 1 _ rfl (by simp) (by omega) (by decide) hws2 ?_; intro g' c' w5 ho' hgr hat; have HO1 := hide ho'; have HG := hide hgr; clear ho' hgr hat)
            go_roundw
            case rel => exact ⟨j + 1, by go_num, hlt2, by rw [HSN'.out, iv_snoc, List.length_append]; exact HO1.out, (hkp2.out.alloc _).grown HG.out fun b h hb => by have := (own_lt hown2.out h).1; omega⟩
            case measure => (simp [intOf]; omega)
        · obtain rfl : j = P.length := by omega
          rw [List.take_length, ← HFE.out] at hown2
          have hll := List.length_filter_le (fun y => !hasB K y) P
          rw [← HFE.out] at hll
          have HRG := hide (fun (z : Int) (hz : z ∈ freeR outs roots x) => show 0 ≤ z ∧ z < 12 by
            rw [HFE.out] at hz
            have := HPR.out z (List.mem_filter.1 hz).1
            omega)
          obtain ⟨Z, hZ⟩ : ∃ Z, freeR outs roots x = Z := ⟨_, rfl⟩
          rw [hZ] at hown2 hll HRG
          have HZE := hide hZ
          clear hZ
          have HI := hide (IntsIn.of_own (F := fun _ => True) hown2.out fun _ _ => trivial)
          go_wp2_with fail
          refine Calls.mono (set_any _ Z _ HI.out (by omega) HRG.out) ?_
          rintro e w5 ⟨rfl, rfl⟩
          go_wp2
          go_ret
          exact ⟨by rw [HZE.out]; rfl, (HK1.out.trans HK3.out).trans hkp2.out⟩
end Go.Proofs.YtgbdjidjbcbhjaaDoor
