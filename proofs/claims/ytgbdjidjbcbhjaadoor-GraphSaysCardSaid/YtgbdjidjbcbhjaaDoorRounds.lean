/- graph.Rounds, walked: of a heap that is no more than it may be, which nodes can be come to from themselves, as bits. -/
import Derived.Test.YtgbdjidjbcbhjaaDoorReach
import Derived.Test.YtgbdjidjbcbhjaaDoorPlan
namespace Go.Proofs.YtgbdjidjbcbhjaaDoor
open Go.RowKit

set_option maxHeartbeats 1000000 in
theorem rounds_ok {F : Nat → Prop} (vo vr : Value) (outs : List (List Int)) (roots : List Int) (w : World) (ho : RowsIn w F vo outs) (hr : IntsIn w F vr roots) (hok : Ok outs roots) :
    Calls Tryd.prog 20 #[.agg #[vo, vr]] w fun e w' => e = .returned (.tuple #[.int .i64 (roundsN outs : Nat), .nilIface]) ∧ Kp No w w' := by
  have HO := hide ho
  have HR := hide hr
  have HOK := hide hok
  have HE := hide (chk_of_ok hok)
  have HL := hide hok.n12
  clear ho hr hok
  go_enter Tryd.func20, Tryd.ntmps20
  go_wp2_with fail
  refine Calls.mono (check_any vo vr outs roots _ (HO.out.no ((Kp.refl No _).alloc _)) (HR.out.no ((Kp.refl No _).alloc _))) ?_
  rw [HE.out]
  rintro e w1 ⟨rfl, hk1⟩
  have hb1 := (Blk.new w 25 #[vo, vr]).kp hk1 id
  have HK1 := hide (((Kp.refl No w).alloc (.cells #[vo, vr] 25)).trans' hk1 fun _ _ h => h)
  obtain ⟨a1, a2, a3, a4, a5⟩ := hb1.a2
  have HB1 := hide hb1
  clear hk1 hb1
  unfold errV
  obtain ⟨Ao, co, rfl, hco, hmo, _⟩ := RowsIn.form HO.out
  go_wp2_with fail
  go_loopw [17, 5] (fun p q wr => ∃ k : Nat, p = .int .i64 k ∧ q = .int .i64 (roundsTo outs k : Nat) ∧ k ≤ outs.length ∧ Kp No w1 wr)
    (fun p _ _ => outs.length - (intOf p).toNat)
  case atStart => exact ⟨0, rfl, rfl, Nat.zero_le _, Kp.refl _ _⟩
  case round =>
    obtain ⟨k, rfl, rfl, hk, hkp⟩ := hrel
    have HK := hide (HK1.out.trans hkp)
    obtain ⟨b1, b2, b3, b4, b5⟩ := (HB1.out.kp hkp id).a2
    have HKP := hide hkp
    clear a1 a2 a3 a4 hkp
    have HT := hide (roundsTo_lt (outs := outs) k (by have := HL.out; omega))
    by_cases hlt : k < outs.length
    · obtain ⟨_, _, e, _, _, hrow⟩ := RowsIn.form (HO.out.no HK.out)
      cases e
      obtain ⟨bo, oo, A', c', rfl, _, hrc, hri⟩ := hrow k hlt
      clear hrow
      have hadj : adj outs (k : Int) = outs[k] := by
        unfold adj
        rw [Int.toNat_natCast, List.getD_eq_getElem?_getD, List.getElem?_eq_getElem hlt]
        rfl
      rw [← hadj] at hrc hri
      have HRI := hide hri
      clear hadj hri
      have hk12 : k < 12 := by have := HL.out; omega
      have hT' := HT.out
      go_wp2_with fail
      refine plan_start 14 (by kernel_rfl) rfl (fun hPT => ?_)
      refine plan_take (i := 0) (v := ?_) rfl (by kernel_rfl) (by kernel_rfl) (by kernel_rfl) (fun _ _ _ h => h) hPT (by rfl) ?_ ?_
      rotate_left
      · (intro w; go_simp; with_reducible rfl)
      (clear hPT; intro hPT; simp only [List.getElem_toArray, List.getElem_cons_zero, List.getElem_cons_succ, Act.put, List.setIfInBounds_toArray, List.set_cons_zero, List.set_cons_succ])
      refine plan_take (i := 2) (v := ?_) rfl (by kernel_rfl) (by kernel_rfl) (by kernel_rfl) (fun _ _ _ h => h) hPT (by rfl) ?_ ?_
      rotate_left
      · (intro w; go_simp; with_reducible rfl)
      (clear hPT; intro hPT; simp only [List.getElem_toArray, List.getElem_cons_zero, List.getElem_cons_succ, Act.put, List.setIfInBounds_toArray, List.set_cons_zero, List.set_cons_succ])
      refine plan_take (i := 4) (v := ?_) rfl (by kernel_rfl) (by kernel_rfl) (by kernel_rfl) (fun _ _ _ h => h) hPT (by rfl) ?_ ?_
      rotate_left
      · (intro w; go_simp; with_reducible rfl)
      (clear hPT; intro hPT; simp only [List.getElem_toArray, List.getElem_cons_zero, List.getElem_cons_succ, Act.put, List.setIfInBounds_toArray, List.set_cons_zero, List.set_cons_succ])
      refine plan_load (fun w' => w'.cell? ⟨w.heap.size, 0, none⟩ = some (.slice (some ⟨bo, oo, none⟩) outs.length co)) (i := 1) (v := ?_) rfl (by kernel_rfl) (by kernel_rfl) (by kernel_rfl) (fun _ _ _ h => h) hPT (by rfl) ?_ ?_ ?_
      rotate_left
      · (first | assumption | (go_simp; done))
      · (intro w hSw; (try dsimp only at hSw); go_simp; with_reducible rfl)
      (clear hPT; intro hPT; simp only [List.getElem_toArray, List.getElem_cons_zero, List.getElem_cons_succ, Act.put, List.setIfInBounds_toArray, List.set_cons_zero, List.set_cons_succ])
      refine plan_load (fun w' => w'.cell? ⟨w.heap.size, 0, none⟩ = some (.slice (some ⟨bo, oo, none⟩) outs.length co)) (i := 3) (v := ?_) rfl (by kernel_rfl) (by kernel_rfl) (by kernel_rfl) (fun _ _ _ h => h) hPT (by rfl) ?_ ?_ ?_
      rotate_left
      · (first | assumption | (go_simp; done))
      · (intro w hSw; (try dsimp only at hSw); go_simp; with_reducible rfl)
      (clear hPT; intro hPT; simp only [List.getElem_toArray, List.getElem_cons_zero, List.getElem_cons_succ, Act.put, List.setIfInBounds_toArray, List.set_cons_zero, List.set_cons_succ])
      refine plan_one (i := 5) (by kernel_rfl) rfl (by rfl) (fun K hK => ?_)
      ((try simp only [List.getElem_toArray, List.getElem_cons_zero, List.getElem_cons_succ, Act.put, List.setIfInBounds_toArray, List.set_cons_zero, List.set_cons_succ]); go_simp)
      refine hK.out _ _ _ hPT.out (fun x hx => .inl hx) (fun hPT' => ?_)
      (clear hPT hK K; have hPT := hPT'; clear hPT'; try simp only [List.getElem_toArray, List.getElem_cons_zero, List.getElem_cons_succ, Act.put, List.setIfInBounds_toArray, List.set_cons_zero, List.set_cons_succ])
      refine plan_one (i := 6) (by kernel_rfl) rfl (by rfl) (fun K hK => ?_)
      ((try simp only [List.getElem_toArray, List.getElem_cons_zero, List.getElem_cons_succ, Act.put, List.setIfInBounds_toArray, List.set_cons_zero, List.set_cons_succ]); go_simp)
      refine hK.out _ _ _ hPT.out (fun x hx => .inl hx) (fun hPT' => ?_)
      (clear hPT hK K; have hPT := hPT'; clear hPT'; try simp only [List.getElem_toArray, List.getElem_cons_zero, List.getElem_cons_succ, Act.put, List.setIfInBounds_toArray, List.set_cons_zero, List.set_cons_succ])
      refine plan_take (i := 7) (v := ?_) rfl (by kernel_rfl) (by kernel_rfl) (by kernel_rfl) (fun _ _ _ h => h) hPT (by rfl) ?_ ?_
      rotate_left
      · (intro w; go_simp; with_reducible rfl)
      (clear hPT; intro hPT; simp only [List.getElem_toArray, List.getElem_cons_zero, List.getElem_cons_succ, Act.put, List.setIfInBounds_toArray, List.set_cons_zero, List.set_cons_succ])
      refine plan_one (i := 8) (by kernel_rfl) rfl (by rfl) (fun K hK => ?_)
      (try simp only [List.getElem_toArray, List.getElem_cons_zero, List.getElem_cons_succ, Act.put, List.setIfInBounds_toArray, List.set_cons_zero, List.set_cons_succ])
      go_simp
      refine Calls.mono (reach_ok _ _ outs (adj outs (k : Int)) _ (HO.out.no HK.out.drew) (HRI.out.no (Kp.refl No _).drew) HOK.out.at) ?_
      rintro e w2 ⟨rfl, hk2⟩
      have HK2 := hide ((Kp.refl No wr).drew.trans hk2)
      obtain ⟨g1, g2, g3, g4, g5⟩ := (HB1.out.kp (HKP.out.trans HK2.out) id).a2
      clear hk2
      refine hK.out _ _ _ (t_cons g1 (t_cons g1 (t_nil _))) k_same (fun hPT' => ?_)
      (clear hPT hK K; have hPT := hPT'; clear hPT'; try simp only [List.getElem_toArray, List.getElem_cons_zero, List.getElem_cons_succ, Act.put, List.setIfInBounds_toArray, List.set_cons_zero, List.set_cons_succ])
      refine plan_take (i := 9) (v := ?_) rfl (by kernel_rfl) (by kernel_rfl) (by kernel_rfl) (fun _ _ _ h => h) hPT (by rfl) ?_ ?_
      rotate_left
      · (intro w; go_simp; with_reducible rfl)
      (clear hPT; intro hPT; simp only [List.getElem_toArray, List.getElem_cons_zero, List.getElem_cons_succ, Act.put, List.setIfInBounds_toArray, List.set_cons_zero, List.set_cons_succ])
      refine plan_take (i := 10) (v := ?_) rfl (by kernel_rfl) (by kernel_rfl) (by kernel_rfl) (fun _ _ _ h => h) hPT (by rfl) ?_ ?_
      rotate_left
      · (intro w; go_simp; with_reducible rfl)
      (clear hPT; intro hPT; simp only [List.getElem_toArray, List.getElem_cons_zero, List.getElem_cons_succ, Act.put, List.setIfInBounds_toArray, List.set_cons_zero, List.set_cons_succ])
      refine plan_take (i := 11) (v := ?_) rfl (by kernel_rfl) (by kernel_rfl) (by kernel_rfl) (fun _ _ _ h => h) hPT (by rfl) ?_ ?_
      rotate_left
      · (intro w; go_simp; with_reducible rfl)
      (clear hPT; intro hPT; simp only [List.getElem_toArray, List.getElem_cons_zero, List.getElem_cons_succ, Act.put, List.setIfInBounds_toArray, List.set_cons_zero, List.set_cons_succ])
      refine plan_take (i := 12) (v := ?_) rfl (by kernel_rfl) (by kernel_rfl) (by kernel_rfl) (fun _ _ _ h => h) hPT (by rfl) ?_ ?_
      rotate_left
      · (intro w; go_simp; with_reducible rfl)
      (clear hPT; intro hPT; simp only [List.getElem_toArray, List.getElem_cons_zero, List.getElem_cons_succ, Act.put, List.setIfInBounds_toArray, List.set_cons_zero, List.set_cons_succ])
      refine plan_take (i := 13) (v := ?_) rfl (by kernel_rfl) (by kernel_rfl) (by kernel_rfl) (fun _ _ _ h => h) hPT (by rfl) ?_ ?_
      rotate_left
      · (intro w; go_simp; with_reducible rfl)
      (clear hPT; intro hPT; simp only [List.getElem_toArray, List.getElem_cons_zero, List.getElem_cons_succ, Act.put, List.setIfInBounds_toArray, List.set_cons_zero, List.set_cons_succ])
      refine plan_done (by kernel_rfl) ?_ _
      clear hPT
      go_wp2_with fail
      refine Calls.mono (chas_any (reachN outs (adj outs (k : Int))) k (by have := reachN_lt (HOK.out.at (i := k)); omega) (by omega) _) ?_
      rintro e w3 ⟨rfl, rfl⟩
      have hR : roundsTo outs (k + 1) = if bt (reachN outs (adj outs (k : Int))) k = true then roundsTo outs k ||| 2 ^ k else roundsTo outs k := rfl
      by_cases hb : bt (reachN outs (adj outs (k : Int))) k = true
      · rw [hb, if_pos rfl] at hR
        rw [hb]
        have HR' := hide hR
        have hor := or_step (roundsTo outs k) HT.out (k : Int) (by omega)
        rw [Int.toNat_natCast] at hor
        have HOR := hide hor
        clear hb hR hor
        go_wp2
        go_roundw
        case rel => exact ⟨k + 1, by go_num, by rw [HR'.out, ← HOR.out], hlt, HKP.out.trans HK2.out⟩
        case measure => simp [intOf]; omega
      · have hb' : bt (reachN outs (adj outs (k : Int))) k = false := by simpa using hb
        rw [hb'] at hR
        rw [hb']
        have HR' := hide (hR.trans (if_neg (by simp)))
        clear hb hR hb'
        go_wp2
        go_roundw
        case rel => exact ⟨k + 1, by go_num, by rw [HR'.out], hlt, HKP.out.trans HK2.out⟩
        case measure => simp [intOf]; omega
    · obtain rfl : k = outs.length := by omega
      go_wp2
      refine bodyPost_ret (v := .tuple #[.int .i64 (roundsN outs : Nat), .nilIface]) (by simp [results, Tryd.results20, go_sem, roundsN]) rfl ⟨rfl, HK.out⟩

theorem rounds_bad {F : Nat → Prop} (vo vr : Value) (outs : List (List Int)) (roots : List Int) (w : World) (ho : RowsIn w F vo outs) (hr : IntsIn w F vr roots) (hbad : chk outs roots ≠ 0) :
    Calls Tryd.prog 20 #[.agg #[vo, vr]] w fun e w' => e = .returned (.tuple #[.int .i64 0, .iface 84 (.int .i64 (chk outs roots))]) ∧ Kp No w w' := by
  have HO := hide ho
  have HR := hide hr
  have HE := hide (errV_pos hbad)
  clear ho hr hbad
  go_enter Tryd.func20, Tryd.ntmps20
  go_wp2_with fail
  refine Calls.mono (check_any vo vr outs roots _ (HO.out.no ((Kp.refl No _).alloc _)) (HR.out.no ((Kp.refl No _).alloc _))) ?_
  rw [HE.out]
  rintro e w1 ⟨rfl, hk1⟩
  have HK1 := hide (((Kp.refl No w).alloc (.cells #[vo, vr] 25)).trans' hk1 fun _ _ h => h)
  clear hk1
  go_wp2
  exact bodyPost_ret (v := .tuple #[.int .i64 0, .iface 84 (.int .i64 (chk outs roots))]) (by simp [results, Tryd.results20, go_sem]) rfl ⟨rfl, HK1.out⟩
end Go.Proofs.YtgbdjidjbcbhjaaDoor
