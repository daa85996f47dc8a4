/- The law CountBack, walked: of all steps. -/
import Derived.Test.YtjcabgbleohdcaaCountFact
import Derived.Test.YtjcabgbleohdcaaSame
namespace Go.Proofs.Ytjcabgbleohdcaa
open Go.RowKit
set_option linter.unusedSimpArgs false

/-- the blocks of the counting heap, when a copy was taken -/
def Sx (B n m : Nat) (b : Nat) : Prop := B ≤ b ∧ (b < n ∨ m ≤ b)
/-- the copy's -/
def Fx (n m : Nat) (b : Nat) : Prop := n ≤ b ∧ b < m
theorem fx_sx {B n m b : Nat} (h : Fx n m b) : ¬ Sx B n m b := fun ⟨_, h'⟩ => by unfold Fx at h; omega
theorem sx_new {B n m : Nat} {w w' : World} (h : Kp (Sx B n m) w w') (hm : m ≤ w.heap.size) (hB : B ≤ m) : ∀ b, w'.heap.size ≤ b → Sx B n m b := fun b hb => by have := h.size; exact ⟨by omega, .inr (by omega)⟩
theorem sx_no {B n m : Nat} {w w1 w' : World} (h0 : Kp No w w1) (h : Kp (Sx B n m) w1 w') (hB : w.heap.size ≤ B) : Kp No w w' := h0.trans' h fun b hb e => by have := e.1; omega
theorem fld0 (a b : Value) (w : World) : Sem.run Try.prog (Instr.field 28 (.agg #[a, b]) 0) w = .ok a w := by kernel_rfl
theorem fld1 (a b : Value) (w : World) : Sem.run Try.prog (Instr.field 28 (.agg #[a, b]) 1) w = .ok b w := by kernel_rfl
theorem errV_zero : errV 0 = .nilIface := rfl

set_option maxRecDepth 100000 in
set_option maxHeartbeats 8000000 in
theorem countBack_any {F : Nat → Prop} (vt : Value) (steps : List (List Int)) (i j : Int) (w : World) (ht : RowsIn w F vt steps) : Calls Try.prog 4 #[vt, .int .i64 i, .int .i64 j] w fun e w' => e = .returned (.bool true) ∧ Kp No w w' := by
  have HT := hide ht
  have HP := hide (PInv.counted steps)
  obtain ⟨s, hs⟩ : ∃ s, countedS steps = s := ⟨_, rfl⟩
  have HSE := hide hs
  rw [hs] at HP
  clear ht hs
  go_enter Try.func4, Try.ntmps4
  go_wp2_with fail
  refine Calls.mono (countFact_any _) ?_
  rintro e w1 ⟨rfl, hk1⟩
  have HK1 := hide hk1
  clear hk1
  go_wp2_with fail
  refine Calls.mono (counted_any _ steps _ (HT.out.no HK1.out)) ?_
  rw [HSE.out]
  rintro e w2 ⟨p, rfl, hc2, hk2⟩
  have HC2 := hide hc2
  have HK2 := hide (HK1.out.trans hk2)
  have HS1 := hide (show w.heap.size ≤ w1.heap.size from HK1.out.size)
  have HS2 := hide (show w1.heap.size ≤ w2.heap.size from hk2.size)
  clear hc2 hk2
  go_wp2_with fail
  refine Calls.mono (cheap_any _ HP.out HC2.out) ?_
  rintro e w3 ⟨vo, vr, rfl, ho, hr, hk3⟩
  obtain ⟨Ao, co, rfl, hco, hmo, _⟩ := ho.form
  obtain ⟨Ar, cr, rfl, hcr, hmr, _⟩ := id hr
  obtain ⟨W, hW⟩ : ∃ W, w3.alloc (.cells #[.slice Ao s.outs.length co, .slice Ar s.roots.length cr] 28) = W := ⟨_, rfl⟩
  have hk4 : Kp No w3 W := by rw [← hW]; exact (Kp.refl No _).alloc _
  have HB := hide (show Blk W w3.heap.size 28 #[.slice Ao s.outs.length co, .slice Ar s.roots.length cr] from by rw [← hW]; exact Blk.new _ _ _)
  have HFB := hide (show Fx w2.heap.size W.heap.size w3.heap.size from ⟨hk3.size, HB.out.lt⟩)
  have HO := hide ((ho.no hk4).mono (F' := Fx w2.heap.size W.heap.size) fun k h1 h2 => ⟨h2, h1⟩)
  have HWS := hide (show w2.heap.size ≤ W.heap.size from Nat.le_trans hk3.size hk4.size)
  have HC := hide (show CnIs W p (Sx w1.heap.size w2.heap.size W.heap.size) s from ((HC2.out.tight.no hk3).no hk4).mono fun b h => ⟨h.1, .inl h.2⟩)
  have HK := hide ((HK2.out.trans hk3).trans hk4)
  have HB1 := hide (show w1.heap.size ≤ W.heap.size by have := HS2.out; have := HWS.out; omega)
  clear ho hr hk3 hk4 HC2 HK1 HK2 HT
  obtain ⟨b1, b2, b3, b4, b5⟩ := HB.out.a2
  go_wp2_with fail
  clear hW
  refine Calls.mono (here_any _ HP.out HC.out) ?_
  rintro e w4 ⟨rfl, rfl⟩
  have hN12 := HP.out.n12
  have HNEW0 := hide (sx_new (Kp.refl (Sx w1.heap.size w2.heap.size W.heap.size) W) (Nat.le_refl _) HB1.out)
  by_cases hr0 : rootE s i = 0
  case' pos =>
    obtain ⟨hd0, hd1⟩ := root_back HP.out hr0
    have HR0 := hide (show errV (rootE s i) = .nilIface by rw [hr0]; rfl)
    have HD0 := hide (show errV (dropE (rootS s i) i) = .nilIface by rw [hd0]; rfl)
    obtain ⟨s1, hs1⟩ : ∃ s1, dropS (rootS s i) i = s1 := ⟨_, rfl⟩
    have HSD := hide hs1
    have HP1 := hide (show PInv s1 [] from hs1 ▸ (HP.out.root_ i).drop_ i)
    have HPR := hide (HP.out.root_ i)
    rw [hd1] at hs1
    have HOE := hide (show s1.outs = s.outs by rw [← hs1])
    have HHE := hide (show hereB s1 = hereB s by rw [← hs1]; exact hereB_same rfl)
    have HRL := hide (show s1.roots.length = s.roots.length by rw [← hs1]; show ((s.roots ++ [i]).erase i).length = _; rw [List.length_erase_of_mem (by simp)]; simp)
    clear hs1 hd0 hd1 hr0
    go_wp2_with fail
    refine Calls.mono (croot_any _ _ HP.out HNEW0.out HC.out) ?_
    unfold CnPost
    rw [HR0.out]
    rintro e w5 ⟨rfl, hc5, hk5⟩
    have HC5 := hide hc5
    have HK5 := hide hk5
    clear hc5 hk5 b1 b2 b3 b4 b5
    obtain ⟨b1, b2, b3, b4, b5⟩ := (HB.out.kp HK5.out (fx_sx HFB.out)).a2
    go_upto_region 8 with fail
    refine plan_start 20 (by kernel_rfl) rfl (fun hPT => ?_)
    refine plan_take (i := 0) (v := ?_) rfl (by kernel_rfl) (by kernel_rfl) (by kernel_rfl) (fun _ _ _ h => h) hPT (by rfl) ?_ ?_
    rotate_left
    · (intro w; go_simp; with_reducible rfl)
    (clear hPT; intro hPT; simp only [List.getElem_toArray, List.getElem_cons_zero, List.getElem_cons_succ, Act.put, List.setIfInBounds_toArray, List.set_cons_zero, List.set_cons_succ])
    refine plan_take (i := 1) (v := ?_) rfl (by kernel_rfl) (by kernel_rfl) (by kernel_rfl) (fun _ _ _ h => h) hPT (by rfl) ?_ ?_
    rotate_left
    · (intro w; go_simp; with_reducible rfl)
    (clear hPT; intro hPT; simp only [List.getElem_toArray, List.getElem_cons_zero, List.getElem_cons_succ, Act.put, List.setIfInBounds_toArray, List.set_cons_zero, List.set_cons_succ])
    refine plan_one (i := 2) (by kernel_rfl) rfl (by rfl) (fun K hK => ?_)
    (try simp only [List.getElem_toArray, List.getElem_cons_zero, List.getElem_cons_succ, Act.put, List.setIfInBounds_toArray, List.set_cons_zero, List.set_cons_succ])
    go_simp
    refine Calls.mono (cdrop_any _ _ HPR.out (fun b hb => sx_new HK5.out (Nat.le_refl _) HB1.out b hb) (HC5.out.no (Kp.refl No _).drew)) ?_
    unfold CnPost
    rw [HD0.out, HSD.out]
    rintro e w6 ⟨rfl, hc6, hk6⟩
    have HC6 := hide hc6
    have HK6 := hide (HK5.out.trans ((Kp.refl _ _).drew.trans hk6))
    clear hc6 hk6 b1 b2 b3 b4 b5
    obtain ⟨b1, b2, b3, b4, b5⟩ := (HB.out.kp HK6.out (fx_sx HFB.out)).a2
    refine hK.out [] _ _ (t_nil _) k_nil (fun hPT' => ?_)
    (clear hPT hK K; have hPT := hPT'; clear hPT'; try simp only [List.getElem_toArray, List.getElem_cons_zero, List.getElem_cons_succ, Act.put, List.setIfInBounds_toArray, List.set_cons_zero, List.set_cons_succ])
    refine plan_take (i := 3) (v := ?_) rfl (by kernel_rfl) (by kernel_rfl) (by kernel_rfl) (fun _ _ _ h => h) hPT (by rfl) ?_ ?_
    rotate_left
    · (intro w; go_simp; with_reducible rfl)
    (clear hPT; intro hPT; simp only [List.getElem_toArray, List.getElem_cons_zero, List.getElem_cons_succ, Act.put, List.setIfInBounds_toArray, List.set_cons_zero, List.set_cons_succ])
    refine plan_take (i := 4) (v := ?_) rfl (by kernel_rfl) (by kernel_rfl) (by kernel_rfl) (fun _ _ _ h => h) hPT (by rfl) ?_ ?_
    rotate_left
    · (intro w; go_simp; with_reducible rfl)
    (clear hPT; intro hPT; simp only [List.getElem_toArray, List.getElem_cons_zero, List.getElem_cons_succ, Act.put, List.setIfInBounds_toArray, List.set_cons_zero, List.set_cons_succ])
    refine plan_take (i := 5) (v := ?_) rfl (by kernel_rfl) (by kernel_rfl) (by kernel_rfl) (fun _ _ _ h => h) hPT (by rfl) ?_ ?_
    rotate_left
    · (intro w; go_simp; with_reducible rfl)
    (clear hPT; intro hPT; simp only [List.getElem_toArray, List.getElem_cons_zero, List.getElem_cons_succ, Act.put, List.setIfInBounds_toArray, List.set_cons_zero, List.set_cons_succ])
    refine plan_take (i := 7) (v := ?_) rfl (by kernel_rfl) (by kernel_rfl) (by kernel_rfl) (fun _ _ _ h => h) hPT (by rfl) ?_ ?_
    rotate_left
    · (intro w; go_simp; with_reducible rfl)
    (clear hPT; intro hPT; simp only [List.getElem_toArray, List.getElem_cons_zero, List.getElem_cons_succ, Act.put, List.setIfInBounds_toArray, List.set_cons_zero, List.set_cons_succ])
    refine plan_one (i := 6) (by kernel_rfl) rfl (by rfl) (fun K hK => ?_)
    (try simp only [List.getElem_toArray, List.getElem_cons_zero, List.getElem_cons_succ, Act.put, List.setIfInBounds_toArray, List.set_cons_zero, List.set_cons_succ])
    go_simp
    refine Calls.mono (here_any _ HP1.out HC6.out) ?_
    rw [HHE.out]
    rintro e w7 ⟨rfl, rfl⟩
    refine hK.out [] _ _ (t_nil _) k_nil (fun hPT' => ?_)
    (clear hPT hK K; have hPT := hPT'; clear hPT'; try simp only [List.getElem_toArray, List.getElem_cons_zero, List.getElem_cons_succ, Act.put, List.setIfInBounds_toArray, List.set_cons_zero, List.set_cons_succ])
    refine plan_take (i := 8) (v := ?_) rfl (by kernel_rfl) (by kernel_rfl) (by kernel_rfl) (fun _ _ _ h => h) hPT (by rfl) ?_ ?_
    rotate_left
    · (intro w; go_simp; with_reducible rfl)
    (clear hPT; intro hPT; simp only [List.getElem_toArray, List.getElem_cons_zero, List.getElem_cons_succ, Act.put, List.setIfInBounds_toArray, List.set_cons_zero, List.set_cons_succ])
    refine plan_take (i := 9) (v := ?_) rfl (by kernel_rfl) (by kernel_rfl) (by kernel_rfl) (fun _ _ _ h => h) hPT (by rfl) ?_ ?_
    rotate_left
    · (intro w; go_simp; with_reducible rfl)
    (clear hPT; intro hPT; simp only [List.getElem_toArray, List.getElem_cons_zero, List.getElem_cons_succ, Act.put, List.setIfInBounds_toArray, List.set_cons_zero, List.set_cons_succ])
    refine plan_take (i := 10) (v := ?_) rfl (by kernel_rfl) (by kernel_rfl) (by kernel_rfl) (fun _ _ _ h => h) hPT (by rfl) ?_ ?_
    rotate_left
    · (intro w; go_simp; with_reducible rfl)
    (clear hPT; intro hPT; simp only [List.getElem_toArray, List.getElem_cons_zero, List.getElem_cons_succ, Act.put, List.setIfInBounds_toArray, List.set_cons_zero, List.set_cons_succ])
    refine plan_take (i := 11) (v := ?_) rfl (by kernel_rfl) (by kernel_rfl) (by kernel_rfl) (fun _ _ _ h => h) hPT (by rfl) ?_ ?_
    rotate_left
    · (intro w; go_simp; with_reducible rfl)
    (clear hPT; intro hPT; simp only [List.getElem_toArray, List.getElem_cons_zero, List.getElem_cons_succ, Act.put, List.setIfInBounds_toArray, List.set_cons_zero, List.set_cons_succ])
    refine plan_take (i := 15) (v := ?_) rfl (by kernel_rfl) (by kernel_rfl) (by kernel_rfl) (fun _ _ _ h => h) hPT (by rfl) ?_ ?_
    rotate_left
    · (intro w; go_simp; with_reducible rfl)
    (clear hPT; intro hPT; simp only [List.getElem_toArray, List.getElem_cons_zero, List.getElem_cons_succ, Act.put, List.setIfInBounds_toArray, List.set_cons_zero, List.set_cons_succ])
    refine plan_load (fun w' => w'.cell? ⟨w3.heap.size, 1, none⟩ = some (.slice Ar s.roots.length cr)) (i := 16) (v := ?_) rfl (by kernel_rfl) (by kernel_rfl) (by kernel_rfl) (fun _ _ _ h => h) hPT (by rfl) ?_ ?_ ?_
    rotate_left
    · (first | assumption | (go_simp; done))
    · (intro w hSw; (try dsimp only at hSw); go_simp; with_reducible rfl)
    (clear hPT; intro hPT; simp only [List.getElem_toArray, List.getElem_cons_zero, List.getElem_cons_succ, Act.put, List.setIfInBounds_toArray, List.set_cons_zero, List.set_cons_succ])
    refine plan_take (i := 17) (v := ?_) rfl (by kernel_rfl) (by kernel_rfl) (by kernel_rfl) (fun _ _ _ h => h) hPT (by rfl) ?_ ?_
    rotate_left
    · (intro w; go_simp; with_reducible rfl)
    (clear hPT; intro hPT; simp only [List.getElem_toArray, List.getElem_cons_zero, List.getElem_cons_succ, Act.put, List.setIfInBounds_toArray, List.set_cons_zero, List.set_cons_succ])
    refine plan_one (i := 12) (by kernel_rfl) rfl (by rfl) (fun K hK => ?_)
    (try simp only [List.getElem_toArray, List.getElem_cons_zero, List.getElem_cons_succ, Act.put, List.setIfInBounds_toArray, List.set_cons_zero, List.set_cons_succ])
    go_simp
    refine Calls.mono (cheap_any _ HP1.out HC6.out) ?_
    rw [HOE.out]
    rintro e w7 ⟨vo', vr', rfl, _, hr7, hk7⟩
    obtain ⟨Ar', cr', rfl, _⟩ := id hr7
    rw [HRL.out]
    have HC7 := hide (HC6.out.no hk7)
    have HK7 := hide (HK6.out.trans hk7.of_no)
    clear hr7 hk7 b1 b2 b3 b4 b5
    obtain ⟨b1, b2, b3, b4, b5⟩ := (HB.out.kp HK7.out (fx_sx HFB.out)).a2
    refine hK.out _ _ _ (t_cons b2 (t_nil _)) k_same (fun hPT' => ?_)
    (clear hPT hK K; have hPT := hPT'; clear hPT'; try simp only [List.getElem_toArray, List.getElem_cons_zero, List.getElem_cons_succ, Act.put, List.setIfInBounds_toArray, List.set_cons_zero, List.set_cons_succ])
    have kf := fld1 vo' (.slice Ar' s.roots.length cr')
    refine plan_take (i := 13) (v := ?_) rfl (by kernel_rfl) (by kernel_rfl) (by kernel_rfl) (fun _ _ _ h => h) hPT (by rfl) ?_ ?_
    rotate_left
    · (intro w; go_simp; with_reducible rfl)
    (clear hPT; intro hPT; simp only [List.getElem_toArray, List.getElem_cons_zero, List.getElem_cons_succ, Act.put, List.setIfInBounds_toArray, List.set_cons_zero, List.set_cons_succ])
    refine plan_take (i := 14) (v := ?_) rfl (by kernel_rfl) (by kernel_rfl) (by kernel_rfl) (fun _ _ _ h => h) hPT (by rfl) ?_ ?_
    rotate_left
    · (intro w; go_simp; with_reducible rfl)
    (clear hPT; intro hPT; simp only [List.getElem_toArray, List.getElem_cons_zero, List.getElem_cons_succ, Act.put, List.setIfInBounds_toArray, List.set_cons_zero, List.set_cons_succ])
    refine plan_take (i := 18) (v := ?_) rfl (by kernel_rfl) (by kernel_rfl) (by kernel_rfl) (fun _ _ _ h => h) hPT (by rfl) ?_ ?_
    rotate_left
    · (intro w; go_simp; with_reducible rfl)
    (clear hPT; intro hPT; simp only [List.getElem_toArray, List.getElem_cons_zero, List.getElem_cons_succ, Act.put, List.setIfInBounds_toArray, List.set_cons_zero, List.set_cons_succ])
    refine plan_take (i := 19) (v := ?_) rfl (by kernel_rfl) (by kernel_rfl) (by kernel_rfl) (fun _ _ _ h => h) hPT (by rfl) ?_ ?_
    rotate_left
    · (intro w; go_simp; with_reducible rfl)
    (clear hPT; intro hPT; simp only [List.getElem_toArray, List.getElem_cons_zero, List.getElem_cons_succ, Act.put, List.setIfInBounds_toArray, List.set_cons_zero, List.set_cons_succ])
    refine plan_done (by kernel_rfl) ?_ _
    clear hPT
    have hne : ((s.roots.length : Int) != (s.roots.length : Int)) = false := by simp
    go_upto_region 10 with fail
    clear HC5 HK5 HC6 HK6 HSD HR0 HD0 HRL HPR hne kf
  case' neg =>
    have hre : rootS s i = s := by unfold rootS; rw [if_neg hr0]
    obtain ⟨k, hk⟩ : ∃ k, rootE s i = k := ⟨_, rfl⟩
    have HRE := hide hre
    have HR0 := hide (show errV (rootE s i) = .iface 52 (.int .i64 k) by rw [hk]; unfold errV; rw [if_neg (by omega)])
    have HP1 := hide HP.out
    have HOE := hide (show s.outs = s.outs from rfl)
    have HHE := hide (show hereB s = hereB s from rfl)
    clear hr0 hre hk
    go_wp2_with fail
    refine Calls.mono (croot_any _ _ HP.out HNEW0.out HC.out) ?_
    unfold CnPost
    rw [HR0.out, HRE.out]
    rintro e w7 ⟨rfl, hc5, hk5⟩
    have HC7 := hide hc5
    have HK7 := hide hk5
    clear hc5 hk5 b1 b2 b3 b4 b5
    obtain ⟨b1, b2, b3, b4, b5⟩ := (HB.out.kp HK7.out (fx_sx HFB.out)).a2
    go_upto_region 10 with fail
    clear HRE HR0
    obtain ⟨s1, hs1⟩ : ∃ s1, s1 = s := ⟨_, rfl⟩
    rw [← hs1] at HP1 HC7
    have HOE := hide (show s1.outs = s.outs by rw [hs1])
    have HHE := hide (show hereB s1 = hereB s by rw [hs1])
    clear hs1
  all_goals
    by_cases hl0 : linkE s1 i j = 0
    · obtain ⟨hd0, hd1⟩ := link_back HP1.out hl0
      obtain ⟨hz1, _, _⟩ := linkE_zero hl0
      obtain ⟨hi, _⟩ := isB_iff.1 hz1
      rw [HOE.out] at hi
      have HL0 := hide (show errV (linkE s1 i j) = .nilIface by rw [hl0]; rfl)
      have HD0 := hide (show errV (cutE (linkS s1 i j) i j) = .nilIface by rw [hd0]; rfl)
      obtain ⟨s2, hs2⟩ : ∃ s2, cutS (linkS s1 i j) i j = s2 := ⟨_, rfl⟩
      have HSD := hide hs2
      have HP2 := hide (show PInv s2 [] from hs2 ▸ (HP1.out.link_ i j).cut_ i j)
      have HPL := hide (HP1.out.link_ i j)
      rw [hd1] at hs2
      have HHE2 := hide (show hereB s2 = hereB s by rw [← hs2, ← HHE.out]; exact hereB_same (by simp))
      have HOE2 := hide (show j ∉ adj s.outs i → s2.outs = s.outs from fun hj => by rw [← hs2, ← HOE.out]; simp only; rw [erase_snoc (by rw [HOE.out]; exact hj), put_self hi.1])
      clear hs2 hd0 hd1 hl0 hz1
      obtain ⟨n, rfl⟩ := Int.eq_ofNat_of_zero_le hi.1
      have hin : btw (n : Int) 0 ((s.outs.length : Int) - 1) = true := by rw [btw_iff]; omega
      have HIN := hide hin
      have HNL := hide (show n < s.outs.length by omega)
      clear hi hin
      go_wp2_with fail
      refine Calls.mono (clink_any _ _ _ HP1.out (sx_new HK7.out (Nat.le_refl _) HB1.out) HC7.out) ?_
      unfold CnPost
      rw [HL0.out]
      rintro e w8 ⟨rfl, hc8, hk8⟩
      have HC8 := hide hc8
      have HK8 := hide (HK7.out.trans hk8)
      clear hc8 hk8 b1 b2 b3 b4 b5
      go_wp2_with fail
      refine Calls.mono (ccut_any _ _ _ HPL.out (sx_new HK8.out (Nat.le_refl _) HB1.out) HC8.out) ?_
      unfold CnPost
      rw [HD0.out, HSD.out]
      rintro e w9 ⟨rfl, hc9, hk9⟩
      have HC9 := hide hc9
      have HK9 := hide (HK8.out.trans hk9)
      clear hc9 hk9
      go_wp2_with fail
      refine Calls.mono (here_any _ HP2.out HC9.out) ?_
      rw [HHE2.out]
      rintro e w9' ⟨rfl, rfl⟩
      obtain ⟨b1, b2, b3, b4, b5⟩ := (HB.out.kp HK9.out (fx_sx HFB.out)).a2
      have HO9 := hide (HO.out.kp HK9.out fun b h => fx_sx h)
      go_wp2_with fail
      refine Calls.mono (in_any n 0 ((s.outs.length : Int) - 1) _) ?_
      rw [HIN.out]
      rintro e w9' ⟨rfl, rfl⟩
      have hnl := HNL.out
      obtain ⟨_, _, e, _, _, hrow⟩ := RowsIn.form HO9.out
      cases e
      obtain ⟨bo, oo, A', c', rfl, _, hrc, hri⟩ := hrow n hnl
      have HADJ := hide (show adj s.outs (n : Int) = s.outs[n]'hnl from adj_eq (by simpa using hnl))
      obtain ⟨r, hr⟩ : ∃ r, s.outs[n]'hnl = r := ⟨_, rfl⟩
      have HRI := hide hri
      rw [hr] at hrc HRI HADJ
      clear hrow hri hr
      go_wp2_with fail
      refine Calls.mono (has_any _ r j _ HRI.out) ?_
      rintro e w9' ⟨rfl, rfl⟩
      by_cases hm : j ∈ r
      · rw [show hasB r j = true by unfold hasB; exact decide_eq_true hm]
        clear hm
        go_wp2
        go_ret
        exact ⟨rfl, sx_no HK.out HK9.out HS1.out⟩
      · rw [show hasB r j = false by unfold hasB; exact decide_eq_false hm]
        have HO2 := hide (HOE2.out (by rw [HADJ.out]; exact hm))
        clear hm hnl hrc
        go_wp2_with fail
        refine plan_start 7 (by kernel_rfl) rfl (fun hPT => ?_)
        refine plan_take (i := 0) (v := ?_) rfl (by kernel_rfl) (by kernel_rfl) (by kernel_rfl) (fun _ _ _ h => h) hPT (by rfl) ?_ ?_
        rotate_left
        · (intro w; go_simp; with_reducible rfl)
        (clear hPT; intro hPT; simp only [List.getElem_toArray, List.getElem_cons_zero, List.getElem_cons_succ, Act.put, List.setIfInBounds_toArray, List.set_cons_zero, List.set_cons_succ])
        refine plan_take (i := 3) (v := ?_) rfl (by kernel_rfl) (by kernel_rfl) (by kernel_rfl) (fun _ _ _ h => h) hPT (by rfl) ?_ ?_
        rotate_left
        · (intro w; go_simp; with_reducible rfl)
        (clear hPT; intro hPT; simp only [List.getElem_toArray, List.getElem_cons_zero, List.getElem_cons_succ, Act.put, List.setIfInBounds_toArray, List.set_cons_zero, List.set_cons_succ])
        refine plan_load (fun w' => w'.cell? ⟨w3.heap.size, 0, none⟩ = some (.slice (some ⟨bo, oo, none⟩) s.outs.length co)) (i := 4) (v := ?_) rfl (by kernel_rfl) (by kernel_rfl) (by kernel_rfl) (fun _ _ _ h => h) hPT (by rfl) ?_ ?_ ?_
        rotate_left
        · (first | assumption | (go_simp; done))
        · (intro w hSw; (try dsimp only at hSw); go_simp; with_reducible rfl)
        (clear hPT; intro hPT; simp only [List.getElem_toArray, List.getElem_cons_zero, List.getElem_cons_succ, Act.put, List.setIfInBounds_toArray, List.set_cons_zero, List.set_cons_succ])
        refine plan_one (i := 1) (by kernel_rfl) rfl (by rfl) (fun K hK => ?_)
        (try simp only [List.getElem_toArray, List.getElem_cons_zero, List.getElem_cons_succ, Act.put, List.setIfInBounds_toArray, List.set_cons_zero, List.set_cons_succ])
        go_simp
        refine Calls.mono (cheap_any _ HP2.out (HC9.out.no (Kp.refl No _).drew)) ?_
        rw [HO2.out]
        rintro e w10 ⟨vo', vr', rfl, ho', _, hk10⟩
        have HO' := hide ho'
        have HKD := hide (show Kp No w9 w10 from (Kp.refl No _).drew.trans hk10)
        have HO10 := hide (HO9.out.no HKD.out)
        clear ho' hk10 b1 b2 b3 b4 b5
        obtain ⟨b1, b2, b3, b4, b5⟩ := (HB.out.kp (HK9.out.trans HKD.out.of_no) (fx_sx HFB.out)).a2
        refine hK.out _ _ _ (t_cons b1 (t_nil _)) k_same (fun hPT' => ?_)
        (clear hPT hK K; have hPT := hPT'; clear hPT'; try simp only [List.getElem_toArray, List.getElem_cons_zero, List.getElem_cons_succ, Act.put, List.setIfInBounds_toArray, List.set_cons_zero, List.set_cons_succ])
        have kf := fld0 vo' vr'
        refine plan_take (i := 2) (v := ?_) rfl (by kernel_rfl) (by kernel_rfl) (by kernel_rfl) (fun _ _ _ h => h) hPT (by rfl) ?_ ?_
        rotate_left
        · (intro w; go_simp; with_reducible rfl)
        (clear hPT; intro hPT; simp only [List.getElem_toArray, List.getElem_cons_zero, List.getElem_cons_succ, Act.put, List.setIfInBounds_toArray, List.set_cons_zero, List.set_cons_succ])
        refine plan_one (i := 5) (by kernel_rfl) rfl (by rfl) (fun K hK => ?_)
        (try simp only [List.getElem_toArray, List.getElem_cons_zero, List.getElem_cons_succ, Act.put, List.setIfInBounds_toArray, List.set_cons_zero, List.set_cons_succ])
        go_simp
        refine Calls.mono (rows_any _ _ s.outs s.outs _ HO'.out HO10.out) ?_
        rw [show eqBB s.outs s.outs = true by unfold eqBB; exact decide_eq_true rfl]
        rintro e w11 ⟨rfl, q, rfl⟩
        refine hK.out [] _ _ (t_nil _) (k_drop (by kernel_rfl) k_nil) (fun hPT' => ?_)
        (clear hPT hK K; have hPT := hPT'; clear hPT'; try simp only [List.getElem_toArray, List.getElem_cons_zero, List.getElem_cons_succ, Act.put, List.setIfInBounds_toArray, List.set_cons_zero, List.set_cons_succ])
        refine plan_take (i := 6) (v := ?_) rfl (by kernel_rfl) (by kernel_rfl) (by kernel_rfl) (fun _ _ _ h => h) hPT (by rfl) ?_ ?_
        rotate_left
        · (intro w; go_simp; with_reducible rfl)
        (clear hPT; intro hPT; simp only [List.getElem_toArray, List.getElem_cons_zero, List.getElem_cons_succ, Act.put, List.setIfInBounds_toArray, List.set_cons_zero, List.set_cons_succ])
        refine plan_done (by kernel_rfl) ?_ _
        clear hPT
        go_wp2
        go_ret
        exact ⟨rfl, (sx_no HK.out (HK9.out.trans HKD.out.of_no) HS1.out).drewN _⟩
    · have hle : linkS s1 i j = s1 := by unfold linkS; rw [if_neg hl0]
      obtain ⟨k, hk⟩ : ∃ k, linkE s1 i j = k := ⟨_, rfl⟩
      have HLE := hide hle
      have HL0 := hide (show errV (linkE s1 i j) = .iface 52 (.int .i64 k) by rw [hk]; unfold errV; rw [if_neg (by omega)])
      clear hl0 hle hk
      go_wp2_with fail
      refine Calls.mono (clink_any _ _ _ HP1.out (sx_new HK7.out (Nat.le_refl _) HB1.out) HC7.out) ?_
      unfold CnPost
      rw [HL0.out, HLE.out]
      rintro e w8 ⟨rfl, hc8, hk8⟩
      have HC8 := hide hc8
      have HK8 := hide (HK7.out.trans hk8)
      clear hc8 hk8
      go_wp2_with fail
      refine Calls.mono (here_any _ HP1.out HC8.out) ?_
      rw [HHE.out]
      rintro e w8' ⟨rfl, rfl⟩
      have hne : ((hereB s : Int) == (hereB s : Int)) = true := by simp
      go_wp2
      go_ret
      exact ⟨rfl, sx_no HK.out HK8.out HS1.out⟩
end Go.Proofs.Ytjcabgbleohdcaa
