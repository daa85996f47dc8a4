/- The document's answer, walked: Point of colors. -/
import Derived.Test.YtgbdjidjbcbhjaaDoorRefStep
import Derived.WalkSmall
import Derived.Deep.Cut
namespace Go.Proofs.YtgbdjidjbcbhjaaDoor
open Go.RowKit
set_option linter.unusedSimpArgs false

theorem kp_three (w : World) (p : Nat) (a b c : Value) : Kp (At p) w (((w.setCell ⟨p, 0, none⟩ a).setCell ⟨p, 1, none⟩ b).setCell ⟨p, 2, none⟩ c) := ((kp_set w p 0 a).trans (kp_set _ p 1 b)).trans (kp_set _ p 2 c)

/-- what Point of the answer leaves -/
def RPointPost (F : Nat → Prop) (w : World) (vr : Value) (O : List (List Int)) (roots c : List Int) (i k j : Int) (e : Ending) (w' : World) : Prop :=
  ∃ vo' vc', e = .returned (.tuple #[.agg #[vo', vr, vc'], .int .i64 (pointE O roots i k j : Nat)]) ∧ RowsIn w' F vo' (pointO O roots i k j) ∧ IntsIn w' F vc' (pointC O roots i k j c) ∧ Kp No w w'

theorem pointE_out {O : List (List Int)} {roots : List Int} {i k j : Int} (h : i < 0 ∨ (O.length : Int) ≤ i ∨ j < 0 ∨ (O.length : Int) ≤ j ∨ k < 0 ∨ ((adj O i).length : Int) ≤ k) : pointE O roots i k j = 1 := by
  unfold pointE
  rw [if_neg]
  intro h1
  simp only [Bool.and_eq_true, btw_iff] at h1
  omega
theorem pointE_in {O : List (List Int)} {roots : List Int} {i k j : Int} (hok : Ok O roots) (h1 : 0 ≤ i ∧ i < (O.length : Int)) (h2 : 0 ≤ j ∧ j < (O.length : Int)) (h3 : 0 ≤ k ∧ k < ((adj O i).length : Int)) :
    pointE O roots i k j = if hasB (order O roots) i && hasB (order O roots) j then 0 else 7 := by
  have e : ∀ {x : Int}, 0 ≤ x → bt (reachN O roots) x.toNat = hasB (order O roots) x := fun {x} hx => by
    rw [Bool.eq_iff_iff, mem_hasB, mem_order hok]
    show (reachN O roots).testBit x.toNat = true ↔ _
    rw [reachN_bit hok, Int.toNat_of_nonneg hx]
  unfold pointE
  rw [if_pos, e h1.1, e h2.1]
  simp only [Bool.and_eq_true, btw_iff]
  omega

set_option maxRecDepth 100000 in
set_option maxHeartbeats 4000000 in
theorem rpoint_out {F : Nat → Prop} (vo vr vc : Value) (O : List (List Int)) (roots c : List Int) (i k j : Int) (w : World) (ho : RowsIn w F vo O) (hr : IntsIn w F vr roots) (hc : IntsIn w F vc c) (hok : Ok O roots) (hcl : c.length = O.length)
    (h : i < 0 ∨ (O.length : Int) ≤ i ∨ j < 0 ∨ (O.length : Int) ≤ j ∨ k < 0 ∨ ((adj O i).length : Int) ≤ k) :
    Calls Tryd.prog 38 #[.agg #[vo, vr, vc], .int .i64 i, .int .i64 k, .int .i64 j] w (RPointPost F w vr O roots c i k j) := by
  have HE := hide (pointE_out (roots := roots) h)
  obtain ⟨Ao, co, rfl, hco, hmo, _⟩ := RowsIn.form ho
  obtain ⟨Ar, cr, rfl, hcr, hmr, _⟩ := id hr
  obtain ⟨Ac, cc, rfl, hcc, hmc, _⟩ := id hc
  rw [hcl] at hcc
  have HO := hide ho
  have HC := hide hc
  have HOK := hide hok
  have HCL := hide hcl
  have HEND := hide (show ∀ W, Kp No w W → ∀ n : Nat, n = 1 → RPointPost F w (.slice Ar roots.length cr) O roots c i k j (.returned (.tuple #[.agg #[.slice Ao O.length co, .slice Ar roots.length cr, .slice Ac O.length cc], .int .i64 1])) W from fun W hk n _ => by
    refine ⟨_, _, by rw [HE.out]; rfl, ?_, ?_, hk⟩
    · unfold pointO; rw [HE.out, if_neg (by decide)]; exact ho.no hk
    · unfold pointC; rw [HE.out, if_neg (by decide), ← hcl]; exact hc.no hk)
  rw [hcl]
  have HB0 := hide ((Blk.new w 66 #[.slice Ao O.length co, .slice Ar roots.length cr, .slice Ac O.length cc]).alloc (.cells #[.slice none 0 0, .slice none 0 0, .slice none 0 0] 66))
  have HB1 := hide (Blk.at_ (w := w.alloc (.cells #[.slice Ao O.length co, .slice Ar roots.length cr, .slice Ac O.length cc] 66)) (g := w.heap.size + 1) 66 #[.slice none 0 0, .slice none 0 0, .slice none 0 0] (by simp))
  have HK0 := hide (((Kp.refl No w).alloc (.cells #[.slice Ao O.length co, .slice Ar roots.length cr, .slice Ac O.length cc] 66)).alloc (.cells #[.slice none 0 0, .slice none 0 0, .slice none 0 0] 66))
  clear ho hr hc hok hcl
  by_cases h1 : i < 0
  · clear h
    go_enter Tryd.func38, Tryd.ntmps38
    go_wp2_with fail
    refine bodyPost_ret (v := .tuple #[.agg #[.slice Ao O.length co, .slice Ar roots.length cr, .slice Ac O.length cc], .int .i64 1]) (by simp [results, Tryd.results38, go_sem]) rfl (HEND.out _ (((Kp.refl No w).alloc _).alloc _) 1 rfl)
  by_cases h2 : (O.length : Int) ≤ i
  · clear h
    go_enter Tryd.func38, Tryd.ntmps38
    go_wp2_with fail
    refine bodyPost_ret (v := .tuple #[.agg #[.slice Ao O.length co, .slice Ar roots.length cr, .slice Ac O.length cc], .int .i64 1]) (by simp [results, Tryd.results38, go_sem]) rfl (HEND.out _ (((Kp.refl No w).alloc _).alloc _) 1 rfl)
  by_cases h3 : j < 0
  · clear h
    go_enter Tryd.func38, Tryd.ntmps38
    go_wp2_with fail
    refine bodyPost_ret (v := .tuple #[.agg #[.slice Ao O.length co, .slice Ar roots.length cr, .slice Ac O.length cc], .int .i64 1]) (by simp [results, Tryd.results38, go_sem]) rfl (HEND.out _ (((Kp.refl No w).alloc _).alloc _) 1 rfl)
  by_cases h4 : (O.length : Int) ≤ j
  · clear h
    go_enter Tryd.func38, Tryd.ntmps38
    go_wp2_with fail
    refine bodyPost_ret (v := .tuple #[.agg #[.slice Ao O.length co, .slice Ar roots.length cr, .slice Ac O.length cc], .int .i64 1]) (by simp [results, Tryd.results38, go_sem]) rfl (HEND.out _ (((Kp.refl No w).alloc _).alloc _) 1 rfl)
  by_cases h5 : k < 0
  · clear h
    go_enter Tryd.func38, Tryd.ntmps38
    go_wp2_with fail
    refine bodyPost_ret (v := .tuple #[.agg #[.slice Ao O.length co, .slice Ar roots.length cr, .slice Ac O.length cc], .int .i64 1]) (by simp [results, Tryd.results38, go_sem]) rfl (HEND.out _ (((Kp.refl No w).alloc _).alloc _) 1 rfl)
  have h6 : ((adj O i).length : Int) ≤ k := by omega
  clear h
  obtain ⟨x, rfl⟩ := Int.eq_ofNat_of_zero_le (show 0 ≤ i by omega)
  have hxn : x < O.length := by omega
  obtain ⟨_, _, e, _, _, hrow⟩ := RowsIn.form (HO.out.no HK0.out)
  cases e
  obtain ⟨bo, oo, A', c'', rfl, _, hrc, _⟩ := hrow x hxn
  rw [show O[x] = adj O (x : Int) by rw [adj_eq (by simpa using hxn)]; simp] at hrc
  obtain ⟨R, hR⟩ : ∃ R, adj O (x : Int) = R := ⟨_, rfl⟩
  rw [hR] at h6 hrc
  clear hrow hR
  go_enter Tryd.func38, Tryd.ntmps38
  go_wp2_with fail
  refine bodyPost_ret (v := .tuple #[.agg #[.slice (some ⟨bo, oo, none⟩) O.length co, .slice Ar roots.length cr, .slice Ac O.length cc], .int .i64 1]) (by simp [results, Tryd.results38, go_sem]) rfl (HEND.out _ (((Kp.refl No w).alloc _).alloc _) 1 rfl)

set_option maxRecDepth 100000 in
set_option maxHeartbeats 4000000 in
theorem rpoint_in {F : Nat → Prop} (vo vr vc : Value) (O : List (List Int)) (roots c : List Int) (x m y : Nat) (w : World) (ho : RowsIn w F vo O) (hr : IntsIn w F vr roots) (hc : IntsIn w F vc c) (hok : Ok O roots) (hcl : c.length = O.length) (hF : ∀ b, w.heap.size ≤ b → F b)
    (hx : x < O.length) (hy : y < O.length) (hm : m < (adj O (x : Int)).length) :
    Calls Tryd.prog 38 #[.agg #[vo, vr, vc], .int .i64 (x : Int), .int .i64 (m : Int), .int .i64 (y : Int)] w (RPointPost F w vr O roots c x m y) := by
  have HPE := hide (pointE_in hok (i := (x : Int)) (k := (m : Int)) (j := (y : Int)) ⟨by omega, by omega⟩ ⟨by omega, by omega⟩ ⟨by omega, by omega⟩)
  obtain ⟨Ao, co, rfl, hco, hmo, hrow⟩ := RowsIn.form ho
  obtain ⟨Ar, cr, rfl, hcr, hmr, _⟩ := id hr
  obtain ⟨Ac, cc, rfl, hcc, hmc, _⟩ := id hc
  obtain ⟨bo, oo, A', c'', rfl, hbF, hrc, hri⟩ := hrow x hx
  have hadj : O[x] = adj O (x : Int) := by rw [adj_eq (by simpa using hx)]; simp
  rw [hadj] at hrc hri
  have HO := hide ho
  have HR := hide hr
  have HC := hide hc
  have HOK := hide hok
  have HCL := hide hcl
  have HF := hide hF
  have HRC := hide hrc
  have HRI := hide (hri.mono (F' := fun b => F b ∧ b < w.heap.size) fun b h1 h2 => ⟨h2, h1⟩)
  have h4 := hok.adjFew (x := (x : Int))
  have hn12 := hok.n12
  have hr12 := hok.r12
  have HAJ := hide (show pointE O roots (x : Int) (m : Int) (y : Int) = 0 → pointO O roots (x : Int) (m : Int) (y : Int) = O.set x ((adj O (x : Int)).set m (y : Int)) ∧ pointC O roots (x : Int) (m : Int) (y : Int) c = shade c (y : Int) from fun e => by
    unfold pointO pointC
    rw [if_pos e, if_pos e, Int.toNat_natCast, Int.toNat_natCast]
    exact ⟨rfl, rfl⟩)
  have HBAD := hide (show pointE O roots (x : Int) (m : Int) (y : Int) = 7 → pointO O roots (x : Int) (m : Int) (y : Int) = O ∧ pointC O roots (x : Int) (m : Int) (y : Int) c = c from fun e => by
    unfold pointO pointC
    rw [e, if_neg (by decide), if_neg (by decide)]
    exact ⟨rfl, rfl⟩)
  obtain ⟨R, hR⟩ : ∃ R, adj O (x : Int) = R := ⟨_, rfl⟩
  rw [hR] at hm HRC HRI h4 HAJ hrc
  rw [hcl] at hcc
  rw [hcl]
  clear ho hr hc hok hcl hF hri hadj hrow hR
  have hrc0 := (((Kp.refl No w).alloc (.cells #[.slice (some ⟨bo, oo, none⟩) O.length co, .slice Ar roots.length cr, .slice Ac O.length cc] 66)).alloc (.cells #[.slice none 0 0, .slice none 0 0, .slice none 0 0] 66)).cell hrc id
  clear hrc
  go_enter Tryd.func38, Tryd.ntmps38
  go_wp2_with fail
  obtain ⟨W0, hW0⟩ : ∃ W0, (w.alloc (.cells #[.slice (some ⟨bo, oo, none⟩) O.length co, .slice Ar roots.length cr, .slice Ac O.length cc] 66)).alloc (.cells #[.slice none 0 0, .slice none 0 0, .slice none 0 0] 66) = W0 := ⟨_, rfl⟩
  have HK0 := hide (show Kp No w W0 by rw [← hW0]; exact ((Kp.refl No w).alloc _).alloc _)
  have HB0 := hide (show Blk W0 w.heap.size 66 #[.slice (some ⟨bo, oo, none⟩) O.length co, .slice Ar roots.length cr, .slice Ac O.length cc] by rw [← hW0]; exact (Blk.new _ _ _).alloc _)
  have HR0 := hide (show Blk W0 (w.heap.size + 1) 66 #[.slice none 0 0, .slice none 0 0, .slice none 0 0] by rw [← hW0]; exact Blk.at_ _ _ (by simp))
  have hz0 : W0.heap.size = w.heap.size + 2 := by rw [← hW0]; simp
  rw [hW0]
  clear hW0 hrc0
  refine Calls.mono (from_any _ _ O roots _ (HO.out.no HK0.out) (HR.out.no HK0.out) HOK.out.fwd_ (by omega)) ?_
  rw [order_fwd]
  rintro e w4 ⟨A4, c4, rfl, hi4, hk4⟩
  have HI4 := hide hi4
  have HK4 := hide (HK0.out.trans hk4)
  have HB4 := hide (HB0.out.kp hk4 id)
  have HR4 := hide (HR0.out.kp hk4 id)
  have hz4 := hk4.size
  clear hi4 hk4
  obtain ⟨L, hL⟩ : ∃ L, order O roots = L := ⟨_, rfl⟩
  rw [hL] at HI4 HPE
  rw [hL]
  clear hL
  obtain ⟨q1, q2, q3, q4, q5, q6, q7⟩ := HB4.out.a3
  obtain ⟨r1, r2, r3, r4, r5, r6, r7⟩ := HR4.out.a3
  go_wp2_with fail
  refine Calls.mono (has_any _ L (x : Int) _ HI4.out) ?_
  cases hb1 : hasB L (x : Int) with
  | false =>
    have HE := hide (show pointE O roots (x : Int) (m : Int) (y : Int) = 7 by rw [HPE.out, hb1]; rfl)
    clear hb1
    rintro e w5 ⟨rfl, rfl⟩
    go_wp2_with fail
    have qf := ((HR4.out.set_ 0 (.slice (some ⟨bo, oo, none⟩) O.length co)).set_ 1 (.slice Ar roots.length cr)).set_ 2 (.slice Ac O.length cc)
    obtain ⟨t0, t1, t2⟩ := qf.d3
    have hkw := HK4.out.trans' (kp_three w4 (w.heap.size + 1) (.slice (some ⟨bo, oo, none⟩) O.length co) (.slice Ar roots.length cr) (.slice Ac O.length cc)) fun b hb e => by unfold At at e; omega
    refine bodyPost_ret (v := .tuple #[.agg #[.slice (some ⟨bo, oo, none⟩) O.length co, .slice Ar roots.length cr, .slice Ac O.length cc], .int .i64 7]) (by simp [results, Tryd.results38, go_sem, t0, t1, t2]) rfl ⟨_, _, by rw [HE.out]; rfl, ?_, ?_, hkw⟩
    · rw [(HBAD.out HE.out).1]; exact HO.out.no hkw
    · rw [(HBAD.out HE.out).2]; have := HC.out.no hkw; rwa [HCL.out] at this
  | true =>
    rintro e w5 ⟨rfl, rfl⟩
    go_wp2_with fail
    refine Calls.mono (has_any _ L (y : Int) _ HI4.out) ?_
    cases hb2 : hasB L (y : Int) with
    | false =>
      have HE := hide (show pointE O roots (x : Int) (m : Int) (y : Int) = 7 by rw [HPE.out, hb1, hb2]; rfl)
      clear hb1 hb2
      rintro e w5 ⟨rfl, rfl⟩
      go_wp2_with fail
      have qf := ((HR4.out.set_ 0 (.slice (some ⟨bo, oo, none⟩) O.length co)).set_ 1 (.slice Ar roots.length cr)).set_ 2 (.slice Ac O.length cc)
      obtain ⟨t0, t1, t2⟩ := qf.d3
      have hkw := HK4.out.trans' (kp_three w4 (w.heap.size + 1) (.slice (some ⟨bo, oo, none⟩) O.length co) (.slice Ar roots.length cr) (.slice Ac O.length cc)) fun b hb e => by unfold At at e; omega
      refine bodyPost_ret (v := .tuple #[.agg #[.slice (some ⟨bo, oo, none⟩) O.length co, .slice Ar roots.length cr, .slice Ac O.length cc], .int .i64 7]) (by simp [results, Tryd.results38, go_sem, t0, t1, t2]) rfl ⟨_, _, by rw [HE.out]; rfl, ?_, ?_, hkw⟩
      · rw [(HBAD.out HE.out).1]; exact HO.out.no hkw
      · rw [(HBAD.out HE.out).2]; have := HC.out.no hkw; rwa [HCL.out] at this
    | true =>
      have HE := hide (show pointE O roots (x : Int) (m : Int) (y : Int) = 0 by rw [HPE.out, hb1, hb2]; rfl)
      clear hb1 hb2
      rintro e w5 ⟨rfl, rfl⟩
      have hrc4 := HK4.out.cell HRC.out id
      have HCL4 := hide (cellsIn_ints.2 (HRI.out.no HK4.out))
      have HLL := hide (show 0 + (iv R).length ≤ 1073741824 by rw [iv_length]; omega)
      go_upto_region 9 with (at_builtin; refine wpList_add (F := fun b => F b ∧ b < w.heap.size) _ rfl (.tmp 66) (.tmp 72) _ rfl w4.heap.size 3 _ 8 Tryd.underlying23 Tryd.infoInt rfl _ 0 [] rfl (World.ownsRow_nil _ _ _ _) _ rfl (iv R) HCL4.out (one_iv R) HLL.out (by decide) (Nat.le_refl _) ?_; intro v' w6 ho6 hgr6 hat6; have hk6 := (Kp.refl No w4).grown hgr6 (fun k e hk => by cases e); have ho6 : w6.ownsRow w4.heap.size 3 1 v' R.length (iv R) := (by simpa [iv] using ho6); have HO6 := hide ho6; have HK6 := hide hk6; clear ho6 hgr6 hat6 hk6)
      obtain ⟨g, c6, rfl, hc61, hc62, hcl6, hfr6, hbg6, hgs6, hset6⟩ := own_int HO6.out hm
      have HST6 := hide (hset6 (y : Int))
      have HB6 := hide ((HB4.out.kp HK6.out id).far (p := ⟨g, m, none⟩) (by simp; omega) (.int .i64 (y : Int)))
      have HR6 := hide ((HR4.out.kp HK6.out id).far (p := ⟨g, m, none⟩) (by simp; omega) (.int .i64 (y : Int)))
      have HK7 := hide (show Kp No w (w6.setCell ⟨g, m, none⟩ (.int .i64 (y : Int))) from (HK4.out.trans HK6.out).trans' (kp_set _ _ _ _) fun b hb e => by unfold At at e; omega)
      clear hset6 q1 q2 q3 q4 q5 q6 q7 r1 r2 r3 r4 r5 r6 r7 hrc4
      go_wp2_with fail
      obtain ⟨w7, hw7⟩ : ∃ w7, w6.setCell ⟨g, m, none⟩ (.int .i64 (y : Int)) = w7 := ⟨_, rfl⟩
      rw [hw7] at HST6 HB6 HR6 HK7 ⊢
      have hz7 := HK7.out.size
      have hz71 := HR6.out.lt
      have HF2 := hide (show ∀ b, w.heap.size + 2 ≤ b → F b ∧ b ≠ w.heap.size ∧ b ≠ w.heap.size + 1 from fun b hb => ⟨HF.out b (by omega), by omega, by omega⟩)
      have HO2 := hide (HO.out.mono (F' := fun b => F b ∧ b ≠ w.heap.size ∧ b ≠ w.heap.size + 1) fun b h1 h2 => ⟨h2, by omega, by omega⟩)
      have HC2 := hide (HC.out.mono (F' := fun b => F b ∧ b ≠ w.heap.size ∧ b ≠ w.heap.size + 1) fun b h1 h2 => ⟨h2, by omega, by omega⟩)
      have HU7 := hide (show IntsIn w7 (fun b => F b ∧ b ≠ w.heap.size ∧ b ≠ w.heap.size + 1) (.slice (some ⟨g, 0, none⟩) R.length c6) (R.set m (y : Int)) from .of_own HST6.out fun b hb => HF2.out b (by have := (own_lt HST6.out hb).1; omega))
      clear hw7 hcl6 hfr6
      obtain ⟨q1, q2, q3, q4, q5, q6, q7⟩ := HB6.out.a3
      refine plan_start 12 (by kernel_rfl) rfl (fun hPT => ?_)
      refine plan_take (i := 0) (v := ?_) rfl (by kernel_rfl) (by kernel_rfl) (by kernel_rfl) (fun _ _ _ h => h) hPT (by rfl) ?_ ?_
      rotate_left
      · (intro w; go_simp; with_reducible rfl)
      (clear hPT; intro hPT; simp only [List.getElem_toArray, List.getElem_cons_zero, List.getElem_cons_succ, Act.put, List.setIfInBounds_toArray, List.set_cons_zero, List.set_cons_succ])
      refine plan_take (i := 1) (v := ?_) rfl (by kernel_rfl) (by kernel_rfl) (by kernel_rfl) (fun _ _ _ h => h) hPT (by rfl) ?_ ?_
      rotate_left
      · (intro w; go_simp; with_reducible rfl)
      (clear hPT; intro hPT; simp only [List.getElem_toArray, List.getElem_cons_zero, List.getElem_cons_succ, Act.put, List.setIfInBounds_toArray, List.set_cons_zero, List.set_cons_succ])
      refine plan_take (i := 3) (v := ?_) rfl (by kernel_rfl) (by kernel_rfl) (by kernel_rfl) (fun _ _ _ h => h) hPT (by rfl) ?_ ?_
      rotate_left
      · (intro w; go_simp; with_reducible rfl)
      (clear hPT; intro hPT; simp only [List.getElem_toArray, List.getElem_cons_zero, List.getElem_cons_succ, Act.put, List.setIfInBounds_toArray, List.set_cons_zero, List.set_cons_succ])
      refine plan_take (i := 4) (v := ?_) rfl (by kernel_rfl) (by kernel_rfl) (by kernel_rfl) (fun _ _ _ h => h) hPT (by rfl) ?_ ?_
      rotate_left
      · (intro w; go_simp; with_reducible rfl)
      (clear hPT; intro hPT; simp only [List.getElem_toArray, List.getElem_cons_zero, List.getElem_cons_succ, Act.put, List.setIfInBounds_toArray, List.set_cons_zero, List.set_cons_succ])
      refine plan_take (i := 6) (v := ?_) rfl (by kernel_rfl) (by kernel_rfl) (by kernel_rfl) (fun _ _ _ h => h) hPT (by rfl) ?_ ?_
      rotate_left
      · (intro w; go_simp; with_reducible rfl)
      (clear hPT; intro hPT; simp only [List.getElem_toArray, List.getElem_cons_zero, List.getElem_cons_succ, Act.put, List.setIfInBounds_toArray, List.set_cons_zero, List.set_cons_succ])
      refine plan_take (i := 7) (v := ?_) rfl (by kernel_rfl) (by kernel_rfl) (by kernel_rfl) (fun _ _ _ h => h) hPT (by rfl) ?_ ?_
      rotate_left
      · (intro w; go_simp; with_reducible rfl)
      (clear hPT; intro hPT; simp only [List.getElem_toArray, List.getElem_cons_zero, List.getElem_cons_succ, Act.put, List.setIfInBounds_toArray, List.set_cons_zero, List.set_cons_succ])
      refine plan_load (fun w' => w'.cell? ⟨w.heap.size, 0, none⟩ = some (.slice (some ⟨bo, oo, none⟩) O.length co)) (i := 2) (v := ?_) rfl (by kernel_rfl) (by kernel_rfl) (by kernel_rfl) (fun _ _ _ h => h) hPT (by rfl) ?_ ?_ ?_
      rotate_left
      · (first | assumption | (go_simp; done))
      · (intro w hSw; (try dsimp only at hSw); go_simp; with_reducible rfl)
      (clear hPT; intro hPT; simp only [List.getElem_toArray, List.getElem_cons_zero, List.getElem_cons_succ, Act.put, List.setIfInBounds_toArray, List.set_cons_zero, List.set_cons_succ])
      refine plan_load (fun w' => w'.cell? ⟨w.heap.size, 1, none⟩ = some (.slice Ar roots.length cr)) (i := 8) (v := ?_) rfl (by kernel_rfl) (by kernel_rfl) (by kernel_rfl) (fun _ _ _ h => h) hPT (by rfl) ?_ ?_ ?_
      rotate_left
      · (first | assumption | (go_simp; done))
      · (intro w hSw; (try dsimp only at hSw); go_simp; with_reducible rfl)
      (clear hPT; intro hPT; simp only [List.getElem_toArray, List.getElem_cons_zero, List.getElem_cons_succ, Act.put, List.setIfInBounds_toArray, List.set_cons_zero, List.set_cons_succ])
      refine plan_one (i := 5) (by kernel_rfl) rfl (by rfl) (fun K hK => ?_)
      (try simp only [List.getElem_toArray, List.getElem_cons_zero, List.getElem_cons_succ, Act.put, List.setIfInBounds_toArray, List.set_cons_zero, List.set_cons_succ])
      go_simp
      refine Calls.mono (routs_any (F := fun b => F b ∧ b ≠ w.heap.size ∧ b ≠ w.heap.size + 1) _ _ O x (R.set m (y : Int)) _ ((HO2.out.no HK7.out).no (by (repeat (first | exact Kp.refl _ _ | with_reducible refine Kp.drewN ?_ _ | with_reducible refine Kp.drew ?_ | with_reducible refine Kp.alloc ?_ _ | with_reducible refine Kp.setCell ?_ (fun _ => ?_) _)); all_goals (simp_all; omega))) (HU7.out.no (by (repeat (first | exact Kp.refl _ _ | with_reducible refine Kp.drewN ?_ _ | with_reducible refine Kp.drew ?_ | with_reducible refine Kp.alloc ?_ _ | with_reducible refine Kp.setCell ?_ (fun _ => ?_) _)); all_goals (simp_all; omega))) hx (by omega) (fun b hb => HF2.out b (by simp at hb; omega))) ?_
      rintro e w8 ⟨v8, rfl, ho8, hk8⟩
      have HO8 := hide ho8
      have HKD := hide ((show Kp No w7 _ from (by (repeat (first | exact Kp.refl _ _ | with_reducible refine Kp.drewN ?_ _ | with_reducible refine Kp.drew ?_ | with_reducible refine Kp.alloc ?_ _ | with_reducible refine Kp.setCell ?_ (fun _ => ?_) _)); all_goals (simp_all; omega))).trans hk8)
      have HB8 := hide (HB6.out.kp HKD.out id)
      have HR8 := hide (HR6.out.kp HKD.out id)
      obtain ⟨A8, c8, hv8, _⟩ := RowsIn.form ho8
      rw [List.length_set] at hv8
      subst hv8
      clear ho8 hk8 q1 q2 q3 q4 q5 q6 q7
      obtain ⟨q1, q2, q3, q4, q5, q6, q7⟩ := HB8.out.a3
      refine hK.out _ _ _ (t_cons q2 (t_nil _)) (k_keep (k_drop (by kernel_rfl) k_nil)) (fun hPT' => ?_)
      (clear hPT hK K; have hPT := hPT'; clear hPT'; try simp only [List.getElem_toArray, List.getElem_cons_zero, List.getElem_cons_succ, Act.put, List.setIfInBounds_toArray, List.set_cons_zero, List.set_cons_succ])
      refine plan_take (i := 9) (v := ?_) rfl (by kernel_rfl) (by kernel_rfl) (by kernel_rfl) (fun _ _ _ h => h) hPT (by rfl) ?_ ?_
      rotate_left
      · (intro w; go_simp; with_reducible rfl)
      (clear hPT; intro hPT; simp only [List.getElem_toArray, List.getElem_cons_zero, List.getElem_cons_succ, Act.put, List.setIfInBounds_toArray, List.set_cons_zero, List.set_cons_succ])
      refine plan_take (i := 10) (v := ?_) rfl (by kernel_rfl) (by kernel_rfl) (by kernel_rfl) (fun _ _ _ h => h) hPT (by rfl) ?_ ?_
      rotate_left
      · (intro w; go_simp; with_reducible rfl)
      (clear hPT; intro hPT; simp only [List.getElem_toArray, List.getElem_cons_zero, List.getElem_cons_succ, Act.put, List.setIfInBounds_toArray, List.set_cons_zero, List.set_cons_succ])
      refine plan_one (i := 11) (by kernel_rfl) rfl (by rfl) (fun K hK => ?_)
      (try simp only [List.getElem_toArray, List.getElem_cons_zero, List.getElem_cons_succ, Act.put, List.setIfInBounds_toArray, List.set_cons_zero, List.set_cons_succ])
      go_simp
      refine hK.out [] _ _ (t_nil _) (k_drop (by kernel_rfl) k_nil) (fun hPT' => ?_)
      (clear hPT hK K; have hPT := hPT'; clear hPT'; try simp only [List.getElem_toArray, List.getElem_cons_zero, List.getElem_cons_succ, Act.put, List.setIfInBounds_toArray, List.set_cons_zero, List.set_cons_succ])
      refine plan_done (by kernel_rfl) ?_ _
      clear hPT
      have HB9 := hide ((HB8.out.set_ 0 (.slice A8 O.length c8)).set_ 1 (.slice Ar roots.length cr))
      have hkx : Kp (At w.heap.size) w8 ((w8.setCell ⟨w.heap.size, 0, none⟩ (.slice A8 O.length c8)).setCell ⟨w.heap.size, 1, none⟩ (.slice Ar roots.length cr)) := (kp_set _ _ _ _).trans (kp_set _ _ _ _)
      have HR9 := hide (HR8.out.kp hkx fun e => by unfold At at e; omega)
      have HK9 := hide ((HK7.out.trans HKD.out).trans' hkx fun b hb e => by unfold At at e; omega)
      have hfar : ∀ b, (F b ∧ b ≠ w.heap.size ∧ b ≠ w.heap.size + 1) → ¬ At w.heap.size b := fun b hb e => hb.2.1 e
      have HO9 := hide (HO8.out.kp hkx hfar)
      have hz8 := HKD.out.size
      obtain ⟨w9, hw9⟩ : ∃ w9, (w8.setCell ⟨w.heap.size, 0, none⟩ (.slice A8 O.length c8)).setCell ⟨w.heap.size, 1, none⟩ (.slice Ar roots.length cr) = w9 := ⟨_, rfl⟩
      rw [hw9] at HB9 HR9 HK9 HO9 hkx ⊢
      have hz9 := hkx.size
      clear hw9 hkx q1 q2 q3 q4 q5 q6 q7
      have HB9' := hide (show Blk w9 w.heap.size 66 #[.slice A8 O.length c8, .slice Ar roots.length cr, .slice Ac O.length cc] from HB9.out)
      obtain ⟨q1, q2, q3, q4, q5, q6, q7⟩ := HB9'.out.a3
      have hy' := hy
      rw [← HCL.out] at hy'
      go_wp2_with fail
      refine Calls.mono (rshaded_any (F := fun b => F b ∧ b ≠ w.heap.size ∧ b ≠ w.heap.size + 1) _ c y _ (by have := HC2.out.no HK9.out; rwa [HCL.out] at this) hy' (by have := HCL.out; omega) (fun b hb => HF2.out b (by omega))) ?_
      rintro e w10 ⟨v10, rfl, hi10, hk10⟩
      have HI10 := hide hi10
      have HB10 := hide (HB9'.out.kp hk10 id)
      have HR10 := hide (HR9.out.kp hk10 id)
      have HO10 := hide (HO9.out.no hk10)
      have HK10 := hide (HK9.out.trans hk10)
      have HSL := hide (shade_length c (y : Int))
      obtain ⟨A10, c10, rfl, _⟩ := id hi10
      clear hi10 hk10 q1 q2 q3 q4 q5 q6 q7
      obtain ⟨q1, q2, q3, q4, q5, q6, q7⟩ := HB10.out.a3
      have hb11 := HB10.out.set_ 2 (.slice A10 (shade c (y : Int)).length c10)
      have hr11 := HR10.out.far (p := ⟨w.heap.size, 2, none⟩) (by simp) (.slice A10 (shade c (y : Int)).length c10)
      have HK11 := hide (HK10.out.trans' (kp_set w10 w.heap.size 2 (.slice A10 (shade c (y : Int)).length c10)) fun b hb e => by unfold At at e; omega)
      have HO11 := hide (HO10.out.kp (kp_set w10 w.heap.size 2 (.slice A10 (shade c (y : Int)).length c10)) hfar)
      have HI11 := hide (HI10.out.kp (kp_set w10 w.heap.size 2 (.slice A10 (shade c (y : Int)).length c10)) hfar)
      obtain ⟨s1, s2, s3, s4, s5, s6, s7⟩ := hb11.a3
      obtain ⟨r1, r2, r3, r4, r5, r6, r7⟩ := hr11.a3
      have HR11 := hide hr11
      clear hb11 hr11
      go_wp2_with fail
      have qf := ((HR11.out.set_ 0 (.slice A8 O.length c8)).set_ 1 (.slice Ar roots.length cr)).set_ 2 (.slice A10 (shade c (y : Int)).length c10)
      obtain ⟨t0, t1, t2⟩ := qf.d3
      have hkt := kp_three (w10.setCell ⟨w.heap.size, 2, none⟩ (.slice A10 (shade c (y : Int)).length c10)) (w.heap.size + 1) (.slice A8 O.length c8) (.slice Ar roots.length cr) (.slice A10 (shade c (y : Int)).length c10)
      have hfar2 : ∀ b, (F b ∧ b ≠ w.heap.size ∧ b ≠ w.heap.size + 1) → ¬ At (w.heap.size + 1) b := fun b hb e => hb.2.2 e
      refine bodyPost_ret (v := .tuple #[.agg #[.slice A8 O.length c8, .slice Ar roots.length cr, .slice A10 (shade c (y : Int)).length c10], .int .i64 0]) (by simp [results, Tryd.results38, go_sem, t0, t1, t2]) rfl ⟨_, _, by rw [HE.out]; rfl, ?_, ?_, HK11.out.trans' hkt fun b hb e => by unfold At at e; omega⟩
      · rw [(HAJ.out HE.out).1]; exact (HO11.out.kp hkt hfar2).mono fun b _ h => h.1
      · rw [(HAJ.out HE.out).2]; exact (HI11.out.kp hkt hfar2).mono fun b _ h => h.1

/-- Point of the answer, of every three numbers -/
theorem rpoint_any {F : Nat → Prop} (vo vr vc : Value) (O : List (List Int)) (roots c : List Int) (i k j : Int) (w : World) (ho : RowsIn w F vo O) (hr : IntsIn w F vr roots) (hc : IntsIn w F vc c) (hok : Ok O roots) (hcl : c.length = O.length) (hF : ∀ b, w.heap.size ≤ b → F b) :
    Calls Tryd.prog 38 #[.agg #[vo, vr, vc], .int .i64 i, .int .i64 k, .int .i64 j] w (RPointPost F w vr O roots c i k j) := by
  by_cases h : i < 0 ∨ (O.length : Int) ≤ i ∨ j < 0 ∨ (O.length : Int) ≤ j ∨ k < 0 ∨ ((adj O i).length : Int) ≤ k
  · exact rpoint_out vo vr vc O roots c i k j w ho hr hc hok hcl h
  · obtain ⟨x, rfl⟩ := Int.eq_ofNat_of_zero_le (show 0 ≤ i by omega)
    obtain ⟨m, rfl⟩ := Int.eq_ofNat_of_zero_le (show 0 ≤ k by omega)
    obtain ⟨y, rfl⟩ := Int.eq_ofNat_of_zero_le (show 0 ≤ j by omega)
    exact rpoint_in vo vr vc O roots c x m y w ho hr hc hok hcl hF (by omega) (by omega) (by omega)
end Go.Proofs.YtgbdjidjbcbhjaaDoor
