/- The closed fact of the laws on halves; an arena in which some was lent and given back. -/
import Derived.Test.YtfhfakkdilngbaaDoorBuddyLent
import Derived.Test.YtfhfakkdilngbaaDoorFitFact
namespace Go.Proofs.YtfhfakkdilngbaaDoor
open Go.RowKit
set_option linter.unusedSimpArgs false

def bud0 : Nat → List Nat := upd (fun _ => []) 6 [0]
def lent0 : Nat → Option Nat := fun _ => none

set_option maxRecDepth 100000 in
set_option maxHeartbeats 4000000 in
theorem buddyFact_any (w : World) : Calls Tryd.prog 22 #[] w fun e w' => e = .returned (.bool true) ∧ Kp No w w' := by
  have E1 := hide (show lendE bud0 ((3 : Nat) : Int) = 0 ∧ lendAt bud0 ((3 : Nat) : Int) = 0 by decide +kernel)
  have E2 := hide (show lendE (lendF bud0 ((3 : Nat) : Int)) ((2 : Nat) : Int) = 0 ∧ lendAt (lendF bud0 ((3 : Nat) : Int)) ((2 : Nat) : Int) = 8 by decide +kernel)
  have E3 := hide (show ni (lendF (lendF bud0 ((3 : Nat) : Int)) ((2 : Nat) : Int) 2) = [12] ∧ ni (lendF (lendF bud0 ((3 : Nat) : Int)) ((2 : Nat) : Int) 4) = [16] by decide +kernel)
  have E5 := hide (show eqB [12] [12] = true ∧ eqB [16] [16] = true by decide)
  have HL1 := hide (show Bud bud0 lent0 [] from Bud.new)
  have HL2 := hide (HL1.out.lent ((3 : Nat) : Int)).1
  have HL3 := hide (HL2.out.lent ((2 : Nat) : Int)).1
  have HLN := hide (show ∀ k, k ≤ 6 → (lendF (lendF bud0 ((3 : Nat) : Int)) ((2 : Nat) : Int) k).length ≤ 64 from fun k hk => HL3.out.len hk)
  obtain ⟨B1, hB1⟩ : ∃ B, lendF bud0 ((3 : Nat) : Int) = B := ⟨_, rfl⟩
  rw [hB1] at E2 E3 HL2 HL3 HLN
  obtain ⟨B2, hB2⟩ : ∃ B, lendF B1 ((2 : Nat) : Int) = B := ⟨_, rfl⟩
  rw [hB2] at E3 HL3 HLN
  have HB1 := hide hB1
  have HB2 := hide hB2
  clear hB1 hB2
  go_enter Tryd.func22, Tryd.ntmps22
  go_wp2_with fail
  refine Calls.mono (bnew_any w) ?_
  rintro e w1 ⟨p, rfl, hp, hf1, hk1⟩
  have HF1 := hide hf1
  have HK1 := hide hk1
  have hs1 := hk1.size
  clear hf1 hk1
  go_wp2_with fail
  refine Calls.mono (blend_any ((3 : Nat) : Int) w1 HF1.out HL1.out (by decide) fun b hb => Nat.le_trans hs1 hb) ?_
  rw [show lendE (upd (fun _ => []) 6 [0]) ((3 : Nat) : Int) = 0 from E1.out.1, show lendAt (upd (fun _ => []) 6 [0]) ((3 : Nat) : Int) = 0 from E1.out.2, show lendF (upd (fun _ => []) 6 [0]) ((3 : Nat) : Int) = B1 from HB1.out]
  rintro e w2 ⟨rfl, hf2, hk2⟩
  have HF2 := hide hf2
  have HK2 := hide (hk2.mono (S' := Hi w.heap.size) fun b _ h => h)
  have hs2 := hk2.size
  clear hf2 hk2
  go_wp2_with fail
  refine Calls.mono (blend_any ((2 : Nat) : Int) w2 HF2.out HL2.out (by decide) fun b hb => by show w.heap.size ≤ b; omega) ?_
  rw [E2.out.1, E2.out.2, HB2.out]
  rintro e w3 ⟨rfl, hf3, hk3⟩
  have HF3 := hide hf3
  have HK3 := hide hk3
  have hn : ∀ k : Nat, errV 0 = .nilIface := fun _ => rfl
  rw [hn 0]
  clear hf3 hk3 hn
  go_wp2_with fail
  refine Calls.mono (bfree_ok 2 (by decide) w3 HF3.out HLN.out) ?_
  rw [E3.out.1]
  rintro e w4 ⟨v4, rfl, i4, hk4⟩
  have HK4 := hide hk4
  have I4 := hide i4
  obtain ⟨A4, c4, rfl, _⟩ := id i4
  clear i4 hk4
  go_wp2_with fail
  refine Calls.mono (ints_any (F' := fun _ => True) _ _ [12] [12] _ (I4.out.no (by (repeat (first | exact Kp.refl _ _ | with_reducible refine Kp.drewN ?_ _ | with_reducible refine Kp.drew ?_ | with_reducible refine Kp.alloc ?_ _ | with_reducible refine Kp.setCell ?_ (fun _ => ?_) _)); all_goals (simp_all; omega))) (blk_ints (xs := [12]) (by (repeat (first | with_reducible refine Blk.drewN ?_ _ | with_reducible refine Blk.drew ?_ | (with_reducible refine Blk.at_ _ _ ?_; (first | rfl | (simp; done))) | with_reducible refine Blk.alloc ?_ _))) trivial (by simp) (by rfl))) ?_
  rw [E5.out.1]
  rintro e w5 ⟨rfl, n5, rfl⟩
  go_wp2_with fail
  refine Calls.mono (bfree_ok 4 (by decide) _ (HF3.out.no (HK4.out.trans (by (repeat (first | exact Kp.refl _ _ | with_reducible refine Kp.drewN ?_ _ | with_reducible refine Kp.drew ?_ | with_reducible refine Kp.alloc ?_ _ | with_reducible refine Kp.setCell ?_ (fun _ => ?_) _)); all_goals (simp_all; omega)))) HLN.out) ?_
  rw [E3.out.2]
  rintro e w6 ⟨v6, rfl, i6, hk6⟩
  have HK6 := hide ((HK4.out.trans (by (repeat (first | exact Kp.refl _ _ | with_reducible refine Kp.drewN ?_ _ | with_reducible refine Kp.drew ?_ | with_reducible refine Kp.alloc ?_ _ | with_reducible refine Kp.setCell ?_ (fun _ => ?_) _)); all_goals (simp_all; omega))).trans hk6)
  have I6 := hide i6
  obtain ⟨A6, c6, rfl, _⟩ := id i6
  clear i6 hk6
  go_wp2_with fail
  refine Calls.mono (ints_any (F' := fun _ => True) _ _ [16] [16] _ (I6.out.no (by (repeat (first | exact Kp.refl _ _ | with_reducible refine Kp.drewN ?_ _ | with_reducible refine Kp.drew ?_ | with_reducible refine Kp.alloc ?_ _ | with_reducible refine Kp.setCell ?_ (fun _ => ?_) _)); all_goals (simp_all; omega))) (blk_ints (xs := [16]) (by (repeat (first | with_reducible refine Blk.drewN ?_ _ | with_reducible refine Blk.drew ?_ | (with_reducible refine Blk.at_ _ _ ?_; (first | rfl | (simp; done))) | with_reducible refine Blk.alloc ?_ _))) trivial (by simp) (by rfl))) ?_
  rw [E5.out.2]
  rintro e w7 ⟨rfl, n7, rfl⟩
  go_wp2
  go_ret
  refine ⟨rfl, ?_⟩
  have k : Kp (Hi w.heap.size) w w6 := ((HK1.out.of_no.trans HK2.out).trans HK3.out).trans HK6.out.of_no
  have k' : Kp No w w6 := k.mono fun b hb h => by unfold Hi at h; omega
  exact k'.trans (by (repeat (first | exact Kp.refl _ _ | with_reducible refine Kp.drewN ?_ _ | with_reducible refine Kp.drew ?_ | with_reducible refine Kp.alloc ?_ _ | with_reducible refine Kp.setCell ?_ (fun _ => ?_) _)); all_goals (simp_all; omega))

/-- a step -/
def budStep (s : (Nat → List Nat) × (Nat → Option Nat)) (x : Int) : (Nat → List Nat) × (Nat → Option Nat) :=
  if 0 ≤ x then (lendF s.1 x, lendL s.1 s.2 x) else (backBF s.1 s.2 (-1 - x), backBL s.2 (-1 - x))
def budRun (steps : List Int) (k : Nat) : (Nat → List Nat) × (Nat → Option Nat) := (steps.take k).foldl budStep (bud0, lent0)
theorem budRun_zero (steps : List Int) : budRun steps 0 = (bud0, lent0) := by simp [budRun]
theorem budRun_succ {steps : List Int} {k : Nat} (h : k < steps.length) : budRun steps (k + 1) = budStep (budRun steps k) steps[k] := by
  unfold budRun; rw [List.take_succ_eq_append_getElem h, List.foldl_append]; rfl
theorem bud_step {s : (Nat → List Nat) × (Nat → Option Nat)} (h : Bud s.1 s.2 []) (x : Int) : Bud (budStep s x).1 (budStep s x).2 [] := by
  unfold budStep
  split
  · exact (h.lent x).1
  · exact h.backs _
theorem bud_run (steps : List Int) : ∀ k, k ≤ steps.length → Bud (budRun steps k).1 (budRun steps k).2 [] := by
  intro k
  induction k with
  | zero => intro _; rw [budRun_zero]; exact Bud.new
  | succ k ih => intro hk; rw [budRun_succ (by omega)]; exact bud_step (ih (by omega)) _
/-- all steps, a hundred at most -/
def budAll (steps : List Int) : (Nat → List Nat) × (Nat → Option Nat) := budRun steps (min steps.length 100)
theorem bud_all (steps : List Int) : Bud (budAll steps).1 (budAll steps).2 [] := bud_run steps _ (by omega)

set_option maxRecDepth 100000 in
set_option maxHeartbeats 8000000 in
theorem lent_any {F : Nat → Prop} (v : Value) (steps : List Int) (w : World) (hv : IntsIn w F v steps) (hr : ∀ x ∈ steps, -9223372036854775808 ≤ x ∧ x ≤ 9223372036854775807) :
    Calls Tryd.prog 23 #[v] w fun e w' => ∃ p m, e = .returned (.pointer (some ⟨p, 0, none⟩)) ∧ m ≤ 100 ∧ BudIs w' p (Hi w.heap.size) (budAll steps).1 (budAll steps).2 m ∧ Kp No w w' := by
  have HV := hide (hv.mono (F' := Lo w.heap.size) fun k h _ => h)
  have HR := hide hr
  obtain ⟨A, c, rfl, hc, hm, _⟩ := hv
  clear hr
  go_enter Tryd.func23, Tryd.ntmps23
  go_wp2_with fail
  refine Calls.mono (bnew_any w) ?_
  rintro e w1 ⟨p, rfl, hp, hf1, hk1⟩
  have HF1 := hide hf1
  have HK1 := hide (show Kp (Hi w.heap.size) w w1 from hk1.of_no)
  clear hf1 hk1
  go_wp2_with fail
  go_loopw [4] (fun q wr => ∃ k : Nat, q = .int .i64 k ∧ k ≤ steps.length ∧ k ≤ 100 ∧ Hid (BudIs wr p (Hi w.heap.size) (budRun steps k).1 (budRun steps k).2 k) ∧ Hid (Kp (Hi w.heap.size) w wr)) (fun q _ => 100 - (intOf q).toNat)
  case atStart => exact ⟨0, rfl, Nat.zero_le _, by decide, by rw [budRun_zero]; exact HF1.out, HK1.out⟩
  case round =>
    obtain ⟨k, rfl, hk, hk100, hf, hkp⟩ := hrel
    by_cases hlt : k < steps.length ∧ k < 100
    · obtain ⟨h1, h2⟩ := hlt
      obtain ⟨_, _, e, _, _, hcell⟩ := HV.out.kp hkp.out (fun b h1 h2 => by unfold Lo at h1; unfold Hi at h2; omega)
      cases e
      obtain ⟨b, o, rfl, _, hc1⟩ := hcell k h1
      clear hcell
      have HX := hide (HR.out _ (List.getElem_mem h1))
      have HN := hide (budRun_succ h1)
      have HL := hide (bud_run steps k (by omega))
      have hws := hkp.out.size
      obtain ⟨x, hx⟩ : ∃ x, steps[k] = x := ⟨_, rfl⟩
      rw [hx] at hc1 HX HN
      clear hx
      have hx1 := HX.out.1
      have hx2 := HX.out.2
      obtain ⟨bs, hbs⟩ : ∃ bs, budRun steps k = bs := ⟨_, rfl⟩
      rw [hbs] at HN HL hf
      clear hbs
      by_cases hp0 : 0 ≤ x
      · have HS := hide (show budStep bs x = (lendF bs.1 x, lendL bs.1 bs.2 x) by unfold budStep; rw [if_pos hp0])
        go_wp2_with fail
        refine Calls.mono (blend_any x wr hf.out HL.out (by omega) fun b hb => Nat.le_trans hws hb) ?_
        rintro e w2 ⟨rfl, hf2, hk2⟩
        have HF2 := hide hf2
        have HK2 := hide (hkp.out.trans hk2)
        clear hf2 hk2
        go_wp2_with fail
        go_roundw
        case rel => exact ⟨k + 1, by go_num, h1, by omega, by rw [HN.out, HS.out]; exact HF2.out, HK2.out⟩
        case measure => (simp [intOf]; omega)
      · have HS := hide (show budStep bs x = (backBF bs.1 bs.2 (-1 - x), backBL bs.2 (-1 - x)) by unfold budStep; rw [if_neg hp0])
        go_wp2_with fail
        refine Calls.mono (bback_any (-1 - x) wr hf.out HL.out ⟨by omega, by omega⟩ fun b hb => Nat.le_trans hws hb) ?_
        rintro e w2 ⟨rfl, hf2, hk2⟩
        have HF2 := hide (hf2.more (Nat.le_succ k))
        have HK2 := hide (hkp.out.trans hk2)
        clear hf2 hk2
        go_wp2_with fail
        go_roundw
        case rel => exact ⟨k + 1, by go_num, h1, by omega, by rw [HN.out, HS.out]; exact HF2.out, HK2.out⟩
        case measure => (simp [intOf]; omega)
    · have hend : k = min steps.length 100 := by omega
      have HE := hide (show budAll steps = budRun steps k by unfold budAll; rw [← hend])
      have hor : k = steps.length ∨ (k < steps.length ∧ k = 100) := by omega
      clear hend hlt
      rcases hor with rfl | ⟨h1, rfl⟩
      · go_wp2
        go_ret
        exact ⟨p, _, rfl, hk100, by rw [HE.out]; exact hf.out, hkp.out.mono fun b hb h => by unfold Hi at h; omega⟩
      · go_wp2
        go_ret
        exact ⟨p, _, rfl, Nat.le_refl _, by rw [HE.out]; exact hf.out, hkp.out.mono fun b hb h => by unfold Hi at h; omega⟩
end Go.Proofs.YtfhfakkdilngbaaDoor
