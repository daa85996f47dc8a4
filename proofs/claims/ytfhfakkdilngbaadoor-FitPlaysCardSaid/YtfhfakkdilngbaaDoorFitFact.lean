/- The closed fact of the laws on places that fit; an arena in which some was lent, packed, and given back. -/
import Derived.Test.YtfhfakkdilngbaaDoorFitHoles
namespace Go.Proofs.YtfhfakkdilngbaaDoor
open Go.RowKit
set_option linter.unusedSimpArgs false

theorem Blk.at_ {w : World} {g : Nat} (t : TypeId) (cs : Array Value) (h : w.heap.size = g) : Blk (w.alloc (.cells cs t)) g t cs := by subst h; exact Blk.new w t cs
/-- a block of ints reads as a list -/
theorem blk_ints {w : World} {g : Nat} {cs : Array Value} {xs : List Int} {F : Nat → Prop} (h : Blk w g 3 cs) (hF : F g) (hl : xs.length ≤ 1000) (hcs : cs = (iv xs).toArray) : IntsIn w F (.slice (some ⟨g, 0, none⟩) xs.length xs.length) xs :=
  ⟨_, _, rfl, Nat.le_refl _, by omega, fun k hk => ⟨g, 0, rfl, hF, by rw [h.cell, hcs, Nat.zero_add, List.getElem?_toArray, List.getElem?_eq_getElem (by rw [iv_length]; exact hk), iv_get hk]⟩⟩

set_option maxRecDepth 100000 in
set_option maxHeartbeats 4000000 in
theorem fitFact_any (w : World) : Calls Tryd.prog 7 #[] w fun e w' => e = .returned (.bool true) ∧ Kp No w w' := by
  have E1 := hide (show flE [] ((5 : Nat) : Int) = 0 ∧ flP [] ((5 : Nat) : Int) = 0 ∧ flB [] ((5 : Nat) : Int) = [(0, 5)] by decide)
  have E2 := hide (show flE [(0, 5)] ((3 : Nat) : Int) = 0 ∧ flP [(0, 5)] ((3 : Nat) : Int) = 5 ∧ flB [(0, 5)] ((3 : Nat) : Int) = [(0, 5), (5, 3)] by decide)
  have E3 := hide (show backE [(0, 5), (5, 3)] 0 = 0 ∧ backB [(0, 5), (5, 3)] 0 = [(5, 3)] by decide)
  have E4 := hide (show fsts (holesOf [(5, 3)]) = [0, 8] ∧ snds (holesOf [(5, 3)]) = [5, 56] by decide)
  have E5 := hide (show eqB [0, 8] [0, 8] = true ∧ eqB [5, 56] [5, 56] = true by decide)
  have HL1 := hide (show Lie 0 [] by simp [Lie])
  have HL2 := hide (show Lie 0 [(0, 5)] by simp [Lie])
  have HL3 := hide (show Lie 0 [(5, 3)] by simp [Lie])
  go_enter Tryd.func7, Tryd.ntmps7
  go_wp2_with fail
  refine Calls.mono (fnew_any w) ?_
  rintro e w1 ⟨rfl, hf1, hk1⟩
  have HF1 := hide hf1
  have HK1 := hide hk1
  have hs1 := hk1.size
  clear hf1 hk1
  go_wp2_with fail
  refine Calls.mono (flend_any ((5 : Nat) : Int) w1 HF1.out HL1.out fun b hb => Nat.le_trans hs1 hb) ?_
  rw [E1.out.1, E1.out.2.1, E1.out.2.2]
  rintro e w2 ⟨rfl, hf2, hk2⟩
  have HF2 := hide hf2
  have HK2 := hide (hk2.mono (S' := Hi w.heap.size) fun b _ h => h)
  have hs2 := hk2.size
  clear hf2 hk2
  go_wp2_with fail
  refine Calls.mono (flend_any ((3 : Nat) : Int) w2 HF2.out HL2.out fun b hb => by show w.heap.size ≤ b; omega) ?_
  rw [E2.out.1, E2.out.2.1, E2.out.2.2]
  rintro e w3 ⟨rfl, hf3, hk3⟩
  have HF3 := hide hf3
  have HK3 := hide hk3
  have hs3 := hk3.size
  clear hf3 hk3
  go_wp2_with fail
  refine Calls.mono (fback_any 0 w3 HF3.out (by decide)) ?_
  rw [E3.out.1, E3.out.2]
  rintro e w4 ⟨rfl, hf4, hk4⟩
  have HF4 := hide hf4
  have HK4 := hide hk4
  clear hf4 hk4
  go_wp2_with fail
  refine Calls.mono (fholes_any w4 HF4.out HL3.out) ?_
  rw [E4.out.1, E4.out.2]
  rintro e w5 ⟨v1, v2, rfl, i1, i2, hk5⟩
  have HK5 := hide hk5
  have I1 := hide i1
  have I2 := hide i2
  have hn : ∀ k : Nat, errV 0 = .nilIface := fun _ => rfl
  obtain ⟨A1, c1, rfl, _⟩ := id i1
  obtain ⟨A2, c2, rfl, _⟩ := id i2
  clear hk5 i1 i2
  rw [hn 0]
  clear hn
  go_wp2_with fail
  refine Calls.mono (ints_any (F' := fun _ => True) _ _ [0, 8] [0, 8] _ (I1.out.no (by (repeat (first | exact Kp.refl _ _ | with_reducible refine Kp.drewN ?_ _ | with_reducible refine Kp.drew ?_ | with_reducible refine Kp.alloc ?_ _ | with_reducible refine Kp.setCell ?_ (fun _ => ?_) _)); all_goals (simp_all; omega))) (blk_ints (xs := [0, 8]) (by (repeat (first | with_reducible refine Blk.drewN ?_ _ | with_reducible refine Blk.drew ?_ | (with_reducible refine Blk.at_ _ _ ?_; (first | rfl | (simp; done))) | with_reducible refine Blk.alloc ?_ _))) trivial (by simp) (by rfl))) ?_
  rw [E5.out.1]
  rintro e w6 ⟨rfl, n6, rfl⟩
  go_wp2_with fail
  refine Calls.mono (ints_any (F' := fun _ => True) _ _ [5, 56] [5, 56] _ (I2.out.no (by (repeat (first | exact Kp.refl _ _ | with_reducible refine Kp.drewN ?_ _ | with_reducible refine Kp.drew ?_ | with_reducible refine Kp.alloc ?_ _ | with_reducible refine Kp.setCell ?_ (fun _ => ?_) _)); all_goals (simp_all; omega))) (blk_ints (xs := [5, 56]) (by (repeat (first | with_reducible refine Blk.drewN ?_ _ | with_reducible refine Blk.drew ?_ | (with_reducible refine Blk.at_ _ _ ?_; (first | rfl | (simp; done))) | with_reducible refine Blk.alloc ?_ _))) trivial (by simp) (by rfl))) ?_
  rw [E5.out.2]
  rintro e w7 ⟨rfl, n7, rfl⟩
  go_wp2
  go_ret
  refine ⟨rfl, ?_⟩
  have k : Kp (Hi w.heap.size) w w5 := ((((HK1.out.of_no.trans HK2.out).trans HK3.out).trans HK4.out).trans HK5.out.of_no)
  have k' : Kp No w w5 := k.mono fun b hb h => by unfold Hi at h; omega
  exact k'.trans (by (repeat (first | exact Kp.refl _ _ | with_reducible refine Kp.drewN ?_ _ | with_reducible refine Kp.drew ?_ | with_reducible refine Kp.alloc ?_ _ | with_reducible refine Kp.setCell ?_ (fun _ => ?_) _)); all_goals (simp_all; omega))

/-- a step -/
def fitStep (bs : List (Nat × Nat)) (x : Int) : List (Nat × Nat) := if 0 < x then flB bs x else if x = 0 then packF 0 bs else backB bs (-1 - x)
def fitRun (steps : List Int) (k : Nat) : List (Nat × Nat) := (steps.take k).foldl fitStep []
theorem fitRun_zero (steps : List Int) : fitRun steps 0 = [] := by simp [fitRun]
theorem fitRun_succ {steps : List Int} {k : Nat} (h : k < steps.length) : fitRun steps (k + 1) = fitStep (fitRun steps k) steps[k] := by
  unfold fitRun; rw [List.take_succ_eq_append_getElem h, List.foldl_append]; rfl
theorem lie_step {bs : List (Nat × Nat)} (h : Lie 0 bs) (x : Int) : Lie 0 (fitStep bs x) := by
  unfold fitStep
  split
  · cases hb : btw x 1 64 with
    | false => rw [(fl_range hb).2.2]; exact h
    | true =>
      obtain ⟨n, rfl⟩ : ∃ n : Nat, x = n := ⟨x.toNat, by have := btw_iff.1 hb; omega⟩
      cases e : lendIx n 0 bs with
      | none => rw [(fl_none hb e).2.2]; exact h
      | some y => rw [(fl_some (i := y.1) (x := y.2) hb e).2.2]; exact (h.ins (by omega) (by rw [e])).1
  · split
    · exact h.pack (Nat.le_refl _)
    · unfold backB
      split
      · exact h
      · exact h.erase _
theorem lie_run (steps : List Int) : ∀ k, k ≤ steps.length → Lie 0 (fitRun steps k) := by
  intro k
  induction k with
  | zero => intro _; rw [fitRun_zero]; exact Nat.zero_le _
  | succ k ih => intro hk; rw [fitRun_succ (by omega)]; exact lie_step (ih (by omega)) _
/-- all steps, a hundred at most -/
def fitAll (steps : List Int) : List (Nat × Nat) := fitRun steps (min steps.length 100)
theorem lie_all (steps : List Int) : Lie 0 (fitAll steps) := lie_run steps _ (by omega)

set_option maxRecDepth 100000 in
set_option maxHeartbeats 8000000 in
theorem fitted_any {F : Nat → Prop} (v : Value) (steps : List Int) (w : World) (hv : IntsIn w F v steps) (hr : ∀ x ∈ steps, -9223372036854775808 ≤ x ∧ x ≤ 9223372036854775807) :
    Calls Tryd.prog 8 #[v] w fun e w' => e = .returned (.pointer (some ⟨w.heap.size, 0, none⟩)) ∧ FitIs w' w.heap.size (Hi w.heap.size) (fitAll steps) ∧ Kp No w w' := by
  have HV := hide (hv.mono (F' := Lo w.heap.size) fun k h _ => h)
  have HR := hide hr
  obtain ⟨A, c, rfl, hc, hm, _⟩ := hv
  clear hr
  go_enter Tryd.func8, Tryd.ntmps8
  go_wp2_with fail
  refine Calls.mono (fnew_any w) ?_
  rintro e w1 ⟨rfl, hf1, hk1⟩
  have HF1 := hide hf1
  have HK1 := hide (show Kp (Hi w.heap.size) w w1 from hk1.of_no)
  clear hf1 hk1
  go_wp2_with fail
  go_loopw [4] (fun q wr => ∃ k : Nat, q = .int .i64 k ∧ k ≤ steps.length ∧ k ≤ 100 ∧ Hid (FitIs wr w.heap.size (Hi w.heap.size) (fitRun steps k)) ∧ Hid (Kp (Hi w.heap.size) w wr)) (fun q _ => 100 - (intOf q).toNat)
  case atStart => exact ⟨0, rfl, Nat.zero_le _, by decide, by rw [fitRun_zero]; exact HF1.out, HK1.out⟩
  case round =>
    obtain ⟨k, rfl, hk, hk100, hf, hkp⟩ := hrel
    by_cases hlt : k < steps.length ∧ k < 100
    · obtain ⟨h1, h2⟩ := hlt
      obtain ⟨_, _, e, _, _, hcell⟩ := HV.out.kp hkp.out (fun b h1 h2 => by unfold Lo at h1; unfold Hi at h2; omega)
      cases e
      obtain ⟨b, o, rfl, _, hc1⟩ := hcell k h1
      clear hcell
      have HX := hide (HR.out _ (List.getElem_mem h1))
      have HN := hide (fitRun_succ h1)
      have HL := hide (lie_run steps k (by omega))
      have hws := hkp.out.size
      obtain ⟨x, hx⟩ : ∃ x, steps[k] = x := ⟨_, rfl⟩
      rw [hx] at hc1 HX HN
      clear hx
      have hx1 := HX.out.1
      have hx2 := HX.out.2
      obtain ⟨bs, hbs⟩ : ∃ bs, fitRun steps k = bs := ⟨_, rfl⟩
      rw [hbs] at HN HL hf
      clear hbs
      by_cases hp : 0 < x
      · have HS := hide (show fitStep bs x = flB bs x by unfold fitStep; rw [if_pos hp])
        go_wp2_with fail
        refine Calls.mono (flend_any x wr hf.out HL.out fun b hb => Nat.le_trans hws hb) ?_
        rintro e w2 ⟨rfl, hf2, hk2⟩
        have HF2 := hide hf2
        have HK2 := hide (hkp.out.trans hk2)
        clear hf2 hk2
        go_wp2_with fail
        go_roundw
        case rel => exact ⟨k + 1, by go_num, h1, by omega, by rw [HN.out, HS.out]; exact HF2.out, HK2.out⟩
        case measure => (simp [intOf]; omega)
      · by_cases h0 : x = 0
        · have HS := hide (show fitStep bs x = packF 0 bs by unfold fitStep; rw [if_neg hp, if_pos h0])
          subst h0
          go_wp2_with fail
          refine Calls.mono (fpack_any wr hf.out HL.out) ?_
          rintro e w2 ⟨v2, rfl, _, hf2, hk2⟩
          have HF2 := hide hf2
          have HK2 := hide (hkp.out.trans hk2)
          clear hf2 hk2
          go_wp2_with fail
          go_roundw
          case rel => exact ⟨k + 1, by go_num, h1, by omega, by rw [HN.out, HS.out]; exact HF2.out, HK2.out⟩
          case measure => (simp [intOf]; omega)
        · have HS := hide (show fitStep bs x = backB bs (-1 - x) by unfold fitStep; rw [if_neg hp, if_neg h0])
          have hb0 : (x == 0) = false := by simpa using h0
          have hll : bs.length ≤ 64 := by have := HL.out.len; omega
          clear h0
          go_wp2_with fail
          refine Calls.mono (fback_any (-1 - x) wr hf.out hll) ?_
          rintro e w2 ⟨rfl, hf2, hk2⟩
          have HF2 := hide hf2
          have HK2 := hide (hkp.out.trans hk2)
          clear hf2 hk2
          go_wp2_with fail
          go_roundw
          case rel => exact ⟨k + 1, by go_num, h1, by omega, by rw [HN.out, HS.out]; exact HF2.out, HK2.out⟩
          case measure => (simp [intOf]; omega)
    · have hend : k = min steps.length 100 := by omega
      have HE := hide (show fitAll steps = fitRun steps k by unfold fitAll; rw [← hend])
      have hor : k = steps.length ∨ (k < steps.length ∧ k = 100) := by omega
      clear hend hlt
      rcases hor with rfl | ⟨h1, rfl⟩
      · go_wp2
        go_ret
        exact ⟨rfl, by rw [HE.out]; exact hf.out, hkp.out.mono fun b hb h => by unfold Hi at h; omega⟩
      · go_wp2
        go_ret
        exact ⟨rfl, by rw [HE.out]; exact hf.out, hkp.out.mono fun b hb h => by unfold Hi at h; omega⟩
end Go.Proofs.YtfhfakkdilngbaaDoor
