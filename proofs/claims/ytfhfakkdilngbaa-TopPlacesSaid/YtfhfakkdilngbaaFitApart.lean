/- The law FitApart, walked: of all steps. -/
import Derived.Test.YtfhfakkdilngbaaFitFact
namespace Go.Proofs.Ytfhfakkdilngbaa
open Go.RowKit
set_option linter.unusedSimpArgs false

theorem part_block {bs : List (Nat × Nat)} {p i : Nat} (hL : Lie p (bs.drop i)) (h : i < bs.length) (e : (bs[i]).1 = p) :
    holesF p (bs.drop i ++ [(64, 0)]) = holesF (p + (bs[i]).2) (bs.drop (i + 1) ++ [(64, 0)]) ∧ 1 ≤ (bs[i]).2 ∧ Lie (p + (bs[i]).2) (bs.drop (i + 1)) := by
  have h1 := hL.at_ h
  rw [e] at h1
  refine ⟨?_, h1.2⟩
  rw [List.drop_eq_getElem_cons h, List.cons_append]
  simp only [holesF]
  rw [e, if_neg (Nat.lt_irrefl _)]
theorem part_hole {bs : List (Nat × Nat)} {p i : Nat} (hL : Lie p (bs.drop i)) (hi : i ≤ bs.length) (hp : p < 64) (hne : ∀ h : i < bs.length, (bs[i]).1 ≠ p) :
    ∃ t, p < t ∧ t ≤ 64 ∧ holesF p (bs.drop i ++ [(64, 0)]) = (p, t - p) :: holesF t (bs.drop i ++ [(64, 0)]) ∧ Lie t (bs.drop i) ∧ (t = 64 ∨ ∃ h : i < bs.length, (bs[i]).1 = t) := by
  by_cases h : i < bs.length
  · have h1 := hL.at_ h
    have h2 := h1.2.2.le
    have := hne h
    refine ⟨(bs[i]).1, by omega, by omega, ?_, ?_, .inr ⟨h, rfl⟩⟩
    · rw [List.drop_eq_getElem_cons h, List.cons_append]
      simp only [holesF]
      rw [if_pos (by omega), if_neg (Nat.lt_irrefl _)]
    · rw [List.drop_eq_getElem_cons h]
      exact ⟨Nat.le_refl _, h1.2⟩
  · obtain rfl : i = bs.length := by omega
    refine ⟨64, hp, Nat.le_refl _, ?_, ?_, .inl rfl⟩
    · rw [List.drop_length, List.nil_append]
      simp only [holesF]
      rw [if_pos hp, if_neg (Nat.lt_irrefl _)]
    · rw [List.drop_length]; exact Nat.le_refl _
theorem part_end {bs : List (Nat × Nat)} {i : Nat} (hL : Lie 64 (bs.drop i)) (hi : i ≤ bs.length) : i = bs.length ∧ holesF 64 (bs.drop i ++ [(64, 0)]) = [] := by
  by_cases h : i < bs.length
  · have h1 := hL.at_ h
    have h2 := h1.2.2.le
    omega
  · obtain rfl : i = bs.length := by omega
    rw [List.drop_length, List.nil_append]
    exact ⟨rfl, rfl⟩

/-- what a slice of first numbers holds -/
theorem fsts_cells {w : World} {F : Nat → Prop} {A : Option Addr} {n c : Nat} {bs : List (Nat × Nat)} (h : IntsIn w F (.slice A n c) (fsts bs)) : n = bs.length ∧ bs.length ≤ c ∧ c ≤ 9223372036854775807 ∧ ∀ i (hi : i < bs.length), ∃ b o, A = some ⟨b, o, none⟩ ∧ w.cell? ⟨b, o + i, none⟩ = some (.int .i64 (bs[i]).1) := by
  obtain ⟨h1, h2, h3, h4⟩ := h.lit
  rw [fsts_length] at h1 h2
  refine ⟨h1, h2, h3, fun i hi => ?_⟩
  obtain ⟨b, o, e, _, hc⟩ := h4 i (by rw [fsts_length]; exact hi)
  exact ⟨b, o, e, by rw [hc]; simp [fsts]⟩
theorem snds_cells {w : World} {F : Nat → Prop} {A : Option Addr} {n c : Nat} {bs : List (Nat × Nat)} (h : IntsIn w F (.slice A n c) (snds bs)) : n = bs.length ∧ bs.length ≤ c ∧ c ≤ 9223372036854775807 ∧ ∀ i (hi : i < bs.length), ∃ b o, A = some ⟨b, o, none⟩ ∧ w.cell? ⟨b, o + i, none⟩ = some (.int .i64 (bs[i]).2) := by
  obtain ⟨h1, h2, h3, h4⟩ := h.lit
  rw [snds_length] at h1 h2
  refine ⟨h1, h2, h3, fun i hi => ?_⟩
  obtain ⟨b, o, e, _, hc⟩ := h4 i (by rw [snds_length]; exact hi)
  exact ⟨b, o, e, by rw [hc]; simp [snds]⟩
theorem drop_head {α : Type} {l : List α} {k : Nat} {x : α} {r : List α} (h : l.drop k = x :: r) : ∃ hk : k < l.length, l[k] = x ∧ l.drop (k + 1) = r := by
  have hk : k < l.length := by
    rcases Nat.lt_or_ge k l.length with h' | h'
    · exact h'
    · rw [List.drop_eq_nil_of_le h'] at h; cases h
  rw [List.drop_eq_getElem_cons hk] at h
  injection h with h1 h2
  exact ⟨hk, h1, h2⟩

set_option maxRecDepth 100000 in
set_option maxHeartbeats 8000000 in
theorem fitApart_any {F : Nat → Prop} (v : Value) (steps : List Int) (w : World) (hv : IntsIn w F v steps) (hr : ∀ x ∈ steps, -9223372036854775808 ≤ x ∧ x ≤ 9223372036854775807) :
    Calls Try.prog 3 #[v] w fun e w' => e = .returned (.bool true) ∧ Kp No w w' := by
  have HV := hide hv
  have HR := hide hr
  clear hv hr
  go_enter Try.func3, Try.ntmps3
  go_wp2_with fail
  refine Calls.mono (fitFact_any _) ?_
  rintro e w1 ⟨rfl, hk1⟩
  have HK1 := hide hk1
  clear hk1
  go_wp2_with fail
  refine Calls.mono (fitted_any v steps w1 (HV.out.no HK1.out) HR.out) ?_
  rintro e w2 ⟨rfl, hf2, hk2⟩
  have HL := hide (lie_all steps)
  obtain ⟨bs, hbs⟩ : ∃ bs, fitAll steps = bs := ⟨_, rfl⟩
  rw [hbs] at HL hf2
  clear hbs
  have HF2 := hide hf2
  have HK2 := hide (HK1.out.trans hk2)
  have hl64 : bs.length ≤ 64 := by have := HL.out.len; omega
  clear hf2 hk2
  go_wp2_with fail
  refine Calls.mono (flent_any w2 HF2.out hl64) ?_
  rintro e w3 ⟨v1, v2, rfl, i1, i2, hk3⟩
  have HF3 := hide (HF2.out.no hk3)
  have HK3 := hide (HK2.out.trans hk3)
  have I1 := hide i1
  have I2 := hide i2
  obtain ⟨A1, c1, rfl, _⟩ := id i1
  obtain ⟨A2, c2, rfl, _⟩ := id i2
  clear hk3 i1 i2
  go_wp2_with fail
  refine Calls.mono (fholes_any w3 HF3.out HL.out) ?_
  rintro e w4 ⟨v3, v4, rfl, i3, i4, hk4⟩
  have HK4 := hide (HK3.out.trans hk4)
  have HHL := hide (Nat.le_trans (holes_le (bs ++ [(64, 0)]) 0) (by rw [List.length_append, List.length_singleton]; omega) : (holesOf bs).length ≤ 65)
  have HH0 := hide (show holesOf bs = holesF 0 (bs ++ [(64, 0)]) from rfl)
  obtain ⟨hs, hhs⟩ : ∃ hs, holesOf bs = hs := ⟨_, rfl⟩
  rw [hhs] at i3 i4 HHL HH0
  clear hhs
  obtain ⟨A3, c3, rfl, _⟩ := id i3
  obtain ⟨A4, c4, rfl, _⟩ := id i4
  obtain ⟨_, hc1, hm1, q1⟩ := fsts_cells (I1.out.no hk4)
  obtain ⟨_, hc2, hm2, q2⟩ := snds_cells (I2.out.no hk4)
  obtain ⟨_, hc3, hm3, q3⟩ := fsts_cells i3
  obtain ⟨_, hc4, hm4, q4⟩ := snds_cells i4
  have Q1 := hide q1
  have Q2 := hide q2
  have Q3 := hide q3
  have Q4 := hide q4
  have hh65 := HHL.out
  clear hk4 i3 i4 q1 q2 q3 q4 I1 I2
  simp only [fsts_length, snds_length]
  go_wp2_with fail
  go_loop [9, 10, 11, 12] (fun s9 s10 s11 s12 => ∃ (p i k : Nat) (hole : Bool), s9 = .int .i64 p ∧ s10 = .int .i64 i ∧ s11 = .int .i64 k ∧ s12 = .bool hole ∧ p ≤ 64 ∧ i ≤ bs.length ∧ k ≤ hs.length ∧ Hid (holesF p (bs.drop i ++ [(64, 0)]) = hs.drop k) ∧ Hid (Lie p (bs.drop i)) ∧ Hid (hole = true → (p = 64 ∨ ∃ h : i < bs.length, (bs[i]).1 = p))) (fun _ s10 s11 _ => bs.length + hs.length - ((intOf s10).toNat + (intOf s11).toNat))
  case atStart => exact ⟨0, 0, 0, false, rfl, rfl, rfl, rfl, by omega, Nat.zero_le _, Nat.zero_le _, HH0.out.symm, HL.out, fun h => by cases h⟩
  case round =>
    obtain ⟨p, i, k, hole, rfl, rfl, rfl, rfl, hp, hi, hk, hH, hL, hB⟩ := hrel
    by_cases hp64 : p < 64
    · by_cases hat : ∃ h : i < bs.length, (bs[i]).1 = p
      · obtain ⟨h, e⟩ := hat
        obtain ⟨b1, o1, rfl, d1⟩ := Q1.out i h
        obtain ⟨b2, o2, rfl, d2⟩ := Q2.out i h
        have HP := hide (part_block hL.out h e)
        rw [e] at d1
        obtain ⟨s, hs'⟩ : ∃ s, (bs[i]).2 = s := ⟨_, rfl⟩
        rw [hs'] at d2 HP
        have hs1 := HP.out.2.1
        have hle := HP.out.2.2.le
        clear e hs' hB
        go_wp2
        go_round
        case rel => exact ⟨p + s, i + 1, k, false, by go_num, by go_num, rfl, rfl, hle, h, hk, hide (by rw [← hH.out, HP.out.1]), HP.out.2.2, fun h => by cases h⟩
        case measure => (simp [intOf]; omega)
      · obtain ⟨t, t1, t2, t3, t4, t5⟩ := part_hole hL.out hi hp64 fun h e => hat ⟨h, e⟩
        have hh : hole = false := by
          cases hole with
          | false => rfl
          | true =>
            rcases hB.out rfl with h | ⟨h, e⟩
            · omega
            · exact absurd ⟨h, e⟩ hat
        subst hh
        rw [hH.out] at t3
        obtain ⟨hk', e1, e2⟩ := drop_head t3
        obtain ⟨b3, o3, rfl, d3⟩ := Q3.out k hk'
        obtain ⟨b4, o4, rfl, d4⟩ := Q4.out k hk'
        rw [e1] at d3 d4
        have T4 := hide t4
        have T5 := hide t5
        have E2 := hide e2
        obtain ⟨m, hm⟩ : ∃ m, t - p = m := ⟨_, rfl⟩
        simp only [hm] at d4
        have ht : t = p + m := by omega
        subst ht
        have hm1 : 0 < m := by omega
        clear t3 e1 e2 t4 t5 hm hB
        by_cases h : i < bs.length
        · obtain ⟨b1, o1, rfl, d1⟩ := Q1.out i h
          have hne : ¬ (bs[i]).1 = p := fun e => hat ⟨h, e⟩
          have hne' : (((bs[i]).1 : Int) == (p : Int)) = false := by simp; omega
          clear hat hne
          go_wp2
          go_round
          case rel => exact ⟨p + m, i, k + 1, true, by go_num, rfl, by go_num, rfl, t2, hi, hk', E2.out.symm, T4.out, fun _ => T5.out⟩
          case measure => (simp [intOf]; omega)
        · clear hat
          go_wp2
          go_round
          case rel => exact ⟨p + m, i, k + 1, true, by go_num, rfl, by go_num, rfl, t2, hi, hk', E2.out.symm, T4.out, fun _ => T5.out⟩
          case measure => (simp [intOf]; omega)
    · obtain rfl : p = 64 := by omega
      obtain ⟨e1, e2⟩ := part_end hL.out hi
      rw [hH.out] at e2
      have e3 : k = hs.length := by
        have := congrArg List.length e2
        rw [List.length_drop, List.length_nil] at this
        omega
      subst e1 e3
      clear e2 hB hH hL
      go_wp2
      go_ret
      exact ⟨rfl, HK4.out⟩
end Go.Proofs.Ytfhfakkdilngbaa
