/- The law FitFirst, walked: of all steps and sizes. -/
import Derived.Test.YtfhfakkdilngbaaDoorFitFact
import Derived.Test.YtfhfakkdilngbaaDoorAs
namespace Go.Proofs.YtfhfakkdilngbaaDoor
open Go.RowKit
set_option linter.unusedSimpArgs false

theorem FitIs.to {w : World} {p : Nat} {S S' : Nat → Prop} {bs : List (Nat × Nat)} (h : FitIs w p S bs) (hs : ∀ b, b < w.heap.size → S b → S' b) : FitIs w p S' bs := by
  obtain ⟨hp, v, h1, h2⟩ := h
  exact ⟨hs p h1.blk.lt hp, v, h1, fun b hb => hs b (own_lt h1.own hb).2 (h2 b hb)⟩
theorem fst_cells {w : World} {F : Nat → Prop} {A : Option Addr} {n c : Nat} {bs : List (Nat × Nat)} (h : IntsIn w F (.slice A n c) (fsts bs)) : n = bs.length ∧ bs.length ≤ c ∧ c ≤ 9223372036854775807 ∧ ∀ i (hi : i < bs.length), ∃ b o, A = some ⟨b, o, none⟩ ∧ w.cell? ⟨b, o + i, none⟩ = some (.int .i64 (bs[i]).1) := by
  obtain ⟨h1, h2, h3, h4⟩ := h.lit
  rw [fsts_length] at h1 h2
  refine ⟨h1, h2, h3, fun i hi => ?_⟩
  obtain ⟨b, o, e, _, hc⟩ := h4 i (by rw [fsts_length]; exact hi)
  exact ⟨b, o, e, by rw [hc]; simp [fsts]⟩
theorem snd_cells {w : World} {F : Nat → Prop} {A : Option Addr} {n c : Nat} {bs : List (Nat × Nat)} (h : IntsIn w F (.slice A n c) (snds bs)) : n = bs.length ∧ bs.length ≤ c ∧ c ≤ 9223372036854775807 ∧ ∀ i (hi : i < bs.length), ∃ b o, A = some ⟨b, o, none⟩ ∧ w.cell? ⟨b, o + i, none⟩ = some (.int .i64 (bs[i]).2) := by
  obtain ⟨h1, h2, h3, h4⟩ := h.lit
  rw [snds_length] at h1 h2
  refine ⟨h1, h2, h3, fun i hi => ?_⟩
  obtain ⟨b, o, e, _, hc⟩ := h4 i (by rw [snds_length]; exact hi)
  exact ⟨b, o, e, by rw [hc]; simp [snds]⟩
/-- it is lent at the first hole that is as great -/
theorem first_hole {bs : List (Nat × Nat)} (hL : Lie 0 bs) {n : Nat} (h1 : 1 ≤ n) (h2 : n ≤ 64) : match (holesOf bs).find? fun x => decide (n ≤ x.2) with
    | some x => flE bs (n : Int) = 0 ∧ flP bs (n : Int) = x.1
    | none => flE bs (n : Int) = 4 := by
  have hb : btw (n : Int) 1 64 = true := btw_iff.2 ⟨by omega, by omega⟩
  have h := lend_hole h1 hL
  unfold holesOf
  cases e : lendIx n 0 bs with
  | none =>
    rw [e] at h
    have : (holesF 0 (bs ++ [(64, 0)])).find? (fun x => decide (n ≤ x.2)) = none := by
      cases e' : (holesF 0 (bs ++ [(64, 0)])).find? (fun x => decide (n ≤ x.2)) with
      | none => rfl
      | some x => rw [e'] at h; cases h
    rw [this]
    exact (fl_none hb e).1
  | some y =>
    rw [e] at h
    cases e' : (holesF 0 (bs ++ [(64, 0)])).find? (fun x => decide (n ≤ x.2)) with
    | none => rw [e'] at h; cases h
    | some x =>
      rw [e'] at h
      have h' : y.2 = x.1 := by simpa using h
      obtain ⟨e1, e2, _⟩ := fl_some (i := y.1) (x := y.2) hb e
      exact ⟨e1, by rw [e2, h']⟩

set_option maxRecDepth 100000 in
set_option maxHeartbeats 8000000 in
theorem fitFirst_any {F : Nat → Prop} (v : Value) (steps : List Int) (x : Int) (w : World) (hv : IntsIn w F v steps) (hr : ∀ x ∈ steps, -9223372036854775808 ≤ x ∧ x ≤ 9223372036854775807) (hh : Handle w) :
    Calls Tryd.prog 3 #[v, .int .i64 x] w fun e w' => e = .returned (.bool true) ∧ Kp No w w' := by
  have HV := hide hv
  have HR := hide hr
  have HH := hide hh
  clear hv hr hh
  go_enter Tryd.func3, Tryd.ntmps3
  go_wp2_with fail
  refine Calls.mono (fitFact_any _) ?_
  rintro e w1 ⟨rfl, hk1⟩
  have HK1 := hide hk1
  clear hk1
  go_wp2_with fail
  refine Calls.mono (fitted_any v steps w1 (HV.out.no HK1.out) HR.out) ?_
  rintro e w2 ⟨rfl, hf2, hk2⟩
  have HL := hide (lie_all steps)
  obtain ⟨bs, hbs⟩ : ∃ bs, fitAll steps = bs := ⟨_, rfl⟩
  rw [hbs] at HL hf2
  clear hbs
  have HF2 := hide hf2
  have HK2 := hide (HK1.out.trans hk2)
  have hs12 := hk2.size
  have hs1 := HK1.out.size
  clear hf2 hk2
  go_wp2_with fail
  refine Calls.mono (fholes_any w2 HF2.out HL.out) ?_
  rintro e w3 ⟨v1, v2, rfl, i1, i2, hk3⟩
  have hs3 := hk3.size
  have I1 := hide (i1.mono (F' := fun b => w2.heap.size ≤ b ∧ b < w3.heap.size) fun b h1 h2 => ⟨h2, h1⟩)
  have I2 := hide (i2.mono (F' := fun b => w2.heap.size ≤ b ∧ b < w3.heap.size) fun b h1 h2 => ⟨h2, h1⟩)
  have HF3 := hide ((HF2.out.to (S' := fun b => w.heap.size ≤ b ∧ (b < w2.heap.size ∨ w3.heap.size ≤ b)) fun b h1 h2 => ⟨Nat.le_trans hs1 h2, .inl h1⟩).no hk3)
  have HK3 := hide (HK2.out.trans hk3)
  clear hk3 i1 i2
  obtain ⟨A1, c1, rfl, _⟩ := id I1.out
  obtain ⟨A2, c2, rfl, _⟩ := id I2.out
  have HHL := hide (Nat.le_trans (holes_le (bs ++ [(64, 0)]) 0) (by rw [List.length_append, List.length_singleton]; have := HL.out.len; omega) : (holesOf bs).length ≤ 65)
  go_wp2_with fail
  refine Calls.mono (flend_any x w3 HF3.out HL.out fun b hb => ⟨by omega, .inr hb⟩) ?_
  rintro e w4 ⟨rfl, hf4, hk4⟩
  have HK4 := hide (show Kp No w w4 from (HK3.out.of_no.trans (hk4.mono (S' := Hi w.heap.size) fun b _ h => h.1)).mono fun b hb h => by unfold Hi at h; omega)
  have HG := hide (HH.out.no HK4.out)
  have J1 := hide (I1.out.kp hk4 fun b h1 h2 => by omega)
  have J2 := hide (I2.out.kp hk4 fun b h1 h2 => by omega)
  clear hf4 hk4 I1 I2 HF3 HF2
  cases hbt : btw x 1 64 with
  | false =>
    have HBT := hide hbt
    have hE := (fl_range (bs := bs) hbt).1
    have HE := hide (fun (w : World) (h : Handle w) => error_any 1 1 w h (by omega))
    rw [hE]
    obtain ⟨er, her⟩ : ∃ er, errV 1 = er := ⟨_, rfl⟩
    rw [her] at HE ⊢
    clear hbt hE her
    go_wp2_with fail
    refine Calls.mono (in_any _ _ _ _) ?_
    rw [HBT.out]
    rintro e w5 ⟨rfl, rfl⟩
    go_wp2_with fail
    refine Calls.mono (HE.out _ HG.out) ?_
    rintro e w6 ⟨rfl, hk6⟩
    have HK6 := hide (HK4.out.trans hk6)
    clear hk6
    go_wp2
    go_ret
    exact ⟨by simp, HK6.out⟩
  | true =>
    obtain ⟨n, rfl⟩ : ∃ n : Nat, x = n := ⟨x.toNat, by have := btw_iff.1 hbt; omega⟩
    have hn := btw_iff.1 hbt
    have HBT := hide hbt
    have HFH := hide (first_hole HL.out (n := n) (by omega) (by omega))
    have hl0 := HHL.out
    obtain ⟨hs, hhs⟩ : ∃ hs, holesOf bs = hs := ⟨_, rfl⟩
    rw [hhs] at J1 J2 HFH hl0
    rw [hhs]
    obtain ⟨_, hc1, hm1, q1⟩ := fst_cells J1.out
    obtain ⟨_, hc2, hm2, q2⟩ := snd_cells J2.out
    have Q1 := hide q1
    have Q2 := hide q2
    have HE4 := hide (fun (w : World) (h : Handle w) => error_any 4 4 w h (by omega))
    obtain ⟨fe, hfe⟩ : ∃ fe, flE bs (n : Int) = fe := ⟨_, rfl⟩
    obtain ⟨fp, hfp⟩ : ∃ fp, flP bs (n : Int) = fp := ⟨_, rfl⟩
    rw [hfe, hfp] at HFH
    rw [hfe, hfp]
    obtain ⟨er, her⟩ : ∃ er, errV fe = er := ⟨_, rfl⟩
    have HER := hide her
    rw [her]
    simp only [fsts_length, snds_length]
    clear hbt q1 q2 hfe hfp hhs her HHL
    go_wp2_with fail
    refine Calls.mono (in_any _ _ _ _) ?_
    rw [HBT.out]
    rintro e w5 ⟨rfl, rfl⟩
    go_wp2_with fail
    go_loopw [11] (fun s11 wq => ∃ k : Nat, s11 = .int .i64 k ∧ k ≤ hs.length ∧ wq = w4 ∧ Hid (hs.find? (fun x => decide (n ≤ x.2)) = (hs.drop k).find? (fun x => decide (n ≤ x.2)))) (fun s11 _ => hs.length - (intOf s11).toNat)
    case atStart => exact ⟨0, rfl, Nat.zero_le _, rfl, rfl⟩
    case round =>
      obtain ⟨k, rfl, hk, rfl, hfd⟩ := hrel
      by_cases hlt : k < hs.length
      · obtain ⟨b1, o1, rfl, d1⟩ := Q1.out k hlt
        obtain ⟨b2, o2, rfl, d2⟩ := Q2.out k hlt
        have HD := hide (List.drop_eq_getElem_cons hlt)
        obtain ⟨y, hy⟩ : ∃ y, hs[k] = y := ⟨_, rfl⟩
        rw [hy] at d1 d2 HD
        obtain ⟨y1, y2⟩ := y
        simp only at d1 d2
        by_cases hge : n ≤ y2
        · have HF := hide (show fe = 0 ∧ fp = y1 by
            have h := HFH.out
            rw [hfd.out, HD.out, List.find?_cons_of_pos (by simpa using hge)] at h
            exact h)
          have he0 : er = .nilIface := by rw [← HER.out, HF.out.1]; rfl
          have hp0 : fp = y1 := HF.out.2
          subst he0 hp0
          clear hy
          go_wp2
          go_ret
          exact ⟨rfl, HK4.out⟩
        · have HN := hide (show hs.find? (fun x => decide (n ≤ x.2)) = (hs.drop (k + 1)).find? (fun x => decide (n ≤ x.2)) by rw [hfd.out, HD.out, List.find?_cons_of_neg (by simpa using hge)])
          clear hy
          go_wp2
          go_roundw
          case rel => exact ⟨k + 1, by go_num, hlt, trivial, HN.out⟩
          case measure => (simp [intOf]; omega)
      · obtain rfl : k = hs.length := by omega
        have HF := hide (show fe = 4 by
          have h := HFH.out
          rw [hfd.out, List.drop_length] at h
          exact h)
        have he4 : errV 4 = er := by rw [← HER.out, HF.out]
        rw [he4] at HE4
        clear he4 hlt
        go_wp2_with fail
        refine Calls.mono (HE4.out _ HG.out) ?_
        rintro e w6 ⟨rfl, hk6⟩
        have HK6 := hide (HK4.out.trans hk6)
        clear hk6
        go_wp2
        go_ret
        exact ⟨by simp, HK6.out⟩
end Go.Proofs.YtfhfakkdilngbaaDoor
