/- The law FitPack, walked: of all steps. -/
import Derived.Test.YtfhfakkdilngbaaFitApart
namespace Go.Proofs.Ytfhfakkdilngbaa
open Go.RowKit
set_option linter.unusedSimpArgs false

theorem FitIs.mono {w : World} {p : Nat} {S S' : Nat → Prop} {bs : List (Nat × Nat)} (h : FitIs w p S bs) (hs : ∀ b, b < w.heap.size → S b → S' b) : FitIs w p S' bs := by
  obtain ⟨hp, v, h1, h2⟩ := h
  exact ⟨hs p h1.blk.lt hp, v, h1, fun b hb => hs b (own_lt h1.own hb).2 (h2 b hb)⟩
/-- those of the arena's own, below a bound -/
def Mid (a b k : Nat) : Prop := a ≤ k ∧ k < b

theorem sum_any {F : Nat → Prop} (v : Value) (bs : List (Nat × Nat)) (w : World) (hv : IntsIn w F v (snds bs)) (hs : sizesSum bs ≤ 64) (hl : bs.length ≤ 64) :
    Calls Try.prog 13 #[v] w fun e w' => e = .returned (.int .i64 (sizesSum bs : Nat)) ∧ w = w' := by
  obtain ⟨A, c, rfl, hc, hm, _⟩ := id hv
  obtain ⟨_, hc, hm, q⟩ := snds_cells hv
  have Q := hide q
  have HS := hide (fun k (hk : k < bs.length) => show sizesSum (bs.take (k + 1)) = sizesSum (bs.take k) + (bs[k]).2 by unfold sizesSum; rw [List.take_succ_eq_append_getElem hk, List.map_append, List.sum_append]; simp)
  have HB := hide (fun k => show sizesSum (bs.take k) ≤ 64 by
    have := congrArg sizesSum (List.take_append_drop k bs)
    unfold sizesSum at this hs ⊢
    rw [List.map_append, List.sum_append] at this
    omega)
  simp only [snds_length]
  clear hv q
  go_enter Try.func13, Try.ntmps13
  go_wp2
  go_loop [3, 4] (fun s i => ∃ k : Nat, i = .int .i64 k ∧ k ≤ bs.length ∧ s = .int .i64 (sizesSum (bs.take k) : Nat)) (fun _ i => bs.length - (intOf i).toNat)
  case atStart => exact ⟨0, rfl, Nat.zero_le _, rfl⟩
  case round =>
    obtain ⟨k, rfl, hk, rfl⟩ := hrel
    by_cases hlt : k < bs.length
    · obtain ⟨b, o, rfl, d⟩ := Q.out k hlt
      have HE := hide (HS.out k hlt)
      have h1 := HB.out k
      have h2 := HB.out (k + 1)
      rw [HE.out] at h2
      obtain ⟨s, hs'⟩ : ∃ s, (bs[k]).2 = s := ⟨_, rfl⟩
      rw [hs'] at d h2 HE
      obtain ⟨t, ht⟩ : ∃ t, sizesSum (bs.take k) = t := ⟨_, rfl⟩
      rw [ht] at h1 h2 HE ⊢
      clear hs' ht
      go_wp2
      go_round
      case rel => exact ⟨k + 1, by go_num, hlt, by rw [HE.out]; go_num⟩
      case measure => (simp [intOf]; omega)
    · obtain rfl : k = bs.length := by omega
      rw [List.take_length]
      go_wp2
      go_ret
      exact ⟨rfl, rfl⟩

theorem snds_pack (bs : List (Nat × Nat)) (p : Nat) : snds (packF p bs) = snds bs := by
  unfold snds
  have := congrArg (List.map (fun n : Nat => (n : Int))) (pack_sizes bs p)
  simpa [List.map_map, Function.comp_def] using this
theorem fl_pack {bs : List (Nat × Nat)} {n : Nat} (h1 : 1 ≤ n) (h : sizesSum bs + n = 64) : flE (packF 0 bs) n = 0 ∧ flP (packF 0 bs) n = sizesSum bs := by
  have hb : btw (n : Int) 1 64 = true := btw_iff.2 ⟨by omega, by omega⟩
  have := fl_some hb (pack_lend bs 0 n h1 (by omega))
  rw [Nat.zero_add] at this
  exact ⟨this.1, this.2.1⟩
theorem holes_pack {bs : List (Nat × Nat)} (h : sizesSum bs ≤ 64) : holesOf (packF 0 bs) = if sizesSum bs < 64 then [(sizesSum bs, 64 - sizesSum bs)] else [] := by
  have := pack_holes bs 0 (by omega)
  rwa [Nat.zero_add] at this

set_option maxRecDepth 100000 in
set_option maxHeartbeats 8000000 in
theorem fitPack_any {F : Nat → Prop} (v : Value) (steps : List Int) (w : World) (hv : IntsIn w F v steps) (hr : ∀ x ∈ steps, -9223372036854775808 ≤ x ∧ x ≤ 9223372036854775807) :
    Calls Try.prog 4 #[v] w fun e w' => e = .returned (.bool true) ∧ Kp No w w' := by
  have HV := hide hv
  have HR := hide hr
  clear hv hr
  go_enter Try.func4, Try.ntmps4
  go_wp2_with fail
  refine Calls.mono (fitFact_any _) ?_
  rintro e w1 ⟨rfl, hk1⟩
  have HK1 := hide hk1
  clear hk1
  go_wp2_with fail
  refine Calls.mono (fitted_any v steps w1 (HV.out.no HK1.out) HR.out) ?_
  rintro e w2 ⟨rfl, hf2, hk2⟩
  have HL := hide (lie_all steps)
  obtain ⟨bs, hbs⟩ : ∃ bs, fitAll steps = bs := ⟨_, rfl⟩
  rw [hbs] at HL hf2
  clear hbs
  have HF2 := hide (hf2.mono (S' := Mid w1.heap.size w2.heap.size) fun b h1 h2 => ⟨h2, h1⟩)
  have HK2 := hide (show Kp No w w2 from HK1.out.trans hk2)
  have hl64 : bs.length ≤ 64 := by have := HL.out.len; omega
  have hsum := HL.out.sum
  rw [Nat.zero_add] at hsum
  have HLP := hide (show Lie 0 (packF 0 bs) from HL.out.pack (Nat.le_refl _))
  have HPL := hide (pack_length bs 0)
  have hw1 := HK1.out.size
  have hw2 := hk2.size
  clear hf2 hk2
  go_wp2_with fail
  refine Calls.mono (flent_any w2 HF2.out hl64) ?_
  rintro e w3 ⟨v1, v2, rfl, i1, i2, hk3⟩
  have HF3 := hide (HF2.out.no hk3)
  have HK3 := hide (HK2.out.trans hk3)
  have hw3 := hk3.size
  have I2 := hide i2
  obtain ⟨A1, c1, rfl, _⟩ := id i1
  obtain ⟨A2, c2, rfl, _⟩ := id i2
  clear hk3 i1 i2
  go_wp2_with fail
  refine Calls.mono (fpack_any w3 HF3.out HL.out) ?_
  rintro e w4 ⟨vp, rfl, _, hf4, hk4⟩
  have HF4 := hide hf4
  have HI2 := hide (I2.out.kp hk4 fun b h1 h2 => by unfold Hi at h1; unfold Mid at h2; omega)
  have HK4 := hide (show Kp No w w4 from HK3.out.trans' hk4 fun b hb h => by unfold Mid at h; omega)
  have hw4 := hk4.size
  clear hf4 hk4 I2
  go_wp2_with fail
  refine Calls.mono (flent_any w4 HF4.out (by rw [HPL.out]; exact hl64)) ?_
  rw [snds_pack]
  rintro e w5 ⟨v3, v4, rfl, i3, i4, hk5⟩
  have HF5 := hide (HF4.out.no hk5)
  have HK5 := hide (HK4.out.trans hk5)
  have HI25 := hide (HI2.out.no hk5)
  have HI3 := hide i3
  have HI4 := hide i4
  have hw5 := hk5.size
  obtain ⟨A3, c3, rfl, _⟩ := id i3
  obtain ⟨A4, c4, rfl, _⟩ := id i4
  clear hk5 i3 i4 HI2
  go_wp2_with fail
  refine Calls.mono (fholes_any w5 HF5.out HLP.out) ?_
  have HHS := hide (holes_pack hsum)
  obtain ⟨hs, hhs⟩ : ∃ hs, holesOf (packF 0 bs) = hs := ⟨_, rfl⟩
  rw [hhs] at HHS ⊢
  clear hhs
  rintro e w6 ⟨v5, v6, rfl, i5, i6, hk6⟩
  have HF6 := hide (HF5.out.no hk6)
  have HK6 := hide (HK5.out.trans hk6)
  have HI26 := hide (HI25.out.no hk6)
  have HI36 := hide (HI3.out.no hk6)
  have HI46 := hide (HI4.out.no hk6)
  have HI5 := hide i5
  have HI6 := hide i6
  have hw6 := hk6.size
  obtain ⟨A5, c5, rfl, _⟩ := id i5
  obtain ⟨A6, c6, rfl, _⟩ := id i6
  clear hk6 i5 i6 HI25 HI3 HI4
  go_wp2_with fail
  refine Calls.mono (sum_any _ bs _ HI26.out hsum hl64) ?_
  rintro e w7 ⟨rfl, rfl⟩
  have HEQ := hide (show eqB (snds bs) (snds bs) = true by simp [eqB])
  go_wp2_with fail
  refine Calls.mono (ints_any _ _ _ _ _ HI26.out HI46.out) ?_
  rw [HEQ.out]
  rintro e w8 ⟨rfl, n8, rfl⟩
  have k8 : Kp No w6 (w6.drewN n8) := (Kp.refl _ _).drewN _
  obtain ⟨_, hc3, hm3, q3⟩ := fsts_cells (HI36.out.no k8)
  obtain ⟨_, hc4, hm4, q4⟩ := snds_cells (HI46.out.no k8)
  have Q3 := hide q3
  have Q4 := hide q4
  have HBW := hide (show btw ((sizesSum bs : Nat) : Int) 0 64 = true from btw_iff.2 ⟨by omega, by omega⟩)
  have HH5 := hide (HI5.out.no k8)
  have HH6 := hide (HI6.out.no k8)
  have HK8 := hide (HK6.out.trans k8)
  have HF8 := hide (HF6.out.no k8)
  have hw8 : (w6.drewN n8).heap.size = w6.heap.size := rfl
  clear q3 q4 k8 HI36 HI46 HI5 HI6 HF6 HK6
  simp only [fsts_length, snds_length, HPL.out]
  rw [HPL.out] at hc3
  go_wp2_with fail
  refine Calls.mono (in_any _ _ _ _) ?_
  rw [HBW.out]
  rintro e w9 ⟨rfl, rfl⟩
  have HAT := hide (fun k (hk : k < bs.length) => pack_at bs 0 k hk)
  have HES := hide (fun k (hk : k < bs.length) => endOf_succ 0 hk)
  have HEB := hide (fun k => show endOf 0 bs k ≤ 64 by
    have := congrArg sizesSum (List.take_append_drop k bs)
    unfold endOf
    unfold sizesSum at this hsum ⊢
    rw [List.map_append, List.sum_append] at this
    omega)
  go_wp2_with fail
  go_loop [12, 13] (fun s12 s13 => ∃ k : Nat, s13 = .int .i64 k ∧ k ≤ bs.length ∧ s12 = .int .i64 (endOf 0 bs k : Nat)) (fun _ s13 => bs.length - (intOf s13).toNat)
  case atStart => exact ⟨0, rfl, Nat.zero_le _, by rw [endOf_zero]; rfl⟩
  case round =>
    obtain ⟨k, rfl, hk, rfl⟩ := hrel
    by_cases hlt : k < bs.length
    · obtain ⟨b3, o3, rfl, d3⟩ := Q3.out k (by rw [HPL.out]; exact hlt)
      obtain ⟨b4, o4, rfl, d4⟩ := Q4.out k hlt
      rw [HAT.out k hlt] at d3
      have HE := hide (HES.out k hlt)
      have h1 := HEB.out k
      have h2 := HEB.out (k + 1)
      rw [HE.out] at h2
      obtain ⟨s, hs'⟩ : ∃ s, (bs[k]).2 = s := ⟨_, rfl⟩
      rw [hs'] at d4 h2 HE
      obtain ⟨t, ht⟩ : ∃ t, endOf 0 bs k = t := ⟨_, rfl⟩
      simp only [ht] at d3 h1 h2 HE ⊢
      clear hs' ht
      go_wp2
      go_round
      case rel => exact ⟨k + 1, by go_num, hlt, by rw [HE.out]; go_num⟩
      case measure => (simp [intOf]; omega)
    · obtain rfl : k = bs.length := by omega
      obtain ⟨T, hT⟩ : ∃ T, sizesSum bs = T := ⟨_, rfl⟩
      have HT := hide hT
      have HFP := hide (fun n (h1 : 1 ≤ n) (h2 : sizesSum bs + n = 64) => fl_pack (bs := bs) h1 h2)
      rw [hT] at hsum HHS HFP ⊢
      clear hT
      by_cases h64 : T = 64
      · subst h64
        obtain rfl : hs = [] := by rw [HHS.out, if_neg (by omega)]
        clear HHS
        go_wp2
        go_ret
        exact ⟨rfl, HK8.out⟩
      · have hlt64 : T < 64 := by omega
        obtain ⟨n, hn⟩ : ∃ n, 64 - T = n := ⟨_, rfl⟩
        obtain rfl : hs = [(T, n)] := by rw [HHS.out, if_pos hlt64, hn]
        clear HHS
        have hnT : T + n = 64 := by omega
        have HP := hide (HFP.out n (by omega) hnT)
        have hcast : (64 : Int) - (T : Int) = (n : Int) := by omega
        have hwr : wrap64 ((64 : Int) - (T : Int)) = (n : Int) := by unfold wrap64; omega
        have hne : ((T : Int) == 64) = false := by simp; omega
        have E1 := hide (show eqB [(T : Int)] [(T : Int)] = true ∧ eqB [(n : Int)] [(n : Int)] = true by simp [eqB])
        clear hn
        have HM5 := hide (HH5.out.mono (F' := Mid w5.heap.size w6.heap.size) fun b h1 h2 => ⟨h2, h1⟩)
        have HM6 := hide (HH6.out.mono (F' := Mid w5.heap.size w6.heap.size) fun b h1 h2 => ⟨h2, h1⟩)
        have HLN := hide (flend_any (S := fun b => Mid w1.heap.size w2.heap.size b ∨ w6.heap.size ≤ b) (n : Int) (w6.drewN n8) (HF8.out.mono fun b _ h => .inl h) HLP.out fun b hb => .inr hb)
        rw [HP.out.1, HP.out.2] at HLN
        go_wp2_with fail
        refine Calls.mono HLN.out ?_
        rintro e w10 ⟨rfl, _, hk10⟩
        have HK10 := hide (HK8.out.trans' hk10 fun b hb h => by unfold Mid at h; omega)
        have HL10 := hide (HM5.out.kp hk10 fun b h1 h2 => by unfold Mid at h1 h2; omega)
        have HN10 := hide (HM6.out.kp hk10 fun b h1 h2 => by unfold Mid at h1 h2; omega)
        have hn0 : errV 0 = .nilIface := rfl
        rw [hn0]
        clear hk10 hn0 hcast hwr
        have hcast : (64 : Int) - (T : Int) = (n : Int) := by omega
        go_wp2_with fail
        refine Calls.mono (ints_any (F' := fun _ => True) _ _ [(T : Int)] [(T : Int)] _ (HL10.out.no (by (repeat (first | exact Kp.refl _ _ | with_reducible refine Kp.drewN ?_ _ | with_reducible refine Kp.drew ?_ | with_reducible refine Kp.alloc ?_ _ | with_reducible refine Kp.setCell ?_ (fun _ => ?_) _)); all_goals (simp_all; omega))) (blk_ints (xs := [(T : Int)]) (by (repeat (first | with_reducible refine Blk.drewN ?_ _ | with_reducible refine Blk.drew ?_ | (with_reducible refine Blk.at_ _ _ ?_; (first | rfl | (simp; done))) | with_reducible refine Blk.alloc ?_ _))) trivial (by simp) (by rfl))) ?_
        rw [E1.out.1]
        rintro e w11 ⟨rfl, n11, rfl⟩
        go_wp2_with fail
        refine Calls.mono (ints_any (F' := fun _ => True) _ _ [(n : Int)] [(n : Int)] _ (HN10.out.no (by (repeat (first | exact Kp.refl _ _ | with_reducible refine Kp.drewN ?_ _ | with_reducible refine Kp.drew ?_ | with_reducible refine Kp.alloc ?_ _ | with_reducible refine Kp.setCell ?_ (fun _ => ?_) _)); all_goals (simp_all; omega))) (blk_ints (xs := [(n : Int)]) (by (repeat (first | with_reducible refine Blk.drewN ?_ _ | with_reducible refine Blk.drew ?_ | (with_reducible refine Blk.at_ _ _ ?_; (first | rfl | (simp; done))) | with_reducible refine Blk.alloc ?_ _))) trivial (by simp) (by rfl))) ?_
        rw [E1.out.2]
        rintro e w12 ⟨rfl, n12, rfl⟩
        go_wp2
        go_ret
        exact ⟨rfl, HK10.out.trans (by (repeat (first | exact Kp.refl _ _ | with_reducible refine Kp.drewN ?_ _ | with_reducible refine Kp.drew ?_ | with_reducible refine Kp.alloc ?_ _ | with_reducible refine Kp.setCell ?_ (fun _ => ?_) _)); all_goals (simp_all; omega))⟩
end Go.Proofs.Ytfhfakkdilngbaa
