/- The law CountTrue, walked: of all steps. -/
import Derived.Test.YtjcabgbleohdcaaCountFact
import Derived.Test.YtjcabgbleohdcaaPush
namespace Go.Proofs.Ytjcabgbleohdcaa
open Go.RowKit

theorem cnt_take {l : List Int} {k : Nat} (h : k < l.length) (x : Int) : (l.take (k + 1)).count x = (l.take k).count x + (if l[k] = x then 1 else 0) := by
  rw [List.take_succ_eq_append_getElem h, List.count_append, count_one]
  by_cases e : l[k] = x
  · rw [if_pos e, if_pos e.symm]
  · rw [if_neg e, if_neg fun e' => e e'.symm]
theorem flat_take {l : List (List Int)} {k : Nat} (h : k < l.length) (x : Int) : (l.take (k + 1)).flatten.count x = (l.take k).flatten.count x + l[k].count x := by
  rw [List.take_succ_eq_append_getElem h, List.flatten_append, List.count_append]
  simp
theorem cnt_le (l : List Int) (k : Nat) (x : Int) : (l.take k).count x ≤ l.length := Nat.le_trans List.count_le_length (by rw [List.length_take]; omega)
theorem flat_le {l : List (List Int)} (h12 : l.length ≤ 12) (h4 : ∀ r ∈ l, r.length ≤ 4) (x : Int) : ∀ k, (l.take k).flatten.count x ≤ 4 * k
  | 0 => by simp
  | k + 1 => by
    rcases Nat.lt_or_ge k l.length with h | h
    · rw [flat_take h]
      have := flat_le h12 h4 x k
      have h1 : l[k].count x ≤ l[k].length := List.count_le_length
      have := h4 _ (List.getElem_mem h)
      omega
    · rw [List.take_of_length_le (by omega), ← List.take_of_length_le h]
      have := flat_le h12 h4 x k
      omega
theorem cnt_all (l : List Int) (x : Int) : (l.take l.length).count x = l.count x := by rw [List.take_length]

set_option maxRecDepth 100000 in
set_option maxHeartbeats 8000000 in
theorem countTrue_any {F : Nat → Prop} (vt : Value) (steps : List (List Int)) (w : World) (ht : RowsIn w F vt steps) : Calls Try.prog 3 #[vt] w fun e w' => e = .returned (.bool true) ∧ Kp No w w' := by
  have HT := hide ht
  have HP := hide (PInv.counted steps)
  obtain ⟨s, hs⟩ : ∃ s, countedS steps = s := ⟨_, rfl⟩
  have HSE := hide hs
  rw [hs] at HP
  clear ht hs
  go_enter Try.func3, Try.ntmps3
  go_wp2_with fail
  refine Calls.mono (countFact_any _) ?_
  rintro e w1 ⟨rfl, hk1⟩
  have HK1 := hide hk1
  clear hk1
  go_wp2_with fail
  refine Calls.mono (counted_any _ steps _ (HT.out.no HK1.out)) ?_
  rw [HSE.out]
  rintro e w2 ⟨p, rfl, hc2, hk2⟩
  have HC2 := hide hc2
  have HK2 := hide (HK1.out.trans hk2)
  clear hc2 hk2
  go_wp2_with fail
  refine Calls.mono (cheap_any _ HP.out HC2.out) ?_
  rintro e w3 ⟨vo, vr, rfl, ho, hr, hk3⟩
  obtain ⟨Ao, co, rfl, hco, hmo, _⟩ := ho.form
  obtain ⟨Ar, cr, rfl, hcr, hmr, _⟩ := id hr
  obtain ⟨W, hW⟩ : ∃ W, w3.alloc (.cells #[.slice Ao s.outs.length co, .slice Ar s.roots.length cr] 28) = W := ⟨_, rfl⟩
  have hk4 : Kp No w3 W := by rw [← hW]; exact (Kp.refl No _).alloc _
  have HB := hide (show Blk W w3.heap.size 28 #[.slice Ao s.outs.length co, .slice Ar s.roots.length cr] from by rw [← hW]; exact Blk.new _ _ _)
  have HO := hide (ho.no hk4)
  have HR := hide (hr.no hk4)
  have HC := hide ((HC2.out.no hk3).no hk4)
  have HK := hide ((HK2.out.trans hk3).trans hk4)
  clear ho hr hk3 hk4 HC2 HK1 HK2 HT
  obtain ⟨b1, b2, b3, b4, b5⟩ := HB.out.a2
  go_wp2_with fail
  clear hW
  refine Calls.mono (here_any _ HP.out HC.out) ?_
  rintro e w4 ⟨rfl, rfl⟩
  have HN12 := hide HP.out.n12
  have HR12 := hide HP.out.r12
  have hN12 := HN12.out
  have HH := hide (show hereB s < p2 s.outs.length from hereTo_lt s _)
  have HHL := hide (hereB_lt HP.out)
  go_wp2_with fail
  refine Calls.mono (pow2_any s.outs.length (by omega) _) ?_
  rintro e w4 ⟨rfl, rfl⟩
  have HH2 : decide (p2 s.outs.length ≤ hereB s) = false := by have := HH.out; rw [decide_eq_false_iff_not]; omega
  go_wp2_with fail
  clear HH2
  go_loop [7] (fun q => ∃ i : Nat, q = .int .i64 i ∧ i ≤ s.outs.length) (fun q => s.outs.length - (intOf q).toNat)
  case atStart => exact ⟨0, rfl, Nat.zero_le _⟩
  case round =>
    obtain ⟨i, rfl, hi⟩ := hrel
    by_cases hil : i < s.outs.length
    · have HIL := hide hil
      clear hil
      go_wp2_with fail
      go_loop [8, 9] (fun n q => ∃ a : Nat, q = .int .i64 a ∧ a ≤ s.roots.length ∧ n = .int .i64 ((s.roots.take a).count (i : Int) : Nat)) (fun _ q => s.roots.length - (intOf q).toNat)
      case atStart => exact ⟨0, rfl, Nat.zero_le _, rfl⟩
      case round =>
        obtain ⟨a, rfl, ha, rfl⟩ := hrel
        by_cases hal : a < s.roots.length
        · obtain ⟨_, _, e, _, _, hcell⟩ := HR.out
          cases e
          obtain ⟨b, o, rfl, _, hx⟩ := hcell a hal
          have HCT := hide (cnt_take hal (i : Int))
          have HCL := hide (cnt_le s.roots a (i : Int))
          clear hcell
          by_cases he : s.roots[a] = (i : Int)
          · have he' : (s.roots[a] == (i : Int)) = true := by rw [beq_iff_eq]; exact he
            rw [if_pos he] at HCT
            have hcl : (s.roots.take a).count (i : Int) ≤ 12 := by have := HCL.out; have := HR12.out; omega
            obtain ⟨z, hz⟩ : ∃ z, (s.roots.take a).count (i : Int) = z := ⟨_, rfl⟩
            rw [hz] at HCT hcl
            rw [hz]
            clear he hz
            go_wp2
            go_round
            case rel => exact ⟨a + 1, by go_num, hal, by rw [HCT.out]; go_num⟩
            case measure => simp [intOf]; omega
          · have he' : (s.roots[a] == (i : Int)) = false := by rw [beq_eq_false_iff_ne]; exact he
            rw [if_neg he] at HCT
            clear he
            go_wp2
            go_round
            case rel => exact ⟨a + 1, by go_num, hal, by rw [HCT.out]; rfl⟩
            case measure => simp [intOf]; omega
        · obtain rfl : a = s.roots.length := by omega
          have HCA := hide (cnt_all s.roots (i : Int))
          rw [HCA.out]
          obtain ⟨m, hm⟩ : ∃ m, s.roots.count (i : Int) = m := ⟨_, rfl⟩
          have HM := hide hm
          have HM12 := hide (show m ≤ 12 from by have : s.roots.count (i : Int) ≤ s.roots.length := List.count_le_length; have := HR12.out; omega)
          rw [hm]
          clear hm
          go_wp2_with fail
          go_loop [8, 10] (fun n q => ∃ b : Nat, q = .int .i64 b ∧ b ≤ s.outs.length ∧ n = .int .i64 (m + (s.outs.take b).flatten.count (i : Int) : Nat)) (fun _ q => s.outs.length - (intOf q).toNat)
          case atStart => exact ⟨0, rfl, Nat.zero_le _, by simp⟩
          case round =>
            obtain ⟨b, rfl, hb, rfl⟩ := hrel
            by_cases hbl : b < s.outs.length
            · obtain ⟨_, _, e, _, _, hrow⟩ := RowsIn.form HO.out
              cases e
              obtain ⟨bo, oo, A', c', rfl, _, hrc, hri⟩ := hrow b hbl
              obtain ⟨_, _, e, hla, hma, _⟩ := id hri
              cases e
              have HRI := hide hri
              have HFT := hide (flat_take hbl (i : Int))
              have HFL := hide (flat_le HN12.out HP.out.few (i : Int) b)
              have H4 := hide (HP.out.few _ (List.getElem_mem hbl))
              have HBL := hide hbl
              obtain ⟨z, hz⟩ : ∃ z, (s.outs.take b).flatten.count (i : Int) = z := ⟨_, rfl⟩
              rw [hz] at HFT HFL
              rw [hz]
              obtain ⟨r, hr⟩ : ∃ r, s.outs[b]'hbl = r := ⟨_, rfl⟩
              rw [hr] at hrc HRI HFT H4
              clear hrow hri hz
              go_wp2_with fail
              go_loop [8, 11] (fun n q => ∃ c : Nat, q = .int .i64 c ∧ c ≤ r.length ∧ n = .int .i64 (m + z + (r.take c).count (i : Int) : Nat)) (fun _ q => r.length - (intOf q).toNat)
              case atStart => exact ⟨0, rfl, Nat.zero_le _, by simp⟩
              case round =>
                obtain ⟨c, rfl, hc, rfl⟩ := hrel
                by_cases hcl : c < r.length
                · obtain ⟨_, _, e, _, _, hcell⟩ := HRI.out
                  cases e
                  obtain ⟨b', o', rfl, _, hx⟩ := hcell c hcl
                  have HCT := hide (cnt_take hcl (i : Int))
                  have HCL := hide (cnt_le r c (i : Int))
                  clear hcell
                  have hbd : m + z + (r.take c).count (i : Int) ≤ 100 := by have := HCL.out; have := H4.out; have := HM12.out; have := HFL.out; have := HBL.out; have := HN12.out; omega
                  obtain ⟨y, hy⟩ : ∃ y, (r.take c).count (i : Int) = y := ⟨_, rfl⟩
                  rw [hy] at HCT hbd
                  rw [hy]
                  clear hy
                  by_cases he : r[c] = (i : Int)
                  · have he' : (r[c] == (i : Int)) = true := by rw [beq_iff_eq]; exact he
                    rw [if_pos he] at HCT
                    clear he
                    go_wp2
                    go_round
                    case rel => exact ⟨c + 1, by go_num, hcl, by rw [HCT.out]; go_num⟩
                    case measure => simp [intOf]; omega
                  · have he' : (r[c] == (i : Int)) = false := by rw [beq_eq_false_iff_ne]; exact he
                    rw [if_neg he] at HCT
                    clear he
                    go_wp2
                    go_round
                    case rel => exact ⟨c + 1, by go_num, hcl, by rw [HCT.out]; rfl⟩
                    case measure => simp [intOf]; omega
                · obtain rfl : c = r.length := by omega
                  have HCA := hide (cnt_all r (i : Int))
                  rw [HCA.out]
                  go_wp2
                  go_round
                  case rel => exact ⟨b + 1, by go_num, HBL.out, by rw [HFT.out, Nat.add_assoc]⟩
                  case measure => simp [intOf]; have := HBL.out; omega
            · obtain rfl : b = s.outs.length := by omega
              rw [List.take_length]
              have HCTR := hide (count_true HP.out HIL.out)
              have HRF := hide (show refs s (i : Int) = m + s.outs.flatten.count (i : Int) by unfold refs; rw [HM.out])
              rw [← HRF.out]
              clear HRF
              obtain ⟨f, hf⟩ : ∃ f, refs s (i : Int) = f := ⟨_, rfl⟩
              rw [hf] at HCTR
              rw [hf]
              clear hf
              go_wp2_with fail
              refine Calls.mono (ccount_any _ _ HP.out HC.out) ?_
              rw [HCTR.out.1]
              rintro e w5 ⟨rfl, rfl⟩
              go_wp2_with fail
              refine Calls.mono (bit_any (hereB s) i (by have := HHL.out; omega) (by have := HIL.out; have := HN12.out; omega) _) ?_
              rw [show bt (hereB s) i = decide (0 < f) from HCTR.out.2]
              rintro e w5 ⟨rfl, rfl⟩
              by_cases h0 : 0 < f
              · have h0' : (0 : Int) < (f : Int) := by omega
                rw [decide_eq_true h0]
                go_wp2
                go_round
                case rel => exact ⟨i + 1, by go_num, HIL.out⟩
                case measure => simp [intOf]; have := HIL.out; omega
              · have h0' : ¬ (0 : Int) < (f : Int) := by omega
                rw [decide_eq_false h0]
                go_wp2
                go_round
                case rel => exact ⟨i + 1, by go_num, HIL.out⟩
                case measure => simp [intOf]; have := HIL.out; omega
    · obtain rfl : i = s.outs.length := by omega
      go_wp2
      go_ret
      exact ⟨rfl, HK.out⟩
end Go.Proofs.Ytjcabgbleohdcaa
