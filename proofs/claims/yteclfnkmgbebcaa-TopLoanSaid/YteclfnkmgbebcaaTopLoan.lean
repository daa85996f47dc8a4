/- The law TopLoan, walked: of all numbers and steps. -/
import Derived.Test.YteclfnkmgbebcaaLoan
import Derived.Test.YteclfnkmgbebcaaRead
namespace Go.Proofs.Yteclfnkmgbebcaa
open Go.RowKit
set_option linter.unusedSimpArgs false

theorem tin_any (n lo hi : Int) (w : World) : Calls Try.prog 9 #[.int .i64 n, .int .i64 lo, .int .i64 hi] w fun e w' => e = .returned (.bool (btw n lo hi)) ∧ w = w' := by
  go_enter Try.func9, Try.ntmps9
  go_wp2
  · have h : lo ≤ n := by assumption
    go_ret
    exact ⟨ret_bool (by simp [btw, h]), rfl⟩
  · have h : n < lo := by assumption
    go_ret
    exact ⟨ret_bool (by simp [btw]; omega), rfl⟩

theorem LInv.new_ {n : Nat} {t : Int} (hn : n ≤ 4) (ht : 1 ≤ t ∧ t ≤ 20) : LInv ⟨0, t, 0, -1, 0, List.replicate n (0, 0)⟩ :=
  ⟨by simp, .inl rfl, by simp, ht, by simp, by simpa using hn, fun x hx => by rw [List.eq_of_mem_replicate hx]; simp, fun x hx h => by rw [List.eq_of_mem_replicate hx] at h; simp at h, fun h => by simp at h⟩

/-- both memories -/
def LcF (p g q h : Nat) (b : Nat) : Prop := ChF p g b ∨ ChF q h b

structure LoanAt (w : World) (p g q h : Nat) (s : Ld) : Prop where
  ld : LdAt w p g s
  inv : LInv s
  ch : ∃ v, ChAt w q h 0 2 v 1
  far : ∀ b, ChF p g b → ¬ ChF q h b
theorem LoanAt.next {w w' : World} {p g q h : Nat} {s s' : Ld} (H : LoanAt w p g q h s) (hl : LdAt w' p g s') (hi : LInv s') (hk : Kp (ChF p g) w w') : LoanAt w' p g q h s' :=
  ⟨hl, hi, H.ch.elim fun v hc => ⟨v, hc.kp hk fun b hb hb' => H.far b hb' hb⟩, H.far⟩

set_option maxRecDepth 100000 in
set_option maxHeartbeats 8000000 in
theorem topLoan_any {F : Nat → Prop} (vt : Value) (n t : Int) (steps : List (List Int)) (w : World) (ht : RowsIn w F vt steps) : Calls Try.prog 3 #[.int .i64 n, .int .i64 t, vt] w fun e w' => e = .returned (.bool true) ∧ Kp No w w' := by
  have HT := hide (ht.mono (F' := Lo w.heap.size) fun k h _ => h)
  clear ht
  obtain ⟨At', ct, rfl, hct, hmt, _⟩ := RowsIn.form HT.out
  go_enter Try.func3, Try.ntmps3
  go_wp2_with fail
  refine Calls.mono (loanNew_any n t _) ?_
  rintro e w1 (⟨hb1, hb2, p, g, rfl, hl, hp, hg, hk1⟩ | ⟨hb, rfl, hk1⟩)
  case' inr =>
    have HB := hide hb
    have HK1 := hide hk1
    clear hb hk1
    go_wp2_with fail
    refine Calls.mono (cohNew_any _) ?_
    rintro e w2 ⟨q, h, rfl, hc, hq, hh, hk2⟩
    have HC := hide hc
    have HK2 := hide (HK1.out.trans hk2)
    have HQ := hide (show ∀ b, ChF q h b → w.heap.size ≤ b from fun b hb => by have := HK1.out.size; rcases hb with rfl | rfl <;> omega)
    clear hc hq hh hk2
    go_wp2_with fail
    refine Calls.mono (cohWrite_first 5 (by decide) _ HC.out) ?_
    rintro e w3 ⟨rfl, hc3, hk3⟩
    have HC3 := hide hc3
    have HK3 := hide (HK2.out.trans' hk3 fun b hb e => by have := HQ.out b e; omega)
    clear hc3 hk3
    go_wp2_with fail
    refine Calls.mono (cohRead_any _ HC3.out) ?_
    rintro e w4 ⟨rfl, rfl⟩
    go_wp2_with fail
    refine Calls.mono (cohWrite_again 0 (by decide) _ HC3.out) ?_
    rintro e w4 ⟨rfl, hc4, hk4⟩
    have HK4 := hide (HK3.out.trans' hk4 fun b hb e => by have := HQ.out b e; omega)
    clear hc4 hk4
    go_wp2_with fail
    refine Calls.mono (tin_any n 1 4 _) ?_
    rintro e w5 ⟨rfl, rfl⟩
    cases h1 : btw n 1 4 with
    | false =>
      clear h1
      go_wp2
      go_ret
      exact ⟨rfl, HK4.out⟩
    | true =>
      have h2 : btw t 1 20 = false := by have := HB.out; rw [h1] at this; simpa using this
      clear h1
      go_wp2_with fail
      refine Calls.mono (tin_any t 1 20 _) ?_
      rw [h2]
      rintro e w5 ⟨rfl, rfl⟩
      go_wp2
      go_ret
      exact ⟨rfl, HK4.out⟩
  have hn := btw_iff.1 hb1
  have HI := hide (LInv.new_ (n := n.toNat) (t := t) (by omega) (btw_iff.1 hb2))
  have HL := hide hl
  have HK1 := hide hk1
  have HP := hide (show ∀ b, ChF p g b → w.heap.size ≤ b ∧ b < w1.heap.size from fun b hb => by rcases hb with rfl | rfl; exact ⟨hp, HL.out.blk.lt⟩; exact ⟨hg, HL.out.row.lt⟩)
  clear hb1 hb2 hl hk1 hn hp hg
  go_wp2_with fail
  refine Calls.mono (cohNew_any _) ?_
  rintro e w2 ⟨q, h, rfl, hc, hq, hh, hk2⟩
  have HC := hide hc
  have HK2 := hide (HK1.out.trans hk2)
  have HQ := hide (show ∀ b, ChF q h b → w1.heap.size ≤ b from fun b hb => by rcases hb with rfl | rfl <;> omega)
  have HFR := hide (show ∀ b, ChF p g b → ¬ ChF q h b from fun b hb hb' => by have := HP.out b hb; have := HQ.out b hb'; omega)
  have HS1 := hide (show w.heap.size ≤ w1.heap.size from HK1.out.size)
  have HL2 := hide (HL.out.no hk2)
  clear hc hq hh hk2
  go_wp2_with fail
  refine Calls.mono (cohWrite_first 5 (by decide) _ HC.out) ?_
  rintro e w3 ⟨rfl, hc3, hk3⟩
  have HC3 := hide hc3
  have HK3 := hide (HK2.out.trans' hk3 fun b hb e => by have := HQ.out b e; have := HS1.out; omega)
  have HL3 := hide (HL2.out.kp hk3 fun b hb => HFR.out b hb)
  clear hc3 hk3
  go_wp2_with fail
  refine Calls.mono (cohRead_any _ HC3.out) ?_
  rintro e w4 ⟨rfl, rfl⟩
  go_wp2_with fail
  refine Calls.mono (cohWrite_again 0 (by decide) _ HC3.out) ?_
  rintro e w4 ⟨rfl, hc4, hk4⟩
  have HK4 := hide (HK3.out.trans' hk4 fun b hb e => by have := HQ.out b e; have := HS1.out; omega)
  have HA := hide (show LoanAt w4 p g q h _ from ⟨HL3.out.kp hk4 fun b hb => HFR.out b hb, HI.out, ⟨_, hc4⟩, HFR.out⟩)
  clear hc4 hk4 HL HL2 HL3 HC HC3 HK2 HK3 HI
  have HSF := hide (show ∀ b, LcF p g q h b → w.heap.size ≤ b from fun b hb => by have := HS1.out; rcases hb with hb | hb; exact (HP.out b hb).1; have := HQ.out b hb; omega)
  go_wp2_with fail
  go_loopw [13] (fun z wr => ∃ k : Nat, z = .int .i64 k ∧ k ≤ steps.length ∧ k ≤ 80 ∧ (∃ s, LoanAt wr p g q h s) ∧ Kp (LcF p g q h) w4 wr) (fun z _ => 80 - (intOf z).toNat)
  case atStart => exact ⟨0, rfl, Nat.zero_le _, by decide, ⟨_, HA.out⟩, Kp.refl _ _⟩
  case round =>
    obtain ⟨k, rfl, hk, hk80, ⟨s, hs⟩, hkr⟩ := hrel
    have HS := hide hs
    have HKR := hide hkr
    have HKW := hide (show Kp (LcF p g q h) w wr from HK4.out.of_no.trans hkr)
    clear hs hkr
    by_cases hlt : k < steps.length ∧ k < 80
    · obtain ⟨hml, hk8⟩ := hlt
      have hml' : (k : Int) < (steps.length : Int) := by omega
      have HTk := hide (HT.out.kp HKW.out fun b hb hf => by have := HSF.out b hf; unfold Lo at hb; omega)
      obtain ⟨_, _, e, _, _, hrow⟩ := RowsIn.form HTk.out
      cases e
      obtain ⟨bt', ot, A', c', rfl, hFb, hrc, hri⟩ := hrow k hml
      clear hrow
      by_cases h3 : steps[k].length = 2
      · obtain ⟨x0, x1, hx⟩ : ∃ x0 x1, steps[k] = [x0, x1] := by
          match hs : steps[k], h3 with
          | [a, b], _ => exact ⟨a, b, rfl⟩
        rw [hx] at hrc hri
        obtain ⟨_, _, e, _, _, hcell⟩ := hri
        cases e
        obtain ⟨b3', o3, rfl, hF3, i0⟩ := hcell 0 (by simp)
        obtain ⟨_, _, e, _, i1⟩ := hcell 1 (by simp)
        cases e
        simp only [List.getElem_cons_zero, List.getElem_cons_succ, Nat.add_zero, List.length_cons, List.length_nil] at i0 i1 hrc
        have I0 := hide i0
        have I1 := hide i1
        have HF3 := hide (show ¬ LcF p g q h b3' from fun hf => by have := HSF.out _ hf; unfold Lo at hF3; omega)
        clear hcell hx h3
        by_cases e1 : x0 = 1
        case' pos =>
          subst e1
          go_wp2_with fail
          refine Calls.mono (loanValue_any _ HS.out.ld) ?_
          rintro e w5 ⟨rfl, hk5⟩
          obtain ⟨v0, hc5⟩ := HS.out.ch
          have HC5 := hide (hc5.no hk5)
          have HL5 := hide (HS.out.ld.no hk5)
          have HK5 := hide (show Kp (LcF p g q h) wr w5 from hk5.of_no)
          clear hk5 hc5 i0 i1 hrc
          go_wp2_with fail
          refine Calls.mono (cohWrite_again s.value HS.out.inv.v0 _ HC5.out) ?_
          rintro e w6 ⟨rfl, hc6, hk6⟩
          have HC6 := hide hc6
          have HL6 := hide (HL5.out.kp hk6 fun b hb => HFR.out b hb)
          have HK6 := hide (HK5.out.trans' hk6 fun b _ e => .inr e)
          clear hc6 hk6
          have i0 := HK6.out.cell I0.out HF3.out
          have i1 := HK6.out.cell I1.out HF3.out
          go_wp2_with fail
          refine Calls.mono (loanRead_any x1 _ HL6.out HS.out.inv) ?_
          rintro e w7 ⟨rfl, hl7, hk7⟩
          have HL7 := hide hl7
          have HC7 := hide (HC6.out.kp hk7 fun b hb hb' => HFR.out b hb' hb)
          have HK7 := hide (HK6.out.trans' hk7 fun b _ e => .inl e)
          have HI7 := hide (HS.out.inv.read x1)
          have HS7 := hide (show LoanAt w7 p g q h (readL s x1) from ⟨HL7.out, HI7.out, ⟨_, HC7.out⟩, HFR.out⟩)
          clear hl7 hk7 i0 i1
          by_cases h0 : readE s x1 = 0
          · have HV := hide (show readR s x1 = .tuple #[.int .i64 s.value, .nilIface] by unfold readR; rw [h0]; rfl)
            rw [HV.out]
            clear h0
            go_wp2_with fail
            refine Calls.mono (cohRead_any _ HC7.out) ?_
            rintro e w8 ⟨rfl, rfl⟩
            have hne : (s.value != s.value) = false := by simp
            go_wp2
            go_roundw
            case rel => exact ⟨k + 1, by go_num, hml, hk8, ⟨_, HS7.out⟩, HKR.out.trans HK7.out⟩
            case measure => simp [intOf]; omega
          · have HV := hide (show readR s x1 = .tuple #[.int .i64 0, .iface 56 (.int .i64 (readE s x1))] by unfold readR; rw [if_neg h0, if_neg h0])
            rw [HV.out]
            obtain ⟨r, hr⟩ : ∃ r, readE s x1 = r := ⟨_, rfl⟩
            rw [hr]
            clear h0 hr HV
            go_wp2_with fail
            refine Calls.mono (cohRead_any _ HC7.out) ?_
            rintro e w8 ⟨rfl, rfl⟩
            go_wp2
            go_roundw
            case rel => exact ⟨k + 1, by go_num, hml, hk8, ⟨_, HS7.out⟩, HKR.out.trans HK7.out⟩
            case measure => simp [intOf]; omega
        have h1 : (x0 == 1) = false := by rw [beq_eq_false_iff_ne]; exact e1
        by_cases e0 : x0 = 0
        case' pos =>
          subst e0
          clear e1 h1
          go_wp2_with fail
          refine Calls.mono (loanWait_any x1 _ HS.out.ld HS.out.inv) ?_
          rintro e w5 ⟨⟨v5, rfl⟩, hl5, hk5⟩
          have HS5 := hide (HS.out.next hl5 (HS.out.inv.wait x1) hk5)
          have HK5 := hide (show Kp (LcF p g q h) wr w5 from hk5.mono fun b _ e => .inl e)
          clear hl5 hk5 i0 i1 hrc
        case' neg =>
          have h0 : (x0 == 0) = false := by rw [beq_eq_false_iff_ne]; exact e0
          by_cases e2 : x0 = 2
          case' pos =>
            subst e2
            clear e0 e1 h0 h1
            go_wp2_with fail
            refine Calls.mono (loanWrite_any x1 _ HS.out.ld HS.out.inv) ?_
            rintro e w5 ⟨⟨v5, rfl⟩, hl5, hk5⟩
            have HS5 := hide (HS.out.next hl5 (HS.out.inv.write x1) hk5)
            have HK5 := hide (show Kp (LcF p g q h) wr w5 from hk5.mono fun b _ e => .inl e)
            clear hl5 hk5 i0 i1 hrc
          case' neg =>
            have h2 : (x0 == 2) = false := by rw [beq_eq_false_iff_ne]; exact e2
            by_cases e3 : x0 = 3
            case' pos =>
              subst e3
              clear e0 e1 e2 h0 h1 h2
              go_wp2_with fail
              refine Calls.mono (loanBack_any x1 _ HS.out.ld HS.out.inv) ?_
              rintro e w5 ⟨⟨v5, rfl⟩, hl5, hk5⟩
              have HS5 := hide (HS.out.next hl5 (HS.out.inv.back x1) hk5)
              have HK5 := hide (show Kp (LcF p g q h) wr w5 from hk5.mono fun b _ e => .inl e)
              clear hl5 hk5 i0 i1 hrc
            case' neg =>
              have h3 : (x0 == 3) = false := by rw [beq_eq_false_iff_ne]; exact e3
              clear e0 e1 e2 e3
              go_wp2_with fail
              obtain ⟨w5, hw5⟩ : ∃ w5, wr = w5 := ⟨_, rfl⟩
              have HS5 := hide (show LoanAt w5 p g q h s from hw5 ▸ HS.out)
              have HK5 := hide (show Kp (LcF p g q h) wr w5 from hw5 ▸ Kp.refl _ _)
              rw [hw5]
              clear i0 i1 hrc hw5
        all_goals
          go_wp2_with fail
          refine Calls.mono (loanValue_any _ HS5.out.ld) ?_
          rintro e w6 ⟨rfl, hk6⟩
          obtain ⟨v0, hc6⟩ := HS5.out.ch
          have HC6 := hide (hc6.no hk6)
          have HL6 := hide (HS5.out.ld.no hk6)
          have HK6 := hide (HK5.out.trans hk6.of_no)
          have HV6 := hide HS5.out.inv.v0
          have HI6 := hide HS5.out.inv
          clear hk6 hc6
          go_wp2_with fail
          refine Calls.mono (cohWrite_again _ HV6.out _ HC6.out) ?_
          rintro e w7 ⟨rfl, hc7, hk7⟩
          have HK7 := hide (HK6.out.trans' hk7 fun b _ e => .inr e)
          have HS7 := hide (show LoanAt w7 p g q h _ from ⟨HL6.out.kp hk7 fun b hb => HFR.out b hb, HI6.out, ⟨_, hc7⟩, HFR.out⟩)
          clear hc7 hk7
          have i0 := HK7.out.cell I0.out HF3.out
          go_wp2
          go_roundw
          case rel => exact ⟨k + 1, by go_num, hml, hk8, ⟨_, HS7.out⟩, HKR.out.trans HK7.out⟩
          case measure => simp [intOf]; omega
      · have h3f : ((steps[k].length : Int) != 2) = true := by rw [bne_iff_ne]; omega
        clear h3 hri
        go_wp2
        go_roundw
        case rel => exact ⟨k + 1, by go_num, hml, hk8, ⟨_, HS.out⟩, HKR.out⟩
        case measure => simp [intOf]; omega
    · have hcase : k = steps.length ∨ (k = 80 ∧ 80 < steps.length) ∨ (k = 80 ∧ steps.length = 80) := by omega
      have HKF := hide (HK4.out.trans' HKR.out fun b hb e => by have := HSF.out b e; omega)
      clear hlt
      rcases hcase with rfl | ⟨rfl, hl⟩ | ⟨rfl, hl⟩
      all_goals
        go_wp2
        go_ret
        exact ⟨rfl, HKF.out⟩
end Go.Proofs.Yteclfnkmgbebcaa
