/- The law BuddyBack, walked: of all steps, and both ways. -/
import Derived.Test.YtfhfakkdilngbaaBuddyFact
namespace Go.Proofs.Ytfhfakkdilngbaa
open Go.RowKit
set_option linter.unusedSimpArgs false

/-- what is lent is where -/
def atL (ln : Nat → Option Nat) : List Nat := (lentL ln).map Prod.fst
theorem atL_fsts (ln : Nat → Option Nat) : fsts (lentL ln) = ni (atL ln) := by
  unfold fsts ni atL; rw [List.map_map]; rfl
theorem lentTo_at : ∀ (ln : Nat → Option Nat) (k : Nat), (lentTo ln k).map Prod.fst = (List.range k).filter fun a => (ln a).isSome
  | ln, 0 => rfl
  | ln, k + 1 => by
    rw [List.range_succ, List.filter_append, ← lentTo_at ln k]
    cases h : ln k with
    | none => rw [lentTo_none h]; simp [h]
    | some o => rw [lentTo_some h]; simp [h]
theorem atL_nodup (ln : Nat → Option Nat) : (atL ln).Nodup := by
  unfold atL lentL; rw [lentTo_at]; exact List.nodup_range.filter _
theorem mem_atL {ln : Nat → Option Nat} {a : Nat} : a ∈ atL ln ↔ a < 64 ∧ (ln a).isSome = true := by
  unfold atL lentL; rw [lentTo_at, List.mem_filter, List.mem_range]
theorem atL_len (ln : Nat → Option Nat) : (atL ln).length ≤ 64 := by
  unfold atL; rw [List.length_map]; exact lentTo_len _ _
/-- what is left of a list behind so many, from its front or from its end -/
def rs (l : List Nat) (forth : Bool) (i : Nat) : List Nat := if forth then l.drop i else l.take (l.length - i)
theorem rs_zero (l : List Nat) (forth : Bool) : rs l forth 0 = l := by cases forth <;> simp [rs]
theorem rs_end (l : List Nat) (forth : Bool) : rs l forth l.length = [] := by cases forth <;> simp [rs]
theorem rs_forth {l : List Nat} (hn : l.Nodup) {i : Nat} (h : i < l.length) : l[i] ∈ rs l true i ∧ ∀ a, a ∈ rs l true (i + 1) ↔ a ∈ rs l true i ∧ a ≠ l[i] := by
  have e : rs l true i = l[i] :: rs l true (i + 1) := by simp only [rs, if_true]; exact List.drop_eq_getElem_cons h
  have hd : (rs l true i).Nodup := by simp only [rs, if_true]; exact hn.sublist (List.drop_sublist _ _)
  rw [e] at hd ⊢
  have := (List.nodup_cons.1 hd).1
  refine ⟨List.mem_cons_self, fun a => ⟨fun h => ⟨List.mem_cons_of_mem _ h, by rintro rfl; exact this h⟩, fun ⟨h, h'⟩ => ?_⟩⟩
  exact (List.mem_cons.1 h).resolve_left h'
theorem rs_back {l : List Nat} (hn : l.Nodup) {i : Nat} (h : i < l.length) : l[l.length - 1 - i] ∈ rs l false i ∧ ∀ a, a ∈ rs l false (i + 1) ↔ a ∈ rs l false i ∧ a ≠ l[l.length - 1 - i] := by
  have e : rs l false i = rs l false (i + 1) ++ [l[l.length - 1 - i]] := by
    simp only [rs, Bool.false_eq_true, if_false]
    have := List.take_succ_eq_append_getElem (l := l) (i := l.length - 1 - i) (by omega)
    rw [show l.length - 1 - i + 1 = l.length - i by omega] at this
    rw [this, show l.length - (i + 1) = l.length - 1 - i by omega]
  have hd : (rs l false i).Nodup := by simp only [rs, Bool.false_eq_true, if_false]; exact hn.sublist (List.take_sublist _ _)
  rw [e] at hd ⊢
  rw [List.nodup_append] at hd
  refine ⟨by simp, fun a => ⟨fun h => ⟨List.mem_append_left _ h, fun e => hd.2.2 a h _ (List.mem_singleton.2 rfl) e⟩, fun ⟨h, h'⟩ => ?_⟩⟩
  rcases List.mem_append.1 h with h | h
  · exact h
  · exact absurd (List.mem_singleton.1 h) h'
/-- what is given back is lent no more -/
theorem back_one {ln : Nat → Option Nat} {r r' : List Nat} {a : Nat} (h : ∀ x, (ln x).isSome = true ↔ x ∈ r) (ha : a ∈ r) (hr : ∀ x, x ∈ r' ↔ x ∈ r ∧ x ≠ a) :
    backBE ln (a : Int) = 0 ∧ ∀ x, (backBL ln (a : Int) x).isSome = true ↔ x ∈ r' := by
  have hs : (ln a).isSome = true := (h a).2 ha
  refine ⟨by unfold backBE; rw [lnI_nat, if_pos hs], fun x => ?_⟩
  unfold backBL
  rw [lnI_nat, if_pos hs, Int.toNat_natCast, hr]
  by_cases e : x = a
  · subst e; rw [upd_same]; simp
  · rw [upd_other _ _ e, h]; exact ⟨fun h => ⟨h, e⟩, fun h => h.1⟩
theorem lentL_none {ln : Nat → Option Nat} (h : ∀ x, (ln x).isSome = true ↔ x ∈ ([] : List Nat)) : lentL ln = [] ∧ ∀ a, ln a = none := by
  have h1 : ∀ a, ln a = none := fun a => by
    cases e : ln a with
    | none => rfl
    | some o => have := (h a).1 (by rw [e]; rfl); simp at this
  refine ⟨?_, h1⟩
  unfold lentL lentTo
  rw [List.filterMap_eq_nil_iff]
  intro a _
  rw [h1 a]; rfl

set_option maxRecDepth 100000 in
set_option maxHeartbeats 8000000 in
theorem buddyBack_any {F : Nat → Prop} (v : Value) (steps : List Int) (forth : Bool) (w : World) (hv : IntsIn w F v steps) (hr : ∀ x ∈ steps, -9223372036854775808 ≤ x ∧ x ≤ 9223372036854775807) :
    Calls Try.prog 6 #[v, .bool forth] w fun e w' => e = .returned (.bool true) ∧ Kp No w w' := by
  have HV := hide hv
  have HR := hide hr
  have E5 := hide (show eqB [0] [0] = true by decide)
  clear hv hr
  go_enter Try.func6, Try.ntmps6
  go_wp2_with fail
  refine Calls.mono (buddyFact_any _) ?_
  rintro e w1 ⟨rfl, hk1⟩
  have HK1 := hide hk1
  clear hk1
  go_wp2_with fail
  refine Calls.mono (lent_any v steps w1 (HV.out.no HK1.out) HR.out) ?_
  rintro e w2 ⟨p, m, rfl, hm, hf2, hk2⟩
  have HL := hide (bud_all steps)
  obtain ⟨bs, hbs⟩ : ∃ bs, budAll steps = bs := ⟨_, rfl⟩
  rw [hbs] at HL hf2
  clear hbs
  obtain ⟨fr, ln⟩ := bs
  simp only at HL hf2
  have HF2 := hide hf2
  have HK2 := hide (HK1.out.trans hk2)
  clear hf2 hk2
  go_wp2_with fail
  refine Calls.mono (blent_any w2 HF2.out fun a o h => (HL.out.lal a o h).1) ?_
  rintro e w3 ⟨v1, v2, rfl, ht⟩
  have hs12 := HK2.out.size
  have hs3 := ht.kp.size
  have I1 := hide (show IntsIn w3 (fun b => w2.heap.size ≤ b ∧ b < w3.heap.size) v1 (ni (atL ln)) from by rw [← atL_fsts]; exact .of_own ht.o1 fun b hb => own_lt ht.o1 hb)
  have HF3 := hide (show BudIs w3 p (fun b => w.heap.size ≤ b ∧ (b < w2.heap.size ∨ w3.heap.size ≤ b)) fr ln m from (HF2.out.mono fun b hb h => ⟨Nat.le_trans (HK1.out.size) h, .inl hb⟩).no ht.kp)
  have HK3 := hide (HK2.out.trans ht.kp)
  have hl1 := ht.o1.1
  obtain ⟨A1, c1, rfl, hc1, hm1, _⟩ := id I1.out
  have HAL := hide (atL_len ln)
  have HNO := hide (atL_nodup ln)
  have HIN := hide (fun x => show (ln x).isSome = true ↔ x ∈ rs (atL ln) forth 0 by
    rw [rs_zero, mem_atL]
    exact ⟨fun h => ⟨by
      cases e : ln x with
      | none => rw [e] at h; cases h
      | some o => exact (HL.out.lal x o e).2.2, h⟩, fun h => h.2⟩)
  obtain ⟨As, hAs⟩ : ∃ As, atL ln = As := ⟨_, rfl⟩
  rw [hAs] at I1 HAL HNO HIN hc1
  rw [hAs]
  rw [ni_length] at hc1 ⊢
  have hal := HAL.out
  clear ht hl1 hAs
  go_wp2_with fail
  go_loopw [9] (fun q wr => ∃ (i : Nat) (f : Nat → List Nat) (l : Nat → Option Nat), q = .int .i64 i ∧ i ≤ As.length ∧ Hid (BudIs wr p (fun b => w.heap.size ≤ b ∧ (b < w2.heap.size ∨ w3.heap.size ≤ b)) f l m) ∧ Hid (Bud f l []) ∧ Hid (∀ x, (l x).isSome = true ↔ x ∈ rs As forth i) ∧ Hid (Kp (fun b => w.heap.size ≤ b ∧ (b < w2.heap.size ∨ w3.heap.size ≤ b)) w3 wr)) (fun q _ => As.length - (intOf q).toNat)
  case atStart => exact ⟨0, fr, ln, rfl, Nat.zero_le _, HF3.out, HL.out, HIN.out, Kp.refl _ _⟩
  case round =>
    obtain ⟨i, f, l, rfl, hi, hf, hbd, hin, hkp⟩ := hrel
    have hws := hkp.out.size
    have HIR := hide (I1.out.kp hkp.out fun b h1 h2 => by omega)
    by_cases hlt : i < As.length
    · have hi64 : (i : Int) < 64 := by omega
      cases forth with
      | true =>
        obtain ⟨_, _, e, _, _, hcell⟩ := HIR.out
        cases e
        obtain ⟨b1, o1, rfl, _, d1⟩ := hcell i (by rw [ni_length]; exact hlt)
        rw [ni_get hlt] at d1
        have HRS := hide (rs_forth HNO.out hlt)
        obtain ⟨a, ha⟩ : ∃ a, As[i] = a := ⟨_, rfl⟩
        rw [ha] at d1 HRS
        have HBO := hide (back_one hin.out HRS.out.1 HRS.out.2)
        have HBS := hide (hbd.out.backs (a : Int))
        have ha64 : a < 64 := by
          cases e : l a with
          | none => have := (hin.out a).2 HRS.out.1; rw [e] at this; cases this
          | some o => exact (hbd.out.lal a o e).2.2
        clear hcell ha
        go_wp2_with fail
        refine Calls.mono (bback_any (a : Int) wr hf.out hbd.out ⟨by omega, by omega⟩ fun b hb => ⟨by omega, .inr (by omega)⟩) ?_
        rw [HBO.out.1]
        rintro e w5 ⟨rfl, hf5, hk5⟩
        have HF5 := hide hf5
        have HK5 := hide (hkp.out.trans hk5)
        have hn : ∀ k : Nat, errV 0 = .nilIface := fun _ => rfl
        rw [hn 0]
        clear hf5 hk5 hn
        go_wp2_with fail
        go_roundw
        case rel => exact ⟨i + 1, _, _, by go_num, hlt, HF5.out, HBS.out, HBO.out.2, HK5.out⟩
        case measure => (simp [intOf]; omega)
      | false =>
        obtain ⟨_, _, e, _, _, hcell⟩ := HIR.out
        cases e
        obtain ⟨b1, o1, rfl, _, d1⟩ := hcell (As.length - 1 - i) (by rw [ni_length]; omega)
        obtain ⟨b1', o1', e1, _, d2⟩ := hcell i (by rw [ni_length]; omega)
        cases e1
        rw [ni_get (by omega)] at d1 d2
        have HRS := hide (rs_back HNO.out hlt)
        obtain ⟨a, ha⟩ : ∃ a, As[As.length - 1 - i] = a := ⟨_, rfl⟩
        obtain ⟨a2, ha2⟩ : ∃ a, As[i] = a := ⟨_, rfl⟩
        rw [ha] at d1 HRS
        rw [ha2] at d2
        have HBO := hide (back_one hin.out HRS.out.1 HRS.out.2)
        have HBS := hide (hbd.out.backs (a : Int))
        have ha64 : a < 64 := by
          cases e : l a with
          | none => have := (hin.out a).2 HRS.out.1; rw [e] at this; cases this
          | some o => exact (hbd.out.lal a o e).2.2
        obtain ⟨j, hj⟩ : ∃ j, As.length - 1 - i = j := ⟨_, rfl⟩
        rw [hj] at d1
        have hji : (As.length : Int) - 1 - (i : Int) = (j : Int) := by omega
        have hjl : (j : Int) < As.length := by omega
        clear hcell ha ha2 hj
        go_wp2_with fail
        refine Calls.mono (bback_any (a : Int) wr hf.out hbd.out ⟨by omega, by omega⟩ fun b hb => ⟨by omega, .inr (by omega)⟩) ?_
        rw [HBO.out.1]
        rintro e w5 ⟨rfl, hf5, hk5⟩
        have HF5 := hide hf5
        have HK5 := hide (hkp.out.trans hk5)
        have hn : ∀ k : Nat, errV 0 = .nilIface := fun _ => rfl
        rw [hn 0]
        clear hf5 hk5 hn
        go_wp2_with fail
        go_roundw
        case rel => exact ⟨i + 1, _, _, by go_num, hlt, HF5.out, HBS.out, HBO.out.2, HK5.out⟩
        case measure => (simp [intOf]; omega)
    · obtain rfl : i = As.length := by omega
      have hin' := hin.out
      rw [rs_end] at hin'
      have HZ := hide (lentL_none hin')
      have HO := hide (hbd.out.one HZ.out.2)
      clear hin' hin
      go_wp2_with fail
      refine Calls.mono (blent_any wr hf.out fun a o h => (hbd.out.lal a o h).1) ?_
      rw [HZ.out.1]
      rintro e w4 ⟨v3, v4, rfl, ht⟩
      have HK4 := hide ht.kp
      have I3 := hide (show IntsIn w4 (fun _ => True) v3 [] from .of_own ht.o1 fun _ _ => trivial)
      obtain ⟨A3, c3, rfl, _, _, _⟩ := id I3.out
      clear ht
      simp only [List.length_nil]
      go_wp2_with fail
      refine Calls.mono (bfree_ok 6 (by decide) w4 (hf.out.no HK4.out) fun k hk => hbd.out.len hk) ?_
      rw [HO.out.1]
      rintro e w5 ⟨v5, rfl, i5, hk5⟩
      have HK5 := hide hk5
      have I5 := hide i5
      obtain ⟨A5, c5, rfl, _⟩ := id i5
      clear i5 hk5
      go_wp2_with fail
      refine Calls.mono (ints_any (F' := fun _ => True) _ _ [0] [0] _ (I5.out.no (by (repeat (first | exact Kp.refl _ _ | with_reducible refine Kp.drewN ?_ _ | with_reducible refine Kp.drew ?_ | with_reducible refine Kp.alloc ?_ _ | with_reducible refine Kp.setCell ?_ (fun _ => ?_) _)); all_goals (simp_all; omega))) (blk_ints (xs := [0]) (by (repeat (first | with_reducible refine Blk.drewN ?_ _ | with_reducible refine Blk.drew ?_ | (with_reducible refine Blk.at_ _ _ ?_; (first | rfl | (simp; done))) | with_reducible refine Blk.alloc ?_ _))) trivial (by simp) (by rfl))) ?_
      rw [E5.out]
      rintro e w6 ⟨rfl, n6, rfl⟩
      go_wp2_with fail
      refine Calls.mono (bfree_ok 0 (by decide) _ ((hf.out.no HK4.out).no (HK5.out.trans (by (repeat (first | exact Kp.refl _ _ | with_reducible refine Kp.drewN ?_ _ | with_reducible refine Kp.drew ?_ | with_reducible refine Kp.alloc ?_ _ | with_reducible refine Kp.setCell ?_ (fun _ => ?_) _)); all_goals (simp_all; omega)))) fun k hk => hbd.out.len hk) ?_
      rw [HO.out.2 0 (by decide)]
      rintro e w7 ⟨v7, rfl, i7, hk7⟩
      have HK7 := hide (((HK4.out.trans HK5.out).trans (by (repeat (first | exact Kp.refl _ _ | with_reducible refine Kp.drewN ?_ _ | with_reducible refine Kp.drew ?_ | with_reducible refine Kp.alloc ?_ _ | with_reducible refine Kp.setCell ?_ (fun _ => ?_) _)); all_goals (simp_all; omega))).trans hk7)
      have I7 := hide i7
      obtain ⟨A7, c7, rfl, _⟩ := id i7
      clear i7 hk7
      simp only [ni, List.map_nil, List.length_nil]
      go_wp2
      go_ret
      refine ⟨rfl, ?_⟩
      have k : Kp (Hi w.heap.size) w w7 := (HK3.out.of_no.trans (hkp.out.mono fun b _ h => h.1)).trans HK7.out.of_no
      exact k.mono fun b hb h => by unfold Hi at h; omega
end Go.Proofs.Ytfhfakkdilngbaa
