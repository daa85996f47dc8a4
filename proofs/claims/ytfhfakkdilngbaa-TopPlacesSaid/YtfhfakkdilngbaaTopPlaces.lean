/- The law TopPlaces, walked: of all orders. -/
import Derived.Test.YtfhfakkdilngbaaBuddyApart
import Derived.Test.YtfhfakkdilngbaaFitPack
namespace Go.Proofs.Ytfhfakkdilngbaa
open Go.RowKit
set_option linter.unusedSimpArgs false

theorem topin_any (n lo hi : Int) (w : World) : Calls Try.prog 26 #[.int .i64 n, .int .i64 lo, .int .i64 hi] w fun e w' => e = .returned (.bool (btw n lo hi)) ∧ w = w' := by
  go_enter Try.func26, Try.ntmps26
  by_cases h1 : lo ≤ n
  · by_cases h2 : n ≤ hi
    · have Hb := hide (show btw n lo hi = true from btw_iff.2 ⟨h1, h2⟩)
      go_wp2
      go_ret
      exact ⟨ret_bool Hb.out.symm, rfl⟩
    · have Hb := hide (show btw n lo hi = false by rw [Bool.eq_false_iff]; intro h; exact h2 (btw_iff.1 h).2)
      go_wp2
      go_ret
      exact ⟨ret_bool Hb.out.symm, rfl⟩
  · have Hb := hide (show btw n lo hi = false by rw [Bool.eq_false_iff]; intro h; exact h1 (btw_iff.1 h).1)
    go_wp2
    go_ret
    exact ⟨ret_bool Hb.out.symm, rfl⟩

/-! ### How many places are lent -/
def tot (ln : Nat → Option Nat) : Nat := ((List.range 64).map fun p => cL ln p).sum
theorem sum_cov (a o : Nat) : ∀ n, ((List.range n).map fun p => n1 (cov p a o)).sum = min n (a + 2 ^ o) - min n a
  | 0 => by simp
  | n + 1 => by
    rw [List.range_succ, List.map_append, List.sum_append, sum_cov a o n]
    simp only [List.map_cons, List.map_nil, List.sum_cons, List.sum_nil, cov, n1, decide_eq_true_eq]
    split <;> omega
theorem sum_le_one {f : Nat → Nat} : ∀ n, (∀ p, p < n → f p ≤ 1) → ((List.range n).map f).sum ≤ n
  | 0, _ => by simp
  | n + 1, h => by
    rw [List.range_succ, List.map_append, List.sum_append]
    have h1 := sum_le_one n fun p hp => h p (by omega)
    have h2 := h n (by omega)
    simp only [List.map_cons, List.map_nil, List.sum_cons, List.sum_nil]
    omega
theorem sum_add {f g h : Nat → Nat} (e : ∀ p, h p = f p + g p) : ∀ n, ((List.range n).map h).sum = ((List.range n).map f).sum + ((List.range n).map g).sum
  | 0 => by simp
  | n + 1 => by
    simp only [List.range_succ, List.map_append, List.sum_append, sum_add e n, List.map_cons, List.map_nil, List.sum_cons, List.sum_nil, e n]
    omega
theorem tot_le {fr : Nat → List Nat} {ln : Nat → Option Nat} (H : Bud fr ln []) : tot ln ≤ 64 := by
  unfold tot
  refine sum_le_one 64 fun p hp => ?_
  have := H.cover p hp
  omega
theorem tot_lend {fr : Nat → List Nat} {ln : Nat → Option Nat} (H : Bud fr ln []) {o : Nat} (he : lendE fr (o : Int) = 0) : tot (lendL fr ln (o : Int)) = tot ln + 2 ^ o ∧ tot ln + 2 ^ o ≤ 64 := by
  have h1 := H.lent (o : Int)
  obtain ⟨h2, h3⟩ := h1.2 he
  have hB := h1.1
  have e : lendL fr ln (o : Int) = upd ln (lendAt fr (o : Int)) (some o) := by unfold lendL; rw [if_pos he, Int.toNat_natCast]
  have hal := hB.lal (lendAt fr (o : Int)) o (by rw [e, upd_same])
  have htop := al_top o hal.1 _ hal.2.2 hal.2.1
  have hs : tot (lendL fr ln (o : Int)) = tot ln + 2 ^ o := by
    rw [e]
    unfold tot
    rw [sum_add (f := fun p => cL ln p) (g := fun p => n1 (cov p (lendAt fr (o : Int)) o)) (fun p => ?_) 64, sum_cov]
    · have := Nat.two_pow_pos o; omega
    · have h4 := cL_upd ln p h2 (some o)
      have e1 : lnc ln p (lendAt fr (o : Int)) = false := by unfold lnc; rw [h3]
      have e2 : lnc (upd ln (lendAt fr (o : Int)) (some o)) p (lendAt fr (o : Int)) = cov p (lendAt fr (o : Int)) o := by unfold lnc; rw [upd_same]
      rw [e1, e2] at h4
      simp only [n1, Bool.false_eq_true, if_false] at h4 ⊢
      omega
  exact ⟨hs, by have := tot_le hB; omega⟩
theorem lendE_cases (fr : Nat → List Nat) {o : Nat} (h : o ≤ 6) : lendE fr (o : Int) = 0 ∨ lendE fr (o : Int) = 4 := by
  unfold lendE
  rw [if_neg (by rw [btw_iff.2 ⟨by omega, by omega⟩]; simp)]
  split
  · exact .inr rfl
  · exact .inl rfl

/-! ### What lies one behind the other -/
theorem pack_fits : ∀ (bs : List (Nat × Nat)) (p size : Nat), 1 ≤ size → p + sizesSum bs + size ≤ 64 → lendIx size p (packF p bs) = some (bs.length, p + sizesSum bs)
  | [], p, size, h1, h => by
    simp only [sizesSum, packF, List.map_nil, List.sum_nil, Nat.add_zero, lendIx, List.length_nil] at h ⊢
    rw [if_pos (by omega)]
  | b :: r, p, size, h1, h => by
    rw [sizes_cons] at h ⊢
    have := pack_fits r (p + b.2) size h1 (by omega)
    simp only [packF, lendIx]
    rw [if_neg (by omega), this]
    simp [Nat.add_assoc]
theorem pack_more : ∀ (bs : List (Nat × Nat)) (p x size : Nat), packF p (bs ++ [(x, size)]) = packF p bs ++ [(p + sizesSum bs, size)]
  | [], p, x, size => by simp [packF, sizesSum]
  | b :: r, p, x, size => by
    rw [sizes_cons]
    simp only [List.cons_append, packF, pack_more r, Nat.add_assoc]
theorem sizes_more (bs : List (Nat × Nat)) (b : Nat × Nat) : sizesSum (bs ++ [b]) = sizesSum bs + b.2 := by simp [sizesSum]
theorem fit_next {bs : List (Nat × Nat)} (hp : packF 0 bs = bs) {n : Nat} (h1 : 1 ≤ n) (h : sizesSum bs + n ≤ 64) :
    flE bs (n : Int) = 0 ∧ packF 0 (flB bs (n : Int)) = flB bs (n : Int) ∧ sizesSum (flB bs (n : Int)) = sizesSum bs + n := by
  have h2 := pack_fits bs 0 n h1 (by omega)
  rw [hp, Nat.zero_add] at h2
  obtain ⟨e1, _, e3⟩ := fl_some (bs := bs) (btw_iff.2 ⟨by omega, by omega⟩ : btw (n : Int) 1 64 = true) h2
  have e4 : insAt bs bs.length (sizesSum bs, n) = bs ++ [(sizesSum bs, n)] := by unfold insAt; rw [List.take_length, List.drop_length]
  rw [e3, e4]
  refine ⟨e1, ?_, sizes_more _ _⟩
  rw [pack_more, hp, Nat.zero_add]

set_option maxRecDepth 100000 in
set_option maxHeartbeats 8000000 in
theorem topPlaces_any {F : Nat → Prop} (v : Value) (orders : List Int) (w : World) (hv : IntsIn w F v orders) (hr : ∀ x ∈ orders, -9223372036854775808 ≤ x ∧ x ≤ 9223372036854775807) :
    Calls Try.prog 7 #[v] w fun e w' => e = .returned (.bool true) ∧ Kp No w w' := by
  have HV := hide (hv.mono (F' := Lo w.heap.size) fun k h _ => h)
  obtain ⟨A, c, rfl, hc, hm, _⟩ := hv
  clear hr
  have HL0 := hide (show Bud bud0 lent0 [] from Bud.new)
  obtain ⟨f1, hf1⟩ : ∃ f, lendF bud0 ((6 : Nat) : Int) = f := ⟨_, rfl⟩
  obtain ⟨l1, hl1⟩ : ∃ l, lendL bud0 lent0 ((6 : Nat) : Int) = l := ⟨_, rfl⟩
  obtain ⟨f2, hf2⟩ : ∃ f, lendF f1 ((0 : Nat) : Int) = f := ⟨_, rfl⟩
  obtain ⟨l2, hl2⟩ : ∃ l, lendL f1 l1 ((0 : Nat) : Int) = l := ⟨_, rfl⟩
  obtain ⟨f3, hf3⟩ : ∃ f, backBF f2 l2 ((0 : Nat) : Int) = f := ⟨_, rfl⟩
  obtain ⟨l3, hl3⟩ : ∃ l, backBL l2 ((0 : Nat) : Int) = l := ⟨_, rfl⟩
  have E1 := hide (show lendE bud0 ((6 : Nat) : Int) = 0 ∧ lendAt bud0 ((6 : Nat) : Int) = 0 by decide +kernel)
  have E2 := hide (show lendE f1 ((0 : Nat) : Int) = 4 ∧ lendAt f1 ((0 : Nat) : Int) = 0 by subst hf1; decide +kernel)
  have E3 := hide (show backBE l2 ((0 : Nat) : Int) = 0 by subst hf1 hl1 hl2; decide +kernel)
  have E4 := hide (show tot l3 = 0 by subst hf1 hl1 hl2 hl3; decide +kernel)
  have HL1 := hide (show Bud f1 l1 [] by rw [← hf1, ← hl1]; exact (HL0.out.lent _).1)
  have HL2 := hide (show Bud f2 l2 [] by rw [← hf2, ← hl2]; exact (HL1.out.lent _).1)
  have HL3 := hide (show Bud f3 l3 [] by rw [← hf3, ← hl3]; exact HL2.out.backs _)
  have H1 := hide (And.intro hf1 hl1)
  have H2 := hide (And.intro hf2 hl2)
  have H3 := hide (And.intro hf3 hl3)
  have hn0 : ∀ k : Nat, errV 0 = .nilIface := fun _ => rfl
  have hn4 : ∀ k : Nat, errV 4 = .iface 51 (.int .i64 4) := fun _ => rfl
  have HN0 := hide hn0
  have HN4 := hide hn4
  clear hf1 hl1 hf2 hl2 hf3 hl3 hn0 hn4
  go_enter Try.func7, Try.ntmps7
  go_wp2_with fail
  refine Calls.mono (bnew_any w) ?_
  rintro e w1 ⟨p, rfl, hp, hb1, hk1⟩
  have HB1 := hide hb1
  have HK1 := hide hk1
  have hs1 := hk1.size
  clear hb1 hk1
  go_wp2_with fail
  refine Calls.mono (fnew_any w1) ?_
  rintro e w2 ⟨rfl, hf2, hk2⟩
  have HF2 := hide (hf2.mono (S' := fun b => w1.heap.size ≤ b ∧ b < w2.heap.size) fun b h1 h2 => ⟨h2, h1⟩)
  have HB2 := hide ((HB1.out.mono (S' := fun b => w.heap.size ≤ b ∧ (b < w1.heap.size ∨ w2.heap.size ≤ b)) fun b h1 h2 => ⟨h2, .inl h1⟩).no hk2)
  have HK2 := hide (HK1.out.trans hk2)
  have hs2 := hk2.size
  clear hf2 hk2
  go_wp2_with fail
  refine Calls.mono (blend_any ((6 : Nat) : Int) w2 HB2.out HL0.out (by decide) fun b hb => ⟨by omega, .inr hb⟩) ?_
  rw [show lendE (upd (fun _ => []) 6 [0]) ((6 : Nat) : Int) = 0 from E1.out.1, show lendAt (upd (fun _ => []) 6 [0]) ((6 : Nat) : Int) = 0 from E1.out.2, show lendF (upd (fun _ => []) 6 [0]) ((6 : Nat) : Int) = f1 from H1.out.1, show lendL (upd (fun _ => []) 6 [0]) (fun _ => none) ((6 : Nat) : Int) = l1 from H1.out.2]
  rintro e w3 ⟨rfl, hb3, hk3⟩
  have HB3 := hide hb3
  have HK3 := hide hk3
  have hs3 := hk3.size
  rw [HN0.out 0]
  clear hb3 hk3
  go_wp2_with fail
  refine Calls.mono (blend_any ((0 : Nat) : Int) w3 HB3.out HL1.out (by decide) fun b hb => ⟨by omega, .inr (by omega)⟩) ?_
  rw [E2.out.1, E2.out.2, H2.out.1, H2.out.2]
  rintro e w4 ⟨rfl, hb4, hk4⟩
  have HB4 := hide hb4
  have HK4 := hide (HK3.out.trans hk4)
  have hs4 := hk4.size
  rw [HN4.out 0]
  clear hb4 hk4
  go_wp2_with fail
  refine Calls.mono (bback_any ((0 : Nat) : Int) w4 HB4.out HL2.out ⟨by decide, by decide⟩ fun b hb => ⟨by omega, .inr (by omega)⟩) ?_
  rw [E3.out, H3.out.1, H3.out.2]
  rintro e w5 ⟨rfl, hb5, hk5⟩
  have hs5 := hk5.size
  have HB5 := hide hb5
  have HK5 := hide (HK4.out.trans hk5)
  have HF5 := hide (HF2.out.kp HK5.out fun b h1 h2 => by omega)
  rw [HN0.out 0]
  clear hb5 hk5
  go_wp2_with fail
  go_loopw [9] (fun q wr => ∃ (k m : Nat) (f : Nat → List Nat) (l : Nat → Option Nat) (bs : List (Nat × Nat)) (S1 S2 : Nat → Prop), q = .int .i64 k ∧ k ≤ orders.length ∧ k ≤ 70 ∧ m = k + 2 ∧ Hid (BudIs wr p S1 f l m) ∧ Hid (FitIs wr w1.heap.size S2 bs) ∧ Hid (∀ b, S1 b → S2 b → False) ∧ Hid (∀ b, S1 b ∨ S2 b → w.heap.size ≤ b) ∧ Hid (Bud f l []) ∧ Hid (Lie 0 bs) ∧ Hid (packF 0 bs = bs ∧ sizesSum bs = tot l) ∧ Hid (Kp (Hi w.heap.size) w wr)) (fun q _ => 100 - (intOf q).toNat)
  case atStart => exact ⟨0, 2, f3, l3, [], _, _, rfl, Nat.zero_le _, by omega, rfl, HB5.out, HF5.out, fun b h1 h2 => by omega, fun b h => by omega, HL3.out, Nat.zero_le _, ⟨rfl, E4.out.symm⟩, HK2.out.of_no.trans (HK5.out.mono fun b _ h => h.1)⟩
  case round =>
    clear E1 E2 E3 E4 H1 H2 H3 HL0 HL1 HL2 HL3 HB1 HB2 HB3 HB4 HB5 HF2 HF5 HK3 HK4 HK5
    obtain ⟨k, m, f, l, bs, S1, S2, rfl, hk, hk70, rfl, hb, hf, hdis, hlo, hbud, hlie, hpk, hkp⟩ := hrel
    have hdis := hide hdis.out
    have hlo := hide hlo.out
    by_cases hlt : k < orders.length ∧ k < 70
    · obtain ⟨h1, h2⟩ := hlt
      obtain ⟨_, _, e, _, _, hcell⟩ := HV.out.kp hkp.out (fun b h1 h2 => by unfold Lo at h1; unfold Hi at h2; omega)
      cases e
      obtain ⟨b, o, rfl, hbb, hc1⟩ := hcell k h1
      clear hcell
      obtain ⟨x, hx⟩ : ∃ x, orders[k] = x := ⟨_, rfl⟩
      rw [hx] at hc1
      have HC1 := hide hc1
      clear hx
      cases hbt : btw x 0 6 with
      | false =>
        have HBT := hide hbt
        clear hbt
        go_wp2_with fail
        refine Calls.mono (topin_any _ _ _ _) ?_
        rw [HBT.out]
        rintro e w6 ⟨rfl, rfl⟩
        go_wp2
        go_ret
        exact ⟨rfl, hkp.out.mono fun b hb h => by unfold Hi at h; omega⟩
      | true =>
        obtain ⟨n, rfl⟩ : ∃ n : Nat, x = n := ⟨x.toNat, by have := btw_iff.1 hbt; omega⟩
        have hn6 : n ≤ 6 := by have := btw_iff.1 hbt; omega
        have HBT := hide hbt
        obtain ⟨z, hz⟩ : ∃ z, wr.heap.size = z := ⟨_, rfl⟩
        have HZ := hide hz
        have hws := hkp.out.size
        have HBM := hide (hb.out.mono (S' := fun b => (b < z ∧ S1 b) ∨ z ≤ b) fun b h1 h2 => .inl ⟨hz ▸ h1, h2⟩)
        have HFM := hide (hf.out.mono (S' := fun b => b < z ∧ S2 b) fun b h1 h2 => ⟨hz ▸ h1, h2⟩)
        have hzw : w.heap.size ≤ z := hz ▸ hws
        clear hbt hz
        go_wp2_with fail
        refine Calls.mono (topin_any _ _ _ _) ?_
        rw [HBT.out]
        rintro e w6 ⟨rfl, rfl⟩
        go_wp2_with fail
        refine Calls.mono (blend_any (n : Int) wr HBM.out hbud.out (by omega) fun b hb => .inr (HZ.out ▸ hb)) ?_
        rintro e w7 ⟨rfl, hb7, hk7⟩
        have HB7 := hide hb7
        have HK7 := hide (hkp.out.trans (hk7.mono fun b _ h => show Hi w.heap.size b by
          rcases h with h | h
          · exact hlo.out b (.inl h.2)
          · unfold Hi; omega))
        have HF7 := hide (HFM.out.kp hk7 fun b h1 h2 => by
          rcases h2 with h2 | h2
          · exact hdis.out b h2.2 h1.2
          · omega)
        have c1 := hk7.cell HC1.out (by
          rintro (h | h)
          · have := hlo.out b (.inl h.2); unfold Lo at hbb; omega
          · unfold Lo at hbb; simp only at h; omega)
        have hs7 := hk7.size
        clear hb7 hk7
        go_wp2_with fail
        refine Calls.mono (pow2_any n (by omega) _) ?_
        unfold p2
        rintro e w8 ⟨rfl, rfl⟩
        obtain ⟨P, hP⟩ : ∃ P, (2 ^ n : Nat) = P := ⟨_, rfl⟩
        have hP1 : 1 ≤ P := by rw [← hP]; exact Nat.two_pow_pos n
        rcases lendE_cases f hn6 with he | he
        · have HT := hide (tot_lend hbud.out he)
          rw [hP] at HT ⊢
          have HFN := hide (fit_next hpk.out.1 hP1 (by rw [hpk.out.2]; exact HT.out.2))
          obtain ⟨z7, hz7⟩ : ∃ z, w7.heap.size = z := ⟨_, rfl⟩
          have HZ7 := hide hz7
          have hzz : z ≤ z7 := by have := HZ.out; omega
          have HBM7 := hide (HB7.out.mono (S' := fun b => b < z7 ∧ ((b < z ∧ S1 b) ∨ z ≤ b)) fun b h1 h2 => ⟨hz7 ▸ h1, h2⟩)
          have HFM7 := hide (HF7.out.mono (S' := fun b => (b < z ∧ S2 b) ∨ z7 ≤ b) fun b h1 h2 => .inl h2)
          have HLN := hide (hbud.out.lent (n : Int)).1
          rw [he, HN0.out 0]
          clear hz7 hP
          go_wp2_with fail
          refine Calls.mono (flend_any (P : Int) w7 HFM7.out hlie.out fun b hb => .inr (HZ7.out ▸ hb)) ?_
          rw [HFN.out.1, HN0.out 0]
          rintro e w9 ⟨rfl, hf9, hk9⟩
          have HF9 := hide hf9
          have HB9 := hide (HBM7.out.kp hk9 fun b h1 h2 => by
            rcases h2 with h2 | h2
            · rcases h1.2 with h3 | h3
              · exact hdis.out b h3.2 h2.2
              · omega
            · omega)
          have HK9 := hide (HK7.out.trans (hk9.mono fun b _ h => show Hi w.heap.size b by
            rcases h with h | h
            · exact hlo.out b (.inr h.2)
            · unfold Hi; omega))
          have HLI := hide (show Lie 0 (flB bs (P : Int)) by
            have h2 := pack_fits bs 0 P hP1 (by have := HT.out.2; have := hpk.out.2; omega)
            rw [hpk.out.1, Nat.zero_add] at h2
            rw [(fl_some (bs := bs) (btw_iff.2 ⟨by omega, by have := HT.out.2; omega⟩ : btw (P : Int) 1 64 = true) h2).2.2]
            exact (hlie.out.ins hP1 h2).1)
          clear hf9 hk9
          go_wp2_with fail
          go_roundw
          case rel => exact ⟨k + 1, _, _, _, _, _, _, by go_num, h1, by omega, rfl, HB9.out, HF9.out, fun b h3 h4 => (by
            rcases h4 with h4 | h4
            · rcases h3.2 with h5 | h5
              · exact hdis.out b h5.2 h4.2
              · omega
            · omega), fun b h => (by
            rcases h with h | h
            · rcases h.2 with h5 | h5
              · exact hlo.out b (.inl h5.2)
              · omega
            · rcases h with h5 | h5
              · exact hlo.out b (.inr h5.2)
              · omega), HLN.out, HLI.out, ⟨HFN.out.2.1, by rw [HFN.out.2.2, HT.out.1, hpk.out.2]⟩, HK9.out⟩
          case measure => (simp [intOf]; omega)
        · rw [hP]
          rw [he, HN4.out 0]
          obtain ⟨z7, hz7⟩ : ∃ z, w7.heap.size = z := ⟨_, rfl⟩
          have HZ7 := hide hz7
          have hzz : z ≤ z7 := by have := HZ.out; omega
          have HFM7 := hide (HF7.out.mono (S' := fun b => (b < z ∧ S2 b) ∨ z7 ≤ b) fun b h1 h2 => .inl h2)
          clear hz7 hP
          go_wp2_with fail
          refine Calls.mono (flend_any (P : Int) w7 HFM7.out hlie.out fun b hb => .inr (HZ7.out ▸ hb)) ?_
          rintro e w9 ⟨rfl, hf9, hk9⟩
          have HK9 := hide (HK7.out.trans (hk9.mono fun b _ h => show Hi w.heap.size b by
            rcases h with h | h
            · exact hlo.out b (.inr h.2)
            · unfold Hi; omega))
          obtain ⟨er, her⟩ : ∃ er, errV (flE bs (P : Int)) = er := ⟨_, rfl⟩
          rw [her]
          clear hf9 hk9 her
          go_wp2
          go_ret
          exact ⟨rfl, HK9.out.mono fun b hb h => by unfold Hi at h; omega⟩
    · have hor : k = orders.length ∨ (k < orders.length ∧ k = 70) := by omega
      clear hlt
      rcases hor with rfl | ⟨h1, rfl⟩
      · go_wp2
        go_ret
        exact ⟨rfl, hkp.out.mono fun b hb h => by unfold Hi at h; omega⟩
      · go_wp2
        go_ret
        exact ⟨rfl, hkp.out.mono fun b hb h => by unfold Hi at h; omega⟩
end Go.Proofs.Ytfhfakkdilngbaa
