/- The reference's arena of halved blocks: Lend, Back. -/
import Derived.Test.YtibdddkcjijlaaaDoorBudRef2
namespace Go.Proofs.YtibdddkcjijlaaaDoor
open Go.RowKit
set_option linter.unusedSimpArgs false

/-! ### Plainly: lists of blocks by rising places -/
theorem pairs_ext : ∀ {l1 l2 : List (Nat × Nat)}, l1.Pairwise (fun a b => a.1 < b.1) → l2.Pairwise (fun a b => a.1 < b.1) → (∀ x, x ∈ l1 ↔ x ∈ l2) → l1 = l2
  | [], [], _, _, _ => rfl
  | [], b :: s, _, _, h => by have := (h b).2 (List.mem_cons_self ..); cases this
  | a :: r, [], _, _, h => by have := (h a).1 (List.mem_cons_self ..); cases this
  | a :: r, b :: s, h1, h2, h => by
    rw [List.pairwise_cons] at h1 h2
    have e : a = b := by
      rcases List.mem_cons.1 ((h a).1 (List.mem_cons_self ..)) with e | e
      · exact e
      · rcases List.mem_cons.1 ((h b).2 (List.mem_cons_self ..)) with e' | e'
        · exact e'.symm
        · have := h1.1 b e'; have := h2.1 a e; omega
    subst e
    rw [pairs_ext h1.2 h2.2 fun x => ⟨fun hx => by
      rcases List.mem_cons.1 ((h x).1 (List.mem_cons_of_mem _ hx)) with e | e
      · have := h1.1 x hx; subst e; omega
      · exact e, fun hx => by
      rcases List.mem_cons.1 ((h x).2 (List.mem_cons_of_mem _ hx)) with e | e
      · have := h2.1 x hx; subst e; omega
      · exact e⟩]
theorem lentTo_rising (ln : Nat → Option Nat) (k : Nat) : (lentTo ln k).Pairwise (fun a b => a.1 < b.1) := by
  unfold lentTo
  refine List.Pairwise.filterMap _ ?_ List.pairwise_lt_range
  intro a a' h b hb b' hb'
  obtain ⟨o, _, rfl⟩ := Option.map_eq_some_iff.1 hb
  obtain ⟨o', _, rfl⟩ := Option.map_eq_some_iff.1 hb'
  exact h
theorem ins_rising {a o : Nat} : ∀ {l : List (Nat × Nat)}, l.Pairwise (fun a b => a.1 < b.1) → (∀ b ∈ l, b.1 ≠ a) → (insAt l (aheadN l a) (a, o)).Pairwise (fun a b => a.1 < b.1)
  | [], _, _ => by simp [insAt, aheadN]
  | b :: r, h, hn => by
    rw [List.pairwise_cons] at h
    unfold aheadN
    have hb := hn b (List.mem_cons_self ..)
    split
    · rename_i hlt
      rw [insAt_succ, List.pairwise_cons]
      refine ⟨fun y hy => ?_, ins_rising h.2 fun c hc => hn c (List.mem_cons_of_mem _ hc)⟩
      rcases mem_insAt.1 hy with e | e
      · rw [e]; exact hlt
      · exact h.1 y e
    · rename_i hlt
      rw [insAt_zero, List.pairwise_cons, List.pairwise_cons]
      refine ⟨fun y hy => ?_, h⟩
      rcases List.mem_cons.1 hy with e | e
      · rw [e]; show a < b.1; omega
      · have := h.1 y e; show a < y.1; omega
theorem lentL_put {ln : Nat → Option Nat} {a o : Nat} (ha : a < 64) (hn : ln a = none) : insAt (lentL ln) (aheadN (lentL ln) a) (a, o) = lentL (upd ln a (some o)) := by
  have hno : ∀ b ∈ lentL ln, b.1 ≠ a := fun b hb e => by
    have := (mem_lentTo.1 hb).2
    rw [e, hn] at this
    cases this
  refine pairs_ext (ins_rising (lentTo_rising _ _) hno) (lentTo_rising _ _) fun x => ?_
  rw [mem_insAt]
  unfold lentL
  rw [mem_lentTo, mem_lentTo]
  by_cases e : x.1 = a
  · rw [e, upd_same, hn]
    constructor
    · rintro (h | h)
      · subst h; exact ⟨ha, rfl⟩
      · cases h.2
    · rintro ⟨_, h⟩
      left
      injection h with h
      rw [← e, h]
  · rw [upd_other _ _ e]
    constructor
    · rintro (h | h)
      · exact absurd (by rw [h]) e
      · exact h
    · exact fun h => .inr h
theorem lentL_cut {ln : Nat → Option Nat} {i a : Nat} (hi : i < (lentL ln).length) (ha : ((lentL ln)[i]).1 = a) : (lentL ln).eraseIdx i = lentL (upd ln a none) := by
  have hr := lentTo_rising ln 64
  refine pairs_ext (hr.sublist (List.eraseIdx_sublist ..)) (lentTo_rising _ _) fun x => ?_
  rw [List.mem_eraseIdx_iff_getElem]
  unfold lentL at *
  rw [mem_lentTo]
  have hp := List.pairwise_iff_getElem.1 hr
  constructor
  · rintro ⟨j, hj, hne, rfl⟩
    have h1 := mem_lentTo.1 (List.getElem_mem hj)
    have h2 : ((lentTo ln 64)[j]).1 ≠ a := by
      rw [← ha]
      rcases Nat.lt_or_gt_of_ne hne with h | h
      · have := hp _ _ hj hi h; omega
      · have := hp _ _ hi hj h; omega
    rw [upd_other _ _ h2]
    exact h1
  · rintro ⟨h1, h2⟩
    by_cases e : x.1 = a
    · rw [e, upd_same] at h2; cases h2
    · rw [upd_other _ _ e] at h2
      obtain ⟨j, hj, e2⟩ := List.getElem_of_mem (mem_lentTo.2 ⟨h1, h2⟩)
      refine ⟨j, hj, fun e3 => ?_, e2⟩
      subst e3
      rw [e2] at ha
      exact e ha
theorem lentL_back {fr : Nat → List Nat} {ln : Nat → Option Nat} (H : Bud fr ln []) (x : Int) : backB (lentL ln) x = lentL (backBL ln x) ∧ backE (lentL ln) x = backBE ln x := by
  unfold backB backE backBL backBE
  rcases ixB_lt (lentL ln) x with h | ⟨k, hk, h⟩
  · have hn : lnI ln x = none := by
      unfold lnI
      split
      · rename_i h0
        cases e : ln x.toNat with
        | none => rfl
        | some o =>
          exfalso
          have hm : (x.toNat, o) ∈ lentL ln := mem_lentTo.2 ⟨(H.lal _ _ e).2.2, e⟩
          obtain ⟨j, hj, e2⟩ := List.getElem_of_mem hm
          unfold ixB at h
          cases e3 : (lentL ln).findIdx? fun b => decide ((b.1 : Int) = x) with
          | none =>
            have := List.findIdx?_eq_none_iff.1 e3 _ hm
            have : ¬ ((x.toNat : Int) = x) := by simpa using this
            omega
          | some i =>
            rw [e3] at h
            have h : (i : Int) < 0 := h
            omega
      · rfl
    rw [if_pos h, if_pos h, hn]
    exact ⟨rfl, rfl⟩
  · have hx : (((lentL ln)[k]).1 : Int) = x := by
      unfold ixB at h
      cases e3 : (lentL ln).findIdx? fun b => decide ((b.1 : Int) = x) with
      | none =>
        rw [e3] at h
        have h : (-1 : Int) = k := h
        omega
      | some i =>
        rw [e3] at h
        have h : (i : Int) = k := h
        obtain ⟨h1, h2, h3⟩ := List.findIdx?_eq_some_iff_getElem.1 e3
        have : i = k := by omega
        subst this
        simpa using h2
    have hs := (mem_lentTo.1 (List.getElem_mem hk)).2
    have hl : lnI ln x = some ((lentL ln)[k]).2 := by rw [← hx, lnI_nat]; exact hs
    rw [h, if_neg (show ¬ (k : Int) < 0 by omega), if_neg (show ¬ (k : Int) < 0 by omega), hl, Int.toNat_natCast]
    refine ⟨?_, rfl⟩
    rw [lentL_cut hk rfl, show ((lentL ln)[k]).1 = x.toNat by omega]
    rfl
theorem lend_first {fr : Nat → List Nat} {n k : Nat} (hk : k ≤ 6) (hnk : n ≤ k) (h1 : ∀ j, n ≤ j → j < k → (fr j).length = 0) (h2 : ¬ (fr k).length = 0) : lendE fr (n : Int) = 0 ∧ lendAt fr (n : Int) = (fr k).headD 0 := by
  obtain ⟨g1, g2, g3, g4⟩ := kF_spec (fr := fr) (7 - n) n (by omega)
  have e : kF fr n = k := by
    rcases Nat.lt_trichotomy (kF fr n) k with h | h | h
    · exact absurd (h1 _ g1 h) (g3 (by omega))
    · exact h
    · exact absurd (g4 k hnk h) h2
  have h0 : lendE fr (n : Int) = 0 := by
    unfold lendE
    rw [if_neg (by rw [btw_iff.2 ⟨by omega, by omega⟩]; decide), Int.toNat_natCast, e, if_neg (by omega)]
  refine ⟨h0, ?_⟩
  unfold lendAt
  rw [if_pos h0, Int.toNat_natCast, e]
theorem lend_none {fr : Nat → List Nat} {n : Nat} (hn : n ≤ 6) (h1 : ∀ j, n ≤ j → j < 7 → (fr j).length = 0) : lendE fr (n : Int) = 4 := by
  obtain ⟨g1, g2, g3, g4⟩ := kF_spec (fr := fr) (7 - n) n (by omega)
  have e : kF fr n = 7 := by
    rcases Nat.lt_or_ge (kF fr n) 7 with h | h
    · exact absurd (h1 _ g1 h) (g3 (by omega))
    · omega
  unfold lendE
  rw [if_neg (by rw [btw_iff.2 ⟨by omega, by omega⟩]; decide), Int.toNat_natCast, e, if_pos rfl]
theorem headD_get : ∀ {l : List Nat} (h : 0 < l.length), l.headD 0 = l[0]
  | [], h => absurd h (by decide)
  | _ :: _, _ => rfl
theorem lend_out {fr : Nat → List Nat} {x : Int} (h : btw x 0 6 = false) : lendE fr x = 1 := by
  unfold lendE; rw [if_pos h]
theorem lend_err {fr : Nat → List Nat} {ln : Nat → Option Nat} {x : Int} (h : ¬ lendE fr x = 0) : lendAt fr x = 0 ∧ lendL fr ln x = ln := by
  unfold lendAt lendL; rw [if_neg h, if_neg h]; exact ⟨rfl, rfl⟩

set_option maxRecDepth 100000 in
set_option maxHeartbeats 4000000 in
theorem rblend_any {F : Nat → Prop} (v : Value) (fr : Nat → List Nat) (ln : Nat → Option Nat) (x : Int) (w : World) (h : ArIs w F v (lentL ln)) (hB : Bud fr ln []) (hF : ∀ b, w.heap.size ≤ b → F b) :
    Calls Tryd.prog 18 #[v, .int .i64 x] w fun e w' => ∃ v', e = .returned (.tuple #[v', .int .i64 (lendAt fr x : Nat), .int .i64 (lendE fr x : Nat)]) ∧ ArIs w' F v' (lentL (lendL fr ln x)) ∧ Kp No w w' := by
  have HPUT := hide (fun (a o : Nat) (h1 : a < 64) (h2 : ln a = none) => lentL_put (o := o) h1 h2)
  have HLN := hide (show (lentL ln).length ≤ 64 from lentTo_len ln 64)
  have HLE := hide (show ∀ b ∈ lentL ln, b.1 < 64 ∧ b.2 ≤ 6 from fun b hb => ⟨(mem_lentTo.1 hb).1, (hB.lal _ _ (mem_lentTo.1 hb).2).1⟩)
  have HRF := hide (fun (k : Nat) (hk : k ≤ 6) => hB.ref (L := lentL ln) (fun b => mem_lentTo) hk)
  have HFL := hide (fun (k : Nat) (hk : k ≤ 6) => hB.len hk)
  have HBL := hide (hB.lent x).2
  have HFA := hide hB.fal
  have HH := hide h
  have HFF := hide hF
  obtain ⟨bs, hbs⟩ : ∃ bs, lentL ln = bs := ⟨_, rfl⟩
  have HBS := hide hbs
  rw [hbs] at h HH HPUT HLN HLE HRF
  obtain ⟨Aa, ca, Ab, cb, rfl⟩ := ar_slices h
  clear h hF hB hbs
  obtain ⟨W1, hW1⟩ : ∃ W1, w.alloc (.cells #[.slice Aa bs.length ca, .slice Ab bs.length cb] 26) = W1 := ⟨_, rfl⟩
  have HW1 := hide (show W1.heap.size = w.heap.size + 1 by rw [← hW1]; simp)
  have HK1 := hide (show Kp No w W1 by rw [← hW1]; exact (Kp.refl No w).alloc _)
  have HB1 := hide (show Blk W1 w.heap.size 26 #[.slice Aa bs.length ca, .slice Ab bs.length cb] by rw [← hW1]; exact Blk.new w _ _)
  obtain ⟨W2, hW2⟩ : ∃ W2, W1.alloc (.cells #[.slice none 0 0, .slice none 0 0] 26) = W2 := ⟨_, rfl⟩
  have HK2 := hide (show Kp No W1 W2 by rw [← hW2]; exact (Kp.refl No W1).alloc _)
  have HR2 := hide (show Blk W2 (w.heap.size + 1) 26 #[.slice none 0 0, .slice none 0 0] by rw [← hW2, ← HW1.out]; exact Blk.new W1 _ _)
  have HB2 := hide (HB1.out.kp HK2.out id)
  have HHW := hide ((HH.out.mono (F' := fun b => F b ∧ b < w.heap.size) fun b h1 h2 => ⟨h2, h1⟩).no (HK1.out.trans HK2.out))
  cases hbt : btw x 0 6 with
  | false =>
    have HE := hide (show lendE fr x = 1 ∧ lendAt fr x = 0 ∧ lentL (lendL fr ln x) = bs from by
      have h1 := lend_out (fr := fr) hbt
      obtain ⟨h2, h3⟩ := lend_err (fr := fr) (ln := ln) (x := x) (by rw [h1]; decide)
      exact ⟨h1, h2, by rw [h3]; exact HBS.out⟩)
    have hx : x < 0 ∨ 6 < x := by
      have := mt btw_iff.2 (by rw [hbt]; decide)
      omega
    have HE1 := hide hW1
    have HE2 := hide hW2
    obtain ⟨p0, p1⟩ : W2.cell? ⟨w.heap.size, 0, none⟩ = some (.slice Aa bs.length ca) ∧ W2.cell? ⟨w.heap.size, 1, none⟩ = some (.slice Ab bs.length cb) := ⟨HB2.out.cell 0, HB2.out.cell 1⟩
    obtain ⟨y1, y2, y3, y4, y5⟩ := HR2.out.a2
    clear hbt hW1 hW2
    go_enter Tryd.func18, Tryd.ntmps18
    rcases hx with hx | hx
    all_goals
      go_upto_region 1 with fail
      rw [HE1.out, HE2.out]
      go_wp2_with fail
      obtain ⟨t1, t2, t3, t4⟩ := ar_tell HHW.out (R := w.heap.size + 1) (fun b h => by omega) HR2.out rfl
      refine bodyPost_ret (v := .tuple #[.agg #[.slice Aa bs.length ca, .slice Ab bs.length cb], .int .i64 0, .int .i64 1]) (by simp [results, Tryd.results18, go_sem, t2, t3]) rfl ?_
      exact ⟨_, by rw [HE.out.1, HE.out.2.1]; rfl, by rw [HE.out.2.2]; exact t1.mono fun b _ h => h.1, (HK1.out.trans HK2.out).trans' t4 fun b hb e => by unfold At at e; omega⟩
  | true =>
    have HE1 := hide hW1
    have HE2 := hide hW2
    obtain ⟨n, rfl⟩ : ∃ n : Nat, x = n := ⟨x.toNat, by have := btw_iff.1 hbt; omega⟩
    have hn := btw_iff.1 hbt
    have hn6 : n ≤ 6 := by omega
    clear hbt hW1 hW2
    go_enter Tryd.func18, Tryd.ntmps18
    go_upto_region 1 with fail
    rw [HE1.out, HE2.out]
    go_wp2_with fail
    go_loopw [7] (fun q wr => ∃ k : Nat, q = .int .i64 k ∧ n ≤ k ∧ k ≤ 7 ∧ Hid (∀ j, n ≤ j → j < k → (fr j).length = 0) ∧ Hid (Kp No W2 wr)) (fun q _ => 7 - (intOf q).toNat)
    case atStart => exact ⟨n, rfl, Nat.le_refl _, by omega, fun j h1 h2 => absurd h2 (by omega), Kp.refl _ _⟩
    case round =>
      obtain ⟨k, rfl, hnk, hk, hno, hkr⟩ := hrel
      obtain ⟨p0, p1⟩ : wr.cell? ⟨w.heap.size, 0, none⟩ = some (.slice Aa bs.length ca) ∧ wr.cell? ⟨w.heap.size, 1, none⟩ = some (.slice Ab bs.length cb) := ⟨(HB2.out.kp hkr.out id).cell 0, (HB2.out.kp hkr.out id).cell 1⟩
      by_cases hlt : k ≤ 6
      · have HFR := hide (show Calls Tryd.prog 23 #[.agg #[.slice Aa bs.length ca, .slice Ab bs.length cb], .int .i64 (k : Nat)] wr fun e w' => ∃ v', e = .returned v' ∧ IntsIn w' (Hi wr.heap.size) v' (ni (fr k)) ∧ Kp No wr w' by
          have := rfrees_any _ bs k wr (HHW.out.no hkr.out) hlt HLE.out
          rw [HRF.out k hlt] at this
          exact this)
        have hlk : (fr k).length ≤ 64 := HFL.out k hlt
        go_wp2_with fail
        refine Calls.mono HFR.out ?_
        rintro e w5 ⟨v5, rfl, i5, hk5⟩
        obtain ⟨A5, c5, rfl, hc5, hm5, hcell5⟩ := id i5
        have HK5 := hide (hkr.out.trans hk5)
        have HI5 := hide i5
        clear i5 hk5 p0 p1
        obtain ⟨p0, p1⟩ : w5.cell? ⟨w.heap.size, 0, none⟩ = some (.slice Aa bs.length ca) ∧ w5.cell? ⟨w.heap.size, 1, none⟩ = some (.slice Ab bs.length cb) := ⟨(HB2.out.kp HK5.out id).cell 0, (HB2.out.kp HK5.out id).cell 1⟩
        rw [ni_length] at hc5 ⊢
        by_cases hz : (fr k).length = 0
        · have HNX := hide (show ∀ j, n ≤ j → j < k + 1 → (fr j).length = 0 from fun j h1 h2 => by
            by_cases e : j = k
            · rw [e]; exact hz
            · exact hno.out j h1 (by omega))
          have hz' : ¬ (0 : Int) < ((fr k).length : Int) := by omega
          clear hz hcell5
          go_wp2_with fail
          exact ⟨⟨k + 1, by go_num, by omega, by omega, HNX, HK5⟩, by simp [intOf]; omega⟩
        · have hz' : (0 : Int) < ((fr k).length : Int) := by omega
          obtain ⟨h0, hat⟩ := lend_first hlt hnk hno.out hz
          obtain ⟨b5, o5, rfl, hb5, c5'⟩ := hcell5 0 (by rw [ni_length]; omega)
          rw [ni_get (show 0 < (fr k).length by omega)] at c5'
          have hhd : (fr k).headD 0 = (fr k)[0]'(by omega) := headD_get (by omega)
          rw [hhd] at hat
          obtain ⟨a, ha⟩ : ∃ a, (fr k)[0]'(by omega) = a := ⟨_, rfl⟩
          rw [ha] at hat c5'
          have hbl := HBL.out h0
          rw [hat] at hbl
          have HG := hide (show lendE fr (n : Int) = 0 ∧ lendAt fr (n : Int) = a ∧ lentL (lendL fr ln (n : Int)) = insAt bs (aheadN bs a) (a, n) by
            refine ⟨h0, hat, ?_⟩
            unfold lendL
            rw [if_pos h0, hat, Int.toNat_natCast, HPUT.out a n hbl.1 hbl.2])
          have HC5 := hide (show ∀ W, Kp (At (w.heap.size + 1)) w5 W → W.cell? ⟨b5, o5, none⟩ = some (.int .i64 (a : Nat)) from fun W hW => hW.cell c5' fun e => by
            have h1 : wr.heap.size ≤ b5 := hb5
            have h2 := hkr.out.size
            have h3 := HR2.out.lt
            unfold At at e
            simp only at e
            omega)
          clear hz h0 hat hbl ha hhd hcell5
          obtain ⟨l, hl⟩ : ∃ l, (fr k).length = l := ⟨_, rfl⟩
          rw [hl] at hz' hc5 hlk ⊢
          clear hl
          go_wp2_with fail
          refine plan_start 12 (by kernel_rfl) rfl (fun hPT => ?_)
          refine plan_take (i := 1) (v := ?_) rfl (by kernel_rfl) (by kernel_rfl) (by kernel_rfl) (fun _ _ _ h => h) hPT (by rfl) ?_ ?_
          rotate_left
          · (intro w; go_simp; with_reducible rfl)
          (clear hPT; intro hPT; simp only [List.getElem_toArray, List.getElem_cons_zero, List.getElem_cons_succ, Act.put, List.setIfInBounds_toArray, List.set_cons_zero, List.set_cons_succ])
          refine plan_take (i := 2) (v := ?_) rfl (by kernel_rfl) (by kernel_rfl) (by kernel_rfl) (fun _ _ _ h => h) hPT (by rfl) ?_ ?_
          rotate_left
          · (intro w; go_simp; with_reducible rfl)
          (clear hPT; intro hPT; simp only [List.getElem_toArray, List.getElem_cons_zero, List.getElem_cons_succ, Act.put, List.setIfInBounds_toArray, List.set_cons_zero, List.set_cons_succ])
          refine plan_take (i := 4) (v := ?_) rfl (by kernel_rfl) (by kernel_rfl) (by kernel_rfl) (fun _ _ _ h => h) hPT (by rfl) ?_ ?_
          rotate_left
          · (intro w; go_simp; with_reducible rfl)
          (clear hPT; intro hPT; simp only [List.getElem_toArray, List.getElem_cons_zero, List.getElem_cons_succ, Act.put, List.setIfInBounds_toArray, List.set_cons_zero, List.set_cons_succ])
          refine plan_take (i := 6) (v := ?_) rfl (by kernel_rfl) (by kernel_rfl) (by kernel_rfl) (fun _ _ _ h => h) hPT (by rfl) ?_ ?_
          rotate_left
          · (intro w; go_simp; with_reducible rfl)
          (clear hPT; intro hPT; simp only [List.getElem_toArray, List.getElem_cons_zero, List.getElem_cons_succ, Act.put, List.setIfInBounds_toArray, List.set_cons_zero, List.set_cons_succ])
          refine plan_take (i := 7) (v := ?_) rfl (by kernel_rfl) (by kernel_rfl) (by kernel_rfl) (fun _ _ _ h => h) hPT (by rfl) ?_ ?_
          rotate_left
          · (intro w; go_simp; with_reducible rfl)
          (clear hPT; intro hPT; simp only [List.getElem_toArray, List.getElem_cons_zero, List.getElem_cons_succ, Act.put, List.setIfInBounds_toArray, List.set_cons_zero, List.set_cons_succ])
          refine plan_load (fun w' => w'.cell? ⟨w.heap.size, 0, none⟩ = some (.slice Aa bs.length ca) ∧ w'.cell? ⟨w.heap.size, 1, none⟩ = some (.slice Ab bs.length cb)) (i := 0) (v := ?_) rfl (by kernel_rfl) (by kernel_rfl) (by kernel_rfl) (fun _ _ _ h => h) hPT (by rfl) ?_ ?_ ?_
          rotate_left
          · (first | exact ⟨by assumption, by assumption⟩ | (go_simp; done))
          · (intro w hSw; (try dsimp only at hSw); obtain ⟨hSw1, hSw2⟩ := hSw; go_simp; with_reducible rfl)
          (clear hPT; intro hPT; simp only [List.getElem_toArray, List.getElem_cons_zero, List.getElem_cons_succ, Act.put, List.setIfInBounds_toArray, List.set_cons_zero, List.set_cons_succ])
          refine plan_load (fun w' => w'.cell? ⟨b5, o5, none⟩ = some (.int .i64 (a : Nat))) (i := 3) (v := ?_) rfl (by kernel_rfl) (by kernel_rfl) (by kernel_rfl) (fun _ _ _ h => h) hPT (by rfl) ?_ ?_ ?_
          rotate_left
          · (first | assumption | (go_simp; done))
          · (intro w hSw; (try dsimp only at hSw); go_simp; with_reducible rfl)
          (clear hPT; intro hPT; simp only [List.getElem_toArray, List.getElem_cons_zero, List.getElem_cons_succ, Act.put, List.setIfInBounds_toArray, List.set_cons_zero, List.set_cons_succ])
          refine plan_load (fun w' => w'.cell? ⟨b5, o5, none⟩ = some (.int .i64 (a : Nat))) (i := 8) (v := ?_) rfl (by kernel_rfl) (by kernel_rfl) (by kernel_rfl) (fun _ _ _ h => h) hPT (by rfl) ?_ ?_ ?_
          rotate_left
          · (first | assumption | (go_simp; done))
          · (intro w hSw; (try dsimp only at hSw); go_simp; with_reducible rfl)
          (clear hPT; intro hPT; simp only [List.getElem_toArray, List.getElem_cons_zero, List.getElem_cons_succ, Act.put, List.setIfInBounds_toArray, List.set_cons_zero, List.set_cons_succ])
          refine plan_one (i := 5) (by kernel_rfl) rfl (by rfl) (fun K hK => ?_)
          (try simp only [List.getElem_toArray, List.getElem_cons_zero, List.getElem_cons_succ, Act.put, List.setIfInBounds_toArray, List.set_cons_zero, List.set_cons_succ])
          go_simp
          refine Calls.mono (with_any _ bs a n _ (HHW.out.no (HK5.out.trans (by (repeat (first | exact Kp.refl _ _ | with_reducible refine Kp.drewN ?_ _ | with_reducible refine Kp.drew ?_ | with_reducible refine Kp.alloc ?_ _ | with_reducible refine Kp.setCell ?_ (fun _ => ?_) _)); all_goals (simp_all; omega)))) HLN.out) ?_
          rintro e w6 ⟨v6, rfl, i6, hk6⟩
          have hk56 : Kp No w5 w6 := (show Kp No w5 _ from (by (repeat (first | exact Kp.refl _ _ | with_reducible refine Kp.drewN ?_ _ | with_reducible refine Kp.drew ?_ | with_reducible refine Kp.alloc ?_ _ | with_reducible refine Kp.setCell ?_ (fun _ => ?_) _)); all_goals (simp_all; omega))).trans hk6
          obtain ⟨A6, c6, B6, d6, rfl⟩ := ar_slices i6
          have HK6 := hide (HK5.out.trans hk56)
          have HS5 := hide HK5.out.size
          have HRS := hide HR2.out.lt
          have HI6 := hide (i6.mono (F' := fun b => F b ∧ w.heap.size + 2 ≤ b) fun b _ hb => by have h1 : w5.heap.size ≤ b := (by simpa [Hi] using hb); have := HS5.out; have := HRS.out; exact ⟨HFF.out b (by omega), by omega⟩)
          obtain ⟨y1, y2, y3, y4, y5⟩ := (HR2.out.kp HK6.out id).a2
          refine hK.out _ _ _ (t_cons (HC5.out _ hk56.of_no) (t_nil _)) (k_keep (k_drop (by kernel_rfl) (k_drop (by kernel_rfl) k_nil))) (fun hPT' => ?_)
          (clear hPT hK K; have hPT := hPT'; clear hPT'; try simp only [List.getElem_toArray, List.getElem_cons_zero, List.getElem_cons_succ, Act.put, List.setIfInBounds_toArray, List.set_cons_zero, List.set_cons_succ])
          refine plan_one (i := 9) (by kernel_rfl) rfl (by rfl) (fun K hK => ?_)
          (try simp only [List.getElem_toArray, List.getElem_cons_zero, List.getElem_cons_succ, Act.put, List.setIfInBounds_toArray, List.set_cons_zero, List.set_cons_succ])
          go_simp
          refine hK.out _ _ _ (t_cons (HC5.out _ (hk56.of_no.trans ((kp_put _ _ _ _).trans (kp_put _ _ _ _)))) (t_nil _)) k_same (fun hPT' => ?_)
          (clear hPT hK K; have hPT := hPT'; clear hPT'; try simp only [List.getElem_toArray, List.getElem_cons_zero, List.getElem_cons_succ, Act.put, List.setIfInBounds_toArray, List.set_cons_zero, List.set_cons_succ])
          refine plan_take (i := 10) (v := ?_) rfl (by kernel_rfl) (by kernel_rfl) (by kernel_rfl) (fun _ _ _ h => h) hPT (by rfl) ?_ ?_
          rotate_left
          · (intro w; go_simp; with_reducible rfl)
          (clear hPT; intro hPT; simp only [List.getElem_toArray, List.getElem_cons_zero, List.getElem_cons_succ, Act.put, List.setIfInBounds_toArray, List.set_cons_zero, List.set_cons_succ])
          refine plan_take (i := 11) (v := ?_) rfl (by kernel_rfl) (by kernel_rfl) (by kernel_rfl) (fun _ _ _ h => h) hPT (by rfl) ?_ ?_
          rotate_left
          · (intro w; go_simp; with_reducible rfl)
          (clear hPT; intro hPT; simp only [List.getElem_toArray, List.getElem_cons_zero, List.getElem_cons_succ, Act.put, List.setIfInBounds_toArray, List.set_cons_zero, List.set_cons_succ])
          refine plan_done (by kernel_rfl) ?_ _
          clear hPT
          go_wp2_with fail
          obtain ⟨t1, t2, t3, t4⟩ := ar_tell HI6.out (R := w.heap.size + 1) (fun b h => by omega) (HR2.out.kp HK6.out id) rfl
          refine bodyPost_ret (v := .tuple #[.agg #[.slice A6 (insAt bs (aheadN bs a) (a, n)).length c6, .slice B6 (insAt bs (aheadN bs a) (a, n)).length d6], .int .i64 (a : Nat), .int .i64 0]) (by simp [results, Tryd.results18, go_sem, t2, t3]) rfl ?_
          exact ⟨_, by rw [HG.out.1, HG.out.2.1]; rfl, by rw [HG.out.2.2]; exact t1.mono fun b _ h => h.1, ((HK1.out.trans HK2.out).trans HK6.out).trans' t4 fun b hb e => by unfold At at e; omega⟩
      · obtain rfl : k = 7 := by omega
        have HE := hide (show lendE fr (n : Int) = 4 ∧ lendAt fr (n : Int) = 0 ∧ lentL (lendL fr ln (n : Int)) = bs from by
          have h1 := lend_none (fr := fr) hn6 hno.out
          obtain ⟨h2, h3⟩ := lend_err (fr := fr) (ln := ln) (x := n) (by rw [h1]; decide)
          exact ⟨h1, h2, by rw [h3]; exact HBS.out⟩)
        obtain ⟨y1, y2, y3, y4, y5⟩ := (HR2.out.kp hkr.out id).a2
        go_wp2_with fail
        obtain ⟨t1, t2, t3, t4⟩ := ar_tell (HHW.out.no hkr.out) (R := w.heap.size + 1) (fun b h => by omega) (HR2.out.kp hkr.out id) rfl
        refine bodyPost_ret (v := .tuple #[.agg #[.slice Aa bs.length ca, .slice Ab bs.length cb], .int .i64 0, .int .i64 4]) (by simp [results, Tryd.results18, go_sem, t2, t3]) rfl ?_
        exact ⟨_, by rw [HE.out.1, HE.out.2.1]; rfl, by rw [HE.out.2.2]; exact t1.mono fun b _ h => h.1, ((HK1.out.trans HK2.out).trans hkr.out).trans' t4 fun b hb e => by unfold At at e; omega⟩
theorem rbback_any {F : Nat → Prop} (v : Value) (fr : Nat → List Nat) (ln : Nat → Option Nat) (x : Int) (w : World) (h : ArIs w F v (lentL ln)) (hB : Bud fr ln []) (hF : ∀ b, w.heap.size ≤ b → F b) :
    Calls Tryd.prog 12 #[v, .int .i64 x] w fun e w' => ∃ v', e = .returned (.tuple #[v', .int .i64 (backBE ln x : Nat)]) ∧ ArIs w' F v' (lentL (backBL ln x)) ∧ Kp No w w' := by
  have := rback_any v (lentL ln) x w h (lentTo_len ln 64) hF
  rw [(lentL_back hB x).1, (lentL_back hB x).2] at this
  exact this
end Go.Proofs.YtibdddkcjijlaaaDoor
