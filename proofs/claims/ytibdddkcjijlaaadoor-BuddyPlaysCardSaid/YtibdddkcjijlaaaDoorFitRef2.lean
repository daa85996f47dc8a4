/- The reference's arena: LendFit, Back. -/
import Derived.Test.YtibdddkcjijlaaaDoorFitRef
import Derived.Deep.Cut
namespace Go.Proofs.YtibdddkcjijlaaaDoor
open Go.RowKit
set_option linter.unusedSimpArgs false

theorem ar_slices {w : World} {F : Nat → Prop} {v : Value} {bs : List (Nat × Nat)} (h : ArIs w F v bs) : ∃ A c B d, v = .agg #[.slice A bs.length c, .slice B bs.length d] := by
  obtain ⟨a, b, rfl, h1, h2⟩ := h
  obtain ⟨A, c, rfl, _⟩ := h1
  obtain ⟨B, d, rfl, _⟩ := h2
  exact ⟨A, c, B, d, by rw [fsts_length, snds_length]⟩

/-- an arena is told -/
theorem ar_tell {w : World} {F : Nat → Prop} {A B : Option Addr} {n c d R : Nat} {bs : List (Nat × Nat)} {us : Array Value} (h : ArIs w F (.agg #[.slice A n c, .slice B n d]) bs) (hF : ∀ b, F b → b ≠ R) (hb : Blk w R 26 us) (hus : us.size = 2) :
    ArIs ((w.setCell ⟨R, 0, none⟩ (.slice A n c)).setCell ⟨R, 1, none⟩ (.slice B n d)) F (.agg #[.slice A n c, .slice B n d]) bs ∧ ((w.setCell ⟨R, 0, none⟩ (.slice A n c)).setCell ⟨R, 1, none⟩ (.slice B n d)).cell? ⟨R, 0, none⟩ = some (.slice A n c) ∧ ((w.setCell ⟨R, 0, none⟩ (.slice A n c)).setCell ⟨R, 1, none⟩ (.slice B n d)).cell? ⟨R, 1, none⟩ = some (.slice B n d) ∧ Kp (At R) w ((w.setCell ⟨R, 0, none⟩ (.slice A n c)).setCell ⟨R, 1, none⟩ (.slice B n d)) := by
  have hk : Kp (At R) w ((w.setCell ⟨R, 0, none⟩ (.slice A n c)).setCell ⟨R, 1, none⟩ (.slice B n d)) := (kp_put _ _ _ _).trans (kp_put _ _ _ _)
  obtain ⟨u, v, rfl⟩ : ∃ u v, us = #[u, v] := by
    rcases us with ⟨l⟩
    match l, hus with
    | [u, v], _ => exact ⟨u, v, rfl⟩
  exact ⟨h.kp hk fun b hb e => hF b hb e, ((hb.set_ 0 (.slice A n c)).set_ 1 (.slice B n d)).cell 0, ((hb.set_ 0 (.slice A n c)).set_ 1 (.slice B n d)).cell 1, hk⟩

set_option maxRecDepth 100000 in
set_option maxHeartbeats 4000000 in
theorem rlend_any {F : Nat → Prop} (v : Value) (bs : List (Nat × Nat)) (x : Int) (w : World) (h : ArIs w F v bs) (hL : Lie 0 bs) (hF : ∀ b, w.heap.size ≤ b → F b) :
    Calls Tryd.prog 6 #[v, .int .i64 x] w fun e w' => ∃ v', e = .returned (.tuple #[v', .int .i64 (flP bs x : Nat), .int .i64 (flE bs x : Nat)]) ∧ ArIs w' F v' (flB bs x) ∧ Kp No w w' := by
  have HH := hide h
  have HL := hide hL
  have HFF := hide hF
  obtain ⟨Aa, ca, Ab, cb, rfl⟩ := ar_slices h
  clear h hL hF
  obtain ⟨W1, hW1⟩ : ∃ W1, w.alloc (.cells #[.slice Aa bs.length ca, .slice Ab bs.length cb] 26) = W1 := ⟨_, rfl⟩
  have HW1 := hide (show W1.heap.size = w.heap.size + 1 by rw [← hW1]; simp)
  have HK1 := hide (show Kp No w W1 by rw [← hW1]; exact (Kp.refl No w).alloc _)
  have HB1 := hide (show Blk W1 w.heap.size 26 #[.slice Aa bs.length ca, .slice Ab bs.length cb] by rw [← hW1]; exact Blk.new w _ _)
  obtain ⟨W2, hW2⟩ : ∃ W2, W1.alloc (.cells #[.slice none 0 0, .slice none 0 0] 26) = W2 := ⟨_, rfl⟩
  have HK2 := hide (show Kp No W1 W2 by rw [← hW2]; exact (Kp.refl No W1).alloc _)
  have HR2 := hide (show Blk W2 (w.heap.size + 1) 26 #[.slice none 0 0, .slice none 0 0] by rw [← hW2, ← HW1.out]; exact Blk.new W1 _ _)
  have HB2 := hide (HB1.out.kp HK2.out id)
  have HHW := hide ((HH.out.mono (F' := fun b => F b ∧ b < w.heap.size) fun b h1 h2 => ⟨h2, h1⟩).no (HK1.out.trans HK2.out))
  cases hbt : btw x 1 64 with
  | false =>
    have HE := hide (fl_range (bs := bs) hbt)
    have hx : x < 1 ∨ 64 < x := by
      have := mt btw_iff.2 (by rw [hbt]; decide)
      omega
    have HE1 := hide hW1
    have HE2 := hide hW2
    obtain ⟨p0, p1⟩ : W2.cell? ⟨w.heap.size, 0, none⟩ = some (.slice Aa bs.length ca) ∧ W2.cell? ⟨w.heap.size, 1, none⟩ = some (.slice Ab bs.length cb) := ⟨HB2.out.cell 0, HB2.out.cell 1⟩
    obtain ⟨y1, y2, y3, y4, y5⟩ := HR2.out.a2
    clear hbt hW1 hW2
    go_enter Tryd.func6, Tryd.ntmps6
    rcases hx with hx | hx
    · go_upto_region 1 with fail
      rw [HE1.out, HE2.out]
      go_wp2_with fail
      obtain ⟨t1, t2, t3, t4⟩ := ar_tell HHW.out (R := w.heap.size + 1) (fun b h => by omega) HR2.out rfl
      refine bodyPost_ret (v := .tuple #[.agg #[.slice Aa bs.length ca, .slice Ab bs.length cb], .int .i64 0, .int .i64 1]) (by simp [results, Tryd.results6, go_sem, t2, t3]) rfl ?_
      exact ⟨_, by rw [HE.out.1, HE.out.2.1]; rfl, by rw [HE.out.2.2]; exact t1.mono fun b _ h => h.1, (HK1.out.trans HK2.out).trans' t4 fun b hb e => by unfold At at e; omega⟩
    · go_upto_region 1 with fail
      rw [HE1.out, HE2.out]
      go_wp2_with fail
      obtain ⟨t1, t2, t3, t4⟩ := ar_tell HHW.out (R := w.heap.size + 1) (fun b h => by omega) HR2.out rfl
      refine bodyPost_ret (v := .tuple #[.agg #[.slice Aa bs.length ca, .slice Ab bs.length cb], .int .i64 0, .int .i64 1]) (by simp [results, Tryd.results6, go_sem, t2, t3]) rfl ?_
      exact ⟨_, by rw [HE.out.1, HE.out.2.1]; rfl, by rw [HE.out.2.2]; exact t1.mono fun b _ h => h.1, (HK1.out.trans HK2.out).trans' t4 fun b hb e => by unfold At at e; omega⟩
  | true =>
    have HE1 := hide hW1
    have HE2 := hide hW2
    obtain ⟨n, rfl⟩ : ∃ n : Nat, x = n := ⟨x.toNat, by have := btw_iff.1 hbt; omega⟩
    have hn := btw_iff.1 hbt
    have HBT := hide hbt
    have HLE := hide (show ∀ b ∈ bs, b.1 + b.2 ≤ 64 from fun b hb => (HL.out.all b hb).2.2)
    have HLN := hide (show bs.length ≤ 64 from by have := HL.out.len; omega)
    have HFL := hide (fits_lend (size := n) (by omega) HL.out)
    clear hbt hW1 hW2
    go_enter Tryd.func6, Tryd.ntmps6
    go_upto_region 1 with fail
    rw [HE1.out, HE2.out]
    go_wp2_with fail
    go_loopw [7] (fun q wr => ∃ k : Nat, q = .int .i64 k ∧ k ≤ 64 ∧ Hid (∀ y, y < k → fitsF bs y n = false) ∧ Hid (Kp No W2 wr)) (fun q _ => 64 - (intOf q).toNat)
    case atStart => exact ⟨0, rfl, by omega, fun y h => absurd h (by omega), Kp.refl _ _⟩
    case round =>
      obtain ⟨k, rfl, hk, hno, hkr⟩ := hrel
      obtain ⟨p0, p1⟩ : wr.cell? ⟨w.heap.size, 0, none⟩ = some (.slice Aa bs.length ca) ∧ wr.cell? ⟨w.heap.size, 1, none⟩ = some (.slice Ab bs.length cb) := ⟨(HB2.out.kp hkr.out id).cell 0, (HB2.out.kp hkr.out id).cell 1⟩
      by_cases hlt : k < 64
      · have hlt' : (k : Int) < 64 := by omega
        go_wp2_with fail
        refine Calls.mono (fits_any _ bs k n wr (HHW.out.no hkr.out) (by omega) (by omega) HLE.out) ?_
        rintro e w5 ⟨rfl, hk5⟩
        have HK5 := hide (hkr.out.trans hk5)
        clear hk5 p0 p1
        obtain ⟨p0, p1⟩ : w5.cell? ⟨w.heap.size, 0, none⟩ = some (.slice Aa bs.length ca) ∧ w5.cell? ⟨w.heap.size, 1, none⟩ = some (.slice Ab bs.length cb) := ⟨(HB2.out.kp HK5.out id).cell 0, (HB2.out.kp HK5.out id).cell 1⟩
        cases hf : fitsF bs k n with
        | false =>
          have HNX := hide (show ∀ y, y < k + 1 → fitsF bs y n = false from fun y hy => by
            by_cases e : y = k
            · rw [e]; exact hf
            · exact hno.out y (by omega))
          clear hf
          go_wp2_with fail
          exact ⟨⟨k + 1, by go_num, hlt, HNX, HK5⟩, by simp [intOf]; omega⟩
        | true =>
          have HG := hide (show flE bs n = 0 ∧ flP bs n = k ∧ flB bs n = insAt bs (aheadN bs k) (k, n) by
            have hfl := HFL.out
            cases e : lendIx n 0 bs with
            | none =>
              rw [e] at hfl
              have := hfl k (Nat.zero_le _)
              rw [hf] at this
              cases this
            | some y =>
              obtain ⟨i, q⟩ := y
              rw [e] at hfl
              obtain ⟨j1, j2, j3⟩ := hfl
              have hqk : q = k := by
                rcases Nat.lt_trichotomy q k with h | h | h
                · have := hno.out q h; rw [j1] at this; cases this
                · exact h
                · have := j2 k (Nat.zero_le _) h; rw [hf] at this; cases this
              subst hqk
              obtain ⟨e1, e2, e3⟩ := fl_some HBT.out e
              exact ⟨e1, e2, by rw [e3, ← head_ahead, j3]⟩)
          clear hf
          go_wp2_with fail
          refine Calls.mono (with_any _ bs k n w5 (HHW.out.no HK5.out) HLN.out) ?_
          rintro e w6 ⟨v6, rfl, i6, hk6⟩
          obtain ⟨A6, c6, B6, d6, rfl⟩ := ar_slices i6
          have HK6 := hide (HK5.out.trans hk6)
          have HS5 := hide HK5.out.size
          have HRS := hide HR2.out.lt
          have HI6 := hide (i6.mono (F' := fun b => F b ∧ w.heap.size + 2 ≤ b) fun b _ hb => by have h1 : w5.heap.size ≤ b := hb; have := HS5.out; have := HRS.out; exact ⟨HFF.out b (by omega), by omega⟩)
          obtain ⟨y1, y2, y3, y4, y5⟩ := (HR2.out.kp HK6.out id).a2
          clear hk6 i6 p0 p1
          go_wp2_with fail
          obtain ⟨t1, t2, t3, t4⟩ := ar_tell HI6.out (R := w.heap.size + 1) (fun b h => by omega) (HR2.out.kp HK6.out id) rfl
          refine bodyPost_ret (v := .tuple #[.agg #[.slice A6 (insAt bs (aheadN bs k) (k, n)).length c6, .slice B6 (insAt bs (aheadN bs k) (k, n)).length d6], .int .i64 (k : Nat), .int .i64 0]) (by simp [results, Tryd.results6, go_sem, t2, t3]) rfl ?_
          exact ⟨_, by rw [HG.out.1, HG.out.2.1]; rfl, by rw [HG.out.2.2]; exact t1.mono fun b _ h => h.1, ((HK1.out.trans HK2.out).trans HK6.out).trans' t4 fun b hb e => by unfold At at e; omega⟩
      · obtain rfl : k = 64 := by omega
        have HE := hide (show flE bs n = 4 ∧ flP bs n = 0 ∧ flB bs n = bs by
          have hfl := HFL.out
          cases e : lendIx n 0 bs with
          | none => exact fl_none HBT.out e
          | some y =>
            obtain ⟨i, q⟩ := y
            rw [e] at hfl
            have := (Lie.ins (by omega) HL.out e).2.2.2
            have h2 := hno.out q (by omega)
            rw [hfl.1] at h2
            cases h2)
        obtain ⟨y1, y2, y3, y4, y5⟩ := (HR2.out.kp hkr.out id).a2
        go_wp2_with fail
        obtain ⟨t1, t2, t3, t4⟩ := ar_tell (HHW.out.no hkr.out) (R := w.heap.size + 1) (fun b h => by omega) (HR2.out.kp hkr.out id) rfl
        refine bodyPost_ret (v := .tuple #[.agg #[.slice Aa bs.length ca, .slice Ab bs.length cb], .int .i64 0, .int .i64 4]) (by simp [results, Tryd.results6, go_sem, t2, t3]) rfl ?_
        exact ⟨_, by rw [HE.out.1, HE.out.2.1]; rfl, by rw [HE.out.2.2]; exact t1.mono fun b _ h => h.1, ((HK1.out.trans HK2.out).trans hkr.out).trans' t4 fun b hb e => by unfold At at e; omega⟩

theorem ix_place (bs : List (Nat × Nat)) (x : Int) : ixOf (fsts bs) x = ixB bs x := by
  have hg : ∀ j (hj : j < bs.length), (fsts bs)[j]? = some ((bs[j]).1 : Int) := fun j hj => by simp [fsts, List.getElem?_eq_getElem hj]
  unfold ixB
  cases e : bs.findIdx? fun b => decide ((b.1 : Int) = x) with
  | none =>
    have h := List.findIdx?_eq_none_iff.1 e
    refine ixOf_none fun j hj => ?_
    rw [fsts_length] at hj
    rw [hg j hj]
    have := h _ (List.getElem_mem hj)
    simpa using this
  | some i =>
    obtain ⟨h1, h2, h3⟩ := List.findIdx?_eq_some_iff_getElem.1 e
    refine ixOf_at (by rw [fsts_length]; exact h1) ?_ fun j hj => ?_
    · have := hg i h1
      rw [List.getElem?_eq_getElem (by rw [fsts_length]; exact h1)] at this
      rw [Option.some.inj this]
      simpa using h2
    · rw [hg j (by omega)]
      have := h3 j hj
      simpa using this
theorem ix_lt (bs : List (Nat × Nat)) (x : Int) : ixB bs x = -1 ∨ ∃ i : Nat, ixB bs x = i ∧ i < bs.length := by
  unfold ixB
  cases e : bs.findIdx? fun b => decide ((b.1 : Int) = x) with
  | none => exact .inl rfl
  | some i => exact .inr ⟨i, rfl, (List.findIdx?_eq_some_iff_getElem.1 e).1⟩

set_option maxRecDepth 100000 in
set_option maxHeartbeats 4000000 in
theorem rback_any {F : Nat → Prop} (v : Value) (bs : List (Nat × Nat)) (x : Int) (w : World) (h : ArIs w F v bs) (hl : bs.length ≤ 64) (hF : ∀ b, w.heap.size ≤ b → F b) :
    Calls Tryd.prog 12 #[v, .int .i64 x] w fun e w' => ∃ v', e = .returned (.tuple #[v', .int .i64 (backE bs x : Nat)]) ∧ ArIs w' F v' (backB bs x) ∧ Kp No w w' := by
  have HH := hide h
  have HFF := hide hF
  have HLN := hide hl
  obtain ⟨Aa, ca, Ab, cb, rfl⟩ := ar_slices h
  clear h hF hl
  obtain ⟨W1, hW1⟩ : ∃ W1, w.alloc (.cells #[.slice Aa bs.length ca, .slice Ab bs.length cb] 26) = W1 := ⟨_, rfl⟩
  have HW1 := hide (show W1.heap.size = w.heap.size + 1 by rw [← hW1]; simp)
  have HK1 := hide (show Kp No w W1 by rw [← hW1]; exact (Kp.refl No w).alloc _)
  have HB1 := hide (show Blk W1 w.heap.size 26 #[.slice Aa bs.length ca, .slice Ab bs.length cb] by rw [← hW1]; exact Blk.new w _ _)
  obtain ⟨W2, hW2⟩ : ∃ W2, W1.alloc (.cells #[.slice none 0 0, .slice none 0 0] 26) = W2 := ⟨_, rfl⟩
  have HK2 := hide (show Kp No W1 W2 by rw [← hW2]; exact (Kp.refl No W1).alloc _)
  have HR2 := hide (show Blk W2 (w.heap.size + 1) 26 #[.slice none 0 0, .slice none 0 0] by rw [← hW2, ← HW1.out]; exact Blk.new W1 _ _)
  have HB2 := hide (HB1.out.kp HK2.out id)
  have HHW := hide ((HH.out.mono (F' := fun b => F b ∧ b < w.heap.size) fun b h1 h2 => ⟨h2, h1⟩).no (HK1.out.trans HK2.out))
  have HPL := hide (show IntsIn W2 (fun b => F b ∧ b < w.heap.size) (.slice Aa bs.length ca) (fsts bs) from by
    obtain ⟨a, b, e, h1, h2⟩ := HHW.out
    injection e with e
    injection e with e
    injection e with e1 e
    subst e1
    exact h1)
  have HIX := hide (ix_place bs x)
  have HE1 := hide hW1
  have HE2 := hide hW2
  obtain ⟨p0, p1⟩ : W2.cell? ⟨w.heap.size, 0, none⟩ = some (.slice Aa bs.length ca) ∧ W2.cell? ⟨w.heap.size, 1, none⟩ = some (.slice Ab bs.length cb) := ⟨HB2.out.cell 0, HB2.out.cell 1⟩
  obtain ⟨y1, y2, y3, y4, y5⟩ := HR2.out.a2
  clear hW1 hW2
  rcases ix_lt bs x with hi | ⟨i, hi, hil⟩
  · have HE := hide (show backE bs x = 5 ∧ backB bs x = bs by unfold backE backB; rw [hi]; exact ⟨rfl, rfl⟩)
    rw [hi] at HIX
    clear hi
    go_enter Tryd.func12, Tryd.ntmps12
    go_upto_region 1 with fail
    rw [HE1.out, HE2.out]
    go_wp2_with fail
    refine Calls.mono (place1_any _ (fsts bs) x W2 HPL.out) ?_
    rw [HIX.out]
    rintro e w5 ⟨rfl, rfl⟩
    go_wp2_with fail
    obtain ⟨t1, t2, t3, t4⟩ := ar_tell HHW.out (R := w.heap.size + 1) (fun b h => by omega) HR2.out rfl
    refine bodyPost_ret (v := .tuple #[.agg #[.slice Aa bs.length ca, .slice Ab bs.length cb], .int .i64 5]) (by simp [results, Tryd.results12, go_sem, t2, t3]) rfl ?_
    exact ⟨_, by rw [HE.out.1]; rfl, by rw [HE.out.2]; exact t1.mono fun b _ h => h.1, (HK1.out.trans HK2.out).trans' t4 fun b hb e => by unfold At at e; omega⟩
  · have HE := hide (show backE bs x = 0 ∧ backB bs x = bs.eraseIdx i by unfold backE backB; rw [hi, if_neg (by omega), if_neg (by omega), Int.toNat_natCast]; exact ⟨rfl, rfl⟩)
    rw [hi] at HIX
    clear hi
    go_enter Tryd.func12, Tryd.ntmps12
    go_upto_region 1 with fail
    rw [HE1.out, HE2.out]
    go_wp2_with fail
    refine Calls.mono (place1_any _ (fsts bs) x W2 HPL.out) ?_
    rw [HIX.out]
    rintro e w5 ⟨rfl, rfl⟩
    go_wp2_with fail
    refine Calls.mono (without_any _ bs i W2 HHW.out HLN.out) ?_
    rintro e w6 ⟨v6, rfl, i6, hk6⟩
    obtain ⟨A6, c6, B6, d6, rfl⟩ := ar_slices i6
    have HK6 := hide hk6
    have HS2 := hide HK2.out.size
    have HRS := hide HR2.out.lt
    have HI6 := hide (i6.mono (F' := fun b => F b ∧ w.heap.size + 2 ≤ b) fun b _ hb => by have h1 : W2.heap.size ≤ b := hb; have := HRS.out; exact ⟨HFF.out b (by omega), by omega⟩)
    clear y1 y2 y3 y4 y5
    obtain ⟨y1, y2, y3, y4, y5⟩ := (HR2.out.kp HK6.out id).a2
    clear hk6 i6 p0 p1
    go_wp2_with fail
    obtain ⟨t1, t2, t3, t4⟩ := ar_tell HI6.out (R := w.heap.size + 1) (fun b h => by omega) (HR2.out.kp HK6.out id) rfl
    refine bodyPost_ret (v := .tuple #[.agg #[.slice A6 (bs.eraseIdx i).length c6, .slice B6 (bs.eraseIdx i).length d6], .int .i64 0]) (by simp [results, Tryd.results12, go_sem, t2, t3]) rfl ?_
    exact ⟨_, by rw [HE.out.1]; rfl, by rw [HE.out.2]; exact t1.mono fun b _ h => h.1, ((HK1.out.trans HK2.out).trans HK6.out).trans' t4 fun b hb e => by unfold At at e; omega⟩
end Go.Proofs.YtibdddkcjijlaaaDoor
