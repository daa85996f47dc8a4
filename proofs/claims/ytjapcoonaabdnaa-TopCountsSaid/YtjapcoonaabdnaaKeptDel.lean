/- slices.DeleteFunc over keys that are counted, at entries of count 0: its own text, walked. -/
import Derived.Test.YtjapcoonaabdnaaKept
namespace Go.Proofs.Ytjapcoonaabdnaa
open Go.RowKit
set_option linter.unusedSimpArgs false

theorem kp_g (w : World) (g k : Nat) (u : Value) : Kp (At g) w (w.setCell ⟨g, k, none⟩ u) := Kp.setCell (S := At g) (p := ⟨g, k, none⟩) (Kp.refl _ w) (fun _ => rfl) u
theorem zeros_kept (n : Nat) : (Builtin.zeroCells (Value.cells (.agg #[.int .i64 0, .int .i64 0])) n).toList = List.replicate (n * 2) (.int .i64 0) := by
  apply List.ext_getElem
  · simp [Builtin.zeroCells, Value.cells]
  · intro i h1 h2
    simp only [Builtin.zeroCells, Value.cells, Array.getElem_toList, Array.getElem_map, Array.getElem_range, List.getElem_replicate]
    have : i % 2 = 0 ∨ i % 2 = 1 := by omega
    rcases this with h | h <;> simp [h]

set_option maxRecDepth 100000 in
set_option maxHeartbeats 4000000 in
theorem delZ_any {base g c : Nat} (l : List (Nat × Nat)) (w : World) (h : KRow w base (.slice (some ⟨g, 0, none⟩) l.length c) l) (hl40 : l.length ≤ 40) :
    Calls Try.prog 30 #[.slice (some ⟨g, 0, none⟩) l.length c, .func (.func 31) #[] #[]] w fun e w' => e = .returned (.slice (some ⟨g, 0, none⟩) (someK l).length c) ∧ KRow w' base (.slice (some ⟨g, 0, none⟩) (someK l).length c) (someK l) ∧ Kp (At g) w w' := by
  have H := hide h
  have HC := hide (own_lt h (g := g) rfl)
  obtain ⟨_, _, e, hc, hm, _⟩ := h.form
  cases e
  clear h
  go_enter Try.func30, Try.ntmps30
  go_wp2_with fail
  refine Calls.mono (findZ_any _ l _ H.out hl40) ?_
  rintro e w1 ⟨⟨k, hk, hb, hcase⟩, hk1⟩
  have H1 := hide (H.out.no hk1)
  have HK1 := hide hk1
  have HB := hide hb
  clear hk1 hb
  rcases hcase with ⟨rfl, rfl⟩ | ⟨hkl, h0, rfl⟩
  · have HS := hide (someK_all fun j hj => HB.out j hj hj)
    go_wp2_with fail
    go_ret
    exact ⟨by rw [HS.out]; rfl, by rw [HS.out]; exact H1.out, HK1.out.of_no⟩
  · have HKF := hide (keptTo_first hkl HB.out h0)
    have hk1 : (((k : Nat) : Int) == -1) = false := by rw [beq_eq_false_iff_ne]; omega
    clear h0
    go_wp2_with fail
    go_loopw [5, 6] (fun iv jv wr => ∃ (j : Nat) (a : Nat × Nat) (m : List (Nat × Nat)), iv = .int .i64 (keptTo l j).length ∧ jv = .int .i64 j ∧ j ≤ l.length ∧ (keptTo l j).length + m.length + 1 = j ∧ Hid (KRow wr base (.slice (some ⟨g, 0, none⟩) l.length c) (keptTo l j ++ a :: m ++ l.drop j)) ∧ Hid (Kp (At g) w wr)) (fun _ jv _ => l.length - (intOf jv).toNat)
    case atStart =>
      have hkl2 : (keptTo l (k + 1)).length = k := by rw [HKF.out, List.length_take]; omega
      refine ⟨k + 1, l[k], [], by rw [hkl2], by go_num, hkl, by rw [hkl2]; rfl, ?_, HK1.out.of_no⟩
      have e : keptTo l (k + 1) ++ l[k] :: [] ++ l.drop (k + 1) = l := by
        rw [HKF.out, List.append_assoc]
        show l.take k ++ ([l[k]] ++ l.drop (k + 1)) = l
        rw [show [l[k]] ++ l.drop (k + 1) = l.drop k by rw [List.drop_eq_getElem_cons hkl]; rfl, List.take_append_drop]
      rw [e]
      exact H1.out
    case round =>
      obtain ⟨j, a, m, rfl, rfl, hj, hlen, hr, hkp⟩ := hrel
      have hRl : (keptTo l j ++ a :: m ++ l.drop j).length = l.length := by simp only [List.length_append, List.length_cons, List.length_drop]; omega
      by_cases hlt : j < l.length
      · obtain ⟨A', c', e, _, _, hcell⟩ := hr.out.form
        rw [hRl] at e
        cases e
        obtain ⟨g1, e1, c1, c2, _, _, hgl, _⟩ := hcell j (by omega)
        cases e1
        have hRj : (keptTo l j ++ a :: m ++ l.drop j)[j]'(by omega) = l[j] := by
          rw [List.getElem_append_right (by simp; omega)]
          simp only [List.length_append, List.length_cons, List.getElem_drop]
          congr 1
          omega
        rw [hRj] at c1 c2
        obtain ⟨b, hb⟩ : ∃ b, l[j] = b := ⟨_, rfl⟩
        have HZ := hide (isZ_any b.1 b.2)
        have HKS := hide (keptTo_succ hlt)
        have HDR := hide (show l.drop j = b :: l.drop (j + 1) by rw [List.drop_eq_getElem_cons hlt, hb])
        rw [hb] at c1 c2 HKS
        obtain ⟨i, hi⟩ : ∃ i, (keptTo l j).length = i := ⟨_, rfl⟩
        have HI := hide hi
        have hij : i < j := by omega
        rw [hi]
        clear hcell hRj hb hi
        go_wp2_with fail
        refine Calls.mono (HZ.out _) ?_
        rintro e w5 ⟨rfl, hk5⟩
        have HKA := hide ((Kp.refl No wr).alloc (.cells #[.int .i64 b.1, .int .i64 b.2] 46))
        have HB5 := hide ((Blk.new wr 46 #[.int .i64 b.1, .int .i64 b.2]).kp hk5 id)
        have HR5 := hide (hr.out.no (HKA.out.trans hk5))
        have HK5 := hide (hkp.out.trans (HKA.out.trans hk5).of_no)
        clear hk5 c1 c2
        by_cases hz : b.2 = 0
        · rw [decide_eq_true hz]
          have HNX := hide (show keptTo l (j + 1) = keptTo l j by rw [HKS.out, if_pos hz])
          clear hz
          go_wp2_with fail
          go_roundw
          case rel =>
            refine ⟨j + 1, a, m ++ [b], by rw [HNX.out, HI.out], by go_num, hlt, by rw [HNX.out]; simp; omega, ?_, HK5.out⟩
            have := HR5.out
            rw [HDR.out] at this
            rw [HNX.out]
            exact hide (by simpa using this)
          case measure => (simp [intOf]; omega)
        · rw [decide_eq_false hz]
          have HNX := hide (show keptTo l (j + 1) = keptTo l j ++ [b] by rw [HKS.out, if_neg hz])
          clear hz
          obtain ⟨A', c', e, _, _, hcell⟩ := HR5.out.form
          rw [hRl] at e
          cases e
          obtain ⟨g1, e1, c1, c2, f1, f2, hgl2, _⟩ := hcell i (by omega)
          cases e1
          have hil : (i : Int) < (l.length : Int) := by omega
          have HS := hide (show KRow ((w5.setCell ⟨g, i * 2, none⟩ (.int .i64 b.1)).setCell ⟨g, i * 2 + 1, none⟩ (.int .i64 b.2)) base (.slice (some ⟨g, 0, none⟩) l.length c) (keptTo l (j + 1) ++ (m ++ [b]) ++ l.drop (j + 1)) from by
            have h1 := HR5.out.set1 (g := g) rfl (k := i) (by omega) b.1
            have h2 := h1.set2 (g := g) rfl (k := i) (by rw [List.length_set]; omega) b.2
            simp only [List.getElem_set_self, List.set_set] at h2
            rw [HDR.out, ← HI.out, show ((b.1, b.2) : Nat × Nat) = b from rfl, mix_set] at h2
            rw [HNX.out, ← HI.out]
            exact h2)
          have hne : wr.heap.size ≠ g := by omega
          obtain ⟨y1, y2, y3, y4, y5⟩ := HB5.out.a2
          have HKE := hide (show Kp (At g) w ((w5.setCell ⟨g, i * 2, none⟩ (.int .i64 b.1)).setCell ⟨g, i * 2 + 1, none⟩ (.int .i64 b.2)) from (HK5.out.trans (kp_g _ _ _ _)).trans (kp_g _ _ _ _))
          clear hcell
          go_wp2_with fail
          go_roundw
          case rel =>
            obtain ⟨a', m', hm', hml⟩ : ∃ a' m', m ++ [b] = a' :: m' ∧ m'.length = m.length := by
              rcases m with _ | ⟨x, r⟩
              · exact ⟨b, [], rfl, rfl⟩
              · exact ⟨x, r ++ [b], rfl, by simp⟩
            have hs := HS.out
            rw [hm'] at hs
            exact ⟨j + 1, a', m', by rw [HNX.out, List.length_append, HI.out]; rfl, by go_num, hlt, by have hI := HI.out; rw [HNX.out, List.length_append, HI.out, hml]; simp; omega, hs, HKE.out⟩
          case measure => (simp [intOf]; omega)
      · obtain rfl : j = l.length := by omega
        rw [List.drop_length, List.append_nil] at hr hRl
        have HKL := hide (keptTo_all l)
        obtain ⟨i, hi⟩ : ∃ i, (keptTo l l.length).length = i := ⟨_, rfl⟩
        have HI := hide hi
        have hij : i < l.length := by omega
        rw [hi]
        obtain ⟨R, hR⟩ : ∃ R, keptTo l l.length ++ a :: m = R := ⟨_, rfl⟩
        have hRt : R.take i = someK l := by rw [← hR, ← HI.out, List.take_left' rfl, HKL.out]
        rw [hR] at hr hRl
        have hRl2 : (kkv R).length = l.length * 2 := by rw [kkv_length, hRl]
        have hr' : wr.ownsRow base 46 2 (.slice (some ⟨g, 0, none⟩) l.length c) l.length (kkv R) := by have := hr.out; unfold KRow at this; rwa [hRl] at this
        have hzl : (List.replicate ((l.length - i) * 2) (Value.int .i64 0)).length = (l.length - i) * 2 := by simp
        have HFIN := hide (show KRow (wr.setCells g (i * 2) (List.replicate ((l.length - i) * 2) (.int .i64 0))) base (.slice (some ⟨g, 0, none⟩) i c) (someK l) from by
          have o1 := ownK_fill (g := g) rfl (List.replicate ((l.length - i) * 2) (.int .i64 0)) (i * 2) _ _ hr' (by rw [hzl, hRl2]; omega)
          have o2 := ownK_cut o1 (m := i) (by omega)
          have e : (overAt (kkv R) (i * 2) (List.replicate ((l.length - i) * 2) (.int .i64 0))).take (i * 2) = kkv (someK l) := by
            unfold overAt
            rw [List.append_assoc, List.take_append_of_le_length (by rw [List.length_take, hRl2]; omega), List.take_take, Nat.min_self, kkv_take, hRt]
          rw [e] at o2
          have hil : (someK l).length = i := by rw [← hRt, List.length_take, hRl]; omega
          unfold KRow
          rw [hil]
          exact o2)
        have HKFIN := hide (hkp.out.trans (kp_fill (g := g) (List.replicate ((l.length - i) * 2) (.int .i64 0)) (i * 2) wr))
        have HSL := hide (show (someK l).length = i by rw [← hRt, List.length_take, hRl]; omega)
        have hcl : ∀ ty sc, (Builtin.clear_ #[42] ty #[.slice (some ⟨g, i * 2, none⟩) (l.length - i) sc]).run Try.prog wr = .ok (.tuple #[]) (wr.setCells g (i * 2) (List.replicate ((l.length - i) * 2) (.int .i64 0))) := fun ty sc => by
          have hh : ∀ j, j < l.length * 2 → (wr.cell? ⟨g, j, none⟩).isSome = true ∧ wr.frozen? ⟨g, j, none⟩ = false := fun j hj => by
            obtain ⟨full, _, hfl, _, _, hheap, _⟩ := ownK_full hr'
            exact ⟨by rw [cell_of_row wr g _ _ _ _ hheap, List.getElem?_toArray, List.getElem?_eq_getElem (by omega)]; rfl, Blk.free (t := 46) hheap _⟩
          have hst := run_storeCells_cells (P := Try.prog) g (i * 2) (List.replicate ((l.length - i) * 2) (.int .i64 0)) 0 wr (fun j hj => (hh _ (by rw [hzl] at hj; omega)).1) (fun j hj => (hh _ (by rw [hzl] at hj; omega)).2) (fun v hv => by rw [List.eq_of_mem_replicate hv]; rfl)
          rw [Nat.add_zero] at hst
          have hz : ∀ w, (zeroValue 46).run Try.prog w = .ok (.agg #[.int .i64 0, .int .i64 0]) w := Try.zeroValue46
          obtain ⟨q, hq⟩ : ∃ q, l.length - i = q + 1 := ⟨l.length - i - 1, by omega⟩
          rw [hq] at hst ⊢
          simp [Builtin.clear_, run_underlying Try.underlying42, hz, zeros_kept, hst]
        clear hi hRt hr hr' hR hRl hRl2 hzl
        go_wp2_with fail
        go_ret
        exact ⟨by rw [HSL.out]; rfl, by rw [HSL.out]; exact HFIN.out, HKFIN.out⟩
end Go.Proofs.Ytjapcoonaabdnaa
