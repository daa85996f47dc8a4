/- slices.Delete of one block out of a row of one's own: the library's own text is walked. No condition beyond the sizes that are written out. -/
import Derived.Test.YtibdddkcjijlaaaDoorInsBlk
namespace Go.Proofs.YtibdddkcjijlaaaDoor
open Go.RowKit Go.Lib
set_option linter.unusedSimpArgs false

/-- one block is deleted -/
def DelBlkPost (w : World) (base g m c : Nat) (us : List Value) (i : Nat) (e : Ending) (w' : World) : Prop :=
  e = .returned (.slice (some ⟨g, 0, none⟩) m c) ∧ w'.ownsRow base 56 2 (.slice (some ⟨g, 0, none⟩) m c) m (us.take (i * 2) ++ us.drop ((i + 1) * 2)) ∧ Kp (At g) w w'

set_option maxRecDepth 100000 in
set_option maxHeartbeats 4000000 in
theorem delBlk_any {base g m c i : Nat} {us : List Value} (w : World) (h : w.ownsRow base 56 2 (.slice (some ⟨g, 0, none⟩) (m + 1) c) (m + 1) us) (hi : i ≤ m) (hn : m ≤ 1000) (h1u : ∀ u ∈ us, u.oneCell' = true) :
    Calls Tryd.prog 33 #[.slice (some ⟨g, 0, none⟩) (m + 1) c, .int .i64 i, .int .i64 ((i : Int) + 1)] w (DelBlkPost w base g m c us i) := by
  obtain ⟨full, hus, hfl, hnc, hc63, hheap, hfull⟩ := ownK_full h
  have hul : us.length = (m + 1) * 2 := h.1
  obtain ⟨i0, hi0, hz0, hzs, hzb⟩ := info_parts Tryd.infoInsBlk
  have hdl : (us.drop ((i + 1) * 2)).length = (m - i) * 2 := by rw [List.length_drop, hul]; omega
  have hheap' : w.drew.heap[g]? = some (.cells full.toArray 56 (0, 0)) := hheap
  have hcs : ∀ j v, us[j]? = some v → w.cell? ⟨g, j, none⟩ = some v := fun j v hj => by
    rw [cell_of_row w g j _ _ _ hheap, List.getElem?_toArray]
    rw [← hus, List.getElem?_take] at hj
    split at hj
    · exact hj
    · cases hj
  obtain ⟨A, hA, hsrc⟩ : ∃ A : Addr, (if c = i + 1 then some (⟨g, 0, none⟩ : Addr) else some ⟨g, (i + 1) * 2, none⟩) = some A ∧ Hid (∀ t u, (us.drop ((i + 1) * 2))[t]? = some u → w.drew.cell? (A.add t) = some u) := by
    by_cases h : c = i + 1
    · refine ⟨⟨g, 0, none⟩, by simp [h], fun t u hu => ?_⟩
      rw [List.getElem?_eq_none (by omega)] at hu
      cases hu
    · refine ⟨⟨g, (i + 1) * 2, none⟩, by simp [h], fun t u hu => ?_⟩
      rw [List.getElem?_drop] at hu
      rw [Addr.add_lit]
      exact hcs _ _ hu
  obtain ⟨W1, hW1⟩ : ∃ W1, W1 = w.drew.setCells g (0 + i * 2) (us.drop ((i + 1) * 2)) := ⟨_, rfl⟩
  have s1 : Hid ((us.drop ((i + 1) * 2)).length = (m - i) * 2) := hdl
  have s2 : Hid (∀ u ∈ us.drop ((i + 1) * 2), u.oneCell' = true) := fun u hu => h1u u (List.mem_of_mem_drop hu)
  have s3 : Hid (∀ t, t < (us.drop ((i + 1) * 2)).length → (w.drew.cell? ⟨g, 0 + i * 2 + t, none⟩).isSome = true ∧ w.drew.frozen? ⟨g, 0 + i * 2 + t, none⟩ = false) := by
    intro t ht
    rw [hdl] at ht
    exact ⟨by rw [cell_of_row w.drew g _ _ _ _ hheap', List.getElem?_toArray, List.getElem?_eq_getElem (by omega)]; rfl, Blk.free (t := 56) hheap' _⟩
  have hkp1 : Kp (At g) w W1 := by rw [hW1]; exact (Kp.refl _ w).drew.trans (kp_fill _ _ _)
  have hol : (overAt full (i * 2) (us.drop ((i + 1) * 2))).length = c * 2 := by rw [overAt_length (by rw [hdl, hfl]; omega), hfl]
  have hown1 : W1.ownsRow base 56 2 (.slice (some ⟨g, 0, none⟩) c c) c (overAt full (i * 2) (us.drop ((i + 1) * 2))) := by
    rw [hW1, Nat.zero_add]
    exact ownK_fill rfl _ _ _ _ (ownK_drew hfull) (by rw [hdl, hfl]; omega)
  have hW1h : W1.heap[g]? = some (.cells (overAt full (i * 2) (us.drop ((i + 1) * 2))).toArray 56 (0, 0)) := by
    obtain ⟨f2, e2, l2, _, _, h2, _⟩ := ownK_full hown1
    rw [List.take_of_length_le (by omega)] at e2
    rw [← e2]
    exact h2
  have hcl : ∀ ty sc, (Builtin.clear_ #[48] ty #[.slice (some ⟨g, m * 2, none⟩) 1 sc]).run Tryd.prog W1 = .ok (.tuple #[]) (W1.setCells g (m * 2) [.int .i64 0, .int .i64 0]) := fun ty sc => by
    have hst := run_storeCells_cells (P := Tryd.prog) g (m * 2) [.int .i64 0, .int .i64 0] 0 W1 (fun j hj => by simp at hj; rw [cell_of_row W1 g _ _ _ _ hW1h, List.getElem?_toArray, List.getElem?_eq_getElem (by omega)]; rfl) (fun j hj => Blk.free (t := 56) hW1h _) (fun v hv => by simp at hv; subst hv; rfl)
    have hz : ∀ w, (zeroValue 56).run Tryd.prog w = .ok (.agg #[.int .i64 0, .int .i64 0]) w := Tryd.zeroValue56
    have hzc : (Builtin.zeroCells (Value.cells (.agg #[.int .i64 0, .int .i64 0])) 1).toList = [.int .i64 0, .int .i64 0] := by
      have h : Array.range 2 = #[0, 1] := by decide
      simp [Builtin.zeroCells, Value.cells, h]
    simp [Builtin.clear_, run_underlying Tryd.underlying48, hz, hzc, hst]
  have hfin : (W1.setCells g (m * 2) [.int .i64 0, .int .i64 0]).ownsRow base 56 2 (.slice (some ⟨g, 0, none⟩) m c) m (us.take (i * 2) ++ us.drop ((i + 1) * 2)) := by
    have o2 := ownK_cut (ownK_fill (g := g) rfl [.int .i64 0, .int .i64 0] (m * 2) _ _ hown1 (by rw [hol]; simp; omega)) (m := m) (by omega)
    have e : (overAt (overAt full (i * 2) (us.drop ((i + 1) * 2))) (m * 2) [.int .i64 0, .int .i64 0]).take (m * 2) = us.take (i * 2) ++ us.drop ((i + 1) * 2) := by
      have e1 : full.take (i * 2) = us.take (i * 2) := by rw [← hus, List.take_take, Nat.min_eq_left (by omega)]
      unfold overAt
      rw [List.append_assoc _ [Value.int .i64 0, .int .i64 0], List.take_append_of_le_length (by simp only [List.length_take, List.length_append, List.length_drop]; omega), List.take_take, Nat.min_self, e1]
      exact List.take_left' (by simp only [List.length_append, List.length_take, List.length_drop]; omega)
    rw [e] at o2
    exact o2
  have HF := hide hfin
  have HK := hide (hkp1.trans (kp_fill (g := g) [.int .i64 0, .int .i64 0] (m * 2) W1))
  have mixed : Tryd.prog.follows .mixedOrders = true := by kernel_rfl
  have HW := hide hW1
  have h2 : (i : Int) ≤ (c : Int) := by omega
  have h3 : (i : Int) + 1 ≤ (c : Int) := by omega
  have h4 : ¬ ((i : Int) = (i : Int) + 1) := by omega
  have h5 : (i : Int) ≤ (m : Int) := by omega
  have htn : ((i : Int) + 1).toNat = i + 1 := by omega
  have htm : ((m : Int) + 1).toNat = m + 1 := by omega
  have h6 : ¬ (c = m) := by omega
  have h7 : (m : Int) + 1 ≤ (c : Int) := by omega
  have h8 : (0 : Int) ≤ (i : Int) + 1 := by omega
  clear hfin hkp1 hW1 h hus hfl hheap hfull hul hheap' hcs hW1h hol hown1 hdl h1u hz0 hzb
  go_enter Tryd.func33, Tryd.ntmps33
  go_wp2
  go_region_law_o (refine step_append_room rfl (.tmp 22) (.tmp 25) 48 rfl 56 i0 2 Tryd.underlying48 hi0 hzs g 0 i c (by simp [Act.eval, Act.put]) A (m - i) (c - (i + 1)) (us.drop ((i + 1) * 2)) (by simp [Act.eval, Act.put]) s1.out hsrc.out s2.out (by omega) s3.out ?_; rw [← HW.out]; try rw [show i + (m - i) = m by omega])
  go_wp2
  go_ret
  exact ⟨rfl, HF.out, HK.out⟩
end Go.Proofs.YtibdddkcjijlaaaDoor
