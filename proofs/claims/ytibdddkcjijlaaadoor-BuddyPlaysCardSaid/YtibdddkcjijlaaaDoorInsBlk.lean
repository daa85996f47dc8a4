/- slices.Insert of one element, at blocks, into a row of one's own: the library's own text is walked (after the shelf's text on slices.Insert at ints). No condition beyond the sizes that are written out. -/
import Derived.Test.YtibdddkcjijlaaaDoorOwnK
namespace Go.Proofs.YtibdddkcjijlaaaDoor
open Go.RowKit Go.Lib
set_option linter.unusedSimpArgs false

theorem Tryd.infoInsBlk : (Tryd.prog.info? 56).map (fun i => (i.zero, i.size, i.bytes)) = some (some (.agg #[.int .i64 0, .int .i64 0]), 2, 16) := by kernel_rfl

set_option maxRecDepth 100000 in
set_option maxHeartbeats 4000000 in
theorem insInsBlk_shift {base g n c i N : Nat} {us new : List Value} (w : World) (h : w.ownsRow base 56 2 (.slice (some ⟨g, 0, none⟩) n c) n us) (hi : i < n) (hroom : n + 1 ≤ c) (hn : n ≤ 1000)
    (hb : Blk w N 56 new.toArray) (hnew : new.length = 2) (h1u : ∀ u ∈ us, u.oneCell' = true) (h1 : ∀ u ∈ new, u.oneCell' = true) (hne : N ≠ g) :
    Calls Tryd.prog 27 #[.slice (some ⟨g, 0, none⟩) n c, .int .i64 i, .slice (some ⟨N, 0, none⟩) 1 1] w (InsPost w base 56 2 (.slice (some ⟨g, 0, none⟩) n c) n us new i) := by
  obtain ⟨full, hus, hfl, hnc, hc63, hheap, hfull⟩ := ownK_full h
  have hul : us.length = n * 2 := h.1
  have hcell : ∀ j, j < c * 2 → (w.cell? ⟨g, j, none⟩).isSome = true := fun j hj => by
    rw [cell_of_row w g j _ _ _ hheap, List.getElem?_toArray, List.getElem?_eq_getElem (by omega)]; rfl
  have hfz : ∀ j, w.frozen? ⟨g, j, none⟩ = false := fun j => Blk.free (t := 56) hheap j
  have hz1 : ¬ ((1 : Int) = 0) := by omega
  have hz2 : ¬ ((i : Int) = (n : Int)) := by omega
  have hsz : (Tryd.prog.info? 56).map (·.size) = some 2 := by
    obtain ⟨i0, hi0, h0, h1, h2⟩ := info_parts Tryd.infoInsBlk
    rw [hi0]; simp [h1]
  have hsa : w.shape? N = some (56, new.length) := by unfold Blk at hb; simp [World.shape?, hb]
  have hsb : w.shape? g = some (56, full.length) := by simp [World.shape?, hheap]
  have hov : ∀ lb cb, (callFunc 42 #[.slice (some ⟨N, 0, none⟩) 1 1, .slice (some ⟨g, (i + 1) * 2, none⟩) lb cb]).run Tryd.prog w = .ok (.value (.bool false)) w := fun lb cb => by
    rw [run_callFunc_extern Tryd.func42 (by kernel_rfl) (by kernel_rfl) (by kernel_rfl) (e := Extern.SlicesOverlaps.overlaps #[48, 48] #[4]) (by kernel_rfl),
      Lib.run_overlaps_apart w 48 4 56 Tryd.underlying48 2 Tryd.sizeOf56 ⟨N, 0, none⟩ ⟨g, (i + 1) * 2, none⟩ 1 1 lb cb hne _ _ _ _ hsa hsb (by rw [hfl]; omega) (Blk.free hb 0) (Blk.free hb _)]
    rfl
  have hdl : (us.drop (i * 2)).length = (n - i) * 2 := by rw [List.length_drop, hul, Nat.sub_mul]
  have hcp1 : ∀ ty dc sc, (Builtin.copy_ #[48, 48] ty #[.slice (some ⟨g, (i + 1) * 2, none⟩) (n - i) dc, .slice (some ⟨g, i * 2, none⟩) (n + 1 - i) sc]).run Tryd.prog w.drew = .ok (goInt (n - i : Nat)) (w.drew.setCells g ((i + 1) * 2) (us.drop (i * 2))) := fun ty dc sc =>
    run_copyK w.drew _ _ ty 56 g ((i + 1) * 2) (n - i) dc 2 (n - i) ⟨g, i * 2, none⟩ (n + 1 - i) sc (us.drop (i * 2)) Tryd.underlying48 hsz (by simp only [Nat.min_def]; split <;> omega) hdl
      (fun j v hj => by
        rw [Addr.add_lit]
        show w.cell? _ = _
        rw [cell_of_row w g _ _ _ _ hheap, List.getElem?_toArray]
        rw [List.getElem?_drop, ← hus, List.getElem?_take] at hj
        split at hj
        · first | (rw [← hj]; done) | (rw [← hj]; congr 1; omega) | (rw [← hj]; congr 1)
        · cases hj)
      (fun j hj => by rw [hdl] at hj; exact hcell _ (by omega)) (fun j hj => hfz _) (fun v hv => h1u v (List.mem_of_mem_drop hv))
  have hown1 : (w.drew.setCells g ((i + 1) * 2) (us.drop (i * 2))).ownsRow base 56 2 (.slice (some ⟨g, 0, none⟩) c c) c (overAt full ((i + 1) * 2) (us.drop (i * 2))) := by
    have key : ∀ x, x = (i + 1) * 2 → (w.drew.setCells g x (us.drop (i * 2))).ownsRow base 56 2 (.slice (some ⟨g, 0, none⟩) c c) c (overAt full ((i + 1) * 2) (us.drop (i * 2))) := by
      rintro x rfl
      exact ownK_fill rfl _ _ _ _ hfull (by rw [hdl, hfl]; omega)
    exact key _ (by omega)
  have hkp1 : Kp (At g) w (w.drew.setCells g ((i + 1) * 2) (us.drop (i * 2))) := (Kp.refl _ w).drew.trans (kp_fill _ _ _)
  obtain ⟨W1, hW1⟩ : ∃ W1, W1 = w.drew.setCells g ((i + 1) * 2) (us.drop (i * 2)) := ⟨_, rfl⟩
  rw [← hW1] at hcp1 hown1 hkp1
  have hbW : Blk W1 N 56 new.toArray := hb.kp hkp1 (by unfold At; omega)
  obtain ⟨full1, _, hfl1, _, _, hheap1, _⟩ := ownK_full hown1
  have hcp2 : ∀ (W : World), (∀ x, W.cell? x = W1.cell? x) → (∀ x, W.frozen? x = W1.frozen? x) → ∀ ty dc, (Builtin.copy_ #[48, 48] ty #[.slice (some ⟨g, i * 2, none⟩) (n + 1 - i) dc, .slice (some ⟨N, 0, none⟩) 1 1]).run Tryd.prog W = .ok (goInt (1 : Nat)) (W.setCells g (i * 2) new) := fun W hWc hWf ty dc =>
    run_copyK W _ _ ty 56 g (i * 2) (n + 1 - i) dc 2 1 ⟨N, 0, none⟩ 1 1 new Tryd.underlying48 hsz (by simp only [Nat.min_def]; split <;> omega) (by rw [hnew])
      (fun j v hj => by
        rw [Addr.add_lit, hWc, Nat.zero_add, Blk.cell hbW, List.getElem?_toArray]
        exact hj)
      (fun j hj => by rw [hWc, cell_of_row W1 g _ _ _ _ hheap1, List.getElem?_toArray, List.getElem?_eq_getElem (by rw [hnew] at hj; omega)]; rfl) (fun j hj => by rw [hWf]; exact Blk.free (t := 56) hheap1 _) h1
  have hfin : (W1.setCells g (i * 2) new).ownsRow base 56 2 (.slice (some ⟨g, 0, none⟩) (n + 1) c) (n + 1) (us.take (i * 2) ++ new ++ us.drop (i * 2)) := by
    have key : ∀ x, x = i * 2 → (W1.setCells g x new).ownsRow base 56 2 (.slice (some ⟨g, 0, none⟩) (n + 1) c) (n + 1) (us.take (i * 2) ++ new ++ us.drop (i * 2)) := by
      rintro x rfl
      have h2 := ownK_cut (ownK_fill rfl new (i * 2) _ _ hown1 (by rw [overAt_length (by rw [hdl, hfl]; omega), hnew, hfl]; omega)) (m := n + 1) (by omega)
      rw [ins_shift hus (by rw [hfl]; omega) (by omega) hnew] at h2
      exact h2
    exact key _ (by omega)
  have hkf : Kp (fun b => (Value.slice (some ⟨g, 0, none⟩) n c).ownBlock = some b) w (W1.setCells g (i * 2) new) := (hkp1.trans (kp_fill _ _ _)).mono fun b _ e => by unfold At at e; rw [e]; rfl
  have HF := hide hfin
  have HK := hide hkf
  have hw1 : IntKind.i64.wrap ((i : Int) + 1) = (i : Int) + 1 := by rw [IntKind.wrap_i64]; omega
  have htn : ((i : Int) + 1).toNat = i + 1 := by omega
  have hb2 : ¬ (c = i + 1) := by omega
  have hb4 : ¬ (c = i) := by omega
  have HW := hide hW1
  have mixed : Tryd.prog.follows .mixedOrders = true := by kernel_rfl
  have hb1 : (0 : Int) ≤ (i : Int) + 1 := by omega
  have hin : i ≤ n := by omega
  have hb3 : (i : Int) ≤ (n : Int) + 1 := by omega
  clear hfin hkf hW1 h hus hfl hheap hfull hul hcell hfz hsz hsa hsb hdl hown1 hkp1 hbW hfl1 hheap1 hb hnew h1u h1
  go_enter Tryd.func27, Tryd.ntmps27
  go_wp2_with (simp only [hov])
  go_region_law_o (refine step_copy_runI rfl _ _ 48 48 rfl _ _ (by simp [Act.eval, Act.put]) (by simp [Act.eval, Act.put]) (hcp1 _ _ _) ?_)
  go_wp2_with (at_builtin; refine wpList_copy_runI _ rfl _ _ 48 48 rfl _ _ rfl rfl (hcp2 _ (fun _ => rfl) (fun _ => rfl) _ _) ?_)
  go_ret
  exact ⟨_, rfl, HF.out, HK.out, fun _ e => .inl e⟩

set_option maxRecDepth 100000 in
set_option maxHeartbeats 4000000 in
theorem insInsBlk_end {base n i N : Nat} {v : Value} {us new : List Value} (w : World) (h : w.ownsRow base 56 2 v n us) (hi : i = n) (hn : n ≤ 1000) (hbase : base ≤ w.heap.size)
    (hb : Blk w N 56 new.toArray) (hnew : new.length = 2) (h1 : ∀ u ∈ new, u.oneCell' = true) :
    Calls Tryd.prog 27 #[v, .int .i64 i, .slice (some ⟨N, 0, none⟩) 1 1] w (InsPost w base 56 2 v n us new i) := by
  subst hi
  obtain ⟨i0, hi0, hz0, hzs, hzb⟩ := info_parts Tryd.infoInsBlk
  have hul : us.length = i * 2 := h.1
  obtain ⟨v', w', hr, h2, h3, _, h5⟩ := run_append_own_at (P := Tryd.prog) w base 48 48 56 i0 _ 2 16 Tryd.underlying48 hi0 hz0 hzs hzb rfl (by omega) v i us h ⟨N, 0, none⟩ 1 1 new (by rw [hnew])
    (fun j u hj => by rw [Addr.add_lit, Nat.zero_add, Blk.cell hb, List.getElem?_toArray]; exact hj) h1 (by unfold maxLen; omega) (by omega) hbase
  have HP := hide (show InsPost w base 56 2 v i us new i (.returned v') w' from ⟨v', rfl, by rw [List.take_of_length_le (by omega), List.drop_eq_nil_of_le (by omega), List.append_nil]; exact h2, (Kp.refl _ w).grown h3 fun k e _ => e, fun b hb => by
    rcases h5 with h5 | h5
    · exact .inl (h5 ▸ hb)
    · rw [h5] at hb; injection hb with hb; exact .inr (by omega)⟩)
  have hz1 : ¬ ((1 : Int) = 0) := by omega
  rcases h.2 with ⟨rfl, rfl⟩ | ⟨g, cap, cur, rfl, _, _, hnc, hmx, _⟩
  · clear h h2 h3 h5 hb hul hnew h1 hi0 hz0 hzs hzb
    go_enter Tryd.func27, Tryd.ntmps27
    go_wp2_with (at_builtin; refine Lib.wpList_append_run _ rfl _ _ _ _ rfl _ _ rfl rfl _ _ hr ?_)
    go_ret
    exact HP.out
  · have hc63 : cap ≤ 9223372036854775807 := by unfold maxLen at hmx; exact hmx
    clear h h2 h3 h5 hb hul hnew h1 hi0 hz0 hzs hzb hmx
    go_enter Tryd.func27, Tryd.ntmps27
    go_wp2_with (at_builtin; refine Lib.wpList_append_run _ rfl _ _ _ _ rfl _ _ rfl rfl _ _ hr ?_)
    all_goals (go_ret; exact HP.out)

theorem zerosInsBlk (k : Nat) : (Builtin.zeroCells (.agg #[.int .i64 0, .int .i64 0] : Value).cells k).size = k * 2 := by simp [Builtin.zeroCells, Value.cells]

set_option maxRecDepth 100000 in
set_option maxHeartbeats 4000000 in
theorem insInsBlk_grow {base g n c i N : Nat} {us new : List Value} (w : World) (h : w.ownsRow base 56 2 (.slice (some ⟨g, 0, none⟩) n c) n us) (hi : i < n) (hroom : ¬ n + 1 ≤ c) (hn : n ≤ 1000) (hbase : base ≤ w.heap.size)
    (hb : Blk w N 56 new.toArray) (hnew : new.length = 2) (h1u : ∀ u ∈ us, u.oneCell' = true) (h1 : ∀ u ∈ new, u.oneCell' = true) :
    Calls Tryd.prog 27 #[.slice (some ⟨g, 0, none⟩) n c, .int .i64 i, .slice (some ⟨N, 0, none⟩) 1 1] w (InsPost w base 56 2 (.slice (some ⟨g, 0, none⟩) n c) n us new i) := by
  obtain ⟨full, hus, hfl, hnc, hc63, hheap, hfull⟩ := ownK_full h
  have hul : us.length = n * 2 := h.1
  obtain ⟨i0, hi0, hz0, hzs, hzb⟩ := info_parts Tryd.infoInsBlk
  have hz1 : ¬ ((1 : Int) = 0) := by omega
  have hz2 : ¬ ((i : Int) = (n : Int)) := by omega
  have hz3 : (c : Int) < (n : Int) + 1 := by omega
  have hsz : (Tryd.prog.info? 56).map (·.size) = some 2 := by rw [hi0]; simp [hzs]
  have hbw : g < w.heap.size := Blk.lt (t := 56) hheap
  have hNw : N < w.heap.size := hb.lt
  have hkk : (n : Int) + 1 - (i : Int) = ((n + 1 - i : Nat) : Int) := by omega
  have hik : i + (n + 1 - i) = n + 1 := by omega
  have hcs : ∀ j v, us[j]? = some v → w.cell? ⟨g, j, none⟩ = some v := fun j v hj => by
    rw [cell_of_row w g j _ _ _ hheap, List.getElem?_toArray]
    rw [← hus, List.getElem?_take] at hj
    split at hj
    · exact hj
    · cases hj
  have hold : (Builtin.firstCells i0.size i (.slice (some ⟨g, 0, none⟩) i c)).run Tryd.prog w.drew = .ok (us.take (i * 2)).toArray w.drew := by
    rw [hzs]
    exact run_firstCells_some w.drew 2 i ⟨g, 0, none⟩ i c (us.take (i * 2)) (by rw [List.length_take]; omega) (fun j v hj => by
      rw [Addr.add_lit, Nat.zero_add]
      rw [List.getElem?_take] at hj
      split at hj
      · exact hcs j v hj
      · cases hj)
  have hrz : ∀ ty, (Builtin.append_ #[48, 3] ty #[.slice (some ⟨g, 0, none⟩) i c, .int .i64 ((n : Int) + 1 - (i : Int))]).run Tryd.prog w =
      .ok (.slice (some ⟨w.heap.size, 0, none⟩) (n + 1) (grownCap w (n + 1) c 56)) (w.drew.alloc (.cells ((us.take (i * 2)).toArray ++ Builtin.zeroCells (.agg #[.int .i64 0, .int .i64 0] : Value).cells (n + 1 - i) ++ Builtin.zeroCells (.agg #[.int .i64 0, .int .i64 0] : Value).cells (grownCap w (n + 1) c 56 - (n + 1))) 56)) := fun ty => by
    have h := Lib.run_append_grow_zeros w 48 3 ty 56 i0 _ .i64 .i64 Tryd.underlying48 Tryd.underlying3 hi0 hz0 (some ⟨g, 0, none⟩) i c (us.take (i * 2)) hold (n + 1 - i) (by omega) (by omega) (by omega) (by omega) (by rw [hzb]; omega) (by rw [hzb, hik]; exact growslice_fits (by omega) (by omega))
    rw [hik] at h
    rw [hkk]
    exact h
  obtain ⟨G, hG⟩ : ∃ G, G = grownCap w (n + 1) c 56 := ⟨_, rfl⟩
  obtain ⟨ROW, hROW⟩ : ∃ ROW : Array Value, ROW = (us.take (i * 2)).toArray ++ Builtin.zeroCells (.agg #[.int .i64 0, .int .i64 0] : Value).cells (n + 1 - i) ++ Builtin.zeroCells (.agg #[.int .i64 0, .int .i64 0] : Value).cells (G - (n + 1)) := ⟨_, rfl⟩
  rw [← hG] at hrz
  rw [← hROW] at hrz
  have hGn : n + 1 ≤ G := by rw [hG]; exact grownCap_ge w _ _ _
  have hG63 : G ≤ 9223372036854775807 := by
    have := grownCap_le_maxLen w (n + 1) c 56 (by unfold maxLen; omega)
    rw [← hG] at this
    unfold maxLen at this
    omega
  have hRl : ROW.size = G * 2 := by
    rw [hROW, Array.size_append, Array.size_append, zerosInsBlk, zerosInsBlk, List.size_toArray, List.length_take]
    omega
  have hRt : ∃ zs, ROW.toList = us.take (i * 2) ++ zs ∧ zs.length = G * 2 - i * 2 := by
    refine ⟨(Builtin.zeroCells (.agg #[.int .i64 0, .int .i64 0] : Value).cells (n + 1 - i) ++ Builtin.zeroCells (.agg #[.int .i64 0, .int .i64 0] : Value).cells (G - (n + 1))).toList, by rw [hROW]; simp, ?_⟩
    rw [Array.length_toList, Array.size_append, zerosInsBlk, zerosInsBlk]
    omega
  obtain ⟨W1, hW1⟩ : ∃ W1, W1 = w.drew.alloc (.cells ROW 56) := ⟨_, rfl⟩
  rw [← hW1] at hrz
  have hN : ∀ j, j < G * 2 → (W1.cell? ⟨w.heap.size, j, none⟩).isSome = true := fun j hj => by
    rw [hW1, World.cell?_alloc_at (w := w.drew) ROW _ w.heap.size j rfl, Array.getElem?_eq_getElem (by omega)]; rfl
  have hNf : ∀ j, W1.frozen? ⟨w.heap.size, j, none⟩ = false := fun j => by rw [hW1]; exact World.frozen?_alloc_at (w := w.drew) ROW _ w.heap.size j rfl
  have hOb : ∀ j v, w.cell? ⟨g, j, none⟩ = some v → W1.cell? ⟨g, j, none⟩ = some v := fun j v h => by rw [hW1, World.cell?_alloc_past (w := w.drew) _ g j hbw]; exact h
  have hOv : ∀ j v, w.cell? ⟨N, j, none⟩ = some v → W1.cell? ⟨N, j, none⟩ = some v := fun j v h => by rw [hW1, World.cell?_alloc_past (w := w.drew) _ N j hNw]; exact h
  have hcpA : ∀ (W : World), (∀ x, W.cell? x = W1.cell? x) → (∀ x, W.frozen? x = W1.frozen? x) → ∀ ty dc, (Builtin.copy_ #[48, 48] ty #[.slice (some ⟨w.heap.size, i * 2, none⟩) (n + 1 - i) dc, .slice (some ⟨N, 0, none⟩) 1 1]).run Tryd.prog W = .ok (goInt (1 : Nat)) (W.setCells w.heap.size (i * 2) new) := fun W hWc hWf ty dc =>
    run_copyK W _ _ ty 56 w.heap.size (i * 2) (n + 1 - i) dc 2 1 ⟨N, 0, none⟩ 1 1 new Tryd.underlying48 hsz (by simp only [Nat.min_def]; split <;> omega) (by rw [hnew])
      (fun j v hj => by rw [Addr.add_lit, hWc, Nat.zero_add]; exact hOv _ v (by rw [Blk.cell hb, List.getElem?_toArray]; exact hj))
      (fun j hj => by rw [hWc]; exact hN _ (by omega)) (fun j hj => by rw [hWf]; exact hNf _) h1
  have hdl : (us.drop (i * 2)).length = (n - i) * 2 := by rw [List.length_drop, hul, Nat.sub_mul]
  have hbN : g ≠ w.heap.size := by omega
  have hcpB : ∀ (W : World), (∀ x, W.cell? x = (W1.setCells w.heap.size (i * 2) new).cell? x) → (∀ x, W.frozen? x = (W1.setCells w.heap.size (i * 2) new).frozen? x) → ∀ ty dc sc, (Builtin.copy_ #[48, 48] ty #[.slice (some ⟨w.heap.size, (i + 1) * 2, none⟩) (n - i) dc, .slice (some ⟨g, i * 2, none⟩) (n - i) sc]).run Tryd.prog W = .ok (goInt (n - i : Nat)) (W.setCells w.heap.size ((i + 1) * 2) (us.drop (i * 2))) := fun W hWc hWf ty dc sc =>
    run_copyK W _ _ ty 56 w.heap.size ((i + 1) * 2) (n - i) dc 2 (n - i) ⟨g, i * 2, none⟩ (n - i) sc (us.drop (i * 2)) Tryd.underlying48 hsz (by simp only [Nat.min_def]; split <;> omega) hdl
      (fun j v hj => by
        rw [Addr.add_lit, hWc, World.cell?_setCells_out _ _ _ _ _ (fun h _ => absurd h hbN)]
        rw [List.getElem?_drop] at hj
        refine hOb _ v (hcs _ v ?_)
        first | (rw [← hj]; done) | (rw [← hj]; congr 1; omega) | (rw [← hj]; congr 1))
      (fun j hj => by rw [hWc]; rw [hdl] at hj; exact isSome_setCells _ _ _ _ (fun t ht => hN _ (by omega)) _ (hN _ (by omega)))
      (fun j hj => by rw [hWf, World.frozen?_setCells]; exact hNf _) (fun v hv => h1u v (List.mem_of_mem_drop hv))
  subst hW1
  have hE1 : ∀ x, ((w.alloc (.cells ROW 56)).drew).cell? x = (w.drew.alloc (.cells ROW 56)).cell? x := fun x => rfl
  have hE2 : ∀ x, ((w.alloc (.cells ROW 56)).drew).frozen? x = (w.drew.alloc (.cells ROW 56)).frozen? x := fun x => rfl
  have hF1 : ∀ x, (((w.alloc (.cells ROW 56)).drew.setCells w.heap.size (i * 2) new).drew).cell? x = ((w.drew.alloc (.cells ROW 56)).setCells w.heap.size (i * 2) new).cell? x := fun x => rfl
  have hF2 : ∀ x, (((w.alloc (.cells ROW 56)).drew.setCells w.heap.size (i * 2) new).drew).frozen? x = ((w.drew.alloc (.cells ROW 56)).setCells w.heap.size (i * 2) new).frozen? x := fun x => rfl
  have hkf : Kp (fun b => (Value.slice (some ⟨g, 0, none⟩) n c).ownBlock = some b) w ((((w.alloc (.cells ROW 56)).drew.setCells w.heap.size (i * 2) new).drew).setCells w.heap.size ((i + 1) * 2) (us.drop (i * 2))) :=
    (((Kp.refl No w).alloc _).drew.trans' (kp_fill _ _ _) (fun b hb e => by unfold At at e; omega) |>.drew.trans' (kp_fill _ _ _) (fun b hb e => by unfold At at e; omega)).mono fun b _ e => e.elim
  have hfin : ((((w.alloc (.cells ROW 56)).drew.setCells w.heap.size (i * 2) new).drew).setCells w.heap.size ((i + 1) * 2) (us.drop (i * 2))).ownsRow base 56 2 (.slice (some ⟨w.heap.size, 0, none⟩) (n + 1) G) (n + 1) (us.take (i * 2) ++ new ++ us.drop (i * 2)) := by
    have key : ∀ x y, x = i * 2 → y = (i + 1) * 2 → ((((w.alloc (.cells ROW 56)).drew.setCells w.heap.size x new).drew).setCells w.heap.size y (us.drop (i * 2))).ownsRow base 56 2 (.slice (some ⟨w.heap.size, 0, none⟩) (n + 1) G) (n + 1) (us.take (i * 2) ++ new ++ us.drop (i * 2)) := by
      rintro x y rfl rfl
      obtain ⟨zs, hz, hzl⟩ := hRt
      have o1 := ownK_new w ROW 56 2 G base hbase hRl hG63
      rw [hz] at o1
      have hl0 : (us.take (i * 2) ++ zs).length = G * 2 := by rw [List.length_append, List.length_take, hzl]; omega
      have o2 := ownK_fill (g := w.heap.size) rfl new (i * 2) _ _ (ownK_drew o1) (by rw [hl0, hnew]; omega)
      have o3 := ownK_fill (g := w.heap.size) rfl (us.drop (i * 2)) ((i + 1) * 2) _ _ (ownK_drew o2) (by rw [overAt_length (by rw [hl0, hnew]; omega), hl0, hdl]; omega)
      have o4 := ownK_cut o3 (m := n + 1) hGn
      rw [ins_grow hul hzl hGn (by omega) hnew] at o4
      exact o4
    exact key _ _ (by omega) (by omega)
  have HF := hide hfin
  have HK := hide hkf
  have mixed : Tryd.prog.follows .mixedOrders = true := by kernel_rfl
  have hw1 : IntKind.i64.wrap ((i : Int) + 1) = (i : Int) + 1 := by rw [IntKind.wrap_i64]; omega
  have hb1 : (0 : Int) ≤ (i : Int) + 1 := by omega
  have hin : i ≤ n := by omega
  have htn : ((i : Int) + 1).toNat = i + 1 := by omega
  have hb3 : (i : Int) ≤ (n : Int) := by omega
  have hGi : ¬ (G = i) := by omega
  have hGim : ¬ (G = i + 1) := by omega
  have hci : ¬ (c = i) := by omega
  clear hkk hik hold hROW hG hRl hRt hfin hkf h hus hfl hheap hfull hul hsz hcs hN hNf hOb hOv hdl hb hnew h1u h1 hi0 hz0 hzs hzb
  go_enter Tryd.func27, Tryd.ntmps27
  go_wp2_with (first
    | (at_builtin; refine Lib.wpList_append_run _ rfl _ _ _ _ rfl _ _ rfl rfl _ _ (hrz _) ?_)
    | (at_builtin; refine wpList_copy_runI _ rfl _ _ 48 48 rfl _ _ rfl rfl (hcpA _ hE1 hE2 _ _) ?_)
    | (at_builtin; refine wpList_copy_runI _ rfl _ _ 48 48 rfl _ _ rfl rfl (hcpB _ (fun _ => rfl) (fun _ => rfl) _ _ _) ?_))
  go_region_law_o (refine step_copy_runI rfl _ _ 48 48 rfl _ _ (by simp [Act.eval, Act.put]) (by simp [Act.eval, Act.put]) (hcpB _ hF1 hF2 3 (G - (i + 1)) (c - i)) ?_)
  go_wp2
  go_ret
  exact ⟨.slice (some ⟨w.heap.size, 0, none⟩) (n + 1) G, rfl, by simpa only [Nat.mul_one] using HF.out, by simpa only [Nat.mul_one] using HK.out, fun b e => .inr (Nat.le_of_eq (by simpa [Value.ownBlock] using e))⟩

/-- an element is put into a row of one's own, wherever -/
theorem insInsBlk_any {base n i N : Nat} {v : Value} {us new : List Value} (w : World) (h : w.ownsRow base 56 2 v n us) (hi : i ≤ n) (hn : n ≤ 1000) (hbase : base ≤ w.heap.size)
    (hb : Blk w N 56 new.toArray) (hnew : new.length = 2) (h1u : ∀ u ∈ us, u.oneCell' = true) (h1 : ∀ u ∈ new, u.oneCell' = true) (hne : v.ownBlock ≠ some N) :
    Calls Tryd.prog 27 #[v, .int .i64 i, .slice (some ⟨N, 0, none⟩) 1 1] w (InsPost w base 56 2 v n us new i) := by
  rcases Nat.eq_or_lt_of_le hi with e | hlt
  · exact insInsBlk_end w h e hn hbase hb hnew h1
  · rcases h.2 with ⟨_, h0⟩ | ⟨g, c, cur, rfl, _⟩
    · omega
    · have hne' : N ≠ g := fun e => hne (by rw [e]; rfl)
      by_cases hr : n + 1 ≤ c
      · exact insInsBlk_shift w h hlt hr hn hb hnew h1u h1 hne'
      · exact insInsBlk_grow w h hlt hr hn hbase hb hnew h1u h1
end Go.Proofs.YtibdddkcjijlaaaDoor
