/- The reference's arena: a block less. -/
import Derived.Test.YtibdddkcjijlaaaDoorArRef
import Derived.Test.YtibdddkcjijlaaaDoorTwo
namespace Go.Proofs.YtibdddkcjijlaaaDoor
open Go.RowKit
set_option linter.unusedSimpArgs false

/-- all but one, of the first k -/
def skipTo (bs : List (Nat × Nat)) (i k : Nat) : List (Nat × Nat) := (bs.take k).eraseIdx i
theorem skip_succ {bs : List (Nat × Nat)} {i k : Nat} (h : k < bs.length) : skipTo bs i (k + 1) = if k = i then skipTo bs i k else skipTo bs i k ++ [bs[k]] := by
  have hl : (bs.take k).length = k := by rw [List.length_take]; omega
  unfold skipTo
  rw [List.take_succ_eq_append_getElem h]
  split
  · rename_i e
    subst e
    rw [List.eraseIdx_append_of_length_le (by omega), hl, Nat.sub_self, List.eraseIdx_of_length_le (Nat.le_of_eq hl)]
    simp
  · rename_i e
    by_cases hlt : i < k
    · rw [List.eraseIdx_append_of_lt_length (by omega)]
    · rw [List.eraseIdx_append_of_length_le (by omega), hl, List.eraseIdx_of_length_le (l := [bs[k]]) (by rw [List.length_singleton]; omega), List.eraseIdx_of_length_le (l := bs.take k) (by omega)]
theorem skip_le (bs : List (Nat × Nat)) (i k : Nat) : (skipTo bs i k).length ≤ k := by
  unfold skipTo
  exact Nat.le_trans (List.length_eraseIdx_le _ _) (by rw [List.length_take]; omega)
theorem skip_all (bs : List (Nat × Nat)) (i : Nat) : skipTo bs i bs.length = bs.eraseIdx i := by unfold skipTo; rw [List.take_length]

theorem iv_fsts (L : List (Nat × Nat)) (y z : Nat) : iv (fsts (L ++ [(y, z)])) = iv (fsts L) ++ [.int .i64 (y : Nat)] := by simp [iv, fsts]
theorem iv_snds (L : List (Nat × Nat)) (y z : Nat) : iv (snds (L ++ [(y, z)])) = iv (snds L) ++ [.int .i64 (z : Nat)] := by simp [iv, snds]
/-- two rows, told by a block -/
structure Out2 (w0 w : World) (D lo : Nat) (v1 v2 : Value) (n1 n2 : Nat) (us1 us2 : List Value) : Prop where
  two : Two lo w0 w v1 v2 n1 n2 us1 us2
  blk : Blk w D 26 #[v1, v2]
  lt : D < lo
  ge : w0.heap.size ≤ D
section
variable {D lo : Nat} {w0 w w' : World} {v1 v2 : Value} {n1 n2 : Nat} {us1 us2 us : List Value}
theorem Out2.no (h : Out2 w0 w D lo v1 v2 n1 n2 us1 us2) (hk : Kp No w w') : Out2 w0 w' D lo v1 v2 n1 n2 us1 us2 := ⟨h.two.no hk, h.blk.kp hk id, h.lt, h.ge⟩
theorem Two.set (h : Two lo w0 w v1 v2 n1 n2 us1 us2) (hD : D < lo) (hw : w0.heap.size ≤ D) (k : Nat) (u : Value) : Two lo w0 (w.setCell ⟨D, k, none⟩ u) v1 v2 n1 n2 us1 us2 := by
  have hk := kp_put w D k u
  exact ⟨h.lo_, h.kp.trans' hk fun b hb e => by unfold At at e; omega, own_kp h.o1 hk fun b hb e => by have := (own_lt h.o1 hb).1; unfold At at e; omega, own_kp h.o2 hk fun b hb e => by have := (own_lt h.o2 hb).1; unfold At at e; omega, h.ap⟩
theorem Out2.push1 (h : Out2 w0 w D lo v1 v2 n1 n2 us1 us2) {g n c : Nat} (ho : w'.ownsRow lo 3 1 (.slice (some ⟨g, 0, none⟩) n c) n us) (hg : w.grownBy w' v1.ownBlock) (hat : v1.ownBlock = some g ∨ g = w.heap.size) :
    Out2 w0 (w'.setCell ⟨D, 0, none⟩ (.slice (some ⟨g, 0, none⟩) n c)) D lo (.slice (some ⟨g, 0, none⟩) n c) v2 n n2 us us2 :=
  ⟨(h.two.push1 ho hg hat).set h.lt h.ge 0 _, (h.blk.grown hg fun e => by have := (own_lt h.two.o1 e.symm).1; have := h.lt; omega).set_ 0 _, h.lt, h.ge⟩
theorem Out2.push2 (h : Out2 w0 w D lo v1 v2 n1 n2 us1 us2) {g n c : Nat} (ho : w'.ownsRow lo 3 1 (.slice (some ⟨g, 0, none⟩) n c) n us) (hg : w.grownBy w' v2.ownBlock) (hat : v2.ownBlock = some g ∨ g = w.heap.size) :
    Out2 w0 (w'.setCell ⟨D, 1, none⟩ (.slice (some ⟨g, 0, none⟩) n c)) D lo v1 (.slice (some ⟨g, 0, none⟩) n c) n1 n us1 us :=
  ⟨(h.two.push2 ho hg hat).set h.lt h.ge 1 _, (h.blk.grown hg fun e => by have := (own_lt h.two.o2 e.symm).1; have := h.lt; omega).set_ 1 _, h.lt, h.ge⟩
end

set_option maxRecDepth 100000 in
set_option maxHeartbeats 4000000 in
theorem without_any {F : Nat → Prop} (v : Value) (bs : List (Nat × Nat)) (i : Nat) (w : World) (h : ArIs w F v bs) (hl : bs.length ≤ 64) :
    Calls Tryd.prog 30 #[v, .int .i64 (i : Nat)] w fun e w' => ∃ v', e = .returned v' ∧ ArIs w' (Hi w.heap.size) v' (bs.eraseIdx i) ∧ Kp No w w' := by
  obtain ⟨a, b, rfl, h1, h2⟩ := h
  have HA := hide h1
  have HB := hide h2
  obtain ⟨Aa, ca, rfl, _⟩ := id h1
  obtain ⟨Ab, cb, rfl, _⟩ := id h2
  clear h1 h2
  simp only [fsts_length, snds_length] at HA HB ⊢
  go_enter Tryd.func30, Tryd.ntmps30
  go_wp2_with fail
  obtain ⟨W1, hW1⟩ : ∃ W1, w.alloc (.cells #[.slice Aa bs.length ca, .slice Ab bs.length cb] 26) = W1 := ⟨_, rfl⟩
  have HW1 := hide (show W1.heap.size = w.heap.size + 1 by rw [← hW1]; simp)
  have HK1 := hide (show Kp No w W1 by rw [← hW1]; exact (Kp.refl No w).alloc _)
  have HB1 := hide (show Blk W1 w.heap.size 26 #[.slice Aa bs.length ca, .slice Ab bs.length cb] by rw [← hW1]; exact Blk.new w _ _)
  rw [hW1]
  clear hW1
  go_loopw [6] (fun q wr => ∃ (k : Nat) (v1 v2 : Value), q = .int .i64 k ∧ k ≤ bs.length ∧ Hid (Out2 W1 wr (w.heap.size + 1 + 1) (w.heap.size + 3) v1 v2 (skipTo bs i k).length (skipTo bs i k).length (iv (fsts (skipTo bs i k))) (iv (snds (skipTo bs i k)))) ∧ Hid (Blk wr (w.heap.size + 1) 26 #[.slice none 0 0, .slice none 0 0])) (fun q _ => bs.length - (intOf q).toNat)
  case atStart =>
    refine ⟨0, .slice none 0 0, .slice none 0 0, rfl, Nat.zero_le _, ?_, ?_⟩
    · have hb := Blk.new (W1.alloc (.cells #[.slice none 0 0, .slice none 0 0] 26)) 26 #[.slice none 0 0, .slice none 0 0]
      have e : (W1.alloc (.cells #[.slice none 0 0, .slice none 0 0] 26)).heap.size = w.heap.size + 1 + 1 := by simp [HW1.out]
      rw [e] at hb
      exact hide (⟨(Two.start W1 (by have := HW1.out; omega)).no (((Kp.refl No W1).alloc _).alloc _), hb, by omega, by have := HW1.out; omega⟩ : Out2 _ _ _ _ _ _ _ _ _ _)
    · have hb := (Blk.new W1 26 #[.slice none 0 0, .slice none 0 0]).kp ((Kp.refl No _).alloc (.cells #[.slice none 0 0, .slice none 0 0] 26)) id
      rw [HW1.out] at hb
      exact hide hb
  case round =>
    obtain ⟨k, v1, v2, rfl, hk, ho, hres⟩ := hrel
    have HB := hide (HB.out.no HK1.out)
    obtain ⟨p0, p1⟩ : wr.cell? ⟨w.heap.size, 0, none⟩ = some (.slice Aa bs.length ca) ∧ wr.cell? ⟨w.heap.size, 1, none⟩ = some (.slice Ab bs.length cb) := ⟨(HB1.out.kp ho.out.two.kp id).cell 0, (HB1.out.kp ho.out.two.kp id).cell 1⟩
    by_cases hlt : k < bs.length
    · have HST := hide (skip_succ (i := i) hlt)
      obtain ⟨_, _, _, hcell⟩ := ar_len (HA.out.no (HK1.out.trans ho.out.two.kp))
      obtain ⟨ba, oa, rfl, _, c1⟩ := hcell k hlt
      obtain ⟨_, _, _, hcell2⟩ := ar_len2 (HB.out.no ho.out.two.kp)
      obtain ⟨bb, ob, rfl, _, c2⟩ := hcell2 k hlt
      obtain ⟨y, hy⟩ : ∃ y, (bs[k]).1 = y := ⟨_, rfl⟩
      obtain ⟨z, hz⟩ : ∃ z, (bs[k]).2 = z := ⟨_, rfl⟩
      have HYZ := hide (show bs[k] = (y, z) by rw [← hy, ← hz])
      rw [hy] at c1
      rw [hz] at c2
      obtain ⟨L, hL⟩ : ∃ L, skipTo bs i k = L := ⟨_, rfl⟩
      have hLk : L.length ≤ k := by rw [← hL]; exact skip_le _ _ _
      rw [hL] at ho HST
      have HO := hide ho.out
      obtain ⟨q0, q1⟩ : wr.cell? ⟨w.heap.size + 1 + 1, 0, none⟩ = some v1 ∧ wr.cell? ⟨w.heap.size + 1 + 1, 1, none⟩ = some v2 := ⟨HO.out.blk.cell 0, HO.out.blk.cell 1⟩
      have HC2 := hide (show ∀ W, Kp No W1 W → W.cell? ⟨bb, ob + k, none⟩ = some (.int .i64 (z : Nat)) from fun W hW => by
        obtain ⟨_, _, _, hcell⟩ := ar_len2 (HB.out.no hW)
        obtain ⟨b', o', e, _, c'⟩ := hcell k hlt
        cases e
        rw [c', hz])
      clear hcell hcell2 hy hz ho hL
      by_cases hki : k = i
      · rw [if_pos hki] at HST
        have hki' : (((k : Nat) : Int) == ((i : Nat) : Int)) = true := by subst hki; simp
        go_wp2_with fail
        exact ⟨⟨k + 1, v1, v2, by go_num, hlt, by rw [HST.out]; exact HO, hres⟩, by simp [intOf]; omega⟩
      · rw [if_neg hki] at HST
        have hki' : (((k : Nat) : Int) == ((i : Nat) : Int)) = false := by rw [beq_eq_false_iff_ne]; omega
        go_wp2_with fail
        refine plan_start 11 (by kernel_rfl) rfl (fun hPT => ?_)
        refine plan_take (i := 0) (v := ?_) rfl (by kernel_rfl) (by kernel_rfl) (by kernel_rfl) (fun _ _ _ h => h) hPT (by rfl) ?_ ?_
        rotate_left
        · (intro w; go_simp; with_reducible rfl)
        (clear hPT; intro hPT; simp only [List.getElem_toArray, List.getElem_cons_zero, List.getElem_cons_succ, Act.put, List.setIfInBounds_toArray, List.set_cons_zero, List.set_cons_succ])
        refine plan_take (i := 2) (v := ?_) rfl (by kernel_rfl) (by kernel_rfl) (by kernel_rfl) (fun _ _ _ h => h) hPT (by rfl) ?_ ?_
        rotate_left
        · (intro w; go_simp; with_reducible rfl)
        (clear hPT; intro hPT; simp only [List.getElem_toArray, List.getElem_cons_zero, List.getElem_cons_succ, Act.put, List.setIfInBounds_toArray, List.set_cons_zero, List.set_cons_succ])
        refine plan_take (i := 4) (v := ?_) rfl (by kernel_rfl) (by kernel_rfl) (by kernel_rfl) (fun _ _ _ h => h) hPT (by rfl) ?_ ?_
        rotate_left
        · (intro w; go_simp; with_reducible rfl)
        (clear hPT; intro hPT; simp only [List.getElem_toArray, List.getElem_cons_zero, List.getElem_cons_succ, Act.put, List.setIfInBounds_toArray, List.set_cons_zero, List.set_cons_succ])
        refine plan_load (fun w' => w'.cell? ⟨w.heap.size + 1 + 1, 0, none⟩ = some v1) (i := 1) (v := ?_) rfl (by kernel_rfl) (by kernel_rfl) (by kernel_rfl) (fun _ _ _ h => h) hPT (by rfl) ?_ ?_ ?_
        rotate_left
        · (first | assumption | (go_simp; done))
        · (intro w hSw; (try dsimp only at hSw); go_simp; with_reducible rfl)
        (clear hPT; intro hPT; simp only [List.getElem_toArray, List.getElem_cons_zero, List.getElem_cons_succ, Act.put, List.setIfInBounds_toArray, List.set_cons_zero, List.set_cons_succ])
        refine plan_load (fun w' => w'.cell? ⟨w.heap.size, 0, none⟩ = some (.slice (some ⟨ba, oa, none⟩) bs.length ca)) (i := 3) (v := ?_) rfl (by kernel_rfl) (by kernel_rfl) (by kernel_rfl) (fun _ _ _ h => h) hPT (by rfl) ?_ ?_ ?_
        rotate_left
        · (first | assumption | (go_simp; done))
        · (intro w hSw; (try dsimp only at hSw); go_simp; with_reducible rfl)
        (clear hPT; intro hPT; simp only [List.getElem_toArray, List.getElem_cons_zero, List.getElem_cons_succ, Act.put, List.setIfInBounds_toArray, List.set_cons_zero, List.set_cons_succ])
        refine plan_take (i := 5) (v := ?_) rfl (by kernel_rfl) (by kernel_rfl) (by kernel_rfl) (fun _ _ _ h => h) hPT (by rfl) ?_ ?_
        rotate_left
        · (intro w; go_simp; with_reducible rfl)
        (clear hPT; intro hPT; simp only [List.getElem_toArray, List.getElem_cons_zero, List.getElem_cons_succ, Act.put, List.setIfInBounds_toArray, List.set_cons_zero, List.set_cons_succ])
        refine plan_load (fun w' => w'.cell? ⟨ba, oa + k, none⟩ = some (.int .i64 (y : Nat))) (i := 6) (v := ?_) rfl (by kernel_rfl) (by kernel_rfl) (by kernel_rfl) (fun _ _ _ h => h) hPT (by rfl) ?_ ?_ ?_
        rotate_left
        · (first | assumption | (go_simp; done))
        · (intro w hSw; (try dsimp only at hSw); go_simp; with_reducible rfl)
        (clear hPT; intro hPT; simp only [List.getElem_toArray, List.getElem_cons_zero, List.getElem_cons_succ, Act.put, List.setIfInBounds_toArray, List.set_cons_zero, List.set_cons_succ])
        refine plan_one (i := 7) (by kernel_rfl) rfl (by rfl) (fun K hK => ?_)
        (try simp only [List.getElem_toArray, List.getElem_cons_zero, List.getElem_cons_succ, Act.put, List.setIfInBounds_toArray, List.set_cons_zero, List.set_cons_succ])
        go_simp
        refine hK.out _ _ _ (t_cons ((show Kp No wr _ from (by (repeat (first | exact Kp.refl _ _ | with_reducible refine Kp.drewN ?_ _ | with_reducible refine Kp.drew ?_ | with_reducible refine Kp.alloc ?_ _ | with_reducible refine Kp.setCell ?_ (fun _ => ?_) _)); all_goals (simp_all; omega))).cell p0 id) (t_cons ((show Kp No wr _ from (by (repeat (first | exact Kp.refl _ _ | with_reducible refine Kp.drewN ?_ _ | with_reducible refine Kp.drew ?_ | with_reducible refine Kp.alloc ?_ _ | with_reducible refine Kp.setCell ?_ (fun _ => ?_) _)); all_goals (simp_all; omega))).cell q0 id) (t_nil _))) (k_drop (by kernel_rfl) k_same) (fun hPT' => ?_)
        (clear hPT hK K; have hPT := hPT'; clear hPT'; try simp only [List.getElem_toArray, List.getElem_cons_zero, List.getElem_cons_succ, Act.put, List.setIfInBounds_toArray, List.set_cons_zero, List.set_cons_succ])
        refine plan_one (i := 8) (by kernel_rfl) rfl (by rfl) (fun K hK => ?_)
        (try simp only [List.getElem_toArray, List.getElem_cons_zero, List.getElem_cons_succ, Act.put, List.setIfInBounds_toArray, List.set_cons_zero, List.set_cons_succ])
        refine wp_push _ (.tmp 18) (.tmp 24) _ rfl (w.heap.size + 3) 3 _ 8 Tryd.underlying22 Tryd.infoInt rfl v1 L.length (iv (fsts L)) rfl (own_kp HO.out.two.o1 (show Kp No wr _ from (by (repeat (first | exact Kp.refl _ _ | with_reducible refine Kp.drewN ?_ _ | with_reducible refine Kp.drew ?_ | with_reducible refine Kp.alloc ?_ _ | with_reducible refine Kp.setCell ?_ (fun _ => ?_) _)); all_goals (simp_all; omega))) fun _ _ h => h) (.int .i64 (y : Nat)) rfl 1 _ rfl ((Blk.new _ _ _).cell 0) (by omega) (by decide) (by have := HO.out.blk.lt; simp; omega) ?_
        intro g0 c0' w5 ho' hgr hat
        have HN1 := hide ((HO.out.no (show Kp No wr _ from (by (repeat (first | exact Kp.refl _ _ | with_reducible refine Kp.drewN ?_ _ | with_reducible refine Kp.drew ?_ | with_reducible refine Kp.alloc ?_ _ | with_reducible refine Kp.setCell ?_ (fun _ => ?_) _)); all_goals (simp_all; omega)))).push1 ho' hgr hat)
        have HR6 := hide (show Blk (w5.setCell ⟨w.heap.size + 1 + 1, 0, none⟩ (.slice (some ⟨g0, 0, none⟩) (L.length + 1) c0')) (w.heap.size + 1) 26 #[.slice none 0 0, .slice none 0 0] from ((hres.out.kp (show Kp No wr _ from (by (repeat (first | exact Kp.refl _ _ | with_reducible refine Kp.drewN ?_ _ | with_reducible refine Kp.drew ?_ | with_reducible refine Kp.alloc ?_ _ | with_reducible refine Kp.setCell ?_ (fun _ => ?_) _)); all_goals (simp_all; omega))) id).grown hgr fun e => by have := (own_lt HO.out.two.o1 e.symm).1; omega).far (show w.heap.size + 1 ≠ w.heap.size + 1 + 1 by omega) _)
        have HQ0 := hide (show Kp No W1 w5 from (HO.out.two.kp.trans (show Kp No wr _ from (by (repeat (first | exact Kp.refl _ _ | with_reducible refine Kp.drewN ?_ _ | with_reducible refine Kp.drew ?_ | with_reducible refine Kp.alloc ?_ _ | with_reducible refine Kp.setCell ?_ (fun _ => ?_) _)); all_goals (simp_all; omega)))).grown hgr fun b e hb => by have := (own_lt HO.out.two.o1 e).1; have := HW1.out; omega)
        obtain ⟨y1, y2, y3, y4, y5⟩ := ((HO.out.blk.kp (show Kp No wr _ from (by (repeat (first | exact Kp.refl _ _ | with_reducible refine Kp.drewN ?_ _ | with_reducible refine Kp.drew ?_ | with_reducible refine Kp.alloc ?_ _ | with_reducible refine Kp.setCell ?_ (fun _ => ?_) _)); all_goals (simp_all; omega))) id).grown hgr fun e => by have := (own_lt HO.out.two.o1 e.symm).1; omega).a2
        clear ho' hgr hat
        refine hK.out _ _ _ (t_cons ((HB1.out.kp HQ0.out id).cell 0) (t_nil _)) (k_keep (k_drop (by kernel_rfl) k_nil)) (fun hPT' => ?_)
        (clear hPT hK K; have hPT := hPT'; clear hPT'; try simp only [List.getElem_toArray, List.getElem_cons_zero, List.getElem_cons_succ, Act.put, List.setIfInBounds_toArray, List.set_cons_zero, List.set_cons_succ])
        refine plan_take (i := 9) (v := ?_) rfl (by kernel_rfl) (by kernel_rfl) (by kernel_rfl) (fun _ _ _ h => h) hPT (by rfl) ?_ ?_
        rotate_left
        · (intro w; go_simp; with_reducible rfl)
        (clear hPT; intro hPT; simp only [List.getElem_toArray, List.getElem_cons_zero, List.getElem_cons_succ, Act.put, List.setIfInBounds_toArray, List.set_cons_zero, List.set_cons_succ])
        refine plan_one (i := 10) (by kernel_rfl) rfl (by rfl) (fun K hK => ?_)
        (try simp only [List.getElem_toArray, List.getElem_cons_zero, List.getElem_cons_succ, Act.put, List.setIfInBounds_toArray, List.set_cons_zero, List.set_cons_succ])
        go_simp
        refine hK.out [] _ _ (t_nil _) (k_drop (by kernel_rfl) k_nil) (fun hPT' => ?_)
        (clear hPT hK K; have hPT := hPT'; clear hPT'; try simp only [List.getElem_toArray, List.getElem_cons_zero, List.getElem_cons_succ, Act.put, List.setIfInBounds_toArray, List.set_cons_zero, List.set_cons_succ])
        refine plan_done (by kernel_rfl) ?_ _
        clear hPT
        obtain ⟨w6, hw6⟩ : ∃ w6, w5.setCell ⟨w.heap.size + 1 + 1, 0, none⟩ (.slice (some ⟨g0, 0, none⟩) (L.length + 1) c0') = w6 := ⟨_, rfl⟩
        rw [hw6] at HN1 HR6 ⊢
        have hk6 : Kp No W1 w6 := HN1.out.two.kp
        clear y1 y2 y3 y4 y5 p0 p1 q0 q1 c1 c2 hw6
        obtain ⟨p0, p1⟩ : w6.cell? ⟨w.heap.size, 0, none⟩ = some (.slice (some ⟨ba, oa, none⟩) bs.length ca) ∧ w6.cell? ⟨w.heap.size, 1, none⟩ = some (.slice (some ⟨bb, ob, none⟩) bs.length cb) := ⟨(HB1.out.kp hk6 id).cell 0, (HB1.out.kp hk6 id).cell 1⟩
        obtain ⟨q0, q1⟩ : w6.cell? ⟨w.heap.size + 1 + 1, 0, none⟩ = some (.slice (some ⟨g0, 0, none⟩) (L.length + 1) c0') ∧ w6.cell? ⟨w.heap.size + 1 + 1, 1, none⟩ = some v2 := ⟨HN1.out.blk.cell 0, HN1.out.blk.cell 1⟩
        have c2 := HC2.out w6 hk6
        clear hk6
        go_wp2_with fail
        refine plan_start 11 (by kernel_rfl) rfl (fun hPT => ?_)
        refine plan_take (i := 0) (v := ?_) rfl (by kernel_rfl) (by kernel_rfl) (by kernel_rfl) (fun _ _ _ h => h) hPT (by rfl) ?_ ?_
        rotate_left
        · (intro w; go_simp; with_reducible rfl)
        (clear hPT; intro hPT; simp only [List.getElem_toArray, List.getElem_cons_zero, List.getElem_cons_succ, Act.put, List.setIfInBounds_toArray, List.set_cons_zero, List.set_cons_succ])
        refine plan_take (i := 2) (v := ?_) rfl (by kernel_rfl) (by kernel_rfl) (by kernel_rfl) (fun _ _ _ h => h) hPT (by rfl) ?_ ?_
        rotate_left
        · (intro w; go_simp; with_reducible rfl)
        (clear hPT; intro hPT; simp only [List.getElem_toArray, List.getElem_cons_zero, List.getElem_cons_succ, Act.put, List.setIfInBounds_toArray, List.set_cons_zero, List.set_cons_succ])
        refine plan_take (i := 4) (v := ?_) rfl (by kernel_rfl) (by kernel_rfl) (by kernel_rfl) (fun _ _ _ h => h) hPT (by rfl) ?_ ?_
        rotate_left
        · (intro w; go_simp; with_reducible rfl)
        (clear hPT; intro hPT; simp only [List.getElem_toArray, List.getElem_cons_zero, List.getElem_cons_succ, Act.put, List.setIfInBounds_toArray, List.set_cons_zero, List.set_cons_succ])
        refine plan_load (fun w' => w'.cell? ⟨w.heap.size + 1 + 1, 1, none⟩ = some v2) (i := 1) (v := ?_) rfl (by kernel_rfl) (by kernel_rfl) (by kernel_rfl) (fun _ _ _ h => h) hPT (by rfl) ?_ ?_ ?_
        rotate_left
        · (first | assumption | (go_simp; done))
        · (intro w hSw; (try dsimp only at hSw); go_simp; with_reducible rfl)
        (clear hPT; intro hPT; simp only [List.getElem_toArray, List.getElem_cons_zero, List.getElem_cons_succ, Act.put, List.setIfInBounds_toArray, List.set_cons_zero, List.set_cons_succ])
        refine plan_load (fun w' => w'.cell? ⟨w.heap.size, 1, none⟩ = some (.slice (some ⟨bb, ob, none⟩) bs.length cb)) (i := 3) (v := ?_) rfl (by kernel_rfl) (by kernel_rfl) (by kernel_rfl) (fun _ _ _ h => h) hPT (by rfl) ?_ ?_ ?_
        rotate_left
        · (first | assumption | (go_simp; done))
        · (intro w hSw; (try dsimp only at hSw); go_simp; with_reducible rfl)
        (clear hPT; intro hPT; simp only [List.getElem_toArray, List.getElem_cons_zero, List.getElem_cons_succ, Act.put, List.setIfInBounds_toArray, List.set_cons_zero, List.set_cons_succ])
        refine plan_take (i := 5) (v := ?_) rfl (by kernel_rfl) (by kernel_rfl) (by kernel_rfl) (fun _ _ _ h => h) hPT (by rfl) ?_ ?_
        rotate_left
        · (intro w; go_simp; with_reducible rfl)
        (clear hPT; intro hPT; simp only [List.getElem_toArray, List.getElem_cons_zero, List.getElem_cons_succ, Act.put, List.setIfInBounds_toArray, List.set_cons_zero, List.set_cons_succ])
        refine plan_load (fun w' => w'.cell? ⟨bb, ob + k, none⟩ = some (.int .i64 (z : Nat))) (i := 6) (v := ?_) rfl (by kernel_rfl) (by kernel_rfl) (by kernel_rfl) (fun _ _ _ h => h) hPT (by rfl) ?_ ?_ ?_
        rotate_left
        · (first | assumption | (go_simp; done))
        · (intro w hSw; (try dsimp only at hSw); go_simp; with_reducible rfl)
        (clear hPT; intro hPT; simp only [List.getElem_toArray, List.getElem_cons_zero, List.getElem_cons_succ, Act.put, List.setIfInBounds_toArray, List.set_cons_zero, List.set_cons_succ])
        refine plan_one (i := 7) (by kernel_rfl) rfl (by rfl) (fun K hK => ?_)
        (try simp only [List.getElem_toArray, List.getElem_cons_zero, List.getElem_cons_succ, Act.put, List.setIfInBounds_toArray, List.set_cons_zero, List.set_cons_succ])
        go_simp
        refine hK.out _ _ _ (t_cons ((show Kp No w6 _ from (by (repeat (first | exact Kp.refl _ _ | with_reducible refine Kp.drewN ?_ _ | with_reducible refine Kp.drew ?_ | with_reducible refine Kp.alloc ?_ _ | with_reducible refine Kp.setCell ?_ (fun _ => ?_) _)); all_goals (simp_all; omega))).cell p1 id) (t_cons ((show Kp No w6 _ from (by (repeat (first | exact Kp.refl _ _ | with_reducible refine Kp.drewN ?_ _ | with_reducible refine Kp.drew ?_ | with_reducible refine Kp.alloc ?_ _ | with_reducible refine Kp.setCell ?_ (fun _ => ?_) _)); all_goals (simp_all; omega))).cell q1 id) (t_nil _))) (k_drop (by kernel_rfl) k_same) (fun hPT' => ?_)
        (clear hPT hK K; have hPT := hPT'; clear hPT'; try simp only [List.getElem_toArray, List.getElem_cons_zero, List.getElem_cons_succ, Act.put, List.setIfInBounds_toArray, List.set_cons_zero, List.set_cons_succ])
        refine plan_one (i := 8) (by kernel_rfl) rfl (by rfl) (fun K hK => ?_)
        (try simp only [List.getElem_toArray, List.getElem_cons_zero, List.getElem_cons_succ, Act.put, List.setIfInBounds_toArray, List.set_cons_zero, List.set_cons_succ])
        refine wp_push _ (.tmp 28) (.tmp 34) _ rfl (w.heap.size + 3) 3 _ 8 Tryd.underlying22 Tryd.infoInt rfl v2 L.length (iv (snds L)) rfl (own_kp HN1.out.two.o2 (show Kp No w6 _ from (by (repeat (first | exact Kp.refl _ _ | with_reducible refine Kp.drewN ?_ _ | with_reducible refine Kp.drew ?_ | with_reducible refine Kp.alloc ?_ _ | with_reducible refine Kp.setCell ?_ (fun _ => ?_) _)); all_goals (simp_all; omega))) fun _ _ h => h) (.int .i64 (z : Nat)) rfl 1 _ rfl ((Blk.new _ _ _).cell 0) (by omega) (by decide) (by have := HN1.out.blk.lt; simp; omega) ?_
        intro g1 c1' w7 ho' hgr hat
        have HN2 := hide ((HN1.out.no (show Kp No w6 _ from (by (repeat (first | exact Kp.refl _ _ | with_reducible refine Kp.drewN ?_ _ | with_reducible refine Kp.drew ?_ | with_reducible refine Kp.alloc ?_ _ | with_reducible refine Kp.setCell ?_ (fun _ => ?_) _)); all_goals (simp_all; omega)))).push2 ho' hgr hat)
        have HR8 := hide (show Blk (w7.setCell ⟨w.heap.size + 1 + 1, 1, none⟩ (.slice (some ⟨g1, 0, none⟩) (L.length + 1) c1')) (w.heap.size + 1) 26 #[.slice none 0 0, .slice none 0 0] from ((HR6.out.kp (show Kp No w6 _ from (by (repeat (first | exact Kp.refl _ _ | with_reducible refine Kp.drewN ?_ _ | with_reducible refine Kp.drew ?_ | with_reducible refine Kp.alloc ?_ _ | with_reducible refine Kp.setCell ?_ (fun _ => ?_) _)); all_goals (simp_all; omega))) id).grown hgr fun e => by have := (own_lt HN1.out.two.o2 e.symm).1; omega).far (show w.heap.size + 1 ≠ w.heap.size + 1 + 1 by omega) _)
        have HQ1 := hide (show Kp No W1 w7 from (HN1.out.two.kp.trans (show Kp No w6 _ from (by (repeat (first | exact Kp.refl _ _ | with_reducible refine Kp.drewN ?_ _ | with_reducible refine Kp.drew ?_ | with_reducible refine Kp.alloc ?_ _ | with_reducible refine Kp.setCell ?_ (fun _ => ?_) _)); all_goals (simp_all; omega)))).grown hgr fun b e hb => by have := (own_lt HN1.out.two.o2 e).1; have := HW1.out; omega)
        obtain ⟨y1, y2, y3, y4, y5⟩ := ((HN1.out.blk.kp (show Kp No w6 _ from (by (repeat (first | exact Kp.refl _ _ | with_reducible refine Kp.drewN ?_ _ | with_reducible refine Kp.drew ?_ | with_reducible refine Kp.alloc ?_ _ | with_reducible refine Kp.setCell ?_ (fun _ => ?_) _)); all_goals (simp_all; omega))) id).grown hgr fun e => by have := (own_lt HN1.out.two.o2 e.symm).1; omega).a2
        clear ho' hgr hat
        refine hK.out _ _ _ (t_cons ((HB1.out.kp HQ1.out id).cell 1) (t_nil _)) (k_keep (k_drop (by kernel_rfl) k_nil)) (fun hPT' => ?_)
        (clear hPT hK K; have hPT := hPT'; clear hPT'; try simp only [List.getElem_toArray, List.getElem_cons_zero, List.getElem_cons_succ, Act.put, List.setIfInBounds_toArray, List.set_cons_zero, List.set_cons_succ])
        refine plan_take (i := 9) (v := ?_) rfl (by kernel_rfl) (by kernel_rfl) (by kernel_rfl) (fun _ _ _ h => h) hPT (by rfl) ?_ ?_
        rotate_left
        · (intro w; go_simp; with_reducible rfl)
        (clear hPT; intro hPT; simp only [List.getElem_toArray, List.getElem_cons_zero, List.getElem_cons_succ, Act.put, List.setIfInBounds_toArray, List.set_cons_zero, List.set_cons_succ])
        refine plan_one (i := 10) (by kernel_rfl) rfl (by rfl) (fun K hK => ?_)
        (try simp only [List.getElem_toArray, List.getElem_cons_zero, List.getElem_cons_succ, Act.put, List.setIfInBounds_toArray, List.set_cons_zero, List.set_cons_succ])
        go_simp
        refine hK.out [] _ _ (t_nil _) (k_drop (by kernel_rfl) k_nil) (fun hPT' => ?_)
        (clear hPT hK K; have hPT := hPT'; clear hPT'; try simp only [List.getElem_toArray, List.getElem_cons_zero, List.getElem_cons_succ, Act.put, List.setIfInBounds_toArray, List.set_cons_zero, List.set_cons_succ])
        refine plan_done (by kernel_rfl) ?_ _
        clear hPT
        go_wp2
        exact ⟨⟨k + 1, _, _, by go_num, hlt, by rw [HST.out, HYZ.out]; have := HN2.out; rw [iv_fsts, iv_snds, List.length_append, List.length_singleton]; exact hide this, HR8⟩, by simp [intOf]; omega⟩
    · obtain rfl : k = bs.length := by omega
      have HSA := hide (skip_all bs i)
      have HO := hide ho.out
      obtain ⟨q0, q1⟩ : wr.cell? ⟨w.heap.size + 1 + 1, 0, none⟩ = some v1 ∧ wr.cell? ⟨w.heap.size + 1 + 1, 1, none⟩ = some v2 := ⟨HO.out.blk.cell 0, HO.out.blk.cell 1⟩
      rw [HSA.out] at HO
      obtain ⟨e1, A1, c1, ev1, hc1, hm1, _⟩ := own_form HO.out.two.o1
      obtain ⟨e2, A2, c2, ev2, hc2, hm2, _⟩ := own_form HO.out.two.o2
      rw [iv_length, fsts_length] at ev1
      rw [iv_length, snds_length] at ev2
      subst ev1 ev2
      clear e1 e2
      obtain ⟨y1, y2, y3, y4, y5⟩ := hres.out.a2
      go_wp2_with fail
      have r0 := ((hres.out.set_ 0 (.slice A1 (bs.eraseIdx i).length c1)).set_ 1 (.slice A2 (bs.eraseIdx i).length c2)).cell 0
      have r1 := ((hres.out.set_ 0 (.slice A1 (bs.eraseIdx i).length c1)).set_ 1 (.slice A2 (bs.eraseIdx i).length c2)).cell 1
      refine bodyPost_ret (v := .agg #[.slice A1 (bs.eraseIdx i).length c1, .slice A2 (bs.eraseIdx i).length c2]) (by simp [results, Tryd.results30, go_sem, r0, r1]) rfl ?_
      have hkk : Kp (At (w.heap.size + 1)) wr ((wr.setCell ⟨w.heap.size + 1, 0, none⟩ (.slice A1 (bs.eraseIdx i).length c1)).setCell ⟨w.heap.size + 1, 1, none⟩ (.slice A2 (bs.eraseIdx i).length c2)) := (kp_put _ _ _ _).trans (kp_put _ _ _ _)
      have hkw : Kp No w wr := HK1.out.trans HO.out.two.kp
      refine ⟨_, rfl, ⟨_, _, rfl, ?_, ?_⟩, hkw.trans' hkk fun b hb e => by unfold At at e; omega⟩
      · exact ((IntsIn.of_own (F := fun b => w.heap.size + 3 ≤ b) HO.out.two.o1 fun b hb => (own_lt HO.out.two.o1 hb).1).kp hkk fun b hb e => by unfold At at e; omega).mono fun b _ hb => by unfold Hi; omega
      · exact ((IntsIn.of_own (F := fun b => w.heap.size + 3 ≤ b) HO.out.two.o2 fun b hb => (own_lt HO.out.two.o2 hb).1).kp hkk fun b hb e => by unfold At at e; omega).mono fun b _ hb => by unfold Hi; omega
end Go.Proofs.YtibdddkcjijlaaaDoor
