/- The reference's arena that lends where it fits first: Packed. -/
import Derived.Test.YtfhfakkdilngbaaDoorFitRef2
namespace Go.Proofs.YtfhfakkdilngbaaDoor
open Go.RowKit
set_option linter.unusedSimpArgs false

set_option maxRecDepth 100000 in
set_option maxHeartbeats 4000000 in
theorem packed_any {F : Nat → Prop} (v : Value) (bs : List (Nat × Nat)) (w : World) (h : ArIs w F v bs) (hL : Lie 0 bs) :
    Calls Tryd.prog 15 #[v] w fun e w' => ∃ v', e = .returned v' ∧ ArIs w' (Hi w.heap.size) v' (packF 0 bs) ∧ Kp No w w' := by
  have HLI := hide hL
  have hl : bs.length ≤ 64 := by have := hL.len; omega
  have HPL := hide (pack_length bs 0)
  have HEN := hide (show ∀ k, k ≤ bs.length → endOf 0 bs k ≤ 64 from fun k _ => by
    have h1 := hL.sum
    unfold endOf
    have : sizesSum (bs.take k) ≤ sizesSum bs := by
      have := congrArg sizesSum (List.take_append_drop k bs)
      unfold sizesSum at this ⊢
      rw [List.map_append, List.sum_append] at this
      omega
    omega)
  clear hL
  obtain ⟨a, b, rfl, h1, h2⟩ := h
  have HA := hide h1
  have HB := hide h2
  obtain ⟨Aa, ca, rfl, _⟩ := id h1
  obtain ⟨Ab, cb, rfl, _⟩ := id h2
  clear h1 h2
  simp only [fsts_length, snds_length] at HA HB ⊢
  go_enter Tryd.func15, Tryd.ntmps15
  go_wp2_with fail
  obtain ⟨W1, hW1⟩ : ∃ W1, w.alloc (.cells #[.slice Aa bs.length ca, .slice Ab bs.length cb] 37) = W1 := ⟨_, rfl⟩
  have HW1 := hide (show W1.heap.size = w.heap.size + 1 by rw [← hW1]; simp)
  have HK1 := hide (show Kp No w W1 by rw [← hW1]; exact (Kp.refl No w).alloc _)
  have HB1 := hide (show Blk W1 w.heap.size 37 #[.slice Aa bs.length ca, .slice Ab bs.length cb] by rw [← hW1]; exact Blk.new w _ _)
  rw [hW1]
  clear hW1
  go_loopw [4, 5] (fun a q wr => ∃ (k : Nat) (v1 v2 : Value), q = .int .i64 k ∧ a = .int .i64 (endOf 0 bs k : Nat) ∧ k ≤ bs.length ∧ Hid (Out2 W1 wr (w.heap.size + 1 + 1) (w.heap.size + 3) v1 v2 ((packF 0 bs).take k).length ((packF 0 bs).take k).length (iv (fsts ((packF 0 bs).take k))) (iv (snds ((packF 0 bs).take k)))) ∧ Hid (Blk wr (w.heap.size + 1) 37 #[.slice none 0 0, .slice none 0 0])) (fun _ q _ => bs.length - (intOf q).toNat)
  case atStart =>
    refine ⟨0, .slice none 0 0, .slice none 0 0, rfl, by rw [endOf_zero]; rfl, Nat.zero_le _, ?_, ?_⟩
    · have hb := Blk.new (W1.alloc (.cells #[.slice none 0 0, .slice none 0 0] 37)) 37 #[.slice none 0 0, .slice none 0 0]
      have e : (W1.alloc (.cells #[.slice none 0 0, .slice none 0 0] 37)).heap.size = w.heap.size + 1 + 1 := by simp [HW1.out]
      rw [e] at hb
      exact hide (⟨(Two.start W1 (by have := HW1.out; omega)).no (((Kp.refl No W1).alloc _).alloc _), hb, by omega, by have := HW1.out; omega⟩ : Out2 _ _ _ _ _ _ _ _ _ _)
    · have hb := (Blk.new W1 37 #[.slice none 0 0, .slice none 0 0]).kp ((Kp.refl No _).alloc (.cells #[.slice none 0 0, .slice none 0 0] 37)) id
      rw [HW1.out] at hb
      exact hide hb
  case round =>
    obtain ⟨k, v1, v2, rfl, rfl, hk, ho, hres⟩ := hrel
    have HB := hide (HB.out.no HK1.out)
    obtain ⟨p0, p1⟩ : wr.cell? ⟨w.heap.size, 0, none⟩ = some (.slice Aa bs.length ca) ∧ wr.cell? ⟨w.heap.size, 1, none⟩ = some (.slice Ab bs.length cb) := ⟨(HB1.out.kp ho.out.two.kp id).cell 0, (HB1.out.kp ho.out.two.kp id).cell 1⟩
    by_cases hlt : k < bs.length
    · have HST := hide (show (packF 0 bs).take (k + 1) = (packF 0 bs).take k ++ [(endOf 0 bs k, (bs[k]).2)] by rw [List.take_succ_eq_append_getElem (by rw [HPL.out]; exact hlt), pack_at bs 0 k hlt])
      have HES := hide (endOf_succ 0 hlt)
      have hE := HEN.out k hk
      have hE2 := HEN.out (k + 1) hlt
      obtain ⟨_, _, _, hcell⟩ := ar_len (HA.out.no (HK1.out.trans ho.out.two.kp))
      obtain ⟨ba, oa, rfl, _, c1⟩ := hcell k hlt
      obtain ⟨_, _, _, hcell2⟩ := ar_len2 (HB.out.no ho.out.two.kp)
      obtain ⟨bb, ob, rfl, _, c2⟩ := hcell2 k hlt
      obtain ⟨y, hy⟩ : ∃ y, endOf 0 bs k = y := ⟨_, rfl⟩
      obtain ⟨z, hz⟩ : ∃ z, (bs[k]).2 = z := ⟨_, rfl⟩
      have hyz : y + z ≤ 64 := by rw [← hy, ← hz, ← HES.out]; exact hE2
      rw [hz] at c2 HST HES
      rw [hy] at HST HES hE ⊢
      clear hE2
      obtain ⟨L, hL⟩ : ∃ L, (packF 0 bs).take k = L := ⟨_, rfl⟩
      have hLk : L.length ≤ k := by rw [← hL, List.length_take]; omega
      rw [hL] at ho HST
      have HO := hide ho.out
      obtain ⟨q0, q1⟩ : wr.cell? ⟨w.heap.size + 1 + 1, 0, none⟩ = some v1 ∧ wr.cell? ⟨w.heap.size + 1 + 1, 1, none⟩ = some v2 := ⟨HO.out.blk.cell 0, HO.out.blk.cell 1⟩
      have HC2 := hide (show ∀ W, Kp No W1 W → W.cell? ⟨bb, ob + k, none⟩ = some (.int .i64 (z : Nat)) from fun W hW => by
        obtain ⟨_, _, _, hcell⟩ := ar_len2 (HB.out.no hW)
        obtain ⟨b', o', e, _, c'⟩ := hcell k hlt
        cases e
        rw [c', hz])
      clear hcell hcell2 hy hz ho hL
      obtain ⟨y1, y2, y3, y4, y5⟩ := (HO.out.blk.alloc (.cells #[.int .i64 (y : Nat)] 3)).a2
      have hsz : w.heap.size + 3 ≤ wr.heap.size := by have := HO.out.blk.lt; omega
      go_wp2_with (at_builtin
                   refine wpList_push _ rfl (.tmp 14) (.tmp 16) _ rfl (w.heap.size + 3) 3 _ 8 Tryd.underlying22 Tryd.infoInt rfl v1 L.length (iv (fsts L)) rfl HO.out.two.o1 (.int .i64 (y : Nat)) rfl 1 _ rfl (by simp) (by omega) (by decide) hsz ?_
                   intro g0 c0' w5 ho' hgr hat
                   have HN1 := hide ((HO.out.no ((Kp.refl No wr).alloc _)).push1 ho' hgr (by simpa using hat))
                   have HR6 := hide (show Blk (w5.setCell ⟨w.heap.size + 1 + 1, 0, none⟩ (.slice (some ⟨g0, 0, none⟩) (L.length + 1) c0')) (w.heap.size + 1) 37 #[.slice none 0 0, .slice none 0 0] from ((hres.out.alloc _).grown hgr fun e => by have := (own_lt HO.out.two.o1 e.symm).1; omega).far (show w.heap.size + 1 ≠ w.heap.size + 1 + 1 by omega) _)
                   clear y1 y2 y3 y4 y5
                   obtain ⟨y1, y2, y3, y4, y5⟩ := ((HO.out.blk.alloc _).grown hgr fun e => by have := (own_lt HO.out.two.o1 e.symm).1; omega).a2
                   clear ho' hgr hat)
      obtain ⟨w6, hw6⟩ : ∃ w6, w5.setCell ⟨w.heap.size + 1 + 1, 0, none⟩ (.slice (some ⟨g0, 0, none⟩) (L.length + 1) c0') = w6 := ⟨_, rfl⟩
      rw [hw6] at HN1 HR6 ⊢
      have hk6 : Kp No W1 w6 := HN1.out.two.kp
      clear y1 y2 y3 y4 y5 p0 p1 q0 q1 c2 hw6
      obtain ⟨p0, p1⟩ : w6.cell? ⟨w.heap.size, 0, none⟩ = some (.slice (some ⟨ba, oa, none⟩) bs.length ca) ∧ w6.cell? ⟨w.heap.size, 1, none⟩ = some (.slice (some ⟨bb, ob, none⟩) bs.length cb) := ⟨(HB1.out.kp hk6 id).cell 0, (HB1.out.kp hk6 id).cell 1⟩
      obtain ⟨q0, q1⟩ : w6.cell? ⟨w.heap.size + 1 + 1, 0, none⟩ = some (.slice (some ⟨g0, 0, none⟩) (L.length + 1) c0') ∧ w6.cell? ⟨w.heap.size + 1 + 1, 1, none⟩ = some v2 := ⟨HN1.out.blk.cell 0, HN1.out.blk.cell 1⟩
      have c2 := HC2.out w6 hk6
      clear hk6
      go_wp2_with fail
      refine plan_start 11 (by kernel_rfl) rfl (fun hPT => ?_)
      refine plan_take (i := 0) (v := ?_) rfl (by kernel_rfl) (by kernel_rfl) (by kernel_rfl) (fun _ _ _ h => h) hPT (by rfl) ?_ ?_
      rotate_left
      · (intro w; go_simp; with_reducible rfl)
      (clear hPT; intro hPT; simp only [List.getElem_toArray, List.getElem_cons_zero, List.getElem_cons_succ, Act.put, List.setIfInBounds_toArray, List.set_cons_zero, List.set_cons_succ])
      refine plan_take (i := 2) (v := ?_) rfl (by kernel_rfl) (by kernel_rfl) (by kernel_rfl) (fun _ _ _ h => h) hPT (by rfl) ?_ ?_
      rotate_left
      · (intro w; go_simp; with_reducible rfl)
      (clear hPT; intro hPT; simp only [List.getElem_toArray, List.getElem_cons_zero, List.getElem_cons_succ, Act.put, List.setIfInBounds_toArray, List.set_cons_zero, List.set_cons_succ])
      refine plan_take (i := 4) (v := ?_) rfl (by kernel_rfl) (by kernel_rfl) (by kernel_rfl) (fun _ _ _ h => h) hPT (by rfl) ?_ ?_
      rotate_left
      · (intro w; go_simp; with_reducible rfl)
      (clear hPT; intro hPT; simp only [List.getElem_toArray, List.getElem_cons_zero, List.getElem_cons_succ, Act.put, List.setIfInBounds_toArray, List.set_cons_zero, List.set_cons_succ])
      refine plan_load (fun w' => w'.cell? ⟨w.heap.size + 1 + 1, 1, none⟩ = some v2) (i := 1) (v := ?_) rfl (by kernel_rfl) (by kernel_rfl) (by kernel_rfl) (fun _ _ _ h => h) hPT (by rfl) ?_ ?_ ?_
      rotate_left
      · (first | assumption | (go_simp; done))
      · (intro w hSw; (try dsimp only at hSw); go_simp; with_reducible rfl)
      (clear hPT; intro hPT; simp only [List.getElem_toArray, List.getElem_cons_zero, List.getElem_cons_succ, Act.put, List.setIfInBounds_toArray, List.set_cons_zero, List.set_cons_succ])
      refine plan_load (fun w' => w'.cell? ⟨w.heap.size, 1, none⟩ = some (.slice (some ⟨bb, ob, none⟩) bs.length cb)) (i := 3) (v := ?_) rfl (by kernel_rfl) (by kernel_rfl) (by kernel_rfl) (fun _ _ _ h => h) hPT (by rfl) ?_ ?_ ?_
      rotate_left
      · (first | assumption | (go_simp; done))
      · (intro w hSw; (try dsimp only at hSw); go_simp; with_reducible rfl)
      (clear hPT; intro hPT; simp only [List.getElem_toArray, List.getElem_cons_zero, List.getElem_cons_succ, Act.put, List.setIfInBounds_toArray, List.set_cons_zero, List.set_cons_succ])
      refine plan_take (i := 5) (v := ?_) rfl (by kernel_rfl) (by kernel_rfl) (by kernel_rfl) (fun _ _ _ h => h) hPT (by rfl) ?_ ?_
      rotate_left
      · (intro w; go_simp; with_reducible rfl)
      (clear hPT; intro hPT; simp only [List.getElem_toArray, List.getElem_cons_zero, List.getElem_cons_succ, Act.put, List.setIfInBounds_toArray, List.set_cons_zero, List.set_cons_succ])
      refine plan_load (fun w' => w'.cell? ⟨bb, ob + k, none⟩ = some (.int .i64 (z : Nat))) (i := 6) (v := ?_) rfl (by kernel_rfl) (by kernel_rfl) (by kernel_rfl) (fun _ _ _ h => h) hPT (by rfl) ?_ ?_ ?_
      rotate_left
      · (first | assumption | (go_simp; done))
      · (intro w hSw; (try dsimp only at hSw); go_simp; with_reducible rfl)
      (clear hPT; intro hPT; simp only [List.getElem_toArray, List.getElem_cons_zero, List.getElem_cons_succ, Act.put, List.setIfInBounds_toArray, List.set_cons_zero, List.set_cons_succ])
      refine plan_one (i := 7) (by kernel_rfl) rfl (by rfl) (fun K hK => ?_)
      (try simp only [List.getElem_toArray, List.getElem_cons_zero, List.getElem_cons_succ, Act.put, List.setIfInBounds_toArray, List.set_cons_zero, List.set_cons_succ])
      go_simp
      refine hK.out _ _ _ (t_cons ((show Kp No w6 _ from (by (repeat (first | exact Kp.refl _ _ | with_reducible refine Kp.drewN ?_ _ | with_reducible refine Kp.drew ?_ | with_reducible refine Kp.alloc ?_ _ | with_reducible refine Kp.setCell ?_ (fun _ => ?_) _)); all_goals (simp_all; omega))).cell p1 id) (t_cons ((show Kp No w6 _ from (by (repeat (first | exact Kp.refl _ _ | with_reducible refine Kp.drewN ?_ _ | with_reducible refine Kp.drew ?_ | with_reducible refine Kp.alloc ?_ _ | with_reducible refine Kp.setCell ?_ (fun _ => ?_) _)); all_goals (simp_all; omega))).cell q1 id) (t_nil _))) (k_drop (by kernel_rfl) k_same) (fun hPT' => ?_)
      (clear hPT hK K; have hPT := hPT'; clear hPT'; try simp only [List.getElem_toArray, List.getElem_cons_zero, List.getElem_cons_succ, Act.put, List.setIfInBounds_toArray, List.set_cons_zero, List.set_cons_succ])
      refine plan_one (i := 8) (by kernel_rfl) rfl (by rfl) (fun K hK => ?_)
      (try simp only [List.getElem_toArray, List.getElem_cons_zero, List.getElem_cons_succ, Act.put, List.setIfInBounds_toArray, List.set_cons_zero, List.set_cons_succ])
      refine wp_push _ (.tmp 20) (.tmp 26) _ rfl (w.heap.size + 3) 3 _ 8 Tryd.underlying22 Tryd.infoInt rfl v2 L.length (iv (snds L)) rfl (own_kp HN1.out.two.o2 (show Kp No w6 _ from (by (repeat (first | exact Kp.refl _ _ | with_reducible refine Kp.drewN ?_ _ | with_reducible refine Kp.drew ?_ | with_reducible refine Kp.alloc ?_ _ | with_reducible refine Kp.setCell ?_ (fun _ => ?_) _)); all_goals (simp_all; omega))) fun _ _ h => h) (.int .i64 (z : Nat)) rfl 1 _ rfl ((Blk.new _ _ _).cell 0) (by omega) (by decide) (by have := HN1.out.blk.lt; simp; omega) ?_
      intro g1 c1' w7 ho' hgr hat
      have HN2 := hide ((HN1.out.no (show Kp No w6 _ from (by (repeat (first | exact Kp.refl _ _ | with_reducible refine Kp.drewN ?_ _ | with_reducible refine Kp.drew ?_ | with_reducible refine Kp.alloc ?_ _ | with_reducible refine Kp.setCell ?_ (fun _ => ?_) _)); all_goals (simp_all; omega)))).push2 ho' hgr hat)
      have HR8 := hide (show Blk (w7.setCell ⟨w.heap.size + 1 + 1, 1, none⟩ (.slice (some ⟨g1, 0, none⟩) (L.length + 1) c1')) (w.heap.size + 1) 37 #[.slice none 0 0, .slice none 0 0] from ((HR6.out.kp (show Kp No w6 _ from (by (repeat (first | exact Kp.refl _ _ | with_reducible refine Kp.drewN ?_ _ | with_reducible refine Kp.drew ?_ | with_reducible refine Kp.alloc ?_ _ | with_reducible refine Kp.setCell ?_ (fun _ => ?_) _)); all_goals (simp_all; omega))) id).grown hgr fun e => by have := (own_lt HN1.out.two.o2 e.symm).1; omega).far (show w.heap.size + 1 ≠ w.heap.size + 1 + 1 by omega) _)
      have HQ1 := hide (show Kp No W1 w7 from (HN1.out.two.kp.trans (show Kp No w6 _ from (by (repeat (first | exact Kp.refl _ _ | with_reducible refine Kp.drewN ?_ _ | with_reducible refine Kp.drew ?_ | with_reducible refine Kp.alloc ?_ _ | with_reducible refine Kp.setCell ?_ (fun _ => ?_) _)); all_goals (simp_all; omega)))).grown hgr fun b e hb => by have := (own_lt HN1.out.two.o2 e).1; have := HW1.out; omega)
      obtain ⟨y1, y2, y3, y4, y5⟩ := ((HN1.out.blk.kp (show Kp No w6 _ from (by (repeat (first | exact Kp.refl _ _ | with_reducible refine Kp.drewN ?_ _ | with_reducible refine Kp.drew ?_ | with_reducible refine Kp.alloc ?_ _ | with_reducible refine Kp.setCell ?_ (fun _ => ?_) _)); all_goals (simp_all; omega))) id).grown hgr fun e => by have := (own_lt HN1.out.two.o2 e.symm).1; omega).a2
      clear ho' hgr hat
      refine hK.out _ _ _ (t_cons ((HB1.out.kp HQ1.out id).cell 1) (t_nil _)) (k_keep (k_drop (by kernel_rfl) k_nil)) (fun hPT' => ?_)
      (clear hPT hK K; have hPT := hPT'; clear hPT'; try simp only [List.getElem_toArray, List.getElem_cons_zero, List.getElem_cons_succ, Act.put, List.setIfInBounds_toArray, List.set_cons_zero, List.set_cons_succ])
      refine plan_take (i := 9) (v := ?_) rfl (by kernel_rfl) (by kernel_rfl) (by kernel_rfl) (fun _ _ _ h => h) hPT (by rfl) ?_ ?_
      rotate_left
      · (intro w; go_simp; with_reducible rfl)
      (clear hPT; intro hPT; simp only [List.getElem_toArray, List.getElem_cons_zero, List.getElem_cons_succ, Act.put, List.setIfInBounds_toArray, List.set_cons_zero, List.set_cons_succ])
      refine plan_one (i := 10) (by kernel_rfl) rfl (by rfl) (fun K hK => ?_)
      (try simp only [List.getElem_toArray, List.getElem_cons_zero, List.getElem_cons_succ, Act.put, List.setIfInBounds_toArray, List.set_cons_zero, List.set_cons_succ])
      go_simp
      refine hK.out [] _ _ (t_nil _) (k_drop (by kernel_rfl) k_nil) (fun hPT' => ?_)
      (clear hPT hK K; have hPT := hPT'; clear hPT'; try simp only [List.getElem_toArray, List.getElem_cons_zero, List.getElem_cons_succ, Act.put, List.setIfInBounds_toArray, List.set_cons_zero, List.set_cons_succ])
      refine plan_done (by kernel_rfl) ?_ _
      clear hPT
      have c2 := HC2.out _ HN2.out.two.kp
      obtain ⟨p0, p1⟩ := (⟨(HB1.out.kp HN2.out.two.kp id).cell 0, (HB1.out.kp HN2.out.two.kp id).cell 1⟩ : World.cell? _ ⟨w.heap.size, 0, none⟩ = some (.slice (some ⟨ba, oa, none⟩) bs.length ca) ∧ World.cell? _ ⟨w.heap.size, 1, none⟩ = some (.slice (some ⟨bb, ob, none⟩) bs.length cb))
      go_wp2_with fail
      trace_state
      exact ⟨⟨k + 1, _, _, by go_num, by rw [HES.out]; rfl, hlt, by rw [HST.out]; have := HN2.out; rw [iv_fsts, iv_snds, List.length_append, List.length_singleton]; exact hide this, HR8⟩, by simp [intOf]; omega⟩
    · obtain rfl : k = bs.length := by omega
      have HSA := hide (show (packF 0 bs).take bs.length = packF 0 bs by rw [← HPL.out, List.take_length])
      have HO := hide ho.out
      obtain ⟨q0, q1⟩ : wr.cell? ⟨w.heap.size + 1 + 1, 0, none⟩ = some v1 ∧ wr.cell? ⟨w.heap.size + 1 + 1, 1, none⟩ = some v2 := ⟨HO.out.blk.cell 0, HO.out.blk.cell 1⟩
      rw [HSA.out] at HO
      obtain ⟨e1, A1, c1, ev1, hc1, hm1, _⟩ := own_form HO.out.two.o1
      obtain ⟨e2, A2, c2, ev2, hc2, hm2, _⟩ := own_form HO.out.two.o2
      rw [iv_length, fsts_length, HPL.out] at ev1
      rw [iv_length, snds_length, HPL.out] at ev2
      subst ev1 ev2
      clear e1 e2
      obtain ⟨y1, y2, y3, y4, y5⟩ := hres.out.a2
      go_wp2_with fail
      have r0 := ((hres.out.set_ 0 (.slice A1 bs.length c1)).set_ 1 (.slice A2 bs.length c2)).cell 0
      have r1 := ((hres.out.set_ 0 (.slice A1 bs.length c1)).set_ 1 (.slice A2 bs.length c2)).cell 1
      refine bodyPost_ret (v := .agg #[.slice A1 bs.length c1, .slice A2 bs.length c2]) (by simp [results, Tryd.results15, go_sem, r0, r1]) rfl ?_
      have hkk : Kp (At (w.heap.size + 1)) wr ((wr.setCell ⟨w.heap.size + 1, 0, none⟩ (.slice A1 bs.length c1)).setCell ⟨w.heap.size + 1, 1, none⟩ (.slice A2 bs.length c2)) := (kp_put _ _ _ _).trans (kp_put _ _ _ _)
      have hkw : Kp No w wr := HK1.out.trans HO.out.two.kp
      refine ⟨_, rfl, ⟨_, _, rfl, ?_, ?_⟩, hkw.trans' hkk fun b hb e => by unfold At at e; omega⟩
      · exact ((IntsIn.of_own (F := fun b => w.heap.size + 3 ≤ b) HO.out.two.o1 fun b hb => (own_lt HO.out.two.o1 hb).1).kp hkk fun b hb e => by unfold At at e; omega).mono fun b _ hb => by unfold Hi; omega
      · exact ((IntsIn.of_own (F := fun b => w.heap.size + 3 ≤ b) HO.out.two.o2 fun b hb => (own_lt HO.out.two.o2 hb).1).kp hkk fun b hb e => by unfold At at e; omega).mono fun b _ hb => by unfold Hi; omega
end Go.Proofs.YtfhfakkdilngbaaDoor
