/- fit: Holes, walked (printed by wip/print/fit2.py). -/
import Derived.Test.YtibdddkcjijlaaaDoorFitLent
namespace Go.Proofs.YtibdddkcjijlaaaDoor
open Go.RowKit
set_option linter.unusedSimpArgs false

set_option maxHeartbeats 1000000 in
theorem cloneB_any (v : Value) (bs : List (Nat × Nat)) (w : World) (h : w.ownsRow 0 56 2 v bs.length (bkv bs)) (hl : bs.length ≤ 1000) :
    Calls Tryd.prog 34 #[v] w fun e w' => ∃ v', e = .returned v' ∧ w'.ownsRow w.heap.size 56 2 v' bs.length (bkv bs) ∧ Kp No w w' := by
  have q23 : ∀ (w : World) (a : Option Addr) (n c n' c' : Nat), (binOp .eql 48 (.slice a n c) (.slice none n' c')).run Tryd.prog w = .ok (.bool a.isNone) w := fun w a n c n' c' => Lib.run_eql_slice_nil w _ _ a n c n' c' Tryd.underlying48
  rcases h.2 with ⟨rfl, h0⟩ | ⟨g, c, cur, rfl, _, hh, hnc, hmx, hs, ht⟩
  · have hb : bs = [] := List.eq_nil_of_length_eq_zero h0
    subst hb
    clear h h0
    go_enter Tryd.func34, Tryd.ntmps34
    go_wp2
    go_ret
    exact ⟨_, rfl, World.ownsRow_nil _ _ _ _, Kp.refl _ _⟩
  · obtain ⟨i0, hi0, hz0, hzs, hzb⟩ := info_parts Tryd.infoInsBlk
    have hg := Blk.lt (t := 56) hh
    obtain ⟨v', w', hr, h2, h3, _, h5⟩ := run_append_own_at (P := Tryd.prog) (w.alloc (.cells #[] 56)) w.heap.size 48 48 56 i0 _ 2 16 Tryd.underlying48 hi0 hz0 hzs hzb rfl (by omega) (.slice (some ⟨w.heap.size, 0, none⟩) 0 0) 0 []
      (ownK_new w #[] 56 2 0 w.heap.size (Nat.le_refl _) rfl (by omega)) ⟨g, 0, none⟩ bs.length c (bkv bs) (bkv_length bs)
      (fun j u hj => by
        rw [Addr.add_lit, Nat.zero_add, World.cell?_alloc_lt _ _ _ hg, Blk.cell (t := 56) hh]
        rw [← ht, List.getElem?_take] at hj
        split at hj
        · rw [← Array.getElem?_toList]; exact hj
        · cases hj) (bkv_one bs) (by unfold maxLen; omega) (by omega) (by simp)
    rw [Nat.zero_add, List.nil_append] at h2
    have HP := hide h2
    have HK := hide (show Kp No w w' from ((Kp.refl No w).alloc _).grown h3 fun k e hk => by have e : w.heap.size = k := by simpa [Value.ownBlock] using e
                                                                                             omega)
    clear h h2 h3 h5 hh hs ht hi0 hz0 hzs hzb hg
    go_enter Tryd.func34, Tryd.ntmps34
    go_wp2_with (at_builtin; refine Lib.wpList_append_run _ rfl _ _ _ _ rfl _ _ rfl rfl _ _ hr ?_)
    go_ret
    exact ⟨_, rfl, HP.out, HK.out⟩

theorem holes_done {bs : List (Nat × Nat)} {q k : Nat} {D : List (Nat × Nat)} (h : holesF 0 bs = D ++ holesF q (bs.drop k)) (hk : k < bs.length) :
    (q < (bs[k]).1 → holesF 0 bs = (D ++ [(q, (bs[k]).1 - q)]) ++ holesF ((bs[k]).1 + (bs[k]).2) (bs.drop (k + 1))) ∧ (¬ q < (bs[k]).1 → holesF 0 bs = D ++ holesF ((bs[k]).1 + (bs[k]).2) (bs.drop (k + 1))) := by
  rw [h, holes_at hk]
  constructor
  · intro h1; rw [if_pos h1, List.append_assoc]; rfl
  · intro h1; rw [if_neg h1]
theorem Lie.allEnd {bs : List (Nat × Nat)} (h : Lie 0 bs) : ∀ b ∈ bs ++ [(64, 0)], b.1 + b.2 ≤ 64 := by
  intro b hb
  rcases List.mem_append.1 hb with hb | hb
  · exact (h.all b hb).2.2
  · simp only [List.mem_singleton] at hb; subst hb; decide

set_option maxRecDepth 100000 in
set_option maxHeartbeats 8000000 in
theorem fholes_any {p : Nat} {S : Nat → Prop} {bs : List (Nat × Nat)} (w : World) (hF : FitIs w p S bs) (hL : Lie 0 bs) :
    Calls Tryd.prog 16 #[.pointer (some ⟨p, 0, none⟩)] w (TwoPost w (fsts (holesOf bs)) (snds (holesOf bs))) := by
  obtain ⟨_, v, h, _⟩ := hF
  have hl64 : bs.length ≤ 64 := by have := hL.len; omega
  obtain ⟨A, c, hv, hc, hm, _, _⟩ := h.form
  obtain ⟨b1, f1, z1⟩ := h.blk.a1
  have HCL := hide (cloneB_any v bs w h.own (by omega))
  have HALL := hide hL.allEnd
  subst hv
  clear h hL
  go_enter Tryd.func16, Tryd.ntmps16
  go_wp2_with fail
  refine Calls.mono HCL.out ?_
  rintro e w0 ⟨v', rfl, ho, hk⟩
  obtain ⟨i0, hi0, hz0, hzs, hzb⟩ := info_parts Tryd.infoInsBlk
  obtain ⟨v2, w1, hr, h2, h3, _, _⟩ := run_append_own_at (P := Tryd.prog) (w0.alloc (.cells #[.int .i64 64, .int .i64 0] 56)) w.heap.size 48 48 56 i0 _ 2 16 Tryd.underlying48 hi0 hz0 hzs hzb rfl (by omega) v' bs.length (bkv bs)
    (ho.alloc _) ⟨w0.heap.size, 0, none⟩ 1 1 [.int .i64 64, .int .i64 0] rfl
    (fun j u hj => by rw [Addr.add_lit, Nat.zero_add, (Blk.new w0 56 #[.int .i64 64, .int .i64 0]).cell, ← Array.getElem?_toList]; exact hj) (fun u hu => by simp only [List.mem_cons, List.not_mem_nil, or_false] at hu; rcases hu with rfl | rfl <;> rfl) (by unfold maxLen; omega) (by omega) (by simp; exact Nat.le_succ_of_le hk.size)
  have HOWN := hide (show w1.ownsRow w.heap.size 56 2 v2 (bs ++ [(64, 0)]).length (bkv (bs ++ [(64, 0)])) by rw [List.length_append, bkv_append]; exact h2)
  have HKW := hide (show Kp No w w1 from (hk.alloc _).grown h3 fun b e hb => by have := (own_lt ho e).1; omega)
  have HSH : ∃ g c, v2 = .slice (some ⟨g, 0, none⟩) (bs.length + 1) c ∧ bs.length + 1 ≤ c ∧ c ≤ 9223372036854775807 := by
    rcases h2.2 with ⟨_, h0⟩ | ⟨g, c, _, e, _, _, h1, h3, _⟩
    · omega
    · exact ⟨g, c, e, h1, by unfold maxLen at h3; exact h3⟩
  obtain ⟨gR, cR, rfl, hcR, hmR⟩ := HSH
  have HSV : ∃ A' c', v' = .slice A' bs.length c' := by
    rcases ho.2 with ⟨e, h0⟩ | ⟨g, c, _, e, _⟩
    · exact ⟨_, _, by rw [h0]; exact e⟩
    · exact ⟨_, _, e⟩
  obtain ⟨A', c', rfl⟩ := HSV
  clear ho hk h2 h3 hi0 hz0 hzs hzb b1 f1 z1 HCL
  go_wp2_with (at_builtin; refine Lib.wpList_append_run _ rfl _ _ _ _ rfl _ _ rfl rfl _ _ hr ?_)
  clear hr
  obtain ⟨B, hB⟩ : ∃ B, bs ++ [(64, 0)] = B := ⟨_, rfl⟩
  have HBB0 := hide hB
  have hBl : B.length = bs.length + 1 := by rw [← hB, List.length_append]; rfl
  rw [hB] at HOWN HALL
  clear hB
  go_loopw [2, 3, 4, 16] (fun s2 s3 s4 s16 wr => ∃ (k q : Nat) (D : List (Nat × Nat)), s16 = .int .i64 k ∧ s4 = .int .i64 q ∧ k ≤ B.length ∧ q ≤ 64 ∧ D.length ≤ k ∧ Hid (holesF 0 B = D ++ holesF q (B.drop k)) ∧ Hid (Two w1.heap.size w1 wr s2 s3 D.length D.length (iv (fsts D)) (iv (snds D)))) (fun _ _ _ s16 _ => B.length - (intOf s16).toNat)
  case atStart => exact ⟨0, 0, [], rfl, rfl, Nat.zero_le _, by omega, Nat.le_refl _, rfl, Two.start _ (Nat.le_refl _)⟩
  case round =>
    obtain ⟨k, q, D, rfl, rfl, hk, hq, hD, hH, hT⟩ := hrel
    have HT := hide hT.out
    clear hT
    by_cases hlt : k < B.length
    · have hro : wr.ownsRow w.heap.size 56 2 (.slice (some ⟨gR, 0, none⟩) (bs.length + 1) cR) B.length (bkv B) := own_kp HOWN.out HT.out.kp fun _ _ h => h
      have hcl : wr.cell? ⟨gR, k * 2, none⟩ = some (.int .i64 (B[k]).1) ∧ wr.cell? ⟨gR, k * 2 + 1, none⟩ = some (.int .i64 (B[k]).2) := by
        have h1 := hro.cells (g := gR) rfl (k * 2) _ (bkv_get B k hlt).1
        have h2 := hro.cells (g := gR) rfl (k * 2 + 1) _ (bkv_get B k hlt).2
        rw [Addr.add_lit, Nat.zero_add] at h1 h2
        exact ⟨h1, h2⟩
      have hg := (own_lt hro (g := gR) rfl).2
      obtain ⟨c1, c2⟩ := hcl
      have HN := hide (holes_done hH.out hlt)
      have hal := HALL.out _ (List.getElem_mem hlt)
      clear hro hH
      obtain ⟨a, ha⟩ : ∃ a, (B[k]).1 = a := ⟨_, rfl⟩
      obtain ⟨sz, hs⟩ : ∃ s, (B[k]).2 = s := ⟨_, rfl⟩
      rw [ha] at c1 HN hal
      rw [hs] at c2 HN hal
      clear ha hs
      by_cases hfr : q < a
      · have HPA := hide (fsts_snoc D (q, a - q))
        have HPB := hide (snds_snoc D (q, a - q))
        have HN1 := hide (HN.out.1 hfr)
        have hcast : ((a - q : Nat) : Int) = (a : Int) - (q : Int) := by omega
        simp only [hcast] at HPB
        have hwr : IntKind.i64.wrap ((a : Int) - (q : Int)) = (a : Int) - (q : Int) := by rw [IntKind.wrap_i64]; omega
        clear hcast HN
        obtain ⟨X, hX⟩ : ∃ X, fsts D = X := ⟨_, rfl⟩
        obtain ⟨Y, hY⟩ : ∃ Y, snds D = Y := ⟨_, rfl⟩
        rw [hX] at HPA HT
        rw [hY] at HPB HT
        clear hX hY
        go_wp2_with fail
        have HM := hide ((HT.out.no (((Kp.refl No wr).alloc (.cells #[.int .i64 a, .int .i64 sz] 56)).drew)))
        have HBB := hide ((Blk.new wr 56 #[.int .i64 a, .int .i64 sz]).drew)
        have hB0 : wr.heap.size + 1 ≤ (wr.alloc (.cells #[.int .i64 a, .int .i64 sz] 56)).drew.heap.size := by simp
        have HZ := hide hB0
        clear hB0
        have HL1 := hide (HT.out.lt1 (Nat.le_succ _))
        have HL2 := hide (HT.out.lt2 (Nat.le_succ _))
        have HLO := hide (show w1.heap.size ≤ wr.heap.size + 1 from Nat.le_trans HT.out.kp.size (Nat.le_succ _))
        obtain ⟨z0, z1, _, _, _⟩ := HBB.out.a2
        clear c1 c2 hg
        refine plan_start 13 (by kernel_rfl) rfl (fun hPT => ?_)
        refine plan_take (i := 0) (v := ?_) rfl (by kernel_rfl) (by kernel_rfl) (by kernel_rfl) (fun _ _ _ h => h) hPT (by rfl) ?_ ?_
        rotate_left
        · (intro w; go_simp; with_reducible rfl)
        (clear hPT; intro hPT; simp only [List.getElem_toArray, List.getElem_cons_zero, List.getElem_cons_succ, Act.put, List.setIfInBounds_toArray, List.set_cons_zero, List.set_cons_succ])
        refine plan_take (i := 1) (v := ?_) rfl (by kernel_rfl) (by kernel_rfl) (by kernel_rfl) (fun _ _ _ h => h) hPT (by rfl) ?_ ?_
        rotate_left
        · (intro w; go_simp; with_reducible rfl)
        (clear hPT; intro hPT; simp only [List.getElem_toArray, List.getElem_cons_zero, List.getElem_cons_succ, Act.put, List.setIfInBounds_toArray, List.set_cons_zero, List.set_cons_succ])
        refine plan_take (i := 4) (v := ?_) rfl (by kernel_rfl) (by kernel_rfl) (by kernel_rfl) (fun _ _ _ h => h) hPT (by rfl) ?_ ?_
        rotate_left
        · (intro w; go_simp; with_reducible rfl)
        (clear hPT; intro hPT; simp only [List.getElem_toArray, List.getElem_cons_zero, List.getElem_cons_succ, Act.put, List.setIfInBounds_toArray, List.set_cons_zero, List.set_cons_succ])
        refine plan_take (i := 5) (v := ?_) rfl (by kernel_rfl) (by kernel_rfl) (by kernel_rfl) (fun _ _ _ h => h) hPT (by rfl) ?_ ?_
        rotate_left
        · (intro w; go_simp; with_reducible rfl)
        (clear hPT; intro hPT; simp only [List.getElem_toArray, List.getElem_cons_zero, List.getElem_cons_succ, Act.put, List.setIfInBounds_toArray, List.set_cons_zero, List.set_cons_succ])
        refine plan_take (i := 7) (v := ?_) rfl (by kernel_rfl) (by kernel_rfl) (by kernel_rfl) (fun _ _ _ h => h) hPT (by rfl) ?_ ?_
        rotate_left
        · (intro w; go_simp; with_reducible rfl)
        (clear hPT; intro hPT; simp only [List.getElem_toArray, List.getElem_cons_zero, List.getElem_cons_succ, Act.put, List.setIfInBounds_toArray, List.set_cons_zero, List.set_cons_succ])
        refine plan_load (fun w' => w'.cell? ⟨wr.heap.size, 0, none⟩ = some (.int .i64 a)) (i := 6) (v := ?_) rfl (by kernel_rfl) (by kernel_rfl) (by kernel_rfl) (fun _ _ _ h => h) hPT (by rfl) ?_ ?_ ?_
        rotate_left
        · (first | assumption | (go_simp; done))
        · (intro w hSw; (try dsimp only at hSw); go_simp; with_reducible rfl)
        (clear hPT; intro hPT; simp only [List.getElem_toArray, List.getElem_cons_zero, List.getElem_cons_succ, Act.put, List.setIfInBounds_toArray, List.set_cons_zero, List.set_cons_succ])
        refine plan_take (i := 8) (v := ?_) rfl (by kernel_rfl) (by kernel_rfl) (by kernel_rfl) (fun _ _ _ h => h) hPT (by rfl) ?_ ?_
        rotate_left
        · (intro w; go_simp; with_reducible rfl)
        (clear hPT; intro hPT; simp only [List.getElem_toArray, List.getElem_cons_zero, List.getElem_cons_succ, Act.put, List.setIfInBounds_toArray, List.set_cons_zero, List.set_cons_succ])
        refine plan_two (i := 2) (j := 9) (by kernel_rfl) rfl rfl (by rfl) (by rfl) (fun K hK => ?t1A) (fun K hK => ?t1B)
        case t1A =>
          (try simp only [List.getElem_toArray, List.getElem_cons_zero, List.getElem_cons_succ, Act.put, List.setIfInBounds_toArray, List.set_cons_zero, List.set_cons_succ])
          refine build_one 25 (q) rfl (by rfl) fun N2 w2 hN hw => ?_
          have HB2 := hide (new_at HZ.out hN hw)
          replace HBB := hide (blk_keep HBB.out hw)
          replace HZ := hide (size_alloc HZ.out hw)
          replace HM := hide (HM.out.alloc hw)
          clear hN hw
          obtain ⟨z0, z1, _, _, _⟩ := HBB.out.a2
          refine hK.out _ _ _ (t_cons z0 (t_nil _)) k_same (fun hPT' => ?_)
          (clear hPT hK K; have hPT := hPT'; clear hPT'; try simp only [List.getElem_toArray, List.getElem_cons_zero, List.getElem_cons_succ, Act.put, List.setIfInBounds_toArray, List.set_cons_zero, List.set_cons_succ])
          clear z0 z1
          refine plan_two (i := 3) (j := 9) (by kernel_rfl) rfl rfl (by rfl) (by rfl) (fun K hK => ?t2A) (fun K hK => ?t2B)
          case t2A =>
            (try simp only [List.getElem_toArray, List.getElem_cons_zero, List.getElem_cons_succ, Act.put, List.setIfInBounds_toArray, List.set_cons_zero, List.set_cons_succ])
            refine wp_push _ (.tmp 24) (.tmp 26) _ rfl _ 3 _ 8 Tryd.underlying22 Tryd.infoInt rfl (u2) (D.length) (iv X) rfl HM.out.o1 _ rfl 1 _ rfl (HB2.out.2.cell 0) (by omega) (by decide) (Nat.le_trans HLO.out HZ.out) ?_
            intro g3 c3 w3 ho hg hat
            clear HB2
            replace HBB := hide (blk_pushed HBB.out hg (own_ne_blk HM.out.o1 HBB.out (by decide)))
            replace HZ := hide (size_push HZ.out hg)
            replace HM := hide (HM.out.push1 ho hg hat)
            clear ho hg hat
            obtain ⟨z0, z1, _, _, _⟩ := HBB.out.a2
            refine hK.out _ _ _ (t_cons z0 (t_nil _)) k_same (fun hPT' => ?_)
            (clear hPT hK K; have hPT := hPT'; clear hPT'; try simp only [List.getElem_toArray, List.getElem_cons_zero, List.getElem_cons_succ, Act.put, List.setIfInBounds_toArray, List.set_cons_zero, List.set_cons_succ])
            clear z0 z1
            refine plan_one (i := 9) (by kernel_rfl) rfl (by rfl) (fun K hK => ?_)
            (try simp only [List.getElem_toArray, List.getElem_cons_zero, List.getElem_cons_succ, Act.put, List.setIfInBounds_toArray, List.set_cons_zero, List.set_cons_succ])
            refine build_one 32 ((a : Int) - (q : Int)) rfl (by rfl) fun N9 w9 hN hw => ?_
            have HB9 := hide (new_at HZ.out hN hw)
            replace HBB := hide (blk_keep HBB.out hw)
            replace HZ := hide (size_alloc HZ.out hw)
            replace HM := hide (HM.out.alloc hw)
            clear hN hw
            obtain ⟨z0, z1, _, _, _⟩ := HBB.out.a2
            refine hK.out _ _ _ (t_cons z0 (t_nil _)) k_same (fun hPT' => ?_)
            (clear hPT hK K; have hPT := hPT'; clear hPT'; try simp only [List.getElem_toArray, List.getElem_cons_zero, List.getElem_cons_succ, Act.put, List.setIfInBounds_toArray, List.set_cons_zero, List.set_cons_succ])
            clear z0 z1
            refine plan_one (i := 10) (by kernel_rfl) rfl (by rfl) (fun K hK => ?_)
            (try simp only [List.getElem_toArray, List.getElem_cons_zero, List.getElem_cons_succ, Act.put, List.setIfInBounds_toArray, List.set_cons_zero, List.set_cons_succ])
            refine wp_push _ (.tmp 28) (.tmp 33) _ rfl _ 3 _ 8 Tryd.underlying22 Tryd.infoInt rfl (u3) (D.length) (iv Y) rfl HM.out.o2 _ rfl 1 _ rfl (HB9.out.2.cell 0) (by omega) (by decide) (Nat.le_trans HLO.out HZ.out) ?_
            intro g10 c10 w10 ho hg hat
            clear HB9
            replace HBB := hide (blk_pushed HBB.out hg (own_ne_blk HM.out.o2 HBB.out (by decide)))
            replace HZ := hide (size_push HZ.out hg)
            replace HM := hide (HM.out.push2 ho hg hat)
            clear ho hg hat
            obtain ⟨z0, z1, _, _, _⟩ := HBB.out.a2
            refine hK.out _ _ _ (t_cons z0 (t_nil _)) k_same (fun hPT' => ?_)
            (clear hPT hK K; have hPT := hPT'; clear hPT'; try simp only [List.getElem_toArray, List.getElem_cons_zero, List.getElem_cons_succ, Act.put, List.setIfInBounds_toArray, List.set_cons_zero, List.set_cons_succ])
            clear z0 z1
            refine plan_take (i := 11) (v := ?_) rfl (by kernel_rfl) (by kernel_rfl) (by kernel_rfl) (fun _ _ _ h => h) hPT (by rfl) ?_ ?_
            rotate_left
            · (intro w; go_simp; with_reducible rfl)
            (clear hPT; intro hPT; simp only [List.getElem_toArray, List.getElem_cons_zero, List.getElem_cons_succ, Act.put, List.setIfInBounds_toArray, List.set_cons_zero, List.set_cons_succ])
            refine plan_take (i := 12) (v := ?_) rfl (by kernel_rfl) (by kernel_rfl) (by kernel_rfl) (fun _ _ _ h => h) hPT (by rfl) ?_ ?_
            rotate_left
            · (intro w; go_simp; with_reducible rfl)
            (clear hPT; intro hPT; simp only [List.getElem_toArray, List.getElem_cons_zero, List.getElem_cons_succ, Act.put, List.setIfInBounds_toArray, List.set_cons_zero, List.set_cons_succ])
            refine plan_done (by kernel_rfl) ?_ _
            clear hPT
            obtain ⟨z0, z1, _, _, _⟩ := HBB.out.a2
            go_wp2_with fail
            go_roundw
            case rel => exact ⟨k + 1, a + sz, D ++ [(q, a - q)], by go_num, by go_num, by omega, by omega, by simp; omega, HN1.out, by rw [HPA.out, HPB.out, iv_snoc, iv_snoc, List.length_append]; exact HM.out⟩
            case measure => (simp [intOf]; omega)
          case t2B =>
            (try simp only [List.getElem_toArray, List.getElem_cons_zero, List.getElem_cons_succ, Act.put, List.setIfInBounds_toArray, List.set_cons_zero, List.set_cons_succ])
            refine build_one 32 ((a : Int) - (q : Int)) rfl (by rfl) fun N9 w9 hN hw => ?_
            have HB9 := hide (new_at HZ.out hN hw)
            replace HB2 := hide (blk_more HB2.out hw)
            replace HBB := hide (blk_keep HBB.out hw)
            replace HZ := hide (size_alloc HZ.out hw)
            replace HM := hide (HM.out.alloc hw)
            clear hN hw
            obtain ⟨z0, z1, _, _, _⟩ := HBB.out.a2
            refine hK.out _ _ _ (t_cons z0 (t_nil _)) k_same (fun hPT' => ?_)
            (clear hPT hK K; have hPT := hPT'; clear hPT'; try simp only [List.getElem_toArray, List.getElem_cons_zero, List.getElem_cons_succ, Act.put, List.setIfInBounds_toArray, List.set_cons_zero, List.set_cons_succ])
            clear z0 z1
            refine plan_one (i := 3) (by kernel_rfl) rfl (by rfl) (fun K hK => ?_)
            (try simp only [List.getElem_toArray, List.getElem_cons_zero, List.getElem_cons_succ, Act.put, List.setIfInBounds_toArray, List.set_cons_zero, List.set_cons_succ])
            refine wp_push _ (.tmp 24) (.tmp 26) _ rfl _ 3 _ 8 Tryd.underlying22 Tryd.infoInt rfl (u2) (D.length) (iv X) rfl HM.out.o1 _ rfl 1 _ rfl (HB2.out.2.cell 0) (by omega) (by decide) (Nat.le_trans HLO.out HZ.out) ?_
            intro g3 c3 w3 ho hg hat
            replace HB9 := hide (blk_push HB9.out hg HL1.out)
            clear HB2
            replace HBB := hide (blk_pushed HBB.out hg (own_ne_blk HM.out.o1 HBB.out (by decide)))
            replace HZ := hide (size_push HZ.out hg)
            replace HM := hide (HM.out.push1 ho hg hat)
            clear ho hg hat
            obtain ⟨z0, z1, _, _, _⟩ := HBB.out.a2
            refine hK.out _ _ _ (t_cons z0 (t_nil _)) k_same (fun hPT' => ?_)
            (clear hPT hK K; have hPT := hPT'; clear hPT'; try simp only [List.getElem_toArray, List.getElem_cons_zero, List.getElem_cons_succ, Act.put, List.setIfInBounds_toArray, List.set_cons_zero, List.set_cons_succ])
            clear z0 z1
            refine plan_one (i := 10) (by kernel_rfl) rfl (by rfl) (fun K hK => ?_)
            (try simp only [List.getElem_toArray, List.getElem_cons_zero, List.getElem_cons_succ, Act.put, List.setIfInBounds_toArray, List.set_cons_zero, List.set_cons_succ])
            refine wp_push _ (.tmp 28) (.tmp 33) _ rfl _ 3 _ 8 Tryd.underlying22 Tryd.infoInt rfl (u3) (D.length) (iv Y) rfl HM.out.o2 _ rfl 1 _ rfl (HB9.out.2.cell 0) (by omega) (by decide) (Nat.le_trans HLO.out HZ.out) ?_
            intro g10 c10 w10 ho hg hat
            clear HB9
            replace HBB := hide (blk_pushed HBB.out hg (own_ne_blk HM.out.o2 HBB.out (by decide)))
            replace HZ := hide (size_push HZ.out hg)
            replace HM := hide (HM.out.push2 ho hg hat)
            clear ho hg hat
            obtain ⟨z0, z1, _, _, _⟩ := HBB.out.a2
            refine hK.out _ _ _ (t_cons z0 (t_nil _)) k_same (fun hPT' => ?_)
            (clear hPT hK K; have hPT := hPT'; clear hPT'; try simp only [List.getElem_toArray, List.getElem_cons_zero, List.getElem_cons_succ, Act.put, List.setIfInBounds_toArray, List.set_cons_zero, List.set_cons_succ])
            clear z0 z1
            refine plan_take (i := 11) (v := ?_) rfl (by kernel_rfl) (by kernel_rfl) (by kernel_rfl) (fun _ _ _ h => h) hPT (by rfl) ?_ ?_
            rotate_left
            · (intro w; go_simp; with_reducible rfl)
            (clear hPT; intro hPT; simp only [List.getElem_toArray, List.getElem_cons_zero, List.getElem_cons_succ, Act.put, List.setIfInBounds_toArray, List.set_cons_zero, List.set_cons_succ])
            refine plan_take (i := 12) (v := ?_) rfl (by kernel_rfl) (by kernel_rfl) (by kernel_rfl) (fun _ _ _ h => h) hPT (by rfl) ?_ ?_
            rotate_left
            · (intro w; go_simp; with_reducible rfl)
            (clear hPT; intro hPT; simp only [List.getElem_toArray, List.getElem_cons_zero, List.getElem_cons_succ, Act.put, List.setIfInBounds_toArray, List.set_cons_zero, List.set_cons_succ])
            refine plan_done (by kernel_rfl) ?_ _
            clear hPT
            obtain ⟨z0, z1, _, _, _⟩ := HBB.out.a2
            go_wp2_with fail
            go_roundw
            case rel => exact ⟨k + 1, a + sz, D ++ [(q, a - q)], by go_num, by go_num, by omega, by omega, by simp; omega, HN1.out, by rw [HPA.out, HPB.out, iv_snoc, iv_snoc, List.length_append]; exact HM.out⟩
            case measure => (simp [intOf]; omega)
        case t1B =>
          (try simp only [List.getElem_toArray, List.getElem_cons_zero, List.getElem_cons_succ, Act.put, List.setIfInBounds_toArray, List.set_cons_zero, List.set_cons_succ])
          refine build_one 32 ((a : Int) - (q : Int)) rfl (by rfl) fun N9 w9 hN hw => ?_
          have HB9 := hide (new_at HZ.out hN hw)
          replace HBB := hide (blk_keep HBB.out hw)
          replace HZ := hide (size_alloc HZ.out hw)
          replace HM := hide (HM.out.alloc hw)
          clear hN hw
          obtain ⟨z0, z1, _, _, _⟩ := HBB.out.a2
          refine hK.out _ _ _ (t_cons z0 (t_nil _)) k_same (fun hPT' => ?_)
          (clear hPT hK K; have hPT := hPT'; clear hPT'; try simp only [List.getElem_toArray, List.getElem_cons_zero, List.getElem_cons_succ, Act.put, List.setIfInBounds_toArray, List.set_cons_zero, List.set_cons_succ])
          clear z0 z1
          refine plan_one (i := 2) (by kernel_rfl) rfl (by rfl) (fun K hK => ?_)
          (try simp only [List.getElem_toArray, List.getElem_cons_zero, List.getElem_cons_succ, Act.put, List.setIfInBounds_toArray, List.set_cons_zero, List.set_cons_succ])
          refine build_one 25 (q) rfl (by rfl) fun N2 w2 hN hw => ?_
          have HB2 := hide (new_at HZ.out hN hw)
          replace HB9 := hide (blk_more HB9.out hw)
          replace HBB := hide (blk_keep HBB.out hw)
          replace HZ := hide (size_alloc HZ.out hw)
          replace HM := hide (HM.out.alloc hw)
          clear hN hw
          obtain ⟨z0, z1, _, _, _⟩ := HBB.out.a2
          refine hK.out _ _ _ (t_cons z0 (t_nil _)) k_same (fun hPT' => ?_)
          (clear hPT hK K; have hPT := hPT'; clear hPT'; try simp only [List.getElem_toArray, List.getElem_cons_zero, List.getElem_cons_succ, Act.put, List.setIfInBounds_toArray, List.set_cons_zero, List.set_cons_succ])
          clear z0 z1
          refine plan_one (i := 3) (by kernel_rfl) rfl (by rfl) (fun K hK => ?_)
          (try simp only [List.getElem_toArray, List.getElem_cons_zero, List.getElem_cons_succ, Act.put, List.setIfInBounds_toArray, List.set_cons_zero, List.set_cons_succ])
          refine wp_push _ (.tmp 24) (.tmp 26) _ rfl _ 3 _ 8 Tryd.underlying22 Tryd.infoInt rfl (u2) (D.length) (iv X) rfl HM.out.o1 _ rfl 1 _ rfl (HB2.out.2.cell 0) (by omega) (by decide) (Nat.le_trans HLO.out HZ.out) ?_
          intro g3 c3 w3 ho hg hat
          replace HB9 := hide (blk_push HB9.out hg HL1.out)
          clear HB2
          replace HBB := hide (blk_pushed HBB.out hg (own_ne_blk HM.out.o1 HBB.out (by decide)))
          replace HZ := hide (size_push HZ.out hg)
          replace HM := hide (HM.out.push1 ho hg hat)
          clear ho hg hat
          obtain ⟨z0, z1, _, _, _⟩ := HBB.out.a2
          refine hK.out _ _ _ (t_cons z0 (t_nil _)) k_same (fun hPT' => ?_)
          (clear hPT hK K; have hPT := hPT'; clear hPT'; try simp only [List.getElem_toArray, List.getElem_cons_zero, List.getElem_cons_succ, Act.put, List.setIfInBounds_toArray, List.set_cons_zero, List.set_cons_succ])
          clear z0 z1
          refine plan_one (i := 10) (by kernel_rfl) rfl (by rfl) (fun K hK => ?_)
          (try simp only [List.getElem_toArray, List.getElem_cons_zero, List.getElem_cons_succ, Act.put, List.setIfInBounds_toArray, List.set_cons_zero, List.set_cons_succ])
          refine wp_push _ (.tmp 28) (.tmp 33) _ rfl _ 3 _ 8 Tryd.underlying22 Tryd.infoInt rfl (u3) (D.length) (iv Y) rfl HM.out.o2 _ rfl 1 _ rfl (HB9.out.2.cell 0) (by omega) (by decide) (Nat.le_trans HLO.out HZ.out) ?_
          intro g10 c10 w10 ho hg hat
          clear HB9
          replace HBB := hide (blk_pushed HBB.out hg (own_ne_blk HM.out.o2 HBB.out (by decide)))
          replace HZ := hide (size_push HZ.out hg)
          replace HM := hide (HM.out.push2 ho hg hat)
          clear ho hg hat
          obtain ⟨z0, z1, _, _, _⟩ := HBB.out.a2
          refine hK.out _ _ _ (t_cons z0 (t_nil _)) k_same (fun hPT' => ?_)
          (clear hPT hK K; have hPT := hPT'; clear hPT'; try simp only [List.getElem_toArray, List.getElem_cons_zero, List.getElem_cons_succ, Act.put, List.setIfInBounds_toArray, List.set_cons_zero, List.set_cons_succ])
          clear z0 z1
          refine plan_take (i := 11) (v := ?_) rfl (by kernel_rfl) (by kernel_rfl) (by kernel_rfl) (fun _ _ _ h => h) hPT (by rfl) ?_ ?_
          rotate_left
          · (intro w; go_simp; with_reducible rfl)
          (clear hPT; intro hPT; simp only [List.getElem_toArray, List.getElem_cons_zero, List.getElem_cons_succ, Act.put, List.setIfInBounds_toArray, List.set_cons_zero, List.set_cons_succ])
          refine plan_take (i := 12) (v := ?_) rfl (by kernel_rfl) (by kernel_rfl) (by kernel_rfl) (fun _ _ _ h => h) hPT (by rfl) ?_ ?_
          rotate_left
          · (intro w; go_simp; with_reducible rfl)
          (clear hPT; intro hPT; simp only [List.getElem_toArray, List.getElem_cons_zero, List.getElem_cons_succ, Act.put, List.setIfInBounds_toArray, List.set_cons_zero, List.set_cons_succ])
          refine plan_done (by kernel_rfl) ?_ _
          clear hPT
          obtain ⟨z0, z1, _, _, _⟩ := HBB.out.a2
          go_wp2_with fail
          go_roundw
          case rel => exact ⟨k + 1, a + sz, D ++ [(q, a - q)], by go_num, by go_num, by omega, by omega, by simp; omega, HN1.out, by rw [HPA.out, HPB.out, iv_snoc, iv_snoc, List.length_append]; exact HM.out⟩
          case measure => (simp [intOf]; omega)
      · have HN2 := hide (HN.out.2 hfr)
        clear HN
        go_wp2
        go_roundw
        case rel => exact ⟨k + 1, a + sz, D, by go_num, by go_num, by omega, by omega, by omega, HN2.out, HT.out.no ((Kp.refl No _).alloc _)⟩
        case measure => (simp [intOf]; omega)
    · obtain rfl : k = B.length := by omega
      have HE := hide (show holesOf bs = D by have := hH.out; rw [List.drop_length] at this; unfold holesOf; rw [HBB0.out, this]; simp [holesF])
      go_wp2
      go_ret2
      rw [HE.out]
      obtain ⟨u1, u2, e, i1, i2, k1⟩ := HT.out.post
      cases e
      have hsz := HKW.out.size
      exact ⟨_, _, rfl, i1.mono fun b _ h => Nat.le_trans hsz h, i2.mono fun b _ h => Nat.le_trans hsz h, HKW.out.trans k1⟩
end Go.Proofs.YtibdddkcjijlaaaDoor
