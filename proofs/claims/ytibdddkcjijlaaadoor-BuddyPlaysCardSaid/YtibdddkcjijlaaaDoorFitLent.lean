/- fit: Pack, Lent, Holes, walked (printed by wip/print/fit2.py). -/
import Derived.Test.YtibdddkcjijlaaaDoorFitLend
import Derived.Test.YtibdddkcjijlaaaDoorTwo
namespace Go.Proofs.YtibdddkcjijlaaaDoor
open Go.RowKit
set_option linter.unusedSimpArgs false

/-- the first numbers, the second numbers -/
def fsts (bs : List (Nat × Nat)) : List Int := bs.map fun b => (b.1 : Int)
def snds (bs : List (Nat × Nat)) : List Int := bs.map fun b => (b.2 : Int)
theorem fsts_length (bs : List (Nat × Nat)) : (fsts bs).length = bs.length := by simp [fsts]
theorem snds_length (bs : List (Nat × Nat)) : (snds bs).length = bs.length := by simp [snds]
theorem fsts_take {bs : List (Nat × Nat)} {k : Nat} (h : k < bs.length) : fsts (bs.take (k + 1)) = fsts (bs.take k) ++ [((bs[k]).1 : Int)] := by
  unfold fsts; rw [List.take_succ_eq_append_getElem h, List.map_append]; rfl
theorem snds_take {bs : List (Nat × Nat)} {k : Nat} (h : k < bs.length) : snds (bs.take (k + 1)) = snds (bs.take k) ++ [((bs[k]).2 : Int)] := by
  unfold snds; rw [List.take_succ_eq_append_getElem h, List.map_append]; rfl
theorem fsts_snoc (bs : List (Nat × Nat)) (b : Nat × Nat) : fsts (bs ++ [b]) = fsts bs ++ [(b.1 : Int)] := by simp [fsts]
theorem snds_snoc (bs : List (Nat × Nat)) (b : Nat × Nat) : snds (bs ++ [b]) = snds bs ++ [(b.2 : Int)] := by simp [snds]
theorem iv_len (xs : List Int) {n : Nat} (h : xs.length = n) : (iv xs).length = n := by rw [iv_length, h]

/-! ### Pack -/
theorem bkv_set : ∀ (bs : List (Nat × Nat)) (k : Nat) (h : k < bs.length) (x : Nat), (bkv bs).set (k * 2) (.int .i64 x) = bkv (bs.set k (x, (bs[k]).2))
  | b :: r, 0, h, x => by simp [bkv]
  | b :: r, k + 1, h, x => by
    rw [show (k + 1) * 2 = k * 2 + 1 + 1 by omega]
    simp only [bkv, List.set_cons_succ, List.getElem_cons_succ, bkv_set r k (by simpa using h) x]
/-- packed so far -/
def packTo (bs : List (Nat × Nat)) (k : Nat) : List (Nat × Nat) := (packF 0 bs).take k ++ bs.drop k
theorem packTo_length {bs : List (Nat × Nat)} {k : Nat} (h : k ≤ bs.length) : (packTo bs k).length = bs.length := by
  unfold packTo; rw [List.length_append, List.length_take, List.length_drop, pack_length]; omega
theorem packTo_at {bs : List (Nat × Nat)} {k : Nat} (h : k < bs.length) : (packTo bs k)[k]'(by rw [packTo_length (by omega)]; exact h) = bs[k] := by
  unfold packTo
  rw [List.getElem_append_right (by rw [List.length_take, pack_length]; omega)]
  simp [pack_length, Nat.min_eq_left (Nat.le_of_lt h)]
theorem packTo_succ {bs : List (Nat × Nat)} {k : Nat} (h : k < bs.length) : (packTo bs k).set k (endOf 0 bs k, (bs[k]).2) = packTo bs (k + 1) := by
  unfold packTo
  rw [List.set_append_right _ _ (by rw [List.length_take, pack_length]; omega), List.length_take, pack_length, Nat.min_eq_left (Nat.le_of_lt h), Nat.sub_self, List.drop_eq_getElem_cons h, List.set_cons_zero,
    List.take_succ_eq_append_getElem (by rw [pack_length]; exact h), pack_at bs 0 k h, List.append_assoc]
  rfl
theorem packTo_all (bs : List (Nat × Nat)) : packTo bs bs.length = packF 0 bs := by
  unfold packTo; rw [List.drop_length, List.append_nil, List.take_of_length_le (by rw [pack_length]; exact Nat.le_refl _)]

set_option maxRecDepth 100000 in
set_option maxHeartbeats 8000000 in
theorem fpack_any {p : Nat} {S : Nat → Prop} {bs : List (Nat × Nat)} (w : World) (hF : FitIs w p S bs) (hL : Lie 0 bs) :
    Calls Tryd.prog 11 #[.pointer (some ⟨p, 0, none⟩)] w fun e w' => ∃ v, e = .returned v ∧ IntsIn w' (Hi w.heap.size) v (fsts (packF 0 bs)) ∧ FitIs w' p S (packF 0 bs) ∧ Kp S w w' := by
  obtain ⟨hp, v, h, hvS⟩ := hF
  have HP := hide hp
  have HVS := hide hvS
  obtain ⟨A, c, rfl, hc, hm, _, _⟩ := h.form
  obtain ⟨b1, f1, z1⟩ := h.blk.a1
  have H0 := hide (show FitAt w p 0 (.slice A bs.length c) (packTo bs 0) from ⟨h.blk, by rw [packTo_length (Nat.zero_le _)]; simpa [packTo] using h.own⟩)
  have hl64 : bs.length ≤ 64 := by have := hL.len; omega
  have HSUM := hide hL.sum
  have HVLT := hide (fun b (e : (Value.slice A bs.length c).ownBlock = some b) => (own_lt h.own e).2)
  clear hL hp h hvS
  go_enter Tryd.func11, Tryd.ntmps11
  go_wp2
  go_loopw [3, 4, 11] (fun s3 s4 s11 wr => ∃ k : Nat, s3 = .int .i64 (endOf 0 bs k : Nat) ∧ s11 = .int .i64 k ∧ k ≤ bs.length ∧ Hid (FitAt wr p 0 (.slice A bs.length c) (packTo bs k)) ∧ Hid (wr.ownsRow w.heap.size 3 1 s4 k (iv (fsts ((packF 0 bs).take k)))) ∧ Hid (Kp S w wr)) (fun _ _ s11 _ => bs.length - (intOf s11).toNat)
  case atStart => exact ⟨0, by rw [endOf_zero]; rfl, rfl, Nat.zero_le _, H0.out, World.ownsRow_nil _ _ _ _, Kp.refl _ _⟩
  case round =>
    obtain ⟨k, rfl, rfl, hk, hF, hO, hK⟩ := hrel
    by_cases hlt : k < bs.length
    · obtain ⟨b1, f1, z1⟩ := hF.out.blk.a1
      obtain ⟨A', c', e, _, _, _, hcell⟩ := hF.out.form
      rw [packTo_length hk] at e
      cases e
      obtain ⟨g, rfl, c1, c2, g1, g2, hg⟩ := hcell k (by rw [packTo_length hk]; exact hlt)
      clear hcell
      rw [packTo_at hlt] at c1 c2
      have HES := hide (endOf_succ 0 hlt)
      have hE : endOf 0 bs k ≤ 64 := by
        have h1 := HSUM.out
        unfold endOf
        have : sizesSum (bs.take k) ≤ sizesSum bs := by
          have := congrArg sizesSum (List.take_append_drop k bs)
          unfold sizesSum at this ⊢
          rw [List.map_append, List.sum_append] at this
          omega
        omega
      have hE1 : endOf 0 bs k + (bs[k]).2 ≤ 64 := by
        rw [← HES.out]
        have h1 := HSUM.out
        unfold endOf
        have : sizesSum (bs.take (k + 1)) ≤ sizesSum bs := by
          have := congrArg sizesSum (List.take_append_drop (k + 1) bs)
          unfold sizesSum at this ⊢
          rw [List.map_append, List.sum_append] at this
          omega
        omega
      have HEK : ((packTo bs (k + 1))[k]'(by rw [packTo_length (by omega)]; exact hlt)).2 = (bs[k]).2 := by simp only [← packTo_succ hlt, List.getElem_set_self]
      have HPA := hide (show fsts ((packF 0 bs).take (k + 1)) = fsts ((packF 0 bs).take k) ++ [((endOf 0 bs k : Nat) : Int)] by rw [fsts_take (by rw [pack_length]; exact hlt), pack_at bs 0 k hlt])
      have HNE := hide (show FitAt (wr.setCell ⟨g, k * 2, none⟩ (.int .i64 (endOf 0 bs k : Nat))) p 0 (.slice (some ⟨g, 0, none⟩) bs.length c) (packTo bs (k + 1)) from by
        have hne : p ≠ g := fun e => hF.out.ne (by rw [e]; rfl)
        refine ⟨hF.out.blk.far hne _, ?_⟩
        have ho := ownK_set hF.out.own (g := g) rfl (k * 2) (by rw [bkv_length, packTo_length hk]; omega) (.int .i64 (endOf 0 bs k : Nat))
        rw [bkv_set _ _ (by rw [packTo_length hk]; exact hlt)] at ho
        rw [show ((packTo bs k)[k]'(by rw [packTo_length hk]; exact hlt)).2 = (bs[k]).2 by rw [packTo_at hlt], packTo_succ hlt, packTo_length hk] at ho
        rw [packTo_length (by omega)]
        exact ho)
      have HKN := hide (show Kp S w (wr.setCell ⟨g, k * 2, none⟩ (.int .i64 (endOf 0 bs k : Nat))) from hK.out.trans' (kp_put _ _ _ _) fun b _ e => by unfold At at e; subst e; exact HVS.out _ rfl)
      have HON := hide (show (wr.setCell ⟨g, k * 2, none⟩ (.int .i64 (endOf 0 bs k : Nat))).ownsRow w.heap.size 3 1 u4 k (iv (fsts ((packF 0 bs).take k))) from own_kp hO.out (kp_put _ _ _ _) fun b hb e => by unfold At at e; subst e; exact own_ne_own hO.out hF.out.own (by decide) hb rfl)
      obtain ⟨E, hEe⟩ : ∃ E, endOf 0 bs k = E := ⟨_, rfl⟩
      obtain ⟨sz, hsz⟩ : ∃ sz, (bs[k]).2 = sz := ⟨_, rfl⟩
      rw [hEe] at hE hE1 HES HPA HNE HKN HON
      rw [hsz] at hE1 HES c2 HEK
      rw [hEe]
      clear hEe hsz
      have hlt' : k < (packTo bs (k + 1)).length := by rw [packTo_length (by omega)]; exact hlt
      have HE2 := hide HEK
      clear HEK
      have hwsz := HKN.out.size
      have hV4 : ∃ A4 c4, u4 = .slice A4 k c4 := by
        obtain ⟨_, A4, c4, e, _⟩ := own_form HON.out
        rw [iv_length, fsts_length, List.length_take, pack_length, Nat.min_eq_left (by omega)] at e
        exact ⟨A4, c4, e⟩
      go_wp2_with
        (at_builtin
         refine wpList_push _ rfl (.tmp 22) (.tmp 24) _ rfl w.heap.size 3 _ 8 Tryd.underlying22 Tryd.infoInt rfl u4 k (iv (fsts ((packF 0 bs).take k))) rfl HON.out _ rfl 1 _ rfl (by simp) (by omega) (by decide) hwsz ?_
         intro g' c' w2 ho hgr hat
         have HK2 := hide (show Kp S w w2 from (HKN.out.alloc _).grown hgr fun b e hb => by have := (own_lt HON.out e).1; omega)
         have HF2 := hide (show FitAt w2 p 0 (.slice (some ⟨g, 0, none⟩) bs.length c) (packTo bs (k + 1)) from by
           have k2 : Kp (fun b => u4.ownBlock = some b) _ w2 := ((Kp.refl _ _).alloc _).grown hgr fun b e _ => e
           exact ⟨HNE.out.blk.kp k2 (own_ne_blk HON.out HNE.out.blk (by decide)), own_kp HNE.out.own k2 fun b hb e => own_ne_own HNE.out.own HON.out (by decide) hb e⟩)
         have HO2 := hide ho
         clear ho hgr hat b1 f1 z1 c1 c2 g1 g2 hg hwsz hV4
         obtain ⟨b1, f1, z1⟩ := HF2.out.blk.a1
         obtain ⟨A', c2', e, _, _, _, hcell⟩ := HF2.out.form
         rw [packTo_length (by omega)] at e
         cases e
         obtain ⟨g5, e5, d1, d2, _, _, hg⟩ := hcell k hlt'
         cases e5
         rw [HE2.out] at d2
         clear hcell)
      go_roundw
      case rel =>
        refine ⟨k + 1, by rw [HES.out]; go_num, by go_num, hlt, HF2.out, ?_, HK2.out⟩
        rw [HPA.out, iv_snoc]
        exact HO2.out
      case measure => simp [intOf]; omega
    · obtain rfl : k = bs.length := by omega
      have hF' := hF.out
      have hO' := hO.out
      rw [packTo_all] at hF'
      rw [List.take_of_length_le (by rw [pack_length]; exact Nat.le_refl _)] at hO'
      have HFF := hide hF'
      have HOO := hide hO'
      clear hF' hO'
      go_wp2
      go_ret
      refine ⟨_, rfl, .of_own HOO.out fun b hb => (own_lt HOO.out hb).1, ⟨HP.out, _, HFF.out, HVS.out⟩, hK.out⟩

/-! ### Lent -/
/-- two lists of one's own come back -/
def TwoPost (w : World) (xs ys : List Int) (e : Ending) (w' : World) : Prop :=
  ∃ v1 v2, e = .returned (.tuple #[v1, v2]) ∧ IntsIn w' (Hi w.heap.size) v1 xs ∧ IntsIn w' (Hi w.heap.size) v2 ys ∧ Kp No w w'
theorem Two.post {w0 w : World} {v1 v2 : Value} {n1 n2 : Nat} {xs ys : List Int} (h : Two w0.heap.size w0 w v1 v2 n1 n2 (iv xs) (iv ys)) : TwoPost w0 xs ys (.returned (.tuple #[v1, v2])) w :=
  ⟨v1, v2, rfl, .of_own h.o1 fun b hb => (own_lt h.o1 hb).1, .of_own h.o2 fun b hb => (own_lt h.o2 hb).1, h.kp⟩

set_option maxRecDepth 100000 in
set_option maxHeartbeats 8000000 in
theorem flent_any {p : Nat} {S : Nat → Prop} {bs : List (Nat × Nat)} (w : World) (hF : FitIs w p S bs) (hl : bs.length ≤ 64) :
    Calls Tryd.prog 14 #[.pointer (some ⟨p, 0, none⟩)] w (TwoPost w (fsts bs) (snds bs)) := by
  obtain ⟨_, v, h, _⟩ := hF
  obtain ⟨A, c, rfl, hc, hm, _, _⟩ := h.form
  obtain ⟨b1, f1, z1⟩ := h.blk.a1
  have H := hide h
  clear h
  go_enter Tryd.func14, Tryd.ntmps14
  go_wp2
  go_loopw [2, 3, 11] (fun s2 s3 s11 wr => ∃ k : Nat, s11 = .int .i64 k ∧ k ≤ bs.length ∧ Hid (Two w.heap.size w wr s2 s3 k k (iv (fsts (bs.take k))) (iv (snds (bs.take k))))) (fun _ _ s11 _ => bs.length - (intOf s11).toNat)
  case atStart => exact ⟨0, rfl, Nat.zero_le _, Two.start _ (Nat.le_refl _)⟩
  case round =>
    obtain ⟨k, rfl, hk, hT⟩ := hrel
    by_cases hlt : k < bs.length
    · have hfa : FitAt wr p 0 (.slice A bs.length c) bs := ⟨H.out.blk.kp hT.out.kp id, own_kp H.out.own hT.out.kp fun _ _ h => h⟩
      obtain ⟨A', c', e, _, _, _, hcell⟩ := hfa.form
      cases e
      obtain ⟨g, rfl, c1, c2, _, _, hg⟩ := hcell k hlt
      clear hcell hfa
      have HPA := hide (fsts_take hlt)
      have HPB := hide (snds_take hlt)
      obtain ⟨a, ha⟩ : ∃ a, (bs[k]).1 = a := ⟨_, rfl⟩
      obtain ⟨sz, hs⟩ : ∃ s, (bs[k]).2 = s := ⟨_, rfl⟩
      rw [ha] at c1 HPA
      rw [hs] at c2 HPB
      clear ha hs
      obtain ⟨X, hX⟩ : ∃ X, fsts (bs.take k) = X := ⟨_, rfl⟩
      obtain ⟨Y, hY⟩ : ∃ Y, snds (bs.take k) = Y := ⟨_, rfl⟩
      rw [hX] at HPA hT
      rw [hY] at HPB hT
      clear hX hY
      have HT := hide hT.out
      clear hT
      go_wp2_with fail
      have HM := hide ((HT.out.no (((Kp.refl No wr).alloc (.cells #[.int .i64 a, .int .i64 sz] 56)).drew)))
      have HBB := hide ((Blk.new wr 56 #[.int .i64 a, .int .i64 sz]).drew)
      have hB0 : wr.heap.size + 1 ≤ (wr.alloc (.cells #[.int .i64 a, .int .i64 sz] 56)).drew.heap.size := by simp
      have HZ := hide hB0
      clear hB0
      have HL1 := hide (HT.out.lt1 (Nat.le_succ _))
      have HL2 := hide (HT.out.lt2 (Nat.le_succ _))
      have HLO := hide (show w.heap.size ≤ wr.heap.size + 1 from Nat.le_trans HT.out.kp.size (Nat.le_succ _))
      obtain ⟨z0, z1, _, _, _⟩ := HBB.out.a2
      clear c1 c2 hg
      refine plan_start 12 (by kernel_rfl) rfl (fun hPT => ?_)
      refine plan_take (i := 0) (v := ?_) rfl (by kernel_rfl) (by kernel_rfl) (by kernel_rfl) (fun _ _ _ h => h) hPT (by rfl) ?_ ?_
      rotate_left
      · (intro w; go_simp; with_reducible rfl)
      (clear hPT; intro hPT; simp only [List.getElem_toArray, List.getElem_cons_zero, List.getElem_cons_succ, Act.put, List.setIfInBounds_toArray, List.set_cons_zero, List.set_cons_succ])
      refine plan_take (i := 1) (v := ?_) rfl (by kernel_rfl) (by kernel_rfl) (by kernel_rfl) (fun _ _ _ h => h) hPT (by rfl) ?_ ?_
      rotate_left
      · (intro w; go_simp; with_reducible rfl)
      (clear hPT; intro hPT; simp only [List.getElem_toArray, List.getElem_cons_zero, List.getElem_cons_succ, Act.put, List.setIfInBounds_toArray, List.set_cons_zero, List.set_cons_succ])
      refine plan_take (i := 5) (v := ?_) rfl (by kernel_rfl) (by kernel_rfl) (by kernel_rfl) (fun _ _ _ h => h) hPT (by rfl) ?_ ?_
      rotate_left
      · (intro w; go_simp; with_reducible rfl)
      (clear hPT; intro hPT; simp only [List.getElem_toArray, List.getElem_cons_zero, List.getElem_cons_succ, Act.put, List.setIfInBounds_toArray, List.set_cons_zero, List.set_cons_succ])
      refine plan_take (i := 6) (v := ?_) rfl (by kernel_rfl) (by kernel_rfl) (by kernel_rfl) (fun _ _ _ h => h) hPT (by rfl) ?_ ?_
      rotate_left
      · (intro w; go_simp; with_reducible rfl)
      (clear hPT; intro hPT; simp only [List.getElem_toArray, List.getElem_cons_zero, List.getElem_cons_succ, Act.put, List.setIfInBounds_toArray, List.set_cons_zero, List.set_cons_succ])
      refine plan_load (fun w' => w'.cell? ⟨wr.heap.size, 0, none⟩ = some (.int .i64 a)) (i := 2) (v := ?_) rfl (by kernel_rfl) (by kernel_rfl) (by kernel_rfl) (fun _ _ _ h => h) hPT (by rfl) ?_ ?_ ?_
      rotate_left
      · (first | assumption | (go_simp; done))
      · (intro w hSw; (try dsimp only at hSw); go_simp; with_reducible rfl)
      (clear hPT; intro hPT; simp only [List.getElem_toArray, List.getElem_cons_zero, List.getElem_cons_succ, Act.put, List.setIfInBounds_toArray, List.set_cons_zero, List.set_cons_succ])
      refine plan_load (fun w' => w'.cell? ⟨wr.heap.size, 1, none⟩ = some (.int .i64 sz)) (i := 7) (v := ?_) rfl (by kernel_rfl) (by kernel_rfl) (by kernel_rfl) (fun _ _ _ h => h) hPT (by rfl) ?_ ?_ ?_
      rotate_left
      · (first | assumption | (go_simp; done))
      · (intro w hSw; (try dsimp only at hSw); go_simp; with_reducible rfl)
      (clear hPT; intro hPT; simp only [List.getElem_toArray, List.getElem_cons_zero, List.getElem_cons_succ, Act.put, List.setIfInBounds_toArray, List.set_cons_zero, List.set_cons_succ])
      refine plan_two (i := 3) (j := 8) (by kernel_rfl) rfl rfl (by rfl) (by rfl) (fun K hK => ?t1A) (fun K hK => ?t1B)
      case t1A =>
        (try simp only [List.getElem_toArray, List.getElem_cons_zero, List.getElem_cons_succ, Act.put, List.setIfInBounds_toArray, List.set_cons_zero, List.set_cons_succ])
        refine build_one 17 (a) rfl (by rfl) fun N3 w3 hN hw => ?_
        have HB3 := hide (new_at HZ.out hN hw)
        replace HBB := hide (blk_keep HBB.out hw)
        replace HZ := hide (size_alloc HZ.out hw)
        replace HM := hide (HM.out.alloc hw)
        clear hN hw
        obtain ⟨z0, z1, _, _, _⟩ := HBB.out.a2
        refine hK.out _ _ _ (t_cons z1 (t_cons z0 (t_nil _))) k_same (fun hPT' => ?_)
        (clear hPT hK K; have hPT := hPT'; clear hPT'; try simp only [List.getElem_toArray, List.getElem_cons_zero, List.getElem_cons_succ, Act.put, List.setIfInBounds_toArray, List.set_cons_zero, List.set_cons_succ])
        clear z0 z1
        refine plan_two (i := 4) (j := 8) (by kernel_rfl) rfl rfl (by rfl) (by rfl) (fun K hK => ?t2A) (fun K hK => ?t2B)
        case t2A =>
          (try simp only [List.getElem_toArray, List.getElem_cons_zero, List.getElem_cons_succ, Act.put, List.setIfInBounds_toArray, List.set_cons_zero, List.set_cons_succ])
          refine wp_push _ (.tmp 15) (.tmp 18) _ rfl _ 3 _ 8 Tryd.underlying22 Tryd.infoInt rfl (u2) (k) (iv X) rfl HM.out.o1 _ rfl 1 _ rfl (HB3.out.2.cell 0) (by omega) (by decide) (Nat.le_trans HLO.out HZ.out) ?_
          intro g4 c4 w4 ho hg hat
          clear HB3
          replace HBB := hide (blk_pushed HBB.out hg (own_ne_blk HM.out.o1 HBB.out (by decide)))
          replace HZ := hide (size_push HZ.out hg)
          replace HM := hide (HM.out.push1 ho hg hat)
          clear ho hg hat
          obtain ⟨z0, z1, _, _, _⟩ := HBB.out.a2
          refine hK.out _ _ _ (t_cons z1 (t_cons z0 (t_nil _))) k_same (fun hPT' => ?_)
          (clear hPT hK K; have hPT := hPT'; clear hPT'; try simp only [List.getElem_toArray, List.getElem_cons_zero, List.getElem_cons_succ, Act.put, List.setIfInBounds_toArray, List.set_cons_zero, List.set_cons_succ])
          clear z0 z1
          refine plan_one (i := 8) (by kernel_rfl) rfl (by rfl) (fun K hK => ?_)
          (try simp only [List.getElem_toArray, List.getElem_cons_zero, List.getElem_cons_succ, Act.put, List.setIfInBounds_toArray, List.set_cons_zero, List.set_cons_succ])
          refine build_one 22 (sz) rfl (by rfl) fun N8 w8 hN hw => ?_
          have HB8 := hide (new_at HZ.out hN hw)
          replace HBB := hide (blk_keep HBB.out hw)
          replace HZ := hide (size_alloc HZ.out hw)
          replace HM := hide (HM.out.alloc hw)
          clear hN hw
          obtain ⟨z0, z1, _, _, _⟩ := HBB.out.a2
          refine hK.out _ _ _ (t_cons z1 (t_cons z0 (t_nil _))) k_same (fun hPT' => ?_)
          (clear hPT hK K; have hPT := hPT'; clear hPT'; try simp only [List.getElem_toArray, List.getElem_cons_zero, List.getElem_cons_succ, Act.put, List.setIfInBounds_toArray, List.set_cons_zero, List.set_cons_succ])
          clear z0 z1
          refine plan_one (i := 9) (by kernel_rfl) rfl (by rfl) (fun K hK => ?_)
          (try simp only [List.getElem_toArray, List.getElem_cons_zero, List.getElem_cons_succ, Act.put, List.setIfInBounds_toArray, List.set_cons_zero, List.set_cons_succ])
          refine wp_push _ (.tmp 20) (.tmp 23) _ rfl _ 3 _ 8 Tryd.underlying22 Tryd.infoInt rfl (u3) (k) (iv Y) rfl HM.out.o2 _ rfl 1 _ rfl (HB8.out.2.cell 0) (by omega) (by decide) (Nat.le_trans HLO.out HZ.out) ?_
          intro g9 c9 w9 ho hg hat
          clear HB8
          replace HBB := hide (blk_pushed HBB.out hg (own_ne_blk HM.out.o2 HBB.out (by decide)))
          replace HZ := hide (size_push HZ.out hg)
          replace HM := hide (HM.out.push2 ho hg hat)
          clear ho hg hat
          obtain ⟨z0, z1, _, _, _⟩ := HBB.out.a2
          refine hK.out _ _ _ (t_cons z1 (t_cons z0 (t_nil _))) k_same (fun hPT' => ?_)
          (clear hPT hK K; have hPT := hPT'; clear hPT'; try simp only [List.getElem_toArray, List.getElem_cons_zero, List.getElem_cons_succ, Act.put, List.setIfInBounds_toArray, List.set_cons_zero, List.set_cons_succ])
          clear z0 z1
          refine plan_take (i := 10) (v := ?_) rfl (by kernel_rfl) (by kernel_rfl) (by kernel_rfl) (fun _ _ _ h => h) hPT (by rfl) ?_ ?_
          rotate_left
          · (intro w; go_simp; with_reducible rfl)
          (clear hPT; intro hPT; simp only [List.getElem_toArray, List.getElem_cons_zero, List.getElem_cons_succ, Act.put, List.setIfInBounds_toArray, List.set_cons_zero, List.set_cons_succ])
          refine plan_take (i := 11) (v := ?_) rfl (by kernel_rfl) (by kernel_rfl) (by kernel_rfl) (fun _ _ _ h => h) hPT (by rfl) ?_ ?_
          rotate_left
          · (intro w; go_simp; with_reducible rfl)
          (clear hPT; intro hPT; simp only [List.getElem_toArray, List.getElem_cons_zero, List.getElem_cons_succ, Act.put, List.setIfInBounds_toArray, List.set_cons_zero, List.set_cons_succ])
          refine plan_done (by kernel_rfl) ?_ _
          clear hPT
          go_wp2_with fail
          go_roundw
          case rel => exact ⟨k + 1, by go_num, hlt, by rw [HPA.out, HPB.out, iv_snoc, iv_snoc]; exact HM.out⟩
          case measure => (simp [intOf]; omega)
        case t2B =>
          (try simp only [List.getElem_toArray, List.getElem_cons_zero, List.getElem_cons_succ, Act.put, List.setIfInBounds_toArray, List.set_cons_zero, List.set_cons_succ])
          refine build_one 22 (sz) rfl (by rfl) fun N8 w8 hN hw => ?_
          have HB8 := hide (new_at HZ.out hN hw)
          replace HB3 := hide (blk_more HB3.out hw)
          replace HBB := hide (blk_keep HBB.out hw)
          replace HZ := hide (size_alloc HZ.out hw)
          replace HM := hide (HM.out.alloc hw)
          clear hN hw
          obtain ⟨z0, z1, _, _, _⟩ := HBB.out.a2
          refine hK.out _ _ _ (t_cons z1 (t_cons z0 (t_nil _))) k_same (fun hPT' => ?_)
          (clear hPT hK K; have hPT := hPT'; clear hPT'; try simp only [List.getElem_toArray, List.getElem_cons_zero, List.getElem_cons_succ, Act.put, List.setIfInBounds_toArray, List.set_cons_zero, List.set_cons_succ])
          clear z0 z1
          refine plan_one (i := 4) (by kernel_rfl) rfl (by rfl) (fun K hK => ?_)
          (try simp only [List.getElem_toArray, List.getElem_cons_zero, List.getElem_cons_succ, Act.put, List.setIfInBounds_toArray, List.set_cons_zero, List.set_cons_succ])
          refine wp_push _ (.tmp 15) (.tmp 18) _ rfl _ 3 _ 8 Tryd.underlying22 Tryd.infoInt rfl (u2) (k) (iv X) rfl HM.out.o1 _ rfl 1 _ rfl (HB3.out.2.cell 0) (by omega) (by decide) (Nat.le_trans HLO.out HZ.out) ?_
          intro g4 c4 w4 ho hg hat
          replace HB8 := hide (blk_push HB8.out hg HL1.out)
          clear HB3
          replace HBB := hide (blk_pushed HBB.out hg (own_ne_blk HM.out.o1 HBB.out (by decide)))
          replace HZ := hide (size_push HZ.out hg)
          replace HM := hide (HM.out.push1 ho hg hat)
          clear ho hg hat
          obtain ⟨z0, z1, _, _, _⟩ := HBB.out.a2
          refine hK.out _ _ _ (t_cons z1 (t_cons z0 (t_nil _))) k_same (fun hPT' => ?_)
          (clear hPT hK K; have hPT := hPT'; clear hPT'; try simp only [List.getElem_toArray, List.getElem_cons_zero, List.getElem_cons_succ, Act.put, List.setIfInBounds_toArray, List.set_cons_zero, List.set_cons_succ])
          clear z0 z1
          refine plan_one (i := 9) (by kernel_rfl) rfl (by rfl) (fun K hK => ?_)
          (try simp only [List.getElem_toArray, List.getElem_cons_zero, List.getElem_cons_succ, Act.put, List.setIfInBounds_toArray, List.set_cons_zero, List.set_cons_succ])
          refine wp_push _ (.tmp 20) (.tmp 23) _ rfl _ 3 _ 8 Tryd.underlying22 Tryd.infoInt rfl (u3) (k) (iv Y) rfl HM.out.o2 _ rfl 1 _ rfl (HB8.out.2.cell 0) (by omega) (by decide) (Nat.le_trans HLO.out HZ.out) ?_
          intro g9 c9 w9 ho hg hat
          clear HB8
          replace HBB := hide (blk_pushed HBB.out hg (own_ne_blk HM.out.o2 HBB.out (by decide)))
          replace HZ := hide (size_push HZ.out hg)
          replace HM := hide (HM.out.push2 ho hg hat)
          clear ho hg hat
          obtain ⟨z0, z1, _, _, _⟩ := HBB.out.a2
          refine hK.out _ _ _ (t_cons z1 (t_cons z0 (t_nil _))) k_same (fun hPT' => ?_)
          (clear hPT hK K; have hPT := hPT'; clear hPT'; try simp only [List.getElem_toArray, List.getElem_cons_zero, List.getElem_cons_succ, Act.put, List.setIfInBounds_toArray, List.set_cons_zero, List.set_cons_succ])
          clear z0 z1
          refine plan_take (i := 10) (v := ?_) rfl (by kernel_rfl) (by kernel_rfl) (by kernel_rfl) (fun _ _ _ h => h) hPT (by rfl) ?_ ?_
          rotate_left
          · (intro w; go_simp; with_reducible rfl)
          (clear hPT; intro hPT; simp only [List.getElem_toArray, List.getElem_cons_zero, List.getElem_cons_succ, Act.put, List.setIfInBounds_toArray, List.set_cons_zero, List.set_cons_succ])
          refine plan_take (i := 11) (v := ?_) rfl (by kernel_rfl) (by kernel_rfl) (by kernel_rfl) (fun _ _ _ h => h) hPT (by rfl) ?_ ?_
          rotate_left
          · (intro w; go_simp; with_reducible rfl)
          (clear hPT; intro hPT; simp only [List.getElem_toArray, List.getElem_cons_zero, List.getElem_cons_succ, Act.put, List.setIfInBounds_toArray, List.set_cons_zero, List.set_cons_succ])
          refine plan_done (by kernel_rfl) ?_ _
          clear hPT
          go_wp2_with fail
          go_roundw
          case rel => exact ⟨k + 1, by go_num, hlt, by rw [HPA.out, HPB.out, iv_snoc, iv_snoc]; exact HM.out⟩
          case measure => (simp [intOf]; omega)
      case t1B =>
        (try simp only [List.getElem_toArray, List.getElem_cons_zero, List.getElem_cons_succ, Act.put, List.setIfInBounds_toArray, List.set_cons_zero, List.set_cons_succ])
        refine build_one 22 (sz) rfl (by rfl) fun N8 w8 hN hw => ?_
        have HB8 := hide (new_at HZ.out hN hw)
        replace HBB := hide (blk_keep HBB.out hw)
        replace HZ := hide (size_alloc HZ.out hw)
        replace HM := hide (HM.out.alloc hw)
        clear hN hw
        obtain ⟨z0, z1, _, _, _⟩ := HBB.out.a2
        refine hK.out _ _ _ (t_cons z1 (t_cons z0 (t_nil _))) k_same (fun hPT' => ?_)
        (clear hPT hK K; have hPT := hPT'; clear hPT'; try simp only [List.getElem_toArray, List.getElem_cons_zero, List.getElem_cons_succ, Act.put, List.setIfInBounds_toArray, List.set_cons_zero, List.set_cons_succ])
        clear z0 z1
        refine plan_one (i := 3) (by kernel_rfl) rfl (by rfl) (fun K hK => ?_)
        (try simp only [List.getElem_toArray, List.getElem_cons_zero, List.getElem_cons_succ, Act.put, List.setIfInBounds_toArray, List.set_cons_zero, List.set_cons_succ])
        refine build_one 17 (a) rfl (by rfl) fun N3 w3 hN hw => ?_
        have HB3 := hide (new_at HZ.out hN hw)
        replace HB8 := hide (blk_more HB8.out hw)
        replace HBB := hide (blk_keep HBB.out hw)
        replace HZ := hide (size_alloc HZ.out hw)
        replace HM := hide (HM.out.alloc hw)
        clear hN hw
        obtain ⟨z0, z1, _, _, _⟩ := HBB.out.a2
        refine hK.out _ _ _ (t_cons z1 (t_cons z0 (t_nil _))) k_same (fun hPT' => ?_)
        (clear hPT hK K; have hPT := hPT'; clear hPT'; try simp only [List.getElem_toArray, List.getElem_cons_zero, List.getElem_cons_succ, Act.put, List.setIfInBounds_toArray, List.set_cons_zero, List.set_cons_succ])
        clear z0 z1
        refine plan_one (i := 4) (by kernel_rfl) rfl (by rfl) (fun K hK => ?_)
        (try simp only [List.getElem_toArray, List.getElem_cons_zero, List.getElem_cons_succ, Act.put, List.setIfInBounds_toArray, List.set_cons_zero, List.set_cons_succ])
        refine wp_push _ (.tmp 15) (.tmp 18) _ rfl _ 3 _ 8 Tryd.underlying22 Tryd.infoInt rfl (u2) (k) (iv X) rfl HM.out.o1 _ rfl 1 _ rfl (HB3.out.2.cell 0) (by omega) (by decide) (Nat.le_trans HLO.out HZ.out) ?_
        intro g4 c4 w4 ho hg hat
        replace HB8 := hide (blk_push HB8.out hg HL1.out)
        clear HB3
        replace HBB := hide (blk_pushed HBB.out hg (own_ne_blk HM.out.o1 HBB.out (by decide)))
        replace HZ := hide (size_push HZ.out hg)
        replace HM := hide (HM.out.push1 ho hg hat)
        clear ho hg hat
        obtain ⟨z0, z1, _, _, _⟩ := HBB.out.a2
        refine hK.out _ _ _ (t_cons z1 (t_cons z0 (t_nil _))) k_same (fun hPT' => ?_)
        (clear hPT hK K; have hPT := hPT'; clear hPT'; try simp only [List.getElem_toArray, List.getElem_cons_zero, List.getElem_cons_succ, Act.put, List.setIfInBounds_toArray, List.set_cons_zero, List.set_cons_succ])
        clear z0 z1
        refine plan_one (i := 9) (by kernel_rfl) rfl (by rfl) (fun K hK => ?_)
        (try simp only [List.getElem_toArray, List.getElem_cons_zero, List.getElem_cons_succ, Act.put, List.setIfInBounds_toArray, List.set_cons_zero, List.set_cons_succ])
        refine wp_push _ (.tmp 20) (.tmp 23) _ rfl _ 3 _ 8 Tryd.underlying22 Tryd.infoInt rfl (u3) (k) (iv Y) rfl HM.out.o2 _ rfl 1 _ rfl (HB8.out.2.cell 0) (by omega) (by decide) (Nat.le_trans HLO.out HZ.out) ?_
        intro g9 c9 w9 ho hg hat
        clear HB8
        replace HBB := hide (blk_pushed HBB.out hg (own_ne_blk HM.out.o2 HBB.out (by decide)))
        replace HZ := hide (size_push HZ.out hg)
        replace HM := hide (HM.out.push2 ho hg hat)
        clear ho hg hat
        obtain ⟨z0, z1, _, _, _⟩ := HBB.out.a2
        refine hK.out _ _ _ (t_cons z1 (t_cons z0 (t_nil _))) k_same (fun hPT' => ?_)
        (clear hPT hK K; have hPT := hPT'; clear hPT'; try simp only [List.getElem_toArray, List.getElem_cons_zero, List.getElem_cons_succ, Act.put, List.setIfInBounds_toArray, List.set_cons_zero, List.set_cons_succ])
        clear z0 z1
        refine plan_take (i := 10) (v := ?_) rfl (by kernel_rfl) (by kernel_rfl) (by kernel_rfl) (fun _ _ _ h => h) hPT (by rfl) ?_ ?_
        rotate_left
        · (intro w; go_simp; with_reducible rfl)
        (clear hPT; intro hPT; simp only [List.getElem_toArray, List.getElem_cons_zero, List.getElem_cons_succ, Act.put, List.setIfInBounds_toArray, List.set_cons_zero, List.set_cons_succ])
        refine plan_take (i := 11) (v := ?_) rfl (by kernel_rfl) (by kernel_rfl) (by kernel_rfl) (fun _ _ _ h => h) hPT (by rfl) ?_ ?_
        rotate_left
        · (intro w; go_simp; with_reducible rfl)
        (clear hPT; intro hPT; simp only [List.getElem_toArray, List.getElem_cons_zero, List.getElem_cons_succ, Act.put, List.setIfInBounds_toArray, List.set_cons_zero, List.set_cons_succ])
        refine plan_done (by kernel_rfl) ?_ _
        clear hPT
        go_wp2_with fail
        go_roundw
        case rel => exact ⟨k + 1, by go_num, hlt, by rw [HPA.out, HPB.out, iv_snoc, iv_snoc]; exact HM.out⟩
        case measure => (simp [intOf]; omega)
    · obtain rfl : k = bs.length := by omega
      rw [List.take_length] at hT
      go_wp2
      go_ret2
      exact hT.out.post
end Go.Proofs.YtibdddkcjijlaaaDoor
