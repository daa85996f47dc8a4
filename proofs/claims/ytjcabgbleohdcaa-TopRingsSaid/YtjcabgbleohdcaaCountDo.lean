/- counts: the driver 'counted' (steps of any kind), and the closed fact. -/
import Derived.Test.YtjcabgbleohdcaaCountMake
import Derived.Test.YtjcabgbleohdcaaCountHeap
namespace Go.Proofs.Ytjcabgbleohdcaa
open Go.RowKit
set_option linter.unusedSimpArgs false

/-- one step -/
def doS (s : Cn) (l : List Int) : Cn := match l with
  | [k, i, j] => if k = 0 then makeS s else if k = 1 then rootS s i else if k = 2 then dropS s i else if k = 3 then linkS s i j else if k = 4 then cutS s i j else s
  | _ => s
theorem doS_three (s : Cn) (k i j : Int) : doS s [k, i, j] = if k = 0 then makeS s else if k = 1 then rootS s i else if k = 2 then dropS s i else if k = 3 then linkS s i j else if k = 4 then cutS s i j else s := rfl
def runS (steps : List (List Int)) (k : Nat) : Cn := (steps.take k).foldl doS Cn.new
def countedS (steps : List (List Int)) : Cn := runS steps 60
theorem PInv.do_ {s : Cn} (h : PInv s []) (l : List Int) : PInv (doS s l) [] := by
  unfold doS
  split
  · rename_i k i j
    split
    · exact h.make
    split
    · exact h.root_ i
    split
    · exact h.drop_ i
    split
    · exact h.link_ i j
    split
    · exact h.cut_ i j
    · exact h
  · exact h
theorem PInv.fold {s : Cn} (h : PInv s []) (l : List (List Int)) : PInv (l.foldl doS s) [] := by
  induction l generalizing s with
  | nil => exact h
  | cons a r ih => exact ih (h.do_ a)
theorem PInv.run (steps : List (List Int)) (k : Nat) : PInv (runS steps k) [] := PInv.new_.fold _
theorem PInv.counted (steps : List (List Int)) : PInv (countedS steps) [] := .run steps 60
theorem run_succ {steps : List (List Int)} {k : Nat} (h : k < steps.length) : runS steps (k + 1) = doS (runS steps k) steps[k] := by
  unfold runS
  rw [List.take_succ_eq_append_getElem h, List.foldl_append]
  rfl
theorem run_end {steps : List (List Int)} {k : Nat} (h : k = steps.length ∨ 60 ≤ k) (h6 : k ≤ 60) : runS steps k = countedS steps := by
  unfold countedS runS
  rcases h with h | h
  · rw [List.take_of_length_le (by omega), List.take_of_length_le (by omega)]
  · rw [show k = 60 by omega]
theorem doS_far {s : Cn} {l : List Int} (h : l.length ≠ 3) : doS s l = s := by
  unfold doS
  split
  · simp at h
  · rfl

/-- what the driver leaves -/
def CountedPost (w : World) (s : Cn) (e : Ending) (w' : World) : Prop := ∃ p, e = .returned (.pointer (some ⟨p, 0, none⟩)) ∧ CnIs w' p (Hi w.heap.size) s ∧ Kp No w w'

theorem hi_no {w w' : World} (h : Kp (Hi w.heap.size) w w') : Kp No w w' := h.mono fun k hk e => by unfold Hi at e; omega

set_option maxRecDepth 100000 in
set_option maxHeartbeats 4000000 in
theorem counted_any {F : Nat → Prop} (vt : Value) (steps : List (List Int)) (w : World) (ht : RowsIn w F vt steps) : Calls Try.prog 9 #[vt] w (CountedPost w (countedS steps)) := by
  have HT := hide (ht.mono (F' := Lo w.heap.size) fun k h _ => h)
  clear ht
  obtain ⟨At', ct, rfl, hct, hmt, _⟩ := RowsIn.form HT.out
  go_enter Try.func9, Try.ntmps9
  go_wp2_with fail
  refine Calls.mono (cnew_any _) ?_
  rintro e w1 ⟨rfl, hc1, hk1⟩
  have HC1 := hide hc1
  have HK1 := hide (show Kp (Hi w.heap.size) w w1 from hk1.of_no)
  clear hc1 hk1
  go_wp2_with fail
  go_loopw [4] (fun q wr => ∃ k : Nat, q = .int .i64 k ∧ k ≤ steps.length ∧ k ≤ 60 ∧ CnIs wr w.heap.size (Hi w.heap.size) (runS steps k) ∧ Kp (Hi w.heap.size) w wr) (fun q _ => 60 - (intOf q).toNat)
  case atStart => exact ⟨0, rfl, Nat.zero_le _, by decide, HC1.out, HK1.out⟩
  case round =>
    obtain ⟨k, rfl, hk, hk60, hc, hkp⟩ := hrel
    have HC := hide hc
    have HKP := hide hkp
    clear hc hkp
    by_cases hlt : k < steps.length ∧ k < 60
    · obtain ⟨hml, hk6⟩ := hlt
      have hml' : (k : Int) < (steps.length : Int) := by omega
      have HTk := hide (HT.out.kp HKP.out fun b hb h => by unfold Lo at hb; unfold Hi at h; omega)
      have HP := hide (PInv.run steps k)
      have HSZ := hide (show ∀ b, wr.heap.size ≤ b → Hi w.heap.size b from fun b hb => by have := HKP.out.size; unfold Hi; omega)
      have HN := hide (run_succ hml)
      obtain ⟨s, hs⟩ : ∃ s, runS steps k = s := ⟨_, rfl⟩
      rw [hs] at HC HP HN
      clear hs
      obtain ⟨_, _, e, _, _, hrow⟩ := RowsIn.form HTk.out
      cases e
      obtain ⟨bt', ot, A', c', rfl, hFb, hrc, hri⟩ := hrow k hml
      clear hrow
      by_cases h3 : steps[k].length = 3
      · obtain ⟨x0, x1, x2, hx⟩ : ∃ x0 x1 x2, steps[k] = [x0, x1, x2] := by
          match hs : steps[k], h3 with
          | [a, b, c], _ => exact ⟨a, b, c, rfl⟩
        rw [hx] at hrc hri HN
        obtain ⟨_, _, e, _, _, hcell⟩ := hri
        cases e
        obtain ⟨b3', o3, rfl, hF3, i0⟩ := hcell 0 (by simp)
        obtain ⟨_, _, e, _, i1⟩ := hcell 1 (by simp)
        cases e
        obtain ⟨_, _, e, _, i2⟩ := hcell 2 (by simp)
        cases e
        simp only [List.getElem_cons_zero, List.getElem_cons_succ, Nat.add_zero, List.length_cons, List.length_nil] at i0 i1 i2 hrc
        clear hcell hx h3
        by_cases e0 : x0 = 0
        · subst e0
          have HD := hide (show doS s [0, x1, x2] = makeS s by rw [doS_three, if_pos rfl])
          go_wp2_with fail
          refine Calls.mono (cmake_any _ HP.out HSZ.out HC.out) ?_
          rintro e w5 ⟨rfl, hc5, hk5⟩
          have HC5 := hide hc5
          have HK5 := hide (HKP.out.trans hk5)
          clear hc5 hk5 i0 i1 i2 hrc
          go_wp2
          go_roundw
          case rel => exact ⟨k + 1, by go_num, hml, hk6, by rw [HN.out, HD.out]; exact HC5.out, HK5.out⟩
          case measure => simp [intOf]; omega
        have h0 : (x0 == 0) = false := by rw [beq_eq_false_iff_ne]; exact e0
        by_cases e1 : x0 = 1
        · subst e1
          have HD := hide (show doS s [1, x1, x2] = rootS s x1 by rw [doS_three, if_neg (by decide), if_pos rfl])
          clear e0 h0
          go_wp2_with fail
          refine Calls.mono (croot_any _ _ HP.out HSZ.out HC.out) ?_
          rintro e w5 ⟨rfl, hc5, hk5⟩
          have HC5 := hide hc5
          have HK5 := hide (HKP.out.trans hk5)
          clear hc5 hk5 i0 i1 i2 hrc
          go_wp2
          go_roundw
          case rel => exact ⟨k + 1, by go_num, hml, hk6, by rw [HN.out, HD.out]; exact HC5.out, HK5.out⟩
          case measure => simp [intOf]; omega
        have h1 : (x0 == 1) = false := by rw [beq_eq_false_iff_ne]; exact e1
        by_cases e2 : x0 = 2
        · subst e2
          have HD := hide (show doS s [2, x1, x2] = dropS s x1 by rw [doS_three, if_neg (by decide), if_neg (by decide), if_pos rfl])
          clear e0 h0 e1 h1
          go_wp2_with fail
          refine Calls.mono (cdrop_any _ _ HP.out HSZ.out HC.out) ?_
          rintro e w5 ⟨rfl, hc5, hk5⟩
          have HC5 := hide hc5
          have HK5 := hide (HKP.out.trans hk5)
          clear hc5 hk5 i0 i1 i2 hrc
          go_wp2
          go_roundw
          case rel => exact ⟨k + 1, by go_num, hml, hk6, by rw [HN.out, HD.out]; exact HC5.out, HK5.out⟩
          case measure => simp [intOf]; omega
        have h2 : (x0 == 2) = false := by rw [beq_eq_false_iff_ne]; exact e2
        by_cases e3 : x0 = 3
        · subst e3
          have HD := hide (show doS s [3, x1, x2] = linkS s x1 x2 by rw [doS_three, if_neg (by decide), if_neg (by decide), if_neg (by decide), if_pos rfl])
          clear e0 h0 e1 h1 e2 h2
          go_wp2_with fail
          refine plan_start 8 (by kernel_rfl) rfl (fun hPT => ?_)
          refine plan_take (i := 0) (v := ?_) rfl (by kernel_rfl) (by kernel_rfl) (by kernel_rfl) (fun _ _ _ h => h) hPT (by rfl) ?_ ?_
          rotate_left
          · (intro w; go_simp; with_reducible rfl)
          (clear hPT; intro hPT; simp only [List.getElem_toArray, List.getElem_cons_zero, List.getElem_cons_succ, Act.put, List.setIfInBounds_toArray, List.set_cons_zero, List.set_cons_succ])
          refine plan_take (i := 1) (v := ?_) rfl (by kernel_rfl) (by kernel_rfl) (by kernel_rfl) (fun _ _ _ h => h) hPT (by rfl) ?_ ?_
          rotate_left
          · (intro w; go_simp; with_reducible rfl)
          (clear hPT; intro hPT; simp only [List.getElem_toArray, List.getElem_cons_zero, List.getElem_cons_succ, Act.put, List.setIfInBounds_toArray, List.set_cons_zero, List.set_cons_succ])
          refine plan_take (i := 2) (v := ?_) rfl (by kernel_rfl) (by kernel_rfl) (by kernel_rfl) (fun _ _ _ h => h) hPT (by rfl) ?_ ?_
          rotate_left
          · (intro w; go_simp; with_reducible rfl)
          (clear hPT; intro hPT; simp only [List.getElem_toArray, List.getElem_cons_zero, List.getElem_cons_succ, Act.put, List.setIfInBounds_toArray, List.set_cons_zero, List.set_cons_succ])
          refine plan_take (i := 4) (v := ?_) rfl (by kernel_rfl) (by kernel_rfl) (by kernel_rfl) (fun _ _ _ h => h) hPT (by rfl) ?_ ?_
          rotate_left
          · (intro w; go_simp; with_reducible rfl)
          (clear hPT; intro hPT; simp only [List.getElem_toArray, List.getElem_cons_zero, List.getElem_cons_succ, Act.put, List.setIfInBounds_toArray, List.set_cons_zero, List.set_cons_succ])
          refine plan_take (i := 5) (v := ?_) rfl (by kernel_rfl) (by kernel_rfl) (by kernel_rfl) (fun _ _ _ h => h) hPT (by rfl) ?_ ?_
          rotate_left
          · (intro w; go_simp; with_reducible rfl)
          (clear hPT; intro hPT; simp only [List.getElem_toArray, List.getElem_cons_zero, List.getElem_cons_succ, Act.put, List.setIfInBounds_toArray, List.set_cons_zero, List.set_cons_succ])
          refine plan_load (fun w' => w'.cell? ⟨b3', o3 + 1, none⟩ = some (.int .i64 x1)) (i := 3) (v := ?_) rfl (by kernel_rfl) (by kernel_rfl) (by kernel_rfl) (fun _ _ _ h => h) hPT (by rfl) ?_ ?_ ?_
          rotate_left
          · (first | assumption | (go_simp; done))
          · (intro w hSw; (try dsimp only at hSw); go_simp; with_reducible rfl)
          (clear hPT; intro hPT; simp only [List.getElem_toArray, List.getElem_cons_zero, List.getElem_cons_succ, Act.put, List.setIfInBounds_toArray, List.set_cons_zero, List.set_cons_succ])
          refine plan_load (fun w' => w'.cell? ⟨b3', o3 + 2, none⟩ = some (.int .i64 x2)) (i := 6) (v := ?_) rfl (by kernel_rfl) (by kernel_rfl) (by kernel_rfl) (fun _ _ _ h => h) hPT (by rfl) ?_ ?_ ?_
          rotate_left
          · (first | assumption | (go_simp; done))
          · (intro w hSw; (try dsimp only at hSw); go_simp; with_reducible rfl)
          (clear hPT; intro hPT; simp only [List.getElem_toArray, List.getElem_cons_zero, List.getElem_cons_succ, Act.put, List.setIfInBounds_toArray, List.set_cons_zero, List.set_cons_succ])
          refine plan_one (i := 7) (by kernel_rfl) rfl (by rfl) (fun K hK => ?_)
          (try simp only [List.getElem_toArray, List.getElem_cons_zero, List.getElem_cons_succ, Act.put, List.setIfInBounds_toArray, List.set_cons_zero, List.set_cons_succ])
          go_simp
          refine Calls.mono (clink_any _ _ _ HP.out (fun b hb => HSZ.out b hb) (HC.out.no (Kp.refl No _).drew)) ?_
          rintro e w5 ⟨rfl, hc5, hk5⟩
          have HC5 := hide hc5
          have HK5 := hide (HKP.out.trans ((Kp.refl _ _).drew.trans hk5))
          clear hc5 hk5 i0 i1 i2 hrc
          refine hK.out [] _ _ (t_nil _) (k_drop (by kernel_rfl) (k_drop (by kernel_rfl) k_nil)) (fun hPT' => ?_)
          (clear hPT hK K; have hPT := hPT'; clear hPT'; try simp only [List.getElem_toArray, List.getElem_cons_zero, List.getElem_cons_succ, Act.put, List.setIfInBounds_toArray, List.set_cons_zero, List.set_cons_succ])
          refine plan_done (by kernel_rfl) ?_ _
          clear hPT
          go_wp2
          go_roundw
          case rel => exact ⟨k + 1, by go_num, hml, hk6, by rw [HN.out, HD.out]; exact HC5.out, HK5.out⟩
          case measure => simp [intOf]; omega
        have h3 : (x0 == 3) = false := by rw [beq_eq_false_iff_ne]; exact e3
        by_cases e4 : x0 = 4
        · subst e4
          have HD := hide (show doS s [4, x1, x2] = cutS s x1 x2 by rw [doS_three, if_neg (by decide), if_neg (by decide), if_neg (by decide), if_neg (by decide), if_pos rfl])
          clear e0 h0 e1 h1 e2 h2 e3 h3
          go_wp2_with fail
          refine plan_start 8 (by kernel_rfl) rfl (fun hPT => ?_)
          refine plan_take (i := 0) (v := ?_) rfl (by kernel_rfl) (by kernel_rfl) (by kernel_rfl) (fun _ _ _ h => h) hPT (by rfl) ?_ ?_
          rotate_left
          · (intro w; go_simp; with_reducible rfl)
          (clear hPT; intro hPT; simp only [List.getElem_toArray, List.getElem_cons_zero, List.getElem_cons_succ, Act.put, List.setIfInBounds_toArray, List.set_cons_zero, List.set_cons_succ])
          refine plan_take (i := 1) (v := ?_) rfl (by kernel_rfl) (by kernel_rfl) (by kernel_rfl) (fun _ _ _ h => h) hPT (by rfl) ?_ ?_
          rotate_left
          · (intro w; go_simp; with_reducible rfl)
          (clear hPT; intro hPT; simp only [List.getElem_toArray, List.getElem_cons_zero, List.getElem_cons_succ, Act.put, List.setIfInBounds_toArray, List.set_cons_zero, List.set_cons_succ])
          refine plan_take (i := 2) (v := ?_) rfl (by kernel_rfl) (by kernel_rfl) (by kernel_rfl) (fun _ _ _ h => h) hPT (by rfl) ?_ ?_
          rotate_left
          · (intro w; go_simp; with_reducible rfl)
          (clear hPT; intro hPT; simp only [List.getElem_toArray, List.getElem_cons_zero, List.getElem_cons_succ, Act.put, List.setIfInBounds_toArray, List.set_cons_zero, List.set_cons_succ])
          refine plan_take (i := 4) (v := ?_) rfl (by kernel_rfl) (by kernel_rfl) (by kernel_rfl) (fun _ _ _ h => h) hPT (by rfl) ?_ ?_
          rotate_left
          · (intro w; go_simp; with_reducible rfl)
          (clear hPT; intro hPT; simp only [List.getElem_toArray, List.getElem_cons_zero, List.getElem_cons_succ, Act.put, List.setIfInBounds_toArray, List.set_cons_zero, List.set_cons_succ])
          refine plan_take (i := 5) (v := ?_) rfl (by kernel_rfl) (by kernel_rfl) (by kernel_rfl) (fun _ _ _ h => h) hPT (by rfl) ?_ ?_
          rotate_left
          · (intro w; go_simp; with_reducible rfl)
          (clear hPT; intro hPT; simp only [List.getElem_toArray, List.getElem_cons_zero, List.getElem_cons_succ, Act.put, List.setIfInBounds_toArray, List.set_cons_zero, List.set_cons_succ])
          refine plan_load (fun w' => w'.cell? ⟨b3', o3 + 1, none⟩ = some (.int .i64 x1)) (i := 3) (v := ?_) rfl (by kernel_rfl) (by kernel_rfl) (by kernel_rfl) (fun _ _ _ h => h) hPT (by rfl) ?_ ?_ ?_
          rotate_left
          · (first | assumption | (go_simp; done))
          · (intro w hSw; (try dsimp only at hSw); go_simp; with_reducible rfl)
          (clear hPT; intro hPT; simp only [List.getElem_toArray, List.getElem_cons_zero, List.getElem_cons_succ, Act.put, List.setIfInBounds_toArray, List.set_cons_zero, List.set_cons_succ])
          refine plan_load (fun w' => w'.cell? ⟨b3', o3 + 2, none⟩ = some (.int .i64 x2)) (i := 6) (v := ?_) rfl (by kernel_rfl) (by kernel_rfl) (by kernel_rfl) (fun _ _ _ h => h) hPT (by rfl) ?_ ?_ ?_
          rotate_left
          · (first | assumption | (go_simp; done))
          · (intro w hSw; (try dsimp only at hSw); go_simp; with_reducible rfl)
          (clear hPT; intro hPT; simp only [List.getElem_toArray, List.getElem_cons_zero, List.getElem_cons_succ, Act.put, List.setIfInBounds_toArray, List.set_cons_zero, List.set_cons_succ])
          refine plan_one (i := 7) (by kernel_rfl) rfl (by rfl) (fun K hK => ?_)
          (try simp only [List.getElem_toArray, List.getElem_cons_zero, List.getElem_cons_succ, Act.put, List.setIfInBounds_toArray, List.set_cons_zero, List.set_cons_succ])
          go_simp
          refine Calls.mono (ccut_any _ _ _ HP.out (fun b hb => HSZ.out b hb) (HC.out.no (Kp.refl No _).drew)) ?_
          rintro e w5 ⟨rfl, hc5, hk5⟩
          have HC5 := hide hc5
          have HK5 := hide (HKP.out.trans ((Kp.refl _ _).drew.trans hk5))
          clear hc5 hk5 i0 i1 i2 hrc
          refine hK.out [] _ _ (t_nil _) (k_drop (by kernel_rfl) (k_drop (by kernel_rfl) k_nil)) (fun hPT' => ?_)
          (clear hPT hK K; have hPT := hPT'; clear hPT'; try simp only [List.getElem_toArray, List.getElem_cons_zero, List.getElem_cons_succ, Act.put, List.setIfInBounds_toArray, List.set_cons_zero, List.set_cons_succ])
          refine plan_done (by kernel_rfl) ?_ _
          clear hPT
          go_wp2
          go_roundw
          case rel => exact ⟨k + 1, by go_num, hml, hk6, by rw [HN.out, HD.out]; exact HC5.out, HK5.out⟩
          case measure => simp [intOf]; omega
        have h4 : (x0 == 4) = false := by rw [beq_eq_false_iff_ne]; exact e4
        have HD := hide (show doS s [x0, x1, x2] = s by rw [doS_three, if_neg e0, if_neg e1, if_neg e2, if_neg e3, if_neg e4])
        clear e0 e1 e2 e3 e4
        go_wp2
        go_roundw
        case rel => exact ⟨k + 1, by go_num, hml, hk6, by rw [HN.out, HD.out]; exact HC.out, HKP.out⟩
        case measure => simp [intOf]; omega
      · have h3f : ((steps[k].length : Int) != 3) = true := by rw [bne_iff_ne]; omega
        have HD := hide (doS_far (s := s) h3)
        clear h3 hri
        go_wp2
        go_roundw
        case rel => exact ⟨k + 1, by go_num, hml, hk6, by rw [HN.out, HD.out]; exact HC.out, HKP.out⟩
        case measure => simp [intOf]; omega
    · have hend : k = steps.length ∨ 60 ≤ k := by omega
      have HE := hide (run_end hend hk60)
      rw [HE.out] at HC
      rcases hend with rfl | hend
      · go_wp2
        go_ret
        exact ⟨_, rfl, HC.out, hi_no HKP.out⟩
      · obtain rfl : k = 60 := by omega
        by_cases hl : 60 < steps.length
        · go_wp2
          go_ret
          exact ⟨_, rfl, HC.out, hi_no HKP.out⟩
        · obtain hl : steps.length = 60 := by omega
          go_wp2
          go_ret
          exact ⟨_, rfl, HC.out, hi_no HKP.out⟩
end Go.Proofs.Ytjcabgbleohdcaa
