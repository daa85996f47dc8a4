/- The reference's arena: a block more, a block less. -/
import Derived.Test.YtibdddkcjijlaaaDoorRefPut
import Derived.Test.YtibdddkcjijlaaaDoorRefPlace
import Derived.Test.YtibdddkcjijlaaaDoorFitLent
namespace Go.Proofs.YtibdddkcjijlaaaDoor
open Go.RowKit
set_option linter.unusedSimpArgs false

/-- places and orders (or sizes), as a value -/
def ArIs (w : World) (F : Nat → Prop) (v : Value) (bs : List (Nat × Nat)) : Prop := ∃ a b, v = .agg #[a, b] ∧ IntsIn w F a (fsts bs) ∧ IntsIn w F b (snds bs)
section
variable {w w' : World} {F F' S : Nat → Prop} {v : Value} {bs : List (Nat × Nat)}
theorem ArIs.kp (h : ArIs w F v bs) (hk : Kp S w w') (hs : ∀ k, F k → ¬ S k) : ArIs w' F v bs := by
  obtain ⟨a, b, e, h1, h2⟩ := h
  exact ⟨a, b, e, h1.kp hk hs, h2.kp hk hs⟩
theorem ArIs.no (h : ArIs w F v bs) (hk : Kp No w w') : ArIs w' F v bs := h.kp hk fun _ _ h => h
theorem ArIs.mono (h : ArIs w F v bs) (hF : ∀ k, k < w.heap.size → F k → F' k) : ArIs w F' v bs := by
  obtain ⟨a, b, e, h1, h2⟩ := h
  exact ⟨a, b, e, h1.mono hF, h2.mono hF⟩
end
theorem ar_len {w : World} {F : Nat → Prop} {A : Option Addr} {n c : Nat} {bs : List (Nat × Nat)} (h : IntsIn w F (.slice A n c) (fsts bs)) : n = bs.length ∧ bs.length ≤ c ∧ c ≤ 9223372036854775807 ∧ ∀ i (hi : i < bs.length), ∃ b o, A = some ⟨b, o, none⟩ ∧ F b ∧ w.cell? ⟨b, o + i, none⟩ = some (.int .i64 (bs[i]).1) := by
  obtain ⟨h1, h2, h3, h4⟩ := h.lit
  rw [fsts_length] at h1 h2
  refine ⟨h1, h2, h3, fun i hi => ?_⟩
  obtain ⟨b, o, e, hF, hc⟩ := h4 i (by rw [fsts_length]; exact hi)
  exact ⟨b, o, e, hF, by rw [hc]; simp [fsts]⟩
theorem ar_len2 {w : World} {F : Nat → Prop} {A : Option Addr} {n c : Nat} {bs : List (Nat × Nat)} (h : IntsIn w F (.slice A n c) (snds bs)) : n = bs.length ∧ bs.length ≤ c ∧ c ≤ 9223372036854775807 ∧ ∀ i (hi : i < bs.length), ∃ b o, A = some ⟨b, o, none⟩ ∧ F b ∧ w.cell? ⟨b, o + i, none⟩ = some (.int .i64 (bs[i]).2) := by
  obtain ⟨h1, h2, h3, h4⟩ := h.lit
  rw [snds_length] at h1 h2
  refine ⟨h1, h2, h3, fun i hi => ?_⟩
  obtain ⟨b, o, e, hF, hc⟩ := h4 i (by rw [snds_length]; exact hi)
  exact ⟨b, o, e, hF, by rw [hc]; simp [snds]⟩
/-- how many lie ahead of a place -/
def aheadN : List (Nat × Nat) → Nat → Nat
  | [], _ => 0
  | b :: r, at' => if b.1 < at' then aheadN r at' + 1 else 0
theorem ahead_le : ∀ (bs : List (Nat × Nat)) (x : Nat), aheadN bs x ≤ bs.length
  | [], _ => Nat.le_refl _
  | b :: r, x => by
    unfold aheadN
    split
    · have := ahead_le r x; simp only [List.length_cons]; omega
    · exact Nat.zero_le _
theorem ahead_step {bs : List (Nat × Nat)} {x k : Nat} (hk : k < bs.length) (h : aheadN bs x = k + aheadN (bs.drop k) x) : if (bs[k]).1 < x then aheadN bs x = (k + 1) + aheadN (bs.drop (k + 1)) x else aheadN bs x = k := by
  rw [List.drop_eq_getElem_cons hk, show ∀ (b : Nat × Nat) (r : List (Nat × Nat)), aheadN (b :: r) x = if b.1 < x then aheadN r x + 1 else 0 from fun _ _ => rfl] at h
  split
  · rename_i h1
    rw [if_pos h1] at h
    omega
  · rename_i h1
    rw [if_neg h1] at h
    exact h
theorem putI_length {xs : List Int} {k : Nat} {x : Int} (h : k ≤ xs.length) : (putI xs k x).length = xs.length + 1 := by unfold putI; simp only [List.length_append, List.length_take, List.length_cons, List.length_drop]; omega
theorem fsts_ins {bs : List (Nat × Nat)} {k : Nat} {b : Nat × Nat} : putI (fsts bs) k (b.1 : Int) = fsts (insAt bs k b) := by unfold putI insAt fsts; simp
theorem snds_ins {bs : List (Nat × Nat)} {k : Nat} {b : Nat × Nat} : putI (snds bs) k (b.2 : Int) = snds (insAt bs k b) := by unfold putI insAt snds; simp

set_option maxRecDepth 100000 in
set_option maxHeartbeats 2000000 in
theorem with_any {F : Nat → Prop} (v : Value) (bs : List (Nat × Nat)) (at' s : Nat) (w : World) (h : ArIs w F v bs) (hl : bs.length ≤ 64) :
    Calls Tryd.prog 25 #[v, .int .i64 (at' : Nat), .int .i64 (s : Nat)] w fun e w' => ∃ v', e = .returned v' ∧ ArIs w' (Hi w.heap.size) v' (insAt bs (aheadN bs at') (at', s)) ∧ Kp No w w' := by
  obtain ⟨a, b, rfl, h1, h2⟩ := h
  have HA := hide h1
  have HB := hide h2
  obtain ⟨Aa, ca, rfl, _⟩ := id h1
  obtain ⟨Ab, cb, rfl, _⟩ := id h2
  clear h1 h2
  simp only [fsts_length, snds_length] at HA HB ⊢
  go_enter Tryd.func25, Tryd.ntmps25
  have hb0 : Blk ((w.alloc (.cells #[.slice Aa bs.length ca, .slice Ab bs.length cb] 26)).alloc (.cells #[.slice none 0 0, .slice none 0 0] 26)) w.heap.size 26 #[.slice Aa bs.length ca, .slice Ab bs.length cb] := (Blk.new w _ _).kp ((Kp.refl No _).alloc _) id
  have HB0 := hide hb0
  have HK0 := hide (show Kp No w ((w.alloc (.cells #[.slice Aa bs.length ca, .slice Ab bs.length cb] 26)).alloc (.cells #[.slice none 0 0, .slice none 0 0] 26)) from ((Kp.refl No w).alloc _).alloc _)
  have HB1 := hide (show Blk ((w.alloc (.cells #[.slice Aa bs.length ca, .slice Ab bs.length cb] 26)).alloc (.cells #[.slice none 0 0, .slice none 0 0] 26)) (w.heap.size + 1) 26 #[.slice none 0 0, .slice none 0 0] by have := Blk.new (w.alloc (.cells #[.slice Aa bs.length ca, .slice Ab bs.length cb] 26)) 26 #[.slice none 0 0, .slice none 0 0]; simpa using this)
  clear hb0
  go_wp2_with fail
  go_loop [7] (fun i => ∃ k : Nat, i = .int .i64 k ∧ k ≤ bs.length ∧ Hid (aheadN bs at' = k + aheadN (bs.drop k) at')) (fun i => bs.length - (intOf i).toNat)
  case atStart => exact ⟨0, rfl, Nat.zero_le _, show aheadN bs at' = 0 + aheadN (bs.drop 0) at' by rw [List.drop_zero, Nat.zero_add]⟩
  case round =>
    obtain ⟨k, rfl, hk, hah⟩ := hrel
    by_cases hlt : k < bs.length
    · have HST := hide (ahead_step hlt hah.out)
      obtain ⟨_, _, _, hcell⟩ := ar_len (HA.out.no HK0.out)
      obtain ⟨b, o, rfl, _, c1⟩ := hcell k hlt
      obtain ⟨y, hy⟩ : ∃ y, (bs[k]).1 = y := ⟨_, rfl⟩
      rw [hy] at c1 HST
      clear hcell hy hah
      by_cases hya : y < at'
      · rw [if_pos hya] at HST
        have hya' : (y : Int) < (at' : Int) := by omega
        go_wp2_with fail
        exact ⟨⟨k + 1, by go_num, hlt, HST⟩, by simp [intOf]; omega⟩
      · rw [if_neg hya] at HST
        have hya' : ¬ (y : Int) < (at' : Int) := by omega
        go_wp2_with fail
        have q0 := HB0.out.cell 0
        have q1 := HB0.out.cell 1
        refine plan_start 12 (by kernel_rfl) rfl (fun hPT => ?_)
        refine plan_take (i := 0) (v := ?_) rfl (by kernel_rfl) (by kernel_rfl) (by kernel_rfl) (fun _ _ _ h => h) hPT (by rfl) ?_ ?_
        rotate_left
        · (intro w; go_simp; with_reducible rfl)
        (clear hPT; intro hPT; simp only [List.getElem_toArray, List.getElem_cons_zero, List.getElem_cons_succ, Act.put, List.setIfInBounds_toArray, List.set_cons_zero, List.set_cons_succ])
        refine plan_take (i := 2) (v := ?_) rfl (by kernel_rfl) (by kernel_rfl) (by kernel_rfl) (fun _ _ _ h => h) hPT (by rfl) ?_ ?_
        rotate_left
        · (intro w; go_simp; with_reducible rfl)
        (clear hPT; intro hPT; simp only [List.getElem_toArray, List.getElem_cons_zero, List.getElem_cons_succ, Act.put, List.setIfInBounds_toArray, List.set_cons_zero, List.set_cons_succ])
        refine plan_take (i := 3) (v := ?_) rfl (by kernel_rfl) (by kernel_rfl) (by kernel_rfl) (fun _ _ _ h => h) hPT (by rfl) ?_ ?_
        rotate_left
        · (intro w; go_simp; with_reducible rfl)
        (clear hPT; intro hPT; simp only [List.getElem_toArray, List.getElem_cons_zero, List.getElem_cons_succ, Act.put, List.setIfInBounds_toArray, List.set_cons_zero, List.set_cons_succ])
        refine plan_take (i := 5) (v := ?_) rfl (by kernel_rfl) (by kernel_rfl) (by kernel_rfl) (fun _ _ _ h => h) hPT (by rfl) ?_ ?_
        rotate_left
        · (intro w; go_simp; with_reducible rfl)
        (clear hPT; intro hPT; simp only [List.getElem_toArray, List.getElem_cons_zero, List.getElem_cons_succ, Act.put, List.setIfInBounds_toArray, List.set_cons_zero, List.set_cons_succ])
        refine plan_take (i := 7) (v := ?_) rfl (by kernel_rfl) (by kernel_rfl) (by kernel_rfl) (fun _ _ _ h => h) hPT (by rfl) ?_ ?_
        rotate_left
        · (intro w; go_simp; with_reducible rfl)
        (clear hPT; intro hPT; simp only [List.getElem_toArray, List.getElem_cons_zero, List.getElem_cons_succ, Act.put, List.setIfInBounds_toArray, List.set_cons_zero, List.set_cons_succ])
        refine plan_take (i := 8) (v := ?_) rfl (by kernel_rfl) (by kernel_rfl) (by kernel_rfl) (fun _ _ _ h => h) hPT (by rfl) ?_ ?_
        rotate_left
        · (intro w; go_simp; with_reducible rfl)
        (clear hPT; intro hPT; simp only [List.getElem_toArray, List.getElem_cons_zero, List.getElem_cons_succ, Act.put, List.setIfInBounds_toArray, List.set_cons_zero, List.set_cons_succ])
        refine plan_load (fun w' => w'.cell? ⟨w.heap.size, 0, none⟩ = some (.slice (some ⟨b, o, none⟩) bs.length ca)) (i := 1) (v := ?_) rfl (by kernel_rfl) (by kernel_rfl) (by kernel_rfl) (fun _ _ _ h => h) hPT (by rfl) ?_ ?_ ?_
        rotate_left
        · (first | assumption | (go_simp; done))
        · (intro w hSw; (try dsimp only at hSw); go_simp; with_reducible rfl)
        (clear hPT; intro hPT; simp only [List.getElem_toArray, List.getElem_cons_zero, List.getElem_cons_succ, Act.put, List.setIfInBounds_toArray, List.set_cons_zero, List.set_cons_succ])
        refine plan_load (fun w' => w'.cell? ⟨w.heap.size, 1, none⟩ = some (.slice Ab bs.length cb)) (i := 6) (v := ?_) rfl (by kernel_rfl) (by kernel_rfl) (by kernel_rfl) (fun _ _ _ h => h) hPT (by rfl) ?_ ?_ ?_
        rotate_left
        · (first | assumption | (go_simp; done))
        · (intro w hSw; (try dsimp only at hSw); go_simp; with_reducible rfl)
        (clear hPT; intro hPT; simp only [List.getElem_toArray, List.getElem_cons_zero, List.getElem_cons_succ, Act.put, List.setIfInBounds_toArray, List.set_cons_zero, List.set_cons_succ])
        refine plan_one (i := 4) (by kernel_rfl) rfl (by rfl) (fun K hK => ?_)
        (try simp only [List.getElem_toArray, List.getElem_cons_zero, List.getElem_cons_succ, Act.put, List.setIfInBounds_toArray, List.set_cons_zero, List.set_cons_succ])
        go_simp
        refine Calls.mono (put_any _ (fsts bs) k (at' : Int) _ (HA.out.no (HK0.out.trans (by (repeat (first | exact Kp.refl _ _ | with_reducible refine Kp.drewN ?_ _ | with_reducible refine Kp.drew ?_ | with_reducible refine Kp.alloc ?_ _ | with_reducible refine Kp.setCell ?_ (fun _ => ?_) _)); all_goals (simp_all; omega)))) (by rw [fsts_length]; omega) (by rw [fsts_length]; omega)) ?_
        rintro e w5 ⟨v5_, rfl, i5, hk5⟩
        obtain ⟨A5, c5, e5, _⟩ := id i5
        rw [putI_length (by rw [fsts_length]; omega), fsts_length] at e5
        subst e5
        have HI5 := hide i5
        have HK5 := hide (HK0.out.trans (show Kp No _ w5 from (show Kp No _ _ from (by (repeat (first | exact Kp.refl _ _ | with_reducible refine Kp.drewN ?_ _ | with_reducible refine Kp.drew ?_ | with_reducible refine Kp.alloc ?_ _ | with_reducible refine Kp.setCell ?_ (fun _ => ?_) _)); all_goals (simp_all; omega))).trans hk5))
        have HB5 := hide (HB0.out.kp (show Kp No _ w5 from (show Kp No _ _ from (by (repeat (first | exact Kp.refl _ _ | with_reducible refine Kp.drewN ?_ _ | with_reducible refine Kp.drew ?_ | with_reducible refine Kp.alloc ?_ _ | with_reducible refine Kp.setCell ?_ (fun _ => ?_) _)); all_goals (simp_all; omega))).trans hk5) id)
        have HC5 := hide (HB1.out.kp (show Kp No _ w5 from (show Kp No _ _ from (by (repeat (first | exact Kp.refl _ _ | with_reducible refine Kp.drewN ?_ _ | with_reducible refine Kp.drew ?_ | with_reducible refine Kp.alloc ?_ _ | with_reducible refine Kp.setCell ?_ (fun _ => ?_) _)); all_goals (simp_all; omega))).trans hk5) id)
        clear hk5 i5
        refine hK.out _ _ _ (t_cons (HB5.out.cell 1) (t_nil _)) (k_keep (k_drop (by kernel_rfl) k_nil)) (fun hPT' => ?_)
        (clear hPT hK K; have hPT := hPT'; clear hPT'; try simp only [List.getElem_toArray, List.getElem_cons_zero, List.getElem_cons_succ, Act.put, List.setIfInBounds_toArray, List.set_cons_zero, List.set_cons_succ])
        refine plan_one (i := 9) (by kernel_rfl) rfl (by rfl) (fun K hK => ?_)
        (try simp only [List.getElem_toArray, List.getElem_cons_zero, List.getElem_cons_succ, Act.put, List.setIfInBounds_toArray, List.set_cons_zero, List.set_cons_succ])
        go_simp
        refine Calls.mono (put_any _ (snds bs) k (s : Int) _ (HB.out.no (HK5.out.trans (by (repeat (first | exact Kp.refl _ _ | with_reducible refine Kp.drewN ?_ _ | with_reducible refine Kp.drew ?_ | with_reducible refine Kp.alloc ?_ _ | with_reducible refine Kp.setCell ?_ (fun _ => ?_) _)); all_goals (simp_all; omega)))) (by rw [snds_length]; omega) (by rw [snds_length]; omega)) ?_
        rintro e w6 ⟨v6_, rfl, i6, hk6⟩
        obtain ⟨A6, c6, e6, _⟩ := id i6
        rw [putI_length (by rw [snds_length]; omega), snds_length] at e6
        subst e6
        have HI6 := hide (i6.mono (F' := fun b => w.heap.size + 2 ≤ b) fun b _ hb => by have h1 : w5.heap.size ≤ b := hb; have := HC5.out.lt; omega)
        have HJ6 := hide ((HI5.out.mono (F' := fun b => w.heap.size + 2 ≤ b) fun b _ hb => by unfold Hi at hb; simp at hb; omega).no (show Kp No w5 w6 from (show Kp No _ _ from (by (repeat (first | exact Kp.refl _ _ | with_reducible refine Kp.drewN ?_ _ | with_reducible refine Kp.drew ?_ | with_reducible refine Kp.alloc ?_ _ | with_reducible refine Kp.setCell ?_ (fun _ => ?_) _)); all_goals (simp_all; omega))).trans hk6))
        have HK6 := hide (HK5.out.trans (show Kp No w5 w6 from (show Kp No _ _ from (by (repeat (first | exact Kp.refl _ _ | with_reducible refine Kp.drewN ?_ _ | with_reducible refine Kp.drew ?_ | with_reducible refine Kp.alloc ?_ _ | with_reducible refine Kp.setCell ?_ (fun _ => ?_) _)); all_goals (simp_all; omega))).trans hk6))
        have HC6 := hide (HC5.out.kp (show Kp No w5 w6 from (show Kp No _ _ from (by (repeat (first | exact Kp.refl _ _ | with_reducible refine Kp.drewN ?_ _ | with_reducible refine Kp.drew ?_ | with_reducible refine Kp.alloc ?_ _ | with_reducible refine Kp.setCell ?_ (fun _ => ?_) _)); all_goals (simp_all; omega))).trans hk6) id)
        obtain ⟨y1, y2, y3, y4, y5⟩ := HC6.out.a2
        clear hk6 i6
        refine hK.out [] _ _ (t_nil _) (k_drop (by kernel_rfl) k_nil) (fun hPT' => ?_)
        (clear hPT hK K; have hPT := hPT'; clear hPT'; try simp only [List.getElem_toArray, List.getElem_cons_zero, List.getElem_cons_succ, Act.put, List.setIfInBounds_toArray, List.set_cons_zero, List.set_cons_succ])
        refine plan_take (i := 10) (v := ?_) rfl (by kernel_rfl) (by kernel_rfl) (by kernel_rfl) (fun _ _ _ h => h) hPT (by rfl) ?_ ?_
        rotate_left
        · (intro w; go_simp; with_reducible rfl)
        (clear hPT; intro hPT; simp only [List.getElem_toArray, List.getElem_cons_zero, List.getElem_cons_succ, Act.put, List.setIfInBounds_toArray, List.set_cons_zero, List.set_cons_succ])
        refine plan_one (i := 11) (by kernel_rfl) rfl (by rfl) (fun K hK => ?_)
        (try simp only [List.getElem_toArray, List.getElem_cons_zero, List.getElem_cons_succ, Act.put, List.setIfInBounds_toArray, List.set_cons_zero, List.set_cons_succ])
        go_simp
        refine hK.out [] _ _ (t_nil _) k_nil (fun hPT' => ?_)
        (clear hPT hK K; have hPT := hPT'; clear hPT'; try simp only [List.getElem_toArray, List.getElem_cons_zero, List.getElem_cons_succ, Act.put, List.setIfInBounds_toArray, List.set_cons_zero, List.set_cons_succ])
        refine plan_done (by kernel_rfl) ?_ _
        clear hPT
        go_wp2
        have q0 := ((HC6.out.set_ 0 (.slice A5 (bs.length + 1) c5)).set_ 1 (.slice A6 (bs.length + 1) c6)).cell 0
        have q1 := ((HC6.out.set_ 0 (.slice A5 (bs.length + 1) c5)).set_ 1 (.slice A6 (bs.length + 1) c6)).cell 1
        refine bodyPost_ret (v := .agg #[.slice A5 (bs.length + 1) c5, .slice A6 (bs.length + 1) c6]) (by simp [results, Tryd.results25, go_sem, q0, q1]) rfl ?_
        have hkk : Kp (At (w.heap.size + 1)) w6 ((w6.setCell ⟨w.heap.size + 1, 0, none⟩ (.slice A5 (bs.length + 1) c5)).setCell ⟨w.heap.size + 1, 1, none⟩ (.slice A6 (bs.length + 1) c6)) := (kp_put _ _ _ _).trans (kp_put _ _ _ _)
        refine ⟨_, rfl, ⟨_, _, rfl, ?_, ?_⟩, HK6.out.trans' hkk fun b hb e => by unfold At at e; omega⟩
        · rw [HST.out, ← fsts_ins]
          exact (HJ6.out.kp hkk fun b hb e => by unfold At at e; omega).mono fun b _ hb => by unfold Hi; omega
        · rw [HST.out, ← snds_ins]
          exact (HI6.out.kp hkk fun b hb e => by unfold At at e; omega).mono fun b _ hb => by unfold Hi; omega
    · obtain rfl : k = bs.length := by omega
      have HST := hide (show aheadN bs at' = bs.length by have := hah.out; rw [List.drop_length] at this; exact this)
      clear hah
      go_wp2_with fail
      have q0 := HB0.out.cell 0
      have q1 := HB0.out.cell 1
      refine plan_start 12 (by kernel_rfl) rfl (fun hPT => ?_)
      refine plan_take (i := 0) (v := ?_) rfl (by kernel_rfl) (by kernel_rfl) (by kernel_rfl) (fun _ _ _ h => h) hPT (by rfl) ?_ ?_
      rotate_left
      · (intro w; go_simp; with_reducible rfl)
      (clear hPT; intro hPT; simp only [List.getElem_toArray, List.getElem_cons_zero, List.getElem_cons_succ, Act.put, List.setIfInBounds_toArray, List.set_cons_zero, List.set_cons_succ])
      refine plan_take (i := 2) (v := ?_) rfl (by kernel_rfl) (by kernel_rfl) (by kernel_rfl) (fun _ _ _ h => h) hPT (by rfl) ?_ ?_
      rotate_left
      · (intro w; go_simp; with_reducible rfl)
      (clear hPT; intro hPT; simp only [List.getElem_toArray, List.getElem_cons_zero, List.getElem_cons_succ, Act.put, List.setIfInBounds_toArray, List.set_cons_zero, List.set_cons_succ])
      refine plan_take (i := 3) (v := ?_) rfl (by kernel_rfl) (by kernel_rfl) (by kernel_rfl) (fun _ _ _ h => h) hPT (by rfl) ?_ ?_
      rotate_left
      · (intro w; go_simp; with_reducible rfl)
      (clear hPT; intro hPT; simp only [List.getElem_toArray, List.getElem_cons_zero, List.getElem_cons_succ, Act.put, List.setIfInBounds_toArray, List.set_cons_zero, List.set_cons_succ])
      refine plan_take (i := 5) (v := ?_) rfl (by kernel_rfl) (by kernel_rfl) (by kernel_rfl) (fun _ _ _ h => h) hPT (by rfl) ?_ ?_
      rotate_left
      · (intro w; go_simp; with_reducible rfl)
      (clear hPT; intro hPT; simp only [List.getElem_toArray, List.getElem_cons_zero, List.getElem_cons_succ, Act.put, List.setIfInBounds_toArray, List.set_cons_zero, List.set_cons_succ])
      refine plan_take (i := 7) (v := ?_) rfl (by kernel_rfl) (by kernel_rfl) (by kernel_rfl) (fun _ _ _ h => h) hPT (by rfl) ?_ ?_
      rotate_left
      · (intro w; go_simp; with_reducible rfl)
      (clear hPT; intro hPT; simp only [List.getElem_toArray, List.getElem_cons_zero, List.getElem_cons_succ, Act.put, List.setIfInBounds_toArray, List.set_cons_zero, List.set_cons_succ])
      refine plan_take (i := 8) (v := ?_) rfl (by kernel_rfl) (by kernel_rfl) (by kernel_rfl) (fun _ _ _ h => h) hPT (by rfl) ?_ ?_
      rotate_left
      · (intro w; go_simp; with_reducible rfl)
      (clear hPT; intro hPT; simp only [List.getElem_toArray, List.getElem_cons_zero, List.getElem_cons_succ, Act.put, List.setIfInBounds_toArray, List.set_cons_zero, List.set_cons_succ])
      refine plan_load (fun w' => w'.cell? ⟨w.heap.size, 0, none⟩ = some (.slice Aa bs.length ca)) (i := 1) (v := ?_) rfl (by kernel_rfl) (by kernel_rfl) (by kernel_rfl) (fun _ _ _ h => h) hPT (by rfl) ?_ ?_ ?_
      rotate_left
      · (first | assumption | (go_simp; done))
      · (intro w hSw; (try dsimp only at hSw); go_simp; with_reducible rfl)
      (clear hPT; intro hPT; simp only [List.getElem_toArray, List.getElem_cons_zero, List.getElem_cons_succ, Act.put, List.setIfInBounds_toArray, List.set_cons_zero, List.set_cons_succ])
      refine plan_load (fun w' => w'.cell? ⟨w.heap.size, 1, none⟩ = some (.slice Ab bs.length cb)) (i := 6) (v := ?_) rfl (by kernel_rfl) (by kernel_rfl) (by kernel_rfl) (fun _ _ _ h => h) hPT (by rfl) ?_ ?_ ?_
      rotate_left
      · (first | assumption | (go_simp; done))
      · (intro w hSw; (try dsimp only at hSw); go_simp; with_reducible rfl)
      (clear hPT; intro hPT; simp only [List.getElem_toArray, List.getElem_cons_zero, List.getElem_cons_succ, Act.put, List.setIfInBounds_toArray, List.set_cons_zero, List.set_cons_succ])
      refine plan_one (i := 4) (by kernel_rfl) rfl (by rfl) (fun K hK => ?_)
      (try simp only [List.getElem_toArray, List.getElem_cons_zero, List.getElem_cons_succ, Act.put, List.setIfInBounds_toArray, List.set_cons_zero, List.set_cons_succ])
      go_simp
      refine Calls.mono (put_any _ (fsts bs) bs.length (at' : Int) _ (HA.out.no (HK0.out.trans (by (repeat (first | exact Kp.refl _ _ | with_reducible refine Kp.drewN ?_ _ | with_reducible refine Kp.drew ?_ | with_reducible refine Kp.alloc ?_ _ | with_reducible refine Kp.setCell ?_ (fun _ => ?_) _)); all_goals (simp_all; omega)))) (by rw [fsts_length]; omega) (by rw [fsts_length]; omega)) ?_
      rintro e w5 ⟨v5_, rfl, i5, hk5⟩
      obtain ⟨A5, c5, e5, _⟩ := id i5
      rw [putI_length (by rw [fsts_length]; omega), fsts_length] at e5
      subst e5
      have HI5 := hide i5
      have HK5 := hide (HK0.out.trans (show Kp No _ w5 from (show Kp No _ _ from (by (repeat (first | exact Kp.refl _ _ | with_reducible refine Kp.drewN ?_ _ | with_reducible refine Kp.drew ?_ | with_reducible refine Kp.alloc ?_ _ | with_reducible refine Kp.setCell ?_ (fun _ => ?_) _)); all_goals (simp_all; omega))).trans hk5))
      have HB5 := hide (HB0.out.kp (show Kp No _ w5 from (show Kp No _ _ from (by (repeat (first | exact Kp.refl _ _ | with_reducible refine Kp.drewN ?_ _ | with_reducible refine Kp.drew ?_ | with_reducible refine Kp.alloc ?_ _ | with_reducible refine Kp.setCell ?_ (fun _ => ?_) _)); all_goals (simp_all; omega))).trans hk5) id)
      have HC5 := hide (HB1.out.kp (show Kp No _ w5 from (show Kp No _ _ from (by (repeat (first | exact Kp.refl _ _ | with_reducible refine Kp.drewN ?_ _ | with_reducible refine Kp.drew ?_ | with_reducible refine Kp.alloc ?_ _ | with_reducible refine Kp.setCell ?_ (fun _ => ?_) _)); all_goals (simp_all; omega))).trans hk5) id)
      clear hk5 i5
      refine hK.out _ _ _ (t_cons (HB5.out.cell 1) (t_nil _)) (k_keep (k_drop (by kernel_rfl) k_nil)) (fun hPT' => ?_)
      (clear hPT hK K; have hPT := hPT'; clear hPT'; try simp only [List.getElem_toArray, List.getElem_cons_zero, List.getElem_cons_succ, Act.put, List.setIfInBounds_toArray, List.set_cons_zero, List.set_cons_succ])
      refine plan_one (i := 9) (by kernel_rfl) rfl (by rfl) (fun K hK => ?_)
      (try simp only [List.getElem_toArray, List.getElem_cons_zero, List.getElem_cons_succ, Act.put, List.setIfInBounds_toArray, List.set_cons_zero, List.set_cons_succ])
      go_simp
      refine Calls.mono (put_any _ (snds bs) bs.length (s : Int) _ (HB.out.no (HK5.out.trans (by (repeat (first | exact Kp.refl _ _ | with_reducible refine Kp.drewN ?_ _ | with_reducible refine Kp.drew ?_ | with_reducible refine Kp.alloc ?_ _ | with_reducible refine Kp.setCell ?_ (fun _ => ?_) _)); all_goals (simp_all; omega)))) (by rw [snds_length]; omega) (by rw [snds_length]; omega)) ?_
      rintro e w6 ⟨v6_, rfl, i6, hk6⟩
      obtain ⟨A6, c6, e6, _⟩ := id i6
      rw [putI_length (by rw [snds_length]; omega), snds_length] at e6
      subst e6
      have HI6 := hide (i6.mono (F' := fun b => w.heap.size + 2 ≤ b) fun b _ hb => by have h1 : w5.heap.size ≤ b := hb; have := HC5.out.lt; omega)
      have HJ6 := hide ((HI5.out.mono (F' := fun b => w.heap.size + 2 ≤ b) fun b _ hb => by unfold Hi at hb; simp at hb; omega).no (show Kp No w5 w6 from (show Kp No _ _ from (by (repeat (first | exact Kp.refl _ _ | with_reducible refine Kp.drewN ?_ _ | with_reducible refine Kp.drew ?_ | with_reducible refine Kp.alloc ?_ _ | with_reducible refine Kp.setCell ?_ (fun _ => ?_) _)); all_goals (simp_all; omega))).trans hk6))
      have HK6 := hide (HK5.out.trans (show Kp No w5 w6 from (show Kp No _ _ from (by (repeat (first | exact Kp.refl _ _ | with_reducible refine Kp.drewN ?_ _ | with_reducible refine Kp.drew ?_ | with_reducible refine Kp.alloc ?_ _ | with_reducible refine Kp.setCell ?_ (fun _ => ?_) _)); all_goals (simp_all; omega))).trans hk6))
      have HC6 := hide (HC5.out.kp (show Kp No w5 w6 from (show Kp No _ _ from (by (repeat (first | exact Kp.refl _ _ | with_reducible refine Kp.drewN ?_ _ | with_reducible refine Kp.drew ?_ | with_reducible refine Kp.alloc ?_ _ | with_reducible refine Kp.setCell ?_ (fun _ => ?_) _)); all_goals (simp_all; omega))).trans hk6) id)
      obtain ⟨y1, y2, y3, y4, y5⟩ := HC6.out.a2
      clear hk6 i6
      refine hK.out [] _ _ (t_nil _) (k_drop (by kernel_rfl) k_nil) (fun hPT' => ?_)
      (clear hPT hK K; have hPT := hPT'; clear hPT'; try simp only [List.getElem_toArray, List.getElem_cons_zero, List.getElem_cons_succ, Act.put, List.setIfInBounds_toArray, List.set_cons_zero, List.set_cons_succ])
      refine plan_take (i := 10) (v := ?_) rfl (by kernel_rfl) (by kernel_rfl) (by kernel_rfl) (fun _ _ _ h => h) hPT (by rfl) ?_ ?_
      rotate_left
      · (intro w; go_simp; with_reducible rfl)
      (clear hPT; intro hPT; simp only [List.getElem_toArray, List.getElem_cons_zero, List.getElem_cons_succ, Act.put, List.setIfInBounds_toArray, List.set_cons_zero, List.set_cons_succ])
      refine plan_one (i := 11) (by kernel_rfl) rfl (by rfl) (fun K hK => ?_)
      (try simp only [List.getElem_toArray, List.getElem_cons_zero, List.getElem_cons_succ, Act.put, List.setIfInBounds_toArray, List.set_cons_zero, List.set_cons_succ])
      go_simp
      refine hK.out [] _ _ (t_nil _) k_nil (fun hPT' => ?_)
      (clear hPT hK K; have hPT := hPT'; clear hPT'; try simp only [List.getElem_toArray, List.getElem_cons_zero, List.getElem_cons_succ, Act.put, List.setIfInBounds_toArray, List.set_cons_zero, List.set_cons_succ])
      refine plan_done (by kernel_rfl) ?_ _
      clear hPT
      go_wp2
      have q0 := ((HC6.out.set_ 0 (.slice A5 (bs.length + 1) c5)).set_ 1 (.slice A6 (bs.length + 1) c6)).cell 0
      have q1 := ((HC6.out.set_ 0 (.slice A5 (bs.length + 1) c5)).set_ 1 (.slice A6 (bs.length + 1) c6)).cell 1
      refine bodyPost_ret (v := .agg #[.slice A5 (bs.length + 1) c5, .slice A6 (bs.length + 1) c6]) (by simp [results, Tryd.results25, go_sem, q0, q1]) rfl ?_
      have hkk : Kp (At (w.heap.size + 1)) w6 ((w6.setCell ⟨w.heap.size + 1, 0, none⟩ (.slice A5 (bs.length + 1) c5)).setCell ⟨w.heap.size + 1, 1, none⟩ (.slice A6 (bs.length + 1) c6)) := (kp_put _ _ _ _).trans (kp_put _ _ _ _)
      refine ⟨_, rfl, ⟨_, _, rfl, ?_, ?_⟩, HK6.out.trans' hkk fun b hb e => by unfold At at e; omega⟩
      · rw [HST.out, ← fsts_ins]
        exact (HJ6.out.kp hkk fun b hb e => by unfold At at e; omega).mono fun b _ hb => by unfold Hi; omega
      · rw [HST.out, ← snds_ins]
        exact (HI6.out.kp hkk fun b hb e => by unfold At at e; omega).mono fun b _ hb => by unfold Hi; omega
end Go.Proofs.YtibdddkcjijlaaaDoor
