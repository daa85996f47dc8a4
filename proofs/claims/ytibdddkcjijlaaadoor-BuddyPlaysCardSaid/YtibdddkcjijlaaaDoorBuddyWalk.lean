/- buddy: New, put, Free, walked. -/
import Derived.Test.YtibdddkcjijlaaaDoorBuddyMem
import Derived.Test.YtibdddkcjijlaaaDoorClone
import Derived.Test.YtibdddkcjijlaaaDoorPlan
namespace Go.Proofs.YtibdddkcjijlaaaDoor
open Go.RowKit
set_option linter.unusedSimpArgs false

theorem bnew_any (w : World) : Calls Tryd.prog 17 #[] w fun e w' => ∃ p, e = .returned (.pointer (some ⟨p, 0, none⟩)) ∧ w.heap.size ≤ p ∧ BudIs w' p (Hi w.heap.size) (upd (fun _ => []) 6 [0]) (fun _ => none) 0 ∧ Kp No w w' := by
  have hmm := @run_makeMap Tryd.prog
  go_enter Tryd.func17, Tryd.ntmps17
  go_wp2
  go_ret
  refine ⟨w.heap.size + 1, rfl, by omega, ?_, (by (repeat (first | exact Kp.refl _ _ | with_reducible refine Kp.drewN ?_ _ | with_reducible refine Kp.drew ?_ | with_reducible refine Kp.alloc ?_ _ | with_reducible refine Kp.setCell ?_ (fun _ => ?_) _)); all_goals (simp_all; omega))⟩
  have hw0 : (w.alloc (.map #[] 0)).heap.size = w.heap.size + 1 := by simp
  have hw1 : ((w.alloc (.map #[] 0)).alloc (.cells #[.slice none 0 0, .slice none 0 0, .slice none 0 0, .slice none 0 0, .slice none 0 0, .slice none 0 0, .slice (some ⟨w.heap.size + 1 + 1, 0, none⟩) 1 1, .map (some w.heap.size)] 68)).heap.size = w.heap.size + 1 + 1 := by simp
  have o6 := own_new ((w.alloc (.map #[] 0)).alloc (.cells #[.slice none 0 0, .slice none 0 0, .slice none 0 0, .slice none 0 0, .slice none 0 0, .slice none 0 0, .slice (some ⟨w.heap.size + 1 + 1, 0, none⟩) 1 1, .map (some w.heap.size)] 68)) [.int .i64 0] #[.int .i64 0] 3 0 (Nat.zero_le _) (by simp) rfl
  rw [hw1] at o6
  have hvf : ∀ k, upd (fun _ => Value.slice none 0 0) 6 (.slice (some ⟨w.heap.size + 1 + 1, 0, none⟩) 1 1) k = if k = 6 then .slice (some ⟨w.heap.size + 1 + 1, 0, none⟩) 1 1 else .slice none 0 0 := fun k => rfl
  refine ⟨by unfold Hi; omega, upd (fun _ => .slice none 0 0) 6 (.slice (some ⟨w.heap.size + 1 + 1, 0, none⟩) 1 1), w.heap.size, ⟨?_, fun k hk => ?_, fun j k hj hk hne g hg => ?_, ?_⟩, Nat.le_refl _, fun k hk b hb => ?_⟩
  · have := (Blk.new (w.alloc (.map #[] 0)) 68 (bcells (upd (fun _ => .slice none 0 0) 6 (.slice (some ⟨w.heap.size + 1 + 1, 0, none⟩) 1 1)) w.heap.size)).alloc (.cells #[.int .i64 0] 3)
    rw [hw0] at this
    exact this
  · by_cases e : k = 6
    · subst e
      rw [upd_same, upd_same]
      exact o6
    · rw [upd_other _ _ e, upd_other _ _ e]
      exact World.ownsRow_nil _ _ _ _
  · by_cases e : j = 6
    · subst e
      rw [upd_other _ _ (Ne.symm hne)]
      simp [Value.ownBlock]
    · rw [upd_other _ _ e] at hg
      simp [Value.ownBlock] at hg
  · exact ((MapAt.new w).kp (S := No) (((Kp.refl _ _).alloc _).alloc _) id)
  · by_cases e : k = 6
    · subst e
      rw [upd_same] at hb
      have : w.heap.size + 1 + 1 = b := by simpa [Value.ownBlock] using hb
      unfold Hi; omega
    · rw [upd_other _ _ e] at hb
      simp [Value.ownBlock] at hb

/-- where it stands, or would -/
def posN (l : List Nat) (a : Nat) : Nat := l.countP fun x => decide (x < a)
theorem posN_le (l : List Nat) (a : Nat) : posN l a ≤ l.length := List.countP_le_length
theorem bsearch_any {v : Value} {l : List Nat} (a : Nat) (w : World) (h : w.ownsRow 0 3 1 v l.length (iv (ni l))) (hr : l.Pairwise (· < ·)) (hl : l.length ≤ 1000) :
    Calls Tryd.prog 37 #[v, .int .i64 a] w fun e w' => e = .returned (.tuple #[.int .i64 (posN l a : Nat), .bool (decide (a ∈ l))]) ∧ ∃ q, w' = w.drewN q := by
  have e1 : (ni l).countP (fun x => decide (x < (a : Int))) = posN l a := by
    unfold ni posN
    rw [List.countP_map]
    refine List.countP_congr fun x _ => ?_
    simp
  have e2 : (ni l).contains (a : Int) = decide (a ∈ l) := by
    rw [Bool.eq_iff_iff, List.contains_iff_mem, decide_eq_true_eq]
    unfold ni
    rw [List.mem_map]
    constructor
    · rintro ⟨x, hx, e⟩
      obtain rfl : x = a := by omega
      exact hx
    · exact fun h => ⟨a, h, rfl⟩
  rcases h.2 with ⟨rfl, h0⟩ | ⟨g, c, cur, rfl, _, hh, hnc, hmx, hs, ht⟩
  · have : l = [] := List.eq_nil_of_length_eq_zero h0
    subst this
    refine (Tryd.slices_BinarySearch_int_empty none 0 a w).mono ?_
    rintro e w' ⟨rfl, rfl⟩
    exact ⟨by simp [posN], 0, rfl⟩
  · have := Tryd.slices_BinarySearch_int g 0 l.length c (ni l) a w (by rw [ni_length]; exact Nat.le_refl _) (by omega) (fun j hj => by
      rw [ni_length] at hj
      have h1 := h.cells (g := g) rfl j (.int .i64 (l[j] : Int)) (by rw [List.getElem?_eq_getElem (by rw [iv_length, ni_length]; exact hj), iv_get (by rw [ni_length]; exact hj), ni_get hj])
      rw [Addr.add_lit] at h1
      rw [h1, List.getD_eq_getElem?_getD, List.getElem?_eq_getElem (by rw [ni_length]; exact hj), ni_get hj]
      rfl) (by
      rw [List.take_of_length_le (by rw [ni_length]; exact Nat.le_refl _)]
      unfold ni
      rw [List.pairwise_map]
      exact hr.imp fun h => by omega)
    rw [List.take_of_length_le (by rw [ni_length]; exact Nat.le_refl _), e1, e2] at this
    exact this

theorem ni_ins (l : List Nat) (i a : Nat) : (iv (ni l)).take (i * 1) ++ [.int .i64 (a : Int)] ++ (iv (ni l)).drop (i * 1) = iv (ni (insAt l i a)) := by
  unfold insAt iv ni
  simp [List.map_take, List.map_drop]

set_option maxRecDepth 100000 in
set_option maxHeartbeats 4000000 in
theorem bput_any {p m : Nat} {S : Nat → Prop} {fr : Nat → List Nat} {ln : Nat → Option Nat} (k a : Nat) (w : World) (hB : BudIs w p S fr ln m) (hk : k ≤ 6) (ha : a ≤ 1000) (hr : (fr k).Pairwise (· < ·)) (hl : (fr k).length ≤ 64) (hS : ∀ b, w.heap.size ≤ b → S b) :
    Calls Tryd.prog 36 #[.pointer (some ⟨p, 0, none⟩), .int .i64 k, .int .i64 a] w fun e w' => e = .returned (.tuple #[]) ∧ BudIs w' p S (upd fr k (putN (fr k) a)) ln m ∧ Kp S w w' := by
  obtain ⟨hp, vf, bm, h, hm, hvS⟩ := hB
  have HP := hide hp
  have HM := hide hm
  have HVS := hide hvS
  have HS := hide hS
  have H := hide h
  obtain ⟨b1, f1⟩ := h.cell hk
  have z1 := h.blk.lt
  have HBS := hide (bsearch_any a w (h.own k hk) hr (by omega))
  have HPL := hide (posN_le (fr k) a)
  obtain ⟨v, hv⟩ : ∃ v, vf k = v := ⟨_, rfl⟩
  have HV := hide hv
  rw [hv] at b1 HBS
  have HOW := hide (show w.ownsRow 0 3 1 v (fr k).length (iv (ni (fr k))) from hv ▸ h.own k hk)
  obtain ⟨e0, A, c, hvs, hc, hmx, _⟩ := own_form HOW.out
  rw [iv_length, ni_length] at hvs hc
  clear e0
  obtain ⟨i, hi⟩ : ∃ i, posN (fr k) a = i := ⟨_, rfl⟩
  have HI := hide hi
  rw [hi] at HBS HPL
  have hil := HPL.out
  have hk7 : (k : Int) < 7 := by omega
  subst hvs
  clear hp hm hvS hS h hv hi hr
  go_enter Tryd.func36, Tryd.ntmps36
  go_wp2_with fail
  refine Calls.mono HBS.out ?_
  rintro e w1 ⟨rfl, q, rfl⟩
  go_wp2_with fail
  refine plan_start 16 (by kernel_rfl) rfl (fun hPT => ?_)
  refine plan_take (i := 0) (v := ?_) rfl (by kernel_rfl) (by kernel_rfl) (by kernel_rfl) (fun _ _ _ h => panic_put h) hPT (by rfl) ?_ ?_
  rotate_left
  · (intro w; go_simp; with_reducible rfl)
  (clear hPT; intro hPT; simp only [List.getElem_toArray, List.getElem_cons_zero, List.getElem_cons_succ, Act.put, List.setIfInBounds_toArray, List.set_cons_zero, List.set_cons_succ])
  refine plan_take (i := 1) (v := ?_) rfl (by kernel_rfl) (by kernel_rfl) (by kernel_rfl) (fun _ _ _ h => panic_put h) hPT (by rfl) ?_ ?_
  rotate_left
  · (intro w; go_simp; with_reducible rfl)
  (clear hPT; intro hPT; simp only [List.getElem_toArray, List.getElem_cons_zero, List.getElem_cons_succ, Act.put, List.setIfInBounds_toArray, List.set_cons_zero, List.set_cons_succ])
  refine plan_take (i := 2) (v := ?_) rfl (by kernel_rfl) (by kernel_rfl) (by kernel_rfl) (fun _ _ _ h => panic_put h) hPT (by rfl) ?_ ?_
  rotate_left
  · (intro w; go_simp; with_reducible rfl)
  (clear hPT; intro hPT; simp only [List.getElem_toArray, List.getElem_cons_zero, List.getElem_cons_succ, Act.put, List.setIfInBounds_toArray, List.set_cons_zero, List.set_cons_succ])
  refine plan_take (i := 3) (v := ?_) rfl (by kernel_rfl) (by kernel_rfl) (by kernel_rfl) (fun _ _ _ h => panic_put h) hPT (by rfl) ?_ ?_
  rotate_left
  · (intro w; go_simp; with_reducible rfl)
  (clear hPT; intro hPT; simp only [List.getElem_toArray, List.getElem_cons_zero, List.getElem_cons_succ, Act.put, List.setIfInBounds_toArray, List.set_cons_zero, List.set_cons_succ])
  refine plan_take (i := 4) (v := ?_) rfl (by kernel_rfl) (by kernel_rfl) (by kernel_rfl) (fun _ _ _ h => panic_put h) hPT (by rfl) ?_ ?_
  rotate_left
  · (intro w; go_simp; with_reducible rfl)
  (clear hPT; intro hPT; simp only [List.getElem_toArray, List.getElem_cons_zero, List.getElem_cons_succ, Act.put, List.setIfInBounds_toArray, List.set_cons_zero, List.set_cons_succ])
  refine plan_take (i := 5) (v := ?_) rfl (by kernel_rfl) (by kernel_rfl) (by kernel_rfl) (fun _ _ _ h => panic_put h) hPT (by rfl) ?_ ?_
  rotate_left
  · (intro w; go_simp; with_reducible rfl)
  (clear hPT; intro hPT; simp only [List.getElem_toArray, List.getElem_cons_zero, List.getElem_cons_succ, Act.put, List.setIfInBounds_toArray, List.set_cons_zero, List.set_cons_succ])
  refine plan_take (i := 6) (v := ?_) rfl (by kernel_rfl) (by kernel_rfl) (by kernel_rfl) (fun _ _ _ h => panic_put h) hPT (by rfl) ?_ ?_
  rotate_left
  · (intro w; go_simp; with_reducible rfl)
  (clear hPT; intro hPT; simp only [List.getElem_toArray, List.getElem_cons_zero, List.getElem_cons_succ, Act.put, List.setIfInBounds_toArray, List.set_cons_zero, List.set_cons_succ])
  refine plan_take (i := 8) (v := ?_) rfl (by kernel_rfl) (by kernel_rfl) (by kernel_rfl) (fun _ _ _ h => panic_put h) hPT (by rfl) ?_ ?_
  rotate_left
  · (intro w; go_simp; with_reducible rfl)
  (clear hPT; intro hPT; simp only [List.getElem_toArray, List.getElem_cons_zero, List.getElem_cons_succ, Act.put, List.setIfInBounds_toArray, List.set_cons_zero, List.set_cons_succ])
  refine plan_take (i := 9) (v := ?_) rfl (by kernel_rfl) (by kernel_rfl) (by kernel_rfl) (fun _ _ _ h => panic_put h) hPT (by rfl) ?_ ?_
  rotate_left
  · (intro w; go_simp; with_reducible rfl)
  (clear hPT; intro hPT; simp only [List.getElem_toArray, List.getElem_cons_zero, List.getElem_cons_succ, Act.put, List.setIfInBounds_toArray, List.set_cons_zero, List.set_cons_succ])
  refine plan_take (i := 12) (v := ?_) rfl (by kernel_rfl) (by kernel_rfl) (by kernel_rfl) (fun _ _ _ h => panic_put h) hPT (by rfl) ?_ ?_
  rotate_left
  · (intro w; go_simp; with_reducible rfl)
  (clear hPT; intro hPT; simp only [List.getElem_toArray, List.getElem_cons_zero, List.getElem_cons_succ, Act.put, List.setIfInBounds_toArray, List.set_cons_zero, List.set_cons_succ])
  refine plan_take (i := 13) (v := ?_) rfl (by kernel_rfl) (by kernel_rfl) (by kernel_rfl) (fun _ _ _ h => panic_put h) hPT (by rfl) ?_ ?_
  rotate_left
  · (intro w; go_simp; with_reducible rfl)
  (clear hPT; intro hPT; simp only [List.getElem_toArray, List.getElem_cons_zero, List.getElem_cons_succ, Act.put, List.setIfInBounds_toArray, List.set_cons_zero, List.set_cons_succ])
  refine plan_load (fun w' => w'.cell? ⟨p, k, none⟩ = some (.slice A (fr k).length c)) (i := 7) (v := ?_) rfl (by kernel_rfl) (by kernel_rfl) (by kernel_rfl) (fun _ _ _ h => panic_put h) hPT (by rfl) ?_ ?_ ?_
  rotate_left
  · (first | assumption | (go_simp; done))
  · (intro w hSw; (try dsimp only at hSw); go_simp; with_reducible rfl)
  (clear hPT; intro hPT; simp only [List.getElem_toArray, List.getElem_cons_zero, List.getElem_cons_succ, Act.put, List.setIfInBounds_toArray, List.set_cons_zero, List.set_cons_succ])
  refine plan_one (i := 10) (by kernel_rfl) rfl (by rfl) (fun K hK => ?_)
  (try simp only [List.getElem_toArray, List.getElem_cons_zero, List.getElem_cons_succ, Act.put, List.setIfInBounds_toArray, List.set_cons_zero, List.set_cons_succ])
  go_simp
  refine hK.out _ _ _ (t_cons ((((Kp.refl No w).drewN (q + 1)).alloc _).cell b1 (fun h => h)) (t_nil _)) k_same (fun hPT' => ?_)
  (clear hPT hK K; have hPT := hPT'; clear hPT'; try simp only [List.getElem_toArray, List.getElem_cons_zero, List.getElem_cons_succ, Act.put, List.setIfInBounds_toArray, List.set_cons_zero, List.set_cons_succ])
  refine plan_one (i := 11) (by kernel_rfl) rfl (by rfl) (fun K hK => ?_)
  (try simp only [List.getElem_toArray, List.getElem_cons_zero, List.getElem_cons_succ, Act.put, List.setIfInBounds_toArray, List.set_cons_zero, List.set_cons_succ])
  go_simp
  have k0 : Kp No w (((w.drewN q).drew).alloc (.cells #[.int .i64 (a : Int)] 3)) := (((Kp.refl _ _).drewN _).drew).alloc _
  refine Calls.mono (insInsInt_any _ (own_kp HOW.out k0 fun _ _ h => h) hil (by omega) (Nat.zero_le _) (Blk.new (w.drewN q).drew 3 #[.int .i64 (a : Int)]) rfl (one_iv _) (fun u hu => by simp only [List.mem_singleton] at hu; subst hu; rfl) fun e => by have := (own_lt HOW.out e).2; simp at this) ?_
  rintro e w2 ⟨v', rfl, ho, hkp, hat⟩
  have HRP := hide (BudIs.rput (l := putN (fr k) a) (w' := w2) (v' := v') H.out HP.out HM.out HVS.out HS.out hk (by rw [HV.out]; exact k0.of_no.trans' hkp fun b _ h => h) (by
    have e : (putN (fr k) a).length = (fr k).length + 1 := insAt_length _ _ (posN_le _ _)
    rw [e]
    have e2 := ni_ins (fr k) i a
    rw [e2] at ho
    unfold putN
    rw [show (fr k).countP (fun x => decide (x < a)) = i from HI.out]
    exact ho) (fun g hg => by
      rw [HV.out]
      rcases hat g hg with h | h
      · exact .inl h
      · exact .inr (Nat.le_trans k0.size h)))
  have hb2 : Blk w2 p 68 (bcells vf bm) := (H.out.blk.kp k0 id).kp hkp (by have := H.out.rowNe hk; rw [HV.out] at this; exact this)
  have z2 : w2.cell? ⟨p, k, none⟩ = some (.slice A (fr k).length c) := by rw [hb2.cell, bcells_get hk, HV.out]
  have z3 : w2.frozen? ⟨p, k, none⟩ = false := hb2.free k
  rcases ho.2 with ⟨_, h0⟩ | ⟨g', c', cur', rfl, _⟩
  · omega
  clear ho hkp hat hb2 b1 f1 k0
  refine hK.out _ _ _ (t_cons z2 (t_nil _)) k_same (fun hPT' => ?_)
  (clear hPT hK K; have hPT := hPT'; clear hPT'; try simp only [List.getElem_toArray, List.getElem_cons_zero, List.getElem_cons_succ, Act.put, List.setIfInBounds_toArray, List.set_cons_zero, List.set_cons_succ])
  refine plan_take (i := 14) (v := ?_) rfl (by kernel_rfl) (by kernel_rfl) (by kernel_rfl) (fun _ _ _ h => panic_put h) hPT (by rfl) ?_ ?_
  rotate_left
  · (intro w; go_simp; with_reducible rfl)
  (clear hPT; intro hPT; simp only [List.getElem_toArray, List.getElem_cons_zero, List.getElem_cons_succ, Act.put, List.setIfInBounds_toArray, List.set_cons_zero, List.set_cons_succ])
  refine plan_one (i := 15) (by kernel_rfl) rfl (by rfl) (fun K hK => ?_)
  (try simp only [List.getElem_toArray, List.getElem_cons_zero, List.getElem_cons_succ, Act.put, List.setIfInBounds_toArray, List.set_cons_zero, List.set_cons_succ])
  go_simp
  refine hK.out [] _ _ (t_nil _) (k_drop (by kernel_rfl) k_nil) (fun hPT' => ?_)
  (clear hPT hK K; have hPT := hPT'; clear hPT'; try simp only [List.getElem_toArray, List.getElem_cons_zero, List.getElem_cons_succ, Act.put, List.setIfInBounds_toArray, List.set_cons_zero, List.set_cons_succ])
  refine plan_done (by kernel_rfl) ?_ _
  clear hPT
  go_end0
  exact ⟨rfl, HRP.out.1, HRP.out.2⟩
end Go.Proofs.YtibdddkcjijlaaaDoor
