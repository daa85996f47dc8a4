/- A lender of one value, walked. -/
import Derived.Test.YteclfnkmgbebcaaLoanPlain
import Derived.Test.YteclfnkmgbebcaaCohere
import Derived.Test.YteclfnkmgbebcaaPlan
import Derived.BigQuiet
import Derived.Deep.Cut
namespace Go.Proofs.Yteclfnkmgbebcaa
open Go.RowKit
set_option linter.unusedSimpArgs false

/-- loans as cells -/
def lc (l : List (Int × Int)) : List Value := l.flatMap fun x => [.int .i64 x.1, .int .i64 x.2]
theorem lc_length (l : List (Int × Int)) : (lc l).length = l.length * 2 := by
  induction l with
  | nil => rfl
  | cons a l ih => simp only [lc, List.flatMap_cons, List.length_append, List.length_cons, List.length_nil]; unfold lc at ih; omega
theorem lc_at : ∀ {l : List (Int × Int)} {k : Nat} (h : k < l.length), (lc l)[k * 2]? = some (.int .i64 l[k].1) ∧ (lc l)[k * 2 + 1]? = some (.int .i64 l[k].2)
  | a :: l, 0, h => by simp [lc]
  | a :: l, k + 1, h => by
    have := lc_at (l := l) (k := k) (by simpa using h)
    have e : lc (a :: l) = [.int .i64 a.1, .int .i64 a.2] ++ lc l := by simp [lc]
    rw [e]
    constructor
    · rw [List.getElem?_append_right (by simp; omega)]
      simpa [show (k + 1) * 2 - 2 = k * 2 by omega] using this.1
    · rw [List.getElem?_append_right (by simp; omega)]
      simpa [show (k + 1) * 2 + 1 - 2 = k * 2 + 1 by omega] using this.2
theorem lc_set : ∀ {l : List (Int × Int)} {k : Nat} (h : k < l.length) (x : Int × Int), lc (l.set k x) = ((lc l).set (k * 2) (.int .i64 x.1)).set (k * 2 + 1) (.int .i64 x.2)
  | a :: l, 0, h, x => by simp [lc]
  | a :: l, k + 1, h, x => by
    have := lc_set (l := l) (k := k) (by simpa using h) x
    have e : ∀ l', lc (a :: l') = .int .i64 a.1 :: .int .i64 a.2 :: lc l' := fun l' => by simp [lc]
    rw [List.set_cons_succ, e, e, this, show (k + 1) * 2 = k * 2 + 1 + 1 by omega, show k * 2 + 1 + 1 + 1 = (k * 2 + 1) + 1 + 1 by omega]
    simp only [List.set_cons_succ]

structure LdAt (w : World) (p g : Nat) (s : Ld) : Prop where
  blk : Blk w p 59 #[.int .i64 s.now, .int .i64 s.term, .int .i64 s.value, .slice (some ⟨g, 0, none⟩) s.ls.length s.ls.length, .int .i64 s.want, .int .i64 s.ready]
  row : Blk w g 70 (lc s.ls).toArray
section
variable {w w' : World} {p g : Nat} {s : Ld} {S : Nat → Prop}
theorem LdAt.kp (h : LdAt w p g s) (hk : Kp S w w') (hs : ∀ b, ChF p g b → ¬ S b) : LdAt w' p g s := ⟨h.blk.kp hk (hs p (.inl rfl)), h.row.kp hk (hs g (.inr rfl))⟩
theorem LdAt.no (h : LdAt w p g s) (hk : Kp No w w') : LdAt w' p g s := h.kp hk fun _ _ h => h
theorem LdAt.cells (h : LdAt w p g s) : w.cell? ⟨p, 0, none⟩ = some (.int .i64 s.now) ∧ w.cell? ⟨p, 1, none⟩ = some (.int .i64 s.term) ∧ w.cell? ⟨p, 2, none⟩ = some (.int .i64 s.value) ∧ w.cell? ⟨p, 3, none⟩ = some (.slice (some ⟨g, 0, none⟩) s.ls.length s.ls.length) ∧
    w.cell? ⟨p, 4, none⟩ = some (.int .i64 s.want) ∧ w.cell? ⟨p, 5, none⟩ = some (.int .i64 s.ready) ∧
    w.frozen? ⟨p, 0, none⟩ = false ∧ w.frozen? ⟨p, 2, none⟩ = false ∧ w.frozen? ⟨p, 4, none⟩ = false ∧ w.frozen? ⟨p, 5, none⟩ = false ∧ p < w.heap.size ∧ g < w.heap.size ∧ p ≠ g ∧ g ≠ p :=
  have hne := Blk.ne_ h.blk h.row (by decide)
  ⟨h.blk.cell 0, h.blk.cell 1, h.blk.cell 2, h.blk.cell 3, h.blk.cell 4, h.blk.cell 5, h.blk.free 0, h.blk.free 2, h.blk.free 4, h.blk.free 5, h.blk.lt, h.row.lt, hne, hne.symm⟩
theorem LdAt.loan (h : LdAt w p g s) {k : Nat} (hk : k < s.ls.length) : w.cell? ⟨g, k * 2, none⟩ = some (.int .i64 s.ls[k].1) ∧ w.cell? ⟨g, k * 2 + 1, none⟩ = some (.int .i64 s.ls[k].2) ∧ w.frozen? ⟨g, k * 2, none⟩ = false ∧ w.frozen? ⟨g, k * 2 + 1, none⟩ = false := by
  obtain ⟨h1, h2⟩ := lc_at hk
  exact ⟨by rw [h.row.cell, List.getElem?_toArray, h1], by rw [h.row.cell, List.getElem?_toArray, h2], h.row.free _, h.row.free _⟩
theorem LdAt.put0 (h : LdAt w p g s) (x : Int) : LdAt (w.setCell ⟨p, 0, none⟩ (.int .i64 x)) p g { s with now := x } ∧ Kp (ChF p g) w (w.setCell ⟨p, 0, none⟩ (.int .i64 x)) :=
  ⟨⟨h.blk.set_ 0 _, h.row.far (Blk.ne_ h.blk h.row (by decide)).symm _⟩, (kp_st _ _ _ _).mono fun b _ e => .inl e⟩
theorem LdAt.put2 (h : LdAt w p g s) (x : Int) : LdAt (w.setCell ⟨p, 2, none⟩ (.int .i64 x)) p g { s with value := x } ∧ Kp (ChF p g) w (w.setCell ⟨p, 2, none⟩ (.int .i64 x)) :=
  ⟨⟨h.blk.set_ 2 _, h.row.far (Blk.ne_ h.blk h.row (by decide)).symm _⟩, (kp_st _ _ _ _).mono fun b _ e => .inl e⟩
theorem LdAt.put4 (h : LdAt w p g s) (x : Int) : LdAt (w.setCell ⟨p, 4, none⟩ (.int .i64 x)) p g { s with want := x } ∧ Kp (ChF p g) w (w.setCell ⟨p, 4, none⟩ (.int .i64 x)) :=
  ⟨⟨h.blk.set_ 4 _, h.row.far (Blk.ne_ h.blk h.row (by decide)).symm _⟩, (kp_st _ _ _ _).mono fun b _ e => .inl e⟩
theorem LdAt.put5 (h : LdAt w p g s) (x : Int) : LdAt (w.setCell ⟨p, 5, none⟩ (.int .i64 x)) p g { s with ready := x } ∧ Kp (ChF p g) w (w.setCell ⟨p, 5, none⟩ (.int .i64 x)) :=
  ⟨⟨h.blk.set_ 5 _, h.row.far (Blk.ne_ h.blk h.row (by decide)).symm _⟩, (kp_st _ _ _ _).mono fun b _ e => .inl e⟩
theorem LdAt.putL (h : LdAt w p g s) {k : Nat} (hk : k < s.ls.length) (x : Int × Int) :
    LdAt ((w.setCell ⟨g, k * 2, none⟩ (.int .i64 x.1)).setCell ⟨g, k * 2 + 1, none⟩ (.int .i64 x.2)) p g { s with ls := s.ls.set k x } ∧ Kp (ChF p g) w ((w.setCell ⟨g, k * 2, none⟩ (.int .i64 x.1)).setCell ⟨g, k * 2 + 1, none⟩ (.int .i64 x.2)) := by
  have hne := Blk.ne_ h.blk h.row (by decide)
  refine ⟨⟨?_, ?_⟩, ((kp_st _ _ _ _).trans (kp_st _ _ _ _)).mono fun b _ e => .inr e⟩
  · have := (h.blk.far hne (p := ⟨g, k * 2, none⟩) (.int .i64 x.1)).far hne (p := ⟨g, k * 2 + 1, none⟩) (.int .i64 x.2)
    simpa using this
  · have := (h.row.set_ (k * 2) (.int .i64 x.1)).set_ (k * 2 + 1) (.int .i64 x.2)
    rw [List.setIfInBounds_toArray, List.setIfInBounds_toArray, ← lc_set hk x] at this
    exact this
end
theorem LdAt.settle {w : World} {p g : Nat} {s : Ld} (h : LdAt w p g s) (n : Nat) : LdAt (((w.drewN n).setCell ⟨p, 2, none⟩ (.int .i64 s.want)).setCell ⟨p, 4, none⟩ (.int .i64 (-1))) p g { s with value := s.want, want := -1 } ∧
    Kp (ChF p g) w (((w.drewN n).setCell ⟨p, 2, none⟩ (.int .i64 s.want)).setCell ⟨p, 4, none⟩ (.int .i64 (-1))) := by
  have h0 := h.no ((Kp.refl No w).drewN n)
  have h1 := h0.put2 s.want
  have h2 := h1.1.put4 (-1)
  exact ⟨h2.1, (((Kp.refl _ w).drewN n).trans h1.2).trans h2.2⟩
theorem lAt_eq {l : List (Int × Int)} {k : Nat} (h : k < l.length) : lAt l (k : Int) = l[k] := by unfold lAt; rw [List.getD_eq_getElem?_getD, Int.toNat_natCast, List.getElem?_eq_getElem h]; rfl

set_option maxRecDepth 100000 in
theorem loanValue_any {p g : Nat} {s : Ld} (w : World) (h : LdAt w p g s) : Calls Try.prog 13 #[.pointer (some ⟨p, 0, none⟩)] w fun e w' => e = .returned (.tuple #[.int .i64 s.value, .int .i64 s.want, .int .i64 s.now]) ∧ Kp No w w' := by
  obtain ⟨a0, a1, a2, a3, a4, a5, f0, f2, f4, f5, l1, l2, n1, n2⟩ := h.cells
  clear h
  go_enter Try.func13, Try.ntmps13
  go_wp2
  refine plan_start 15 (by kernel_rfl) rfl (fun hPT => ?_)
  refine plan_take (i := 0) (v := ?_) rfl (by kernel_rfl) (by kernel_rfl) (by kernel_rfl) (fun _ _ _ h => h) hPT (by rfl) ?_ ?_
  rotate_left
  · (intro w; go_simp; with_reducible rfl)
  (clear hPT; intro hPT; simp only [List.getElem_toArray, List.getElem_cons_zero, List.getElem_cons_succ, Act.put, List.setIfInBounds_toArray, List.set_cons_zero, List.set_cons_succ])
  refine plan_take (i := 1) (v := ?_) rfl (by kernel_rfl) (by kernel_rfl) (by kernel_rfl) (fun _ _ _ h => h) hPT (by rfl) ?_ ?_
  rotate_left
  · (intro w; go_simp; with_reducible rfl)
  (clear hPT; intro hPT; simp only [List.getElem_toArray, List.getElem_cons_zero, List.getElem_cons_succ, Act.put, List.setIfInBounds_toArray, List.set_cons_zero, List.set_cons_succ])
  refine plan_take (i := 2) (v := ?_) rfl (by kernel_rfl) (by kernel_rfl) (by kernel_rfl) (fun _ _ _ h => h) hPT (by rfl) ?_ ?_
  rotate_left
  · (intro w; go_simp; with_reducible rfl)
  (clear hPT; intro hPT; simp only [List.getElem_toArray, List.getElem_cons_zero, List.getElem_cons_succ, Act.put, List.setIfInBounds_toArray, List.set_cons_zero, List.set_cons_succ])
  refine plan_take (i := 4) (v := ?_) rfl (by kernel_rfl) (by kernel_rfl) (by kernel_rfl) (fun _ _ _ h => h) hPT (by rfl) ?_ ?_
  rotate_left
  · (intro w; go_simp; with_reducible rfl)
  (clear hPT; intro hPT; simp only [List.getElem_toArray, List.getElem_cons_zero, List.getElem_cons_succ, Act.put, List.setIfInBounds_toArray, List.set_cons_zero, List.set_cons_succ])
  refine plan_take (i := 5) (v := ?_) rfl (by kernel_rfl) (by kernel_rfl) (by kernel_rfl) (fun _ _ _ h => h) hPT (by rfl) ?_ ?_
  rotate_left
  · (intro w; go_simp; with_reducible rfl)
  (clear hPT; intro hPT; simp only [List.getElem_toArray, List.getElem_cons_zero, List.getElem_cons_succ, Act.put, List.setIfInBounds_toArray, List.set_cons_zero, List.set_cons_succ])
  refine plan_take (i := 6) (v := ?_) rfl (by kernel_rfl) (by kernel_rfl) (by kernel_rfl) (fun _ _ _ h => h) hPT (by rfl) ?_ ?_
  rotate_left
  · (intro w; go_simp; with_reducible rfl)
  (clear hPT; intro hPT; simp only [List.getElem_toArray, List.getElem_cons_zero, List.getElem_cons_succ, Act.put, List.setIfInBounds_toArray, List.set_cons_zero, List.set_cons_succ])
  refine plan_take (i := 8) (v := ?_) rfl (by kernel_rfl) (by kernel_rfl) (by kernel_rfl) (fun _ _ _ h => h) hPT (by rfl) ?_ ?_
  rotate_left
  · (intro w; go_simp; with_reducible rfl)
  (clear hPT; intro hPT; simp only [List.getElem_toArray, List.getElem_cons_zero, List.getElem_cons_succ, Act.put, List.setIfInBounds_toArray, List.set_cons_zero, List.set_cons_succ])
  refine plan_take (i := 9) (v := ?_) rfl (by kernel_rfl) (by kernel_rfl) (by kernel_rfl) (fun _ _ _ h => h) hPT (by rfl) ?_ ?_
  rotate_left
  · (intro w; go_simp; with_reducible rfl)
  (clear hPT; intro hPT; simp only [List.getElem_toArray, List.getElem_cons_zero, List.getElem_cons_succ, Act.put, List.setIfInBounds_toArray, List.set_cons_zero, List.set_cons_succ])
  refine plan_take (i := 10) (v := ?_) rfl (by kernel_rfl) (by kernel_rfl) (by kernel_rfl) (fun _ _ _ h => h) hPT (by rfl) ?_ ?_
  rotate_left
  · (intro w; go_simp; with_reducible rfl)
  (clear hPT; intro hPT; simp only [List.getElem_toArray, List.getElem_cons_zero, List.getElem_cons_succ, Act.put, List.setIfInBounds_toArray, List.set_cons_zero, List.set_cons_succ])
  refine plan_load (fun w' => w'.cell? ⟨p, 2, none⟩ = some (.int .i64 s.value)) (i := 3) (v := ?_) rfl (by kernel_rfl) (by kernel_rfl) (by kernel_rfl) (fun _ _ _ h => h) hPT (by rfl) ?_ ?_ ?_
  rotate_left
  · (first | assumption | (go_simp; done))
  · (intro w hSw; (try dsimp only at hSw); go_simp; with_reducible rfl)
  (clear hPT; intro hPT; simp only [List.getElem_toArray, List.getElem_cons_zero, List.getElem_cons_succ, Act.put, List.setIfInBounds_toArray, List.set_cons_zero, List.set_cons_succ])
  refine plan_load (fun w' => w'.cell? ⟨p, 4, none⟩ = some (.int .i64 s.want)) (i := 7) (v := ?_) rfl (by kernel_rfl) (by kernel_rfl) (by kernel_rfl) (fun _ _ _ h => h) hPT (by rfl) ?_ ?_ ?_
  rotate_left
  · (first | assumption | (go_simp; done))
  · (intro w hSw; (try dsimp only at hSw); go_simp; with_reducible rfl)
  (clear hPT; intro hPT; simp only [List.getElem_toArray, List.getElem_cons_zero, List.getElem_cons_succ, Act.put, List.setIfInBounds_toArray, List.set_cons_zero, List.set_cons_succ])
  refine plan_load (fun w' => w'.cell? ⟨p, 0, none⟩ = some (.int .i64 s.now)) (i := 11) (v := ?_) rfl (by kernel_rfl) (by kernel_rfl) (by kernel_rfl) (fun _ _ _ h => h) hPT (by rfl) ?_ ?_ ?_
  rotate_left
  · (first | assumption | (go_simp; done))
  · (intro w hSw; (try dsimp only at hSw); go_simp; with_reducible rfl)
  (clear hPT; intro hPT; simp only [List.getElem_toArray, List.getElem_cons_zero, List.getElem_cons_succ, Act.put, List.setIfInBounds_toArray, List.set_cons_zero, List.set_cons_succ])
  refine plan_take (i := 12) (v := ?_) rfl (by kernel_rfl) (by kernel_rfl) (by kernel_rfl) (fun _ _ _ h => h) hPT (by rfl) ?_ ?_
  rotate_left
  · (intro w; go_simp; with_reducible rfl)
  (clear hPT; intro hPT; simp only [List.getElem_toArray, List.getElem_cons_zero, List.getElem_cons_succ, Act.put, List.setIfInBounds_toArray, List.set_cons_zero, List.set_cons_succ])
  refine plan_take (i := 13) (v := ?_) rfl (by kernel_rfl) (by kernel_rfl) (by kernel_rfl) (fun _ _ _ h => h) hPT (by rfl) ?_ ?_
  rotate_left
  · (intro w; go_simp; with_reducible rfl)
  (clear hPT; intro hPT; simp only [List.getElem_toArray, List.getElem_cons_zero, List.getElem_cons_succ, Act.put, List.setIfInBounds_toArray, List.set_cons_zero, List.set_cons_succ])
  refine plan_take (i := 14) (v := ?_) rfl (by kernel_rfl) (by kernel_rfl) (by kernel_rfl) (fun _ _ _ h => h) hPT (by rfl) ?_ ?_
  rotate_left
  · (intro w; go_simp; with_reducible rfl)
  (clear hPT; intro hPT; simp only [List.getElem_toArray, List.getElem_cons_zero, List.getElem_cons_succ, Act.put, List.setIfInBounds_toArray, List.set_cons_zero, List.set_cons_succ])
  refine plan_done (by kernel_rfl) ?_ _
  clear hPT
  go_wp2
  go_ret3
  exact ⟨rfl, (Kp.refl No w).drew⟩

set_option maxRecDepth 100000 in
set_option maxHeartbeats 2000000 in
theorem loanWait_any {p g : Nat} {s : Ld} (d : Int) (w : World) (h : LdAt w p g s) (hi : LInv s) : Calls Try.prog 10 #[.pointer (some ⟨p, 0, none⟩), .int .i64 d] w fun e w' => (∃ v, e = .returned v) ∧ LdAt w' p g (waitL s d) ∧ Kp (ChF p g) w w' := by
  have H := hide h
  obtain ⟨a0, a1, a2, a3, a4, a5, f0, f2, f4, f5, l1, l2, n1, n2⟩ := h.cells
  have hn0 := hi.n0
  have hd' : btw d 0 20 = decide (0 ≤ d ∧ d ≤ 20) := by unfold btw; rw [Bool.decide_and]
  by_cases hd : 0 ≤ d ∧ d ≤ 20
  · have HB := hide (show btw d 0 20 = true from btw_iff.2 hd)
    have HD := hide hd
    by_cases h1 : 1000 < s.now + d
    · have HR := hide (show waitL s d = s by unfold waitL; rw [if_pos hd, if_pos h1])
      clear h hi hd'
      go_enter Try.func10, Try.ntmps10
      go_wp2_with fail
      refine Calls.mono (within_any _ _ _ _) ?_
      rw [HB.out]
      rintro e w1 ⟨rfl, rfl⟩
      go_wp2
      go_ret
      exact ⟨⟨_, rfl⟩, by rw [HR.out]; exact H.out, Kp.refl _ _⟩
    · have HX := hide h1
      clear h hi hd'
      go_enter Try.func10, Try.ntmps10
      go_wp2_with fail
      refine Calls.mono (within_any _ _ _ _) ?_
      rw [HB.out]
      rintro e w1 ⟨rfl, rfl⟩
      go_upto_region 6 with fail
      have H1 := hide (H.out.put0 (s.now + d))
      generalize w.setCell ⟨p, 0, none⟩ (.int .i64 (s.now + d)) = W at H1 ⊢
      clear a0 a1 a2 a3 a4 a5 f0 f2 f4 f5 l1 l2 n1 n2
      obtain ⟨a0, a1, a2, a3, a4, a5, f0, f2, f4, f5, l1, l2, n1, n2⟩ := H1.out.1.cells
      simp only at a0 a1 a2 a3 a4 a5
      by_cases hw : 0 ≤ s.want
      · by_cases hr : s.ready ≤ s.now + d
        · have HR := hide (show waitL s d = { s with now := s.now + d, value := s.want, want := -1 } by unfold waitL; rw [if_pos HD.out, if_neg (Int.not_lt.2 HX.out), if_pos ⟨hw, hr⟩])
          go_quiet (fail)
          go_wp2
          go_ret
          exact ⟨⟨_, rfl⟩, by rw [HR.out]; exact (H1.out.1.settle _).1, H1.out.2.trans (H1.out.1.settle _).2⟩
        · have HR := hide (show waitL s d = { s with now := s.now + d } by unfold waitL; rw [if_pos HD.out, if_neg (Int.not_lt.2 HX.out), if_neg fun h => hr h.2])
          go_quiet (fail)
          go_wp2
          go_ret
          exact ⟨⟨_, rfl⟩, by rw [HR.out]; exact H1.out.1.no ((Kp.refl No W).drewN _), H1.out.2.trans ((Kp.refl _ W).drewN _)⟩
      · have HR := hide (show waitL s d = { s with now := s.now + d } by unfold waitL; rw [if_pos HD.out, if_neg (Int.not_lt.2 HX.out), if_neg fun h => hw h.1])
        have hw' : decide (0 ≤ s.want) = false := decide_eq_false hw
        go_quiet (fail)
        go_wp2
        go_ret
        exact ⟨⟨_, rfl⟩, by rw [HR.out]; exact H1.out.1.no ((Kp.refl No W).drewN _), H1.out.2.trans ((Kp.refl _ W).drewN _)⟩
  · have HB := hide (show btw d 0 20 = false by rw [hd', decide_eq_false hd])
    have HR := hide (show waitL s d = s by unfold waitL; rw [if_neg hd])
    clear h hi hd hd'
    go_enter Try.func10, Try.ntmps10
    go_wp2_with fail
    refine Calls.mono (within_any _ _ _ _) ?_
    rw [HB.out]
    rintro e w1 ⟨rfl, rfl⟩
    go_wp2
    go_ret
    exact ⟨⟨_, rfl⟩, by rw [HR.out]; exact H.out, Kp.refl _ _⟩

set_option maxRecDepth 100000 in
set_option maxHeartbeats 2000000 in
theorem loanWrite_any {p g : Nat} {s : Ld} (v : Int) (w : World) (h : LdAt w p g s) (hi : LInv s) : Calls Try.prog 11 #[.pointer (some ⟨p, 0, none⟩), .int .i64 v] w fun e w' => (∃ v, e = .returned v) ∧ LdAt w' p g (writeL s v) ∧ Kp (ChF p g) w w' := by
  have H := hide h
  obtain ⟨a0, a1, a2, a3, a4, a5, f0, f2, f4, f5, l1, l2, n1, n2⟩ := h.cells
  have hv' : btw v 0 1000 = decide (0 ≤ v ∧ v ≤ 1000) := by unfold btw; rw [Bool.decide_and]
  by_cases hv : 0 ≤ v ∧ v ≤ 1000
  · have HB := hide (show btw v 0 1000 = true from btw_iff.2 hv)
    by_cases hw : 0 ≤ s.want
    · have HR := hide (show writeL s v = s by unfold writeL; rw [if_pos hv, if_pos hw])
      clear h hi hv' hv
      go_enter Try.func11, Try.ntmps11
      go_wp2_with fail
      refine Calls.mono (within_any _ _ _ _) ?_
      rw [HB.out]
      rintro e w1 ⟨rfl, rfl⟩
      go_wp2
      go_ret2
      exact ⟨⟨_, rfl⟩, by rw [HR.out]; exact H.out, Kp.refl _ _⟩
    · have hw' : decide (0 ≤ s.want) = false := decide_eq_false hw
      have HR := hide (show writeL s v = if late s.now s.ls = s.now then { s with value := v } else { s with want := v, ready := late s.now s.ls } by unfold writeL; rw [if_pos hv, if_neg hw])
      have HU := hide hi.u0
      have HN := hide hi.n0
      have H4 := hide hi.len
      have h4 := H4.out
      clear h hi hv' hv hw
      go_enter Try.func11, Try.ntmps11
      go_wp2_with fail
      refine Calls.mono (within_any _ _ _ _) ?_
      rw [HB.out]
      rintro e w1 ⟨rfl, rfl⟩
      go_wp2_with fail
      go_loopw [6, 28] (fun r q wr => ∃ k : Nat, q = .int .i64 k ∧ k ≤ s.ls.length ∧ r = .int .i64 (late s.now (s.ls.take k)) ∧ Kp No w wr) (fun _ q _ => s.ls.length - (intOf q).toNat)
      case atStart => exact ⟨0, rfl, Nat.zero_le _, rfl, Kp.refl _ _⟩
      case round =>
        obtain ⟨k, rfl, hk, rfl, hkr⟩ := hrel
        have HK := hide hkr
        clear a0 a1 a2 a3 a4 a5 f0 f2 f4 f5 l1 l2 n1 n2 hw'
        have HL := hide (H.out.no hkr)
        clear hkr
        obtain ⟨a0, a1, a2, a3, a4, a5, f0, f2, f4, f5, l1, l2, n1, n2⟩ := HL.out.cells
        by_cases hlt : k < s.ls.length
        · obtain ⟨c1, c2, c3, c4⟩ := HL.out.loan hlt
          have HT := hide (show late s.now (s.ls.take (k + 1)) = if late s.now (s.ls.take k) < s.ls[k].2 then s.ls[k].2 else late s.now (s.ls.take k) by rw [List.take_succ_eq_append_getElem hlt, late_snoc]; rfl)
          go_wp2
          go_roundw
          case rel => exact ⟨k + 1, by go_num, hlt, by rw [HT.out], HK.out.alloc _⟩
          case measure => simp [intOf]; omega
        · obtain rfl : k = s.ls.length := by omega
          rw [List.take_length]
          by_cases he : late s.now s.ls = s.now
          · have he' : (late s.now s.ls == s.now) = true := by rw [beq_iff_eq]; exact he
            have HE := hide (show writeL s v = { s with value := v } by rw [HR.out, if_pos he])
            clear he
            go_wp2
            go_ret2
            exact ⟨⟨_, rfl⟩, by rw [HE.out]; exact (HL.out.put2 v).1, HK.out.of_no.trans (HL.out.put2 v).2⟩
          · have he' : (late s.now s.ls == s.now) = false := by rw [beq_eq_false_iff_ne]; exact he
            have HE := hide (show writeL s v = { s with want := v, ready := late s.now s.ls } by rw [HR.out, if_neg he])
            have HT := hide ((HL.out.put4 v).1.put5 (late s.now s.ls))
            clear he
            go_wp2
            go_ret2
            exact ⟨⟨_, rfl⟩, by rw [HE.out]; exact HT.out.1, (HK.out.of_no.trans (HL.out.put4 v).2).trans HT.out.2⟩
  · have HB := hide (show btw v 0 1000 = false by rw [hv', decide_eq_false hv])
    have HR := hide (show writeL s v = s by unfold writeL; rw [if_neg hv])
    clear h hi hv' hv
    go_enter Try.func11, Try.ntmps11
    go_wp2_with fail
    refine Calls.mono (within_any _ _ _ _) ?_
    rw [HB.out]
    rintro e w1 ⟨rfl, rfl⟩
    go_wp2
    go_ret2
    exact ⟨⟨_, rfl⟩, by rw [HR.out]; exact H.out, Kp.refl _ _⟩

theorem btw_len {p : Int} {n : Nat} : btw p 0 ((n : Int) - 1) = decide (0 ≤ p ∧ p < n) := by unfold btw; rw [Bool.decide_and]; congr 1; rw [decide_eq_decide]; omega

set_option maxRecDepth 100000 in
set_option maxHeartbeats 2000000 in
theorem loanBack_any {p g : Nat} {s : Ld} (x : Int) (w : World) (h : LdAt w p g s) (hi : LInv s) : Calls Try.prog 12 #[.pointer (some ⟨p, 0, none⟩), .int .i64 x] w fun e w' => (∃ v, e = .returned v) ∧ LdAt w' p g (backL s x) ∧ Kp (ChF p g) w w' := by
  have H := hide h
  obtain ⟨a0, a1, a2, a3, a4, a5, f0, f2, f4, f5, l1, l2, n1, n2⟩ := h.cells
  have HL4 := hide hi.len
  have hlen := HL4.out
  by_cases hx : 0 ≤ x ∧ x < s.ls.length
  · have HB := hide (show btw x 0 ((s.ls.length : Int) - 1) = true by rw [btw_len]; exact decide_eq_true hx)
    obtain ⟨k, rfl⟩ := Int.eq_ofNat_of_zero_le hx.1
    have hk : k < s.ls.length := by omega
    obtain ⟨c1, c2, c3, c4⟩ := h.loan hk
    have hkI : (k : Int) < (s.ls.length : Int) := hx.2
    by_cases hu : s.ls[k].2 ≤ s.now
    · have HR := hide (show backL s (k : Int) = s by unfold backL; rw [if_pos hx, lAt_eq hk, if_pos hu])
      clear h hi hx
      go_enter Try.func12, Try.ntmps12
      go_wp2_with fail
      refine Calls.mono (within_any _ _ _ _) ?_
      rw [HB.out]
      rintro e w1 ⟨rfl, rfl⟩
      go_wp2
      go_quiet (fail)
      go_wp2
      go_ret
      exact ⟨⟨_, rfl⟩, by rw [HR.out]; exact H.out.no ((Kp.refl No w).drewN _), (Kp.refl _ w).drewN _⟩
    · have HR := hide (show backL s (k : Int) = if 0 ≤ s.want then
          if late s.now (s.ls.set k (0, 0)) = s.now then { s with ls := s.ls.set k (0, 0), ready := s.now, value := s.want, want := -1 } else { s with ls := s.ls.set k (0, 0), ready := late s.now (s.ls.set k (0, 0)) }
        else { s with ls := s.ls.set k (0, 0) } by unfold backL; rw [if_pos hx, lAt_eq hk, if_neg hu, Int.toNat_natCast])
      clear h hi hx
      go_enter Try.func12, Try.ntmps12
      go_wp2_with fail
      refine Calls.mono (within_any _ _ _ _) ?_
      rw [HB.out]
      rintro e w1 ⟨rfl, rfl⟩
      go_wp2
      go_quiet (fail)
      go_upto_region 6 with fail
      have HT := hide ((H.out.no ((Kp.refl No w).drewN nq)).putL hk (0, 0))
      have HKT := hide (((Kp.refl (ChF p g) w).drewN nq).trans HT.out.2)
      have HLT := hide HT.out.1
      simp only at HT HKT HLT
      generalize ((w.drewN nq).setCell ⟨g, k * 2, none⟩ (.int .i64 0)).setCell ⟨g, k * 2 + 1, none⟩ (.int .i64 0) = W at HT HKT HLT ⊢
      obtain ⟨t, ht⟩ : ∃ t, s.ls.set k (0, 0) = t := ⟨_, rfl⟩
      have htl : t.length = s.ls.length := by rw [← ht, List.length_set]
      rw [ht] at HLT HR
      clear HT ht c1 c2 c3 c4 a0 a1 a2 a3 a4 a5 f0 f2 f4 f5 l1 l2 n1 n2 hu
      obtain ⟨a0, a1, a2, a3, a4, a5, f0, f2, f4, f5, l1, l2, n1, n2⟩ := HLT.out.cells
      simp only at a0 a1 a2 a3 a4 a5
      have ht4 : t.length ≤ 4 := by omega
      have HTL := hide htl
      clear htl
      by_cases hw : 0 ≤ s.want
      · rw [if_pos hw] at HR
        go_upto_region 8 with fail
        have HT := hide (HLT.out.put5 s.now)
        generalize W.setCell ⟨p, 5, none⟩ (.int .i64 s.now) = V at HT ⊢
        clear a0 a1 a2 a3 a4 a5 f0 f2 f4 f5 l1 l2 n1 n2
        obtain ⟨a0, a1, a2, a3, a4, a5, f0, f2, f4, f5, l1, l2, n1, n2⟩ := HT.out.1.cells
        simp only at a0 a1 a2 a3 a4 a5
        have HW := hide hw
        go_wp2_with fail
        clear a0 a1 a2 a3 a4 a5 f0 f2 f4 f5 l1 l2 n1 n2 hw
        go_loopw [55] (fun q wr => ∃ j : Nat, q = .int .i64 j ∧ j ≤ t.length ∧ LdAt wr p g { s with ls := t, ready := late s.now (t.take j) } ∧ Kp (ChF p g) W wr) (fun q _ => t.length - (intOf q).toNat)
        case atStart => exact ⟨0, rfl, Nat.zero_le _, HT.out.1, HT.out.2⟩
        case round =>
          obtain ⟨j, rfl, hj, hl, hkr⟩ := hrel
          have HL := hide hl
          have HK := hide hkr
          clear hl hkr
          obtain ⟨a0, a1, a2, a3, a4, a5, f0, f2, f4, f5, l1, l2, n1, n2⟩ := HL.out.cells
          simp only at a0 a1 a2 a3 a4 a5
          by_cases hlt : j < t.length
          · obtain ⟨c1, c2, c3, c4⟩ := HL.out.loan hlt
            simp only at c1 c2
            have HLA := hide (show late s.now (t.take (j + 1)) = if late s.now (t.take j) < t[j].2 then t[j].2 else late s.now (t.take j) by rw [List.take_succ_eq_append_getElem hlt, late_snoc]; rfl)
            go_upto_region 11 with fail
            refine plan_start 11 (by kernel_rfl) rfl (fun hPT => ?_)
            refine plan_take (i := 0) (v := ?_) rfl (by kernel_rfl) (by kernel_rfl) (by kernel_rfl) (fun _ _ _ h => h) hPT (by rfl) ?_ ?_
            rotate_left
            · (intro w; go_simp; with_reducible rfl)
            (clear hPT; intro hPT; simp only [List.getElem_toArray, List.getElem_cons_zero, List.getElem_cons_succ, Act.put, List.setIfInBounds_toArray, List.set_cons_zero, List.set_cons_succ])
            refine plan_take (i := 1) (v := ?_) rfl (by kernel_rfl) (by kernel_rfl) (by kernel_rfl) (fun _ _ _ h => h) hPT (by rfl) ?_ ?_
            rotate_left
            · (intro w; go_simp; with_reducible rfl)
            (clear hPT; intro hPT; simp only [List.getElem_toArray, List.getElem_cons_zero, List.getElem_cons_succ, Act.put, List.setIfInBounds_toArray, List.set_cons_zero, List.set_cons_succ])
            refine plan_take (i := 2) (v := ?_) rfl (by kernel_rfl) (by kernel_rfl) (by kernel_rfl) (fun _ _ _ h => h) hPT (by rfl) ?_ ?_
            rotate_left
            · (intro w; go_simp; with_reducible rfl)
            (clear hPT; intro hPT; simp only [List.getElem_toArray, List.getElem_cons_zero, List.getElem_cons_succ, Act.put, List.setIfInBounds_toArray, List.set_cons_zero, List.set_cons_succ])
            refine plan_take (i := 3) (v := ?_) rfl (by kernel_rfl) (by kernel_rfl) (by kernel_rfl) (fun _ _ _ h => h) hPT (by rfl) ?_ ?_
            rotate_left
            · (intro w; go_simp; with_reducible rfl)
            (clear hPT; intro hPT; simp only [List.getElem_toArray, List.getElem_cons_zero, List.getElem_cons_succ, Act.put, List.setIfInBounds_toArray, List.set_cons_zero, List.set_cons_succ])
            refine plan_take (i := 5) (v := ?_) rfl (by kernel_rfl) (by kernel_rfl) (by kernel_rfl) (fun _ _ _ h => h) hPT (by rfl) ?_ ?_
            rotate_left
            · (intro w; go_simp; with_reducible rfl)
            (clear hPT; intro hPT; simp only [List.getElem_toArray, List.getElem_cons_zero, List.getElem_cons_succ, Act.put, List.setIfInBounds_toArray, List.set_cons_zero, List.set_cons_succ])
            refine plan_load (fun w' => w'.cell? ⟨p, 5, none⟩ = some (.int .i64 (late s.now (t.take j)))) (i := 4) (v := ?_) rfl (by kernel_rfl) (by kernel_rfl) (by kernel_rfl) (fun _ _ _ h => h) hPT (by rfl) ?_ ?_ ?_
            rotate_left
            · (first | assumption | (go_simp; done))
            · (intro w hSw; (try dsimp only at hSw); go_simp; with_reducible rfl)
            (clear hPT; intro hPT; simp only [List.getElem_toArray, List.getElem_cons_zero, List.getElem_cons_succ, Act.put, List.setIfInBounds_toArray, List.set_cons_zero, List.set_cons_succ])
            refine plan_load (fun w' => w'.cell? ⟨wr.heap.size, 1, none⟩ = some (.int .i64 t[j].2)) (i := 6) (v := ?_) rfl (by kernel_rfl) (by kernel_rfl) (by kernel_rfl) (fun _ _ _ h => h) hPT (by rfl) ?_ ?_ ?_
            rotate_left
            · (first | assumption | (go_simp; done))
            · (intro w hSw; (try dsimp only at hSw); go_simp; with_reducible rfl)
            (clear hPT; intro hPT; simp only [List.getElem_toArray, List.getElem_cons_zero, List.getElem_cons_succ, Act.put, List.setIfInBounds_toArray, List.set_cons_zero, List.set_cons_succ])
            refine plan_take (i := 7) (v := ?_) rfl (by kernel_rfl) (by kernel_rfl) (by kernel_rfl) (fun _ _ _ h => h) hPT (by rfl) ?_ ?_
            rotate_left
            · (intro w; go_simp; with_reducible rfl)
            (clear hPT; intro hPT; simp only [List.getElem_toArray, List.getElem_cons_zero, List.getElem_cons_succ, Act.put, List.setIfInBounds_toArray, List.set_cons_zero, List.set_cons_succ])
            refine plan_take (i := 8) (v := ?_) rfl (by kernel_rfl) (by kernel_rfl) (by kernel_rfl) (fun _ _ _ h => h) hPT (by rfl) ?_ ?_
            rotate_left
            · (intro w; go_simp; with_reducible rfl)
            (clear hPT; intro hPT; simp only [List.getElem_toArray, List.getElem_cons_zero, List.getElem_cons_succ, Act.put, List.setIfInBounds_toArray, List.set_cons_zero, List.set_cons_succ])
            refine plan_take (i := 9) (v := ?_) rfl (by kernel_rfl) (by kernel_rfl) (by kernel_rfl) (fun _ _ _ h => h) hPT (by rfl) ?_ ?_
            rotate_left
            · (intro w; go_simp; with_reducible rfl)
            (clear hPT; intro hPT; simp only [List.getElem_toArray, List.getElem_cons_zero, List.getElem_cons_succ, Act.put, List.setIfInBounds_toArray, List.set_cons_zero, List.set_cons_succ])
            refine plan_one (i := 10) (by kernel_rfl) rfl (by rfl) (fun K hK => ?_)
            (try simp only [List.getElem_toArray, List.getElem_cons_zero, List.getElem_cons_succ, Act.put, List.setIfInBounds_toArray, List.set_cons_zero, List.set_cons_succ])
            go_simp
            refine hK.out [] _ _ (t_nil _) (k_drop (by kernel_rfl) (k_drop (by kernel_rfl) k_nil)) (fun hPT' => ?_)
            (clear hPT hK K; have hPT := hPT'; clear hPT'; try simp only [List.getElem_toArray, List.getElem_cons_zero, List.getElem_cons_succ, Act.put, List.setIfInBounds_toArray, List.set_cons_zero, List.set_cons_succ])
            refine plan_done (by kernel_rfl) ?_ _
            clear hPT
            have HQ := hide (HL.out.put5 (late s.now (t.take (j + 1))))
            have HQ2 := hide (HQ.out.1.no ((Kp.refl No _).alloc (.cells #[.int .i64 t[j].1, .int .i64 t[j].2] 70)).drew)
            rw [← HLA.out]
            go_wp2
            go_roundw
            case rel => exact ⟨j + 1, by go_num, hlt, HQ2.out, (HK.out.trans HQ.out.2).trans ((Kp.refl _ _).alloc _).drew⟩
            case measure => simp [intOf]; omega
          · obtain rfl : j = t.length := by omega
            rw [List.take_length] at HL a5
            by_cases he : late s.now t = s.now
            · have he' : (late s.now t == s.now) = true := by rw [beq_iff_eq]; exact he
              rw [if_pos he] at HR
              have HS := hide (fun n => HL.out.settle n)
              have HNW := hide he
              clear he
              go_upto_region 13 with fail
              go_quiet (fail)
              go_wp2
              go_ret
              exact ⟨⟨_, rfl⟩, by rw [HR.out]; have := (HS.out nq).1; simp only [HNW.out] at this; exact this, (HKT.out.trans HK.out).trans (HS.out _).2⟩
            · have he' : (late s.now t == s.now) = false := by rw [beq_eq_false_iff_ne]; exact he
              rw [if_neg he] at HR
              clear he
              go_upto_region 13 with fail
              go_quiet (fail)
              go_wp2
              go_ret
              exact ⟨⟨_, rfl⟩, by rw [HR.out]; exact HL.out.no ((Kp.refl No _).drewN _), (HKT.out.trans HK.out).trans ((Kp.refl _ _).drewN _)⟩
      · have hw' : decide (0 ≤ s.want) = false := decide_eq_false hw
        rw [if_neg hw] at HR
        clear hw
        go_wp2
        go_ret
        exact ⟨⟨_, rfl⟩, by rw [HR.out]; exact HLT.out, HKT.out⟩
  · have HB := hide (show btw x 0 ((s.ls.length : Int) - 1) = false by rw [btw_len]; exact decide_eq_false hx)
    have HR := hide (show backL s x = s by unfold backL; rw [if_neg hx])
    clear h hi hx
    go_enter Try.func12, Try.ntmps12
    go_wp2_with fail
    refine Calls.mono (within_any _ _ _ _) ?_
    rw [HB.out]
    rintro e w1 ⟨rfl, rfl⟩
    go_wp2
    go_ret
    exact ⟨⟨_, rfl⟩, by rw [HR.out]; exact H.out, Kp.refl _ _⟩

/-- what a reading returns -/
def readR (s : Ld) (x : Int) : Value := .tuple #[.int .i64 (if readE s x = 0 then s.value else 0), if readE s x = 0 then .nilIface else .iface 56 (.int .i64 (readE s x))]

set_option maxRecDepth 100000 in
set_option maxHeartbeats 2000000 in
theorem loanRead_any {p g : Nat} {s : Ld} (x : Int) (w : World) (h : LdAt w p g s) (hi : LInv s) : Calls Try.prog 14 #[.pointer (some ⟨p, 0, none⟩), .int .i64 x] w fun e w' => e = .returned (readR s x) ∧ LdAt w' p g (readL s x) ∧ Kp (ChF p g) w w' := by
  have H := hide h
  obtain ⟨a0, a1, a2, a3, a4, a5, f0, f2, f4, f5, l1, l2, n1, n2⟩ := h.cells
  have HL4 := hide hi.len
  have hlen := HL4.out
  by_cases hx : 0 ≤ x ∧ x < s.ls.length
  · have HB := hide (show btw x 0 ((s.ls.length : Int) - 1) = true by rw [btw_len]; exact decide_eq_true hx)
    obtain ⟨k, rfl⟩ := Int.eq_ofNat_of_zero_le hx.1
    have hk : k < s.ls.length := by omega
    obtain ⟨c1, c2, c3, c4⟩ := h.loan hk
    have hkI : (k : Int) < (s.ls.length : Int) := hx.2
    by_cases hu : s.ls[k].2 ≤ s.now
    · by_cases hw : 0 ≤ s.want
      · have HE := hide (show readE s (k : Int) = 7 by unfold readE; rw [if_pos hx, lAt_eq hk, if_pos hu, if_pos hw])
        have HR := hide (show readL s (k : Int) = s by unfold readL; rw [if_pos hx, lAt_eq hk, if_pos hu, if_pos hw])
        have HV := hide (show readR s (k : Int) = .tuple #[.int .i64 0, .iface 56 (.int .i64 7)] by unfold readR; rw [HE.out]; rfl)
        clear h hi hx
        go_enter Try.func14, Try.ntmps14
        go_wp2_with fail
        refine Calls.mono (within_any _ _ _ _) ?_
        rw [HB.out]
        rintro e w1 ⟨rfl, rfl⟩
        go_wp2
        go_quiet (fail)
        go_wp2
        go_ret2
        exact ⟨by rw [HV.out]; rfl, by rw [HR.out]; exact H.out.no ((Kp.refl No w).drewN _), (Kp.refl _ w).drewN _⟩
      · have hw' : decide (0 ≤ s.want) = false := decide_eq_false hw
        have HE := hide (show readE s (k : Int) = 0 by unfold readE; rw [if_pos hx, lAt_eq hk, if_pos hu, if_neg hw])
        have HR := hide (show readL s (k : Int) = { s with ls := s.ls.set k (s.value, s.now + s.term) } by unfold readL; rw [if_pos hx, lAt_eq hk, if_pos hu, if_neg hw, Int.toNat_natCast])
        have HV := hide (show readR s (k : Int) = .tuple #[.int .i64 s.value, .nilIface] by unfold readR; rw [HE.out]; rfl)
        have HWR := hide (show IntKind.i64.wrap (s.now + s.term) = s.now + s.term by have := hi.n0; have := hi.t0; rw [IntKind.wrap_i64]; omega)
        clear h hi hx hw
        go_enter Try.func14, Try.ntmps14
        go_wp2_with fail
        refine Calls.mono (within_any _ _ _ _) ?_
        rw [HB.out]
        rintro e w1 ⟨rfl, rfl⟩
        go_wp2
        go_quiet (fail)
        go_upto_region 7 with fail
        refine plan_start 17 (by kernel_rfl) rfl (fun hPT => ?_)
        refine plan_take (i := 0) (v := ?_) rfl (by kernel_rfl) (by kernel_rfl) (by kernel_rfl) (fun _ _ _ h => h) hPT (by rfl) ?_ ?_
        rotate_left
        · (intro w; go_simp; with_reducible rfl)
        (clear hPT; intro hPT; simp only [List.getElem_toArray, List.getElem_cons_zero, List.getElem_cons_succ, Act.put, List.setIfInBounds_toArray, List.set_cons_zero, List.set_cons_succ])
        refine plan_take (i := 1) (v := ?_) rfl (by kernel_rfl) (by kernel_rfl) (by kernel_rfl) (fun _ _ _ h => h) hPT (by rfl) ?_ ?_
        rotate_left
        · (intro w; go_simp; with_reducible rfl)
        (clear hPT; intro hPT; simp only [List.getElem_toArray, List.getElem_cons_zero, List.getElem_cons_succ, Act.put, List.setIfInBounds_toArray, List.set_cons_zero, List.set_cons_succ])
        refine plan_take (i := 2) (v := ?_) rfl (by kernel_rfl) (by kernel_rfl) (by kernel_rfl) (fun _ _ _ h => h) hPT (by rfl) ?_ ?_
        rotate_left
        · (intro w; go_simp; with_reducible rfl)
        (clear hPT; intro hPT; simp only [List.getElem_toArray, List.getElem_cons_zero, List.getElem_cons_succ, Act.put, List.setIfInBounds_toArray, List.set_cons_zero, List.set_cons_succ])
        refine plan_take (i := 3) (v := ?_) rfl (by kernel_rfl) (by kernel_rfl) (by kernel_rfl) (fun _ _ _ h => h) hPT (by rfl) ?_ ?_
        rotate_left
        · (intro w; go_simp; with_reducible rfl)
        (clear hPT; intro hPT; simp only [List.getElem_toArray, List.getElem_cons_zero, List.getElem_cons_succ, Act.put, List.setIfInBounds_toArray, List.set_cons_zero, List.set_cons_succ])
        refine plan_take (i := 5) (v := ?_) rfl (by kernel_rfl) (by kernel_rfl) (by kernel_rfl) (fun _ _ _ h => h) hPT (by rfl) ?_ ?_
        rotate_left
        · (intro w; go_simp; with_reducible rfl)
        (clear hPT; intro hPT; simp only [List.getElem_toArray, List.getElem_cons_zero, List.getElem_cons_succ, Act.put, List.setIfInBounds_toArray, List.set_cons_zero, List.set_cons_succ])
        refine plan_take (i := 6) (v := ?_) rfl (by kernel_rfl) (by kernel_rfl) (by kernel_rfl) (fun _ _ _ h => h) hPT (by rfl) ?_ ?_
        rotate_left
        · (intro w; go_simp; with_reducible rfl)
        (clear hPT; intro hPT; simp only [List.getElem_toArray, List.getElem_cons_zero, List.getElem_cons_succ, Act.put, List.setIfInBounds_toArray, List.set_cons_zero, List.set_cons_succ])
        refine plan_take (i := 7) (v := ?_) rfl (by kernel_rfl) (by kernel_rfl) (by kernel_rfl) (fun _ _ _ h => h) hPT (by rfl) ?_ ?_
        rotate_left
        · (intro w; go_simp; with_reducible rfl)
        (clear hPT; intro hPT; simp only [List.getElem_toArray, List.getElem_cons_zero, List.getElem_cons_succ, Act.put, List.setIfInBounds_toArray, List.set_cons_zero, List.set_cons_succ])
        refine plan_take (i := 9) (v := ?_) rfl (by kernel_rfl) (by kernel_rfl) (by kernel_rfl) (fun _ _ _ h => h) hPT (by rfl) ?_ ?_
        rotate_left
        · (intro w; go_simp; with_reducible rfl)
        (clear hPT; intro hPT; simp only [List.getElem_toArray, List.getElem_cons_zero, List.getElem_cons_succ, Act.put, List.setIfInBounds_toArray, List.set_cons_zero, List.set_cons_succ])
        refine plan_take (i := 10) (v := ?_) rfl (by kernel_rfl) (by kernel_rfl) (by kernel_rfl) (fun _ _ _ h => h) hPT (by rfl) ?_ ?_
        rotate_left
        · (intro w; go_simp; with_reducible rfl)
        (clear hPT; intro hPT; simp only [List.getElem_toArray, List.getElem_cons_zero, List.getElem_cons_succ, Act.put, List.setIfInBounds_toArray, List.set_cons_zero, List.set_cons_succ])
        refine plan_take (i := 11) (v := ?_) rfl (by kernel_rfl) (by kernel_rfl) (by kernel_rfl) (fun _ _ _ h => h) hPT (by rfl) ?_ ?_
        rotate_left
        · (intro w; go_simp; with_reducible rfl)
        (clear hPT; intro hPT; simp only [List.getElem_toArray, List.getElem_cons_zero, List.getElem_cons_succ, Act.put, List.setIfInBounds_toArray, List.set_cons_zero, List.set_cons_succ])
        refine plan_load (fun w' => w'.cell? ⟨p, 2, none⟩ = some (.int .i64 s.value)) (i := 4) (v := ?_) rfl (by kernel_rfl) (by kernel_rfl) (by kernel_rfl) (fun _ _ _ h => h) hPT (by rfl) ?_ ?_ ?_
        rotate_left
        · (first | assumption | (go_simp; done))
        · (intro w hSw; (try dsimp only at hSw); go_simp; with_reducible rfl)
        (clear hPT; intro hPT; simp only [List.getElem_toArray, List.getElem_cons_zero, List.getElem_cons_succ, Act.put, List.setIfInBounds_toArray, List.set_cons_zero, List.set_cons_succ])
        refine plan_load (fun w' => w'.cell? ⟨p, 0, none⟩ = some (.int .i64 s.now)) (i := 8) (v := ?_) rfl (by kernel_rfl) (by kernel_rfl) (by kernel_rfl) (fun _ _ _ h => h) hPT (by rfl) ?_ ?_ ?_
        rotate_left
        · (first | assumption | (go_simp; done))
        · (intro w hSw; (try dsimp only at hSw); go_simp; with_reducible rfl)
        (clear hPT; intro hPT; simp only [List.getElem_toArray, List.getElem_cons_zero, List.getElem_cons_succ, Act.put, List.setIfInBounds_toArray, List.set_cons_zero, List.set_cons_succ])
        refine plan_load (fun w' => w'.cell? ⟨p, 1, none⟩ = some (.int .i64 s.term)) (i := 12) (v := ?_) rfl (by kernel_rfl) (by kernel_rfl) (by kernel_rfl) (fun _ _ _ h => h) hPT (by rfl) ?_ ?_ ?_
        rotate_left
        · (first | assumption | (go_simp; done))
        · (intro w hSw; (try dsimp only at hSw); go_simp; with_reducible rfl)
        (clear hPT; intro hPT; simp only [List.getElem_toArray, List.getElem_cons_zero, List.getElem_cons_succ, Act.put, List.setIfInBounds_toArray, List.set_cons_zero, List.set_cons_succ])
        refine plan_take (i := 13) (v := ?_) rfl (by kernel_rfl) (by kernel_rfl) (by kernel_rfl) (fun _ _ _ h => h) hPT (by rfl) ?_ ?_
        rotate_left
        · (intro w; go_simp; with_reducible rfl)
        (clear hPT; intro hPT; simp only [List.getElem_toArray, List.getElem_cons_zero, List.getElem_cons_succ, Act.put, List.setIfInBounds_toArray, List.set_cons_zero, List.set_cons_succ])
        refine plan_take (i := 14) (v := ?_) rfl (by kernel_rfl) (by kernel_rfl) (by kernel_rfl) (fun _ _ _ h => h) hPT (by rfl) ?_ ?_
        rotate_left
        · (intro w; go_simp; with_reducible rfl)
        (clear hPT; intro hPT; simp only [List.getElem_toArray, List.getElem_cons_zero, List.getElem_cons_succ, Act.put, List.setIfInBounds_toArray, List.set_cons_zero, List.set_cons_succ])
        refine plan_take (i := 15) (v := ?_) rfl (by kernel_rfl) (by kernel_rfl) (by kernel_rfl) (fun _ _ _ h => h) hPT (by rfl) ?_ ?_
        rotate_left
        · (intro w; go_simp; with_reducible rfl)
        (clear hPT; intro hPT; simp only [List.getElem_toArray, List.getElem_cons_zero, List.getElem_cons_succ, Act.put, List.setIfInBounds_toArray, List.set_cons_zero, List.set_cons_succ])
        refine plan_one (i := 16) (by kernel_rfl) rfl (by rfl) (fun K hK => ?_)
        (try simp only [List.getElem_toArray, List.getElem_cons_zero, List.getElem_cons_succ, Act.put, List.setIfInBounds_toArray, List.set_cons_zero, List.set_cons_succ])
        go_simp
        rw [HWR.out]
        refine hK.out [] _ _ (t_nil _) (k_drop (by kernel_rfl) (k_drop (by kernel_rfl) (k_drop (by kernel_rfl) k_nil))) (fun hPT' => ?_)
        (clear hPT hK K; have hPT := hPT'; clear hPT'; try simp only [List.getElem_toArray, List.getElem_cons_zero, List.getElem_cons_succ, Act.put, List.setIfInBounds_toArray, List.set_cons_zero, List.set_cons_succ])
        refine plan_done (by kernel_rfl) ?_ _
        clear hPT
        have HT := hide ((H.out.no ((Kp.refl No w).drewN (nq + 1))).putL hk (s.value, s.now + s.term))
        have HKT := hide (((Kp.refl (ChF p g) w).drewN (nq + 1)).trans HT.out.2)
        go_wp2
        go_ret2
        exact ⟨by rw [HV.out]; rfl, by rw [HR.out]; exact HT.out.1, HKT.out⟩
    · have HE := hide (show readE s (k : Int) = 0 by unfold readE; rw [if_pos hx, lAt_eq hk, if_neg hu])
      have HR := hide (show readL s (k : Int) = s by unfold readL; rw [if_pos hx, lAt_eq hk, if_neg hu])
      have HV := hide (show readR s (k : Int) = .tuple #[.int .i64 s.ls[k].1, .nilIface] by unfold readR; rw [HE.out, ← hi.reads hx (by rw [lAt_eq hk]; omega), lAt_eq hk]; rfl)
      clear h hi hx
      go_enter Try.func14, Try.ntmps14
      go_wp2_with fail
      refine Calls.mono (within_any _ _ _ _) ?_
      rw [HB.out]
      rintro e w1 ⟨rfl, rfl⟩
      go_wp2
      go_quiet (fail)
      go_wp2
      go_ret2
      exact ⟨by rw [HV.out]; rfl, by rw [HR.out]; exact H.out.no ((Kp.refl No w).drewN _), (Kp.refl _ w).drewN _⟩
  · have HB := hide (show btw x 0 ((s.ls.length : Int) - 1) = false by rw [btw_len]; exact decide_eq_false hx)
    have HE := hide (show readE s x = 1 by unfold readE; rw [if_neg hx])
    have HR := hide (show readL s x = s by unfold readL; rw [if_neg hx])
    have HV := hide (show readR s x = .tuple #[.int .i64 0, .iface 56 (.int .i64 1)] by unfold readR; rw [HE.out]; rfl)
    clear h hi hx
    go_enter Try.func14, Try.ntmps14
    go_wp2_with fail
    refine Calls.mono (within_any _ _ _ _) ?_
    rw [HB.out]
    rintro e w1 ⟨rfl, rfl⟩
    go_wp2
    go_ret2
    exact ⟨by rw [HV.out]; rfl, by rw [HR.out]; exact H.out, Kp.refl _ _⟩

theorem madeCells_loan {n : Nat} (h : n ≤ 4) : madeCells #[.int .i64 0, .int .i64 0] (n * 2) = (lc (List.replicate n (0, 0))).toArray :=
  match n, h with
  | 0, _ => by kernel_rfl
  | 1, _ => by kernel_rfl
  | 2, _ => by kernel_rfl
  | 3, _ => by kernel_rfl
  | 4, _ => by kernel_rfl

set_option maxRecDepth 100000 in
theorem loanNew_any (n t : Int) (w : World) : Calls Try.prog 5 #[.int .i64 n, .int .i64 t] w fun e w' =>
    (btw n 1 4 = true ∧ btw t 1 20 = true ∧ ∃ p g, e = .returned (.tuple #[.pointer (some ⟨p, 0, none⟩), .nilIface]) ∧ LdAt w' p g ⟨0, t, 0, -1, 0, List.replicate n.toNat (0, 0)⟩ ∧ w.heap.size ≤ p ∧ w.heap.size ≤ g ∧ Kp No w w') ∨
    ((btw n 1 4 && btw t 1 20) = false ∧ e = .returned (.tuple #[.pointer none, .iface 56 (.int .i64 1)]) ∧ Kp No w w') := by
  cases h1 : btw n 1 4 with
  | false =>
    have H1 := hide h1
    clear h1
    go_enter Try.func5, Try.ntmps5
    go_wp2_with fail
    refine Calls.mono (within_any _ _ _ _) ?_
    rw [H1.out]
    rintro e w1 ⟨rfl, rfl⟩
    go_wp2
    go_ret2
    exact .inr ⟨rfl, rfl, Kp.refl _ _⟩
  | true =>
    have H1 := hide h1
    cases h2 : btw t 1 20 with
    | false =>
      have H2 := hide h2
      clear h1 h2
      go_enter Try.func5, Try.ntmps5
      go_wp2_with fail
      refine Calls.mono (within_any _ _ _ _) ?_
      rw [H1.out]
      rintro e w1 ⟨rfl, rfl⟩
      go_wp2_with fail
      refine Calls.mono (within_any _ _ _ _) ?_
      rw [H2.out]
      rintro e w1 ⟨rfl, rfl⟩
      go_wp2
      go_ret2
      exact .inr ⟨rfl, rfl, Kp.refl _ _⟩
    | true =>
      have H2 := hide h2
      obtain ⟨hn, hn4⟩ := btw_iff.1 h1
      obtain ⟨m, rfl⟩ := Int.eq_ofNat_of_zero_le (show 0 ≤ n by omega)
      have hm4 : m ≤ 4 := by omega
      have hmk : ∀ w, (Instr.makeSlice 57 (.int .i64 m) (.int .i64 m)).run Try.prog w = .ok (.slice (some ⟨w.heap.size, 0, none⟩) m m) (w.alloc (.cells (lc (List.replicate m (0, 0))).toArray 70)) := fun w => by
        obtain ⟨i, hi, hz, hs, hb⟩ := info_parts (show (Try.prog.info? 70).map (fun i => (i.zero, i.size, i.bytes)) = some (some (.agg #[.int .i64 0, .int .i64 0]), 2, 16) by kernel_rfl)
        have := run_make (P := Try.prog) w 57 70 i _ Try.underlying57 hi hz .i64 .i64 (m : Int) (m : Int) (by omega) (Int.le_refl _) (by rw [hb]; omega) (by omega)
        rw [this, Int.toNat_natCast, hs, ← madeCells_loan hm4]
        rfl
      clear h1 h2
      go_enter Try.func5, Try.ntmps5
      go_wp2_with fail
      refine Calls.mono (within_any _ _ _ _) ?_
      rw [H1.out]
      rintro e w1 ⟨rfl, rfl⟩
      go_wp2_with fail
      refine Calls.mono (within_any _ _ _ _) ?_
      rw [H2.out]
      rintro e w1 ⟨rfl, rfl⟩
      go_wp2
      go_ret2
      refine .inl ⟨trivial, trivial, _, _, rfl, ⟨?_, ?_⟩, by omega, Nat.le_refl _, ((Kp.refl No w).alloc _).alloc _⟩
      · simp only [Int.toNat_natCast, List.length_replicate]
        exact Blk.up (by simp)
      · simp only [Int.toNat_natCast]
        exact (Blk.new _ _ _).alloc _
end Go.Proofs.Yteclfnkmgbebcaa
