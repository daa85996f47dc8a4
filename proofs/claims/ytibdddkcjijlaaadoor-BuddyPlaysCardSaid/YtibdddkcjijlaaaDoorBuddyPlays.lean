/- The law BuddyPlays, walked: of all steps. -/
import Derived.Test.YtibdddkcjijlaaaDoorBudRef3
import Derived.Test.YtibdddkcjijlaaaDoorAs
import Derived.Deep.Cut
namespace Go.Proofs.YtibdddkcjijlaaaDoor
open Go.RowKit
set_option linter.unusedSimpArgs false

/-- the program's arena at p, the reference's at X, alike; nothing of w0 has changed -/
structure BAl (w0 : World) (p X : Nat) (va vb : Value) (fr : Nat → List Nat) (ln : Nat → Option Nat) (m : Nat) (S : Nat → Prop) (w : World) : Prop where
  fit : BudIs w p S fr ln m
  ar : ArIs w (fun b => ¬ S b ∧ b ≠ X ∧ w0.heap.size ≤ b) (.agg #[va, vb]) (lentL ln)
  blk : Blk w X 26 #[va, vb]
  far : ∀ b, S b → w0.heap.size ≤ b ∧ b ≠ X
  ge : w0.heap.size ≤ X
  kp : Kp No w0 w
theorem BAl.old {w0 w : World} {p X m : Nat} {va vb : Value} {fr : Nat → List Nat} {ln : Nat → Option Nat} {S : Nat → Prop} (h : BAl w0 p X va vb fr ln m S w) : BAl w0 p X va vb fr ln m (fun b => (S b ∧ b < w.heap.size)) w :=
  ⟨h.fit.mono fun b h1 h2 => ⟨h2, h1⟩, h.ar.mono fun b h1 h2 => ⟨fun e => h2.1 e.1, h2.2⟩, h.blk, fun b hb => h.far b hb.1, h.ge, h.kp⟩
theorem BAl.no {w0 w w' : World} {p X m : Nat} {va vb : Value} {fr : Nat → List Nat} {ln : Nat → Option Nat} {S : Nat → Prop} (h : BAl w0 p X va vb fr ln m S w) (hk : Kp No w w') : BAl w0 p X va vb fr ln m S w' :=
  ⟨h.fit.no hk, h.ar.no hk, h.blk.kp hk id, h.far, h.ge, h.kp.trans hk⟩
/-- the reference's arena is another -/
theorem BAl.put {w0 w w' : World} {p X k : Nat} {va vb : Value} {fr : Nat → List Nat} {ln : Nat → Option Nat} {bs' : List (Nat × Nat)} {S : Nat → Prop} {F : Nat → Prop} (h : BAl w0 p X va vb fr ln k S w) (hk : Kp No w w') {A B : Option Addr} {n c m d : Nat}
    (ha : ArIs w' F (.agg #[.slice A n c, .slice B m d]) bs') (hF : ∀ b, b < w'.heap.size → F b → ¬ S b ∧ b ≠ X ∧ w0.heap.size ≤ b) :
    BudIs ((w'.setCell ⟨X, 0, none⟩ (.slice A n c)).setCell ⟨X, 1, none⟩ (.slice B m d)) p S fr ln k ∧ ArIs ((w'.setCell ⟨X, 0, none⟩ (.slice A n c)).setCell ⟨X, 1, none⟩ (.slice B m d)) (fun b => ¬ S b ∧ b ≠ X ∧ w0.heap.size ≤ b) (.agg #[.slice A n c, .slice B m d]) bs' ∧
    Blk ((w'.setCell ⟨X, 0, none⟩ (.slice A n c)).setCell ⟨X, 1, none⟩ (.slice B m d)) X 26 #[.slice A n c, .slice B m d] ∧ Kp No w0 ((w'.setCell ⟨X, 0, none⟩ (.slice A n c)).setCell ⟨X, 1, none⟩ (.slice B m d)) := by
  have hkk : Kp (At X) w' ((w'.setCell ⟨X, 0, none⟩ (.slice A n c)).setCell ⟨X, 1, none⟩ (.slice B m d)) := (kp_put _ _ _ _).trans (kp_put _ _ _ _)
  have hb := (h.blk.kp hk id)
  exact ⟨(h.fit.no hk).kp hkk fun b hb e => (h.far b hb).2 e, (ha.mono hF).kp hkk fun b hb e => hb.2.1 e, (hb.set_ 0 _).set_ 1 _, (h.kp.trans hk).trans' hkk fun b hb e => by unfold At at e; have := h.ge; omega⟩
theorem BAl.mk_ {w0 W7 w8 : World} {p X m : Nat} {va vb : Value} {fr : Nat → List Nat} {ln : Nat → Option Nat} {S : Nat → Prop} (far : ∀ b, S b → w0.heap.size ≤ b ∧ b ≠ X) (ge : w0.heap.size ≤ X)
    (f2 : ArIs W7 (fun b => ¬ S b ∧ b ≠ X ∧ w0.heap.size ≤ b) (.agg #[va, vb]) (lentL ln)) (f3 : Blk W7 X 26 #[va, vb]) (f4 : Kp No w0 W7)
    (hf8 : BudIs w8 p (fun b => S b ∨ W7.heap.size ≤ b) fr ln m) (hk8 : Kp (fun b => S b ∨ W7.heap.size ≤ b) W7 w8) : BAl w0 p X va vb fr ln m (fun b => S b ∨ W7.heap.size ≤ b) w8 := by
  have hX := f3.lt
  have hs := f4.size
  have hfar : ∀ b, S b ∨ W7.heap.size ≤ b → w0.heap.size ≤ b ∧ b ≠ X := fun b hb => by
    rcases hb with e | e
    · exact far b e
    · exact ⟨by omega, by omega⟩
  refine ⟨hf8, (f2.mono fun b h1 h2 => (⟨fun e => ?_, h2.2⟩ : ¬ (S b ∨ W7.heap.size ≤ b) ∧ b ≠ X ∧ w0.heap.size ≤ b)).kp hk8 fun b hb => hb.1, f3.kp hk8 fun e => (hfar X e).2 rfl, hfar, ge, f4.trans' hk8 fun b hb e => by have := (hfar b e).1; omega⟩
  rcases e with e | e
  · exact h2.1 e
  · omega
theorem bar_at {w : World} {F : Nat → Prop} {a b : Value} {bs : List (Nat × Nat)} (h : ArIs w F (.agg #[a, b]) bs) : IntsIn w F a (fsts bs) ∧ IntsIn w F b (snds bs) := by
  obtain ⟨a', b', e, h1, h2⟩ := h
  injection e with e
  injection e with e
  injection e with e1 e
  injection e with e2 e
  subst e1 e2
  exact ⟨h1, h2⟩
theorem eqB_same (xs : List Int) : eqB xs xs = true := decide_eq_true rfl
theorem lendE_le (fr : Nat → List Nat) (x : Int) : lendE fr x ≤ 100 := by
  unfold lendE
  split
  · omega
  · split <;> omega
theorem backBE_le (ln : Nat → Option Nat) (x : Int) : backBE ln x ≤ 100 := by
  unfold backBE
  split <;> omega

set_option maxRecDepth 100000 in
set_option maxHeartbeats 16000000 in
theorem buddyPlays_any {F : Nat → Prop} (v : Value) (steps : List Int) (w : World) (hv : IntsIn w F v steps) (hr : ∀ x ∈ steps, -9223372036854775808 ≤ x ∧ x ≤ 9223372036854775807) (hh : Handle w) :
    Calls Tryd.prog 4 #[v] w fun e w' => e = .returned (.bool true) ∧ Kp No w w' := by
  have HV := hide (hv.mono (F' := Lo w.heap.size) fun k h _ => h)
  have HR := hide hr
  have HH := hide hh
  obtain ⟨Av, cv, rfl, hcv, hmv, _⟩ := id hv
  clear hv hr hh
  go_enter Tryd.func4, Tryd.ntmps4
  go_wp2_with fail
  refine Calls.mono (bnew_any w) ?_
  rintro e w1 ⟨p, rfl, hp, hf1, hk1⟩
  obtain ⟨X, hX⟩ : ∃ X, w1.heap.size = X := ⟨_, rfl⟩
  have HA1 := hide (show BAl w p X (.slice none 0 0) (.slice none 0 0) (budRun steps 0).1 (budRun steps 0).2 0 (fun b => w.heap.size ≤ b ∧ b < X) (w1.alloc (.cells #[.slice none 0 0, .slice none 0 0] 26)) from by
    have hk : Kp No w1 (w1.alloc (.cells #[.slice none 0 0, .slice none 0 0] 26)) := (Kp.refl No w1).alloc _
    rw [← hX, budRun_zero]
    refine ⟨(hf1.mono fun b h1 h2 => ⟨h2, h1⟩).no hk, ⟨_, _, rfl, ?_, ?_⟩, Blk.new w1 _ _, fun b hb => ⟨hb.1, by have := hb.2; omega⟩, hk1.size, hk1.trans hk⟩
    · rw [show lentL lent0 = [] by decide]; exact IntsIn.nil_ _ _
    · rw [show lentL lent0 = [] by decide]; exact IntsIn.nil_ _ _)
  clear hf1 hk1
  go_wp2_with fail
  obtain ⟨W1, hW1⟩ : ∃ W1, w1.alloc (.cells #[.slice none 0 0, .slice none 0 0] 26) = W1 := ⟨_, rfl⟩
  rw [hW1] at HA1 ⊢
  clear hW1 hX hp
  go_loopw [5] (fun q wr => ∃ (k : Nat) (va vb : Value) (S : Nat → Prop), q = .int .i64 k ∧ k ≤ steps.length ∧ k ≤ 100 ∧ Hid (BAl w p X va vb (budRun steps k).1 (budRun steps k).2 k S wr)) (fun q _ => 100 - (intOf q).toNat)
  case atStart => exact ⟨0, _, _, _, rfl, Nat.zero_le _, by omega, HA1⟩
  case round =>
    obtain ⟨k, va, vb, S0, rfl, hk, hk100, ha0⟩ := hrel
    obtain ⟨S, hS⟩ : ∃ S, (fun b => (S0 b ∧ b < wr.heap.size)) = S := ⟨_, rfl⟩
    have HA := hide (show BAl w p X va vb (budRun steps k).1 (budRun steps k).2 k S wr by rw [← hS]; exact ha0.out.old)
    have HSL := hide (show ∀ b, wr.heap.size ≤ b → ¬ S b from fun b hb h => by rw [← hS] at h; have := h.2; omega)
    clear ha0 hS
    by_cases hlt : k < steps.length ∧ k < 100
    · obtain ⟨hlt, hlt100⟩ := hlt
      have HB := hide (bud_run steps k hk)
      have HB' := hide (bud_run steps (k + 1) hlt)
      have HNX := hide (budRun_succ hlt)
      obtain ⟨fr, hfr⟩ : ∃ fr, (budRun steps k).1 = fr := ⟨_, rfl⟩
      obtain ⟨ln, hln⟩ : ∃ ln, (budRun steps k).2 = ln := ⟨_, rfl⟩
      have hst : budRun steps k = (fr, ln) := by rw [← hfr, ← hln]
      rw [hst] at HA HB HNX
      simp only at HA HB
      clear hfr hln hst
      have HNEW := hide (show ∀ b, wr.heap.size ≤ b → ¬ S b ∧ b ≠ X ∧ w.heap.size ≤ b from fun b hb => by
        have h1 := HA.out.blk.lt
        have h2 := HA.out.kp.size
        exact ⟨HSL.out b hb, by omega, by omega⟩)
      have hxb := HR.out _ (List.getElem_mem hlt)
      obtain ⟨_, _, e, _, _, hcell⟩ := HV.out.no HA.out.kp
      cases e
      obtain ⟨b, o, rfl, hbl, hcx⟩ := hcell k hlt
      have HCX := hide (show ∀ W, Kp No w W → W.cell? ⟨b, o + k, none⟩ = some (.int .i64 steps[k]) from fun W hW => by
        obtain ⟨_, _, e, _, _, hcell⟩ := HV.out.no hW
        cases e
        obtain ⟨b', o', e, _, c'⟩ := hcell k hlt
        cases e
        exact c')
      obtain ⟨x, hx⟩ : ∃ x, steps[k] = x := ⟨_, rfl⟩
      rw [hx] at hcx hxb HNX HCX
      obtain ⟨Aa, ca, Ab, cb, hva⟩ := ar_slices HA.out.ar
      injection hva with hva
      injection hva with hva
      injection hva with hva1 hva
      injection hva with hva2 hva
      subst hva1 hva2
      clear hva
      obtain ⟨x1, x2, x3, x4, x5⟩ := HA.out.blk.a2
      have hpx := HA.out.blk.lt
      clear hcell hx
      have hkl : (k : Int) < (steps.length : Int) := by omega
      have hk1 : (k : Int) < 100 := by omega
      by_cases hx0 : 0 ≤ x
      case' pos =>
        have HFS := hide (show budStep (fr, ln) x = (lendF fr x, lendL fr ln x) by unfold budStep; rw [if_pos hx0])
        go_wp2_with fail
        refine plan_start 14 (by kernel_rfl) rfl (fun hPT => ?_)
        refine plan_take (i := 1) (v := ?_) rfl (by kernel_rfl) (by kernel_rfl) (by kernel_rfl) (fun _ _ _ h => h) hPT (by rfl) ?_ ?_
        rotate_left
        · (intro w; go_simp; with_reducible rfl)
        (clear hPT; intro hPT; simp only [List.getElem_toArray, List.getElem_cons_zero, List.getElem_cons_succ, Act.put, List.setIfInBounds_toArray, List.set_cons_zero, List.set_cons_succ])
        refine plan_take (i := 2) (v := ?_) rfl (by kernel_rfl) (by kernel_rfl) (by kernel_rfl) (fun _ _ _ h => h) hPT (by rfl) ?_ ?_
        rotate_left
        · (intro w; go_simp; with_reducible rfl)
        (clear hPT; intro hPT; simp only [List.getElem_toArray, List.getElem_cons_zero, List.getElem_cons_succ, Act.put, List.setIfInBounds_toArray, List.set_cons_zero, List.set_cons_succ])
        refine plan_load (fun w' => w'.cell? ⟨X, 0, none⟩ = some (.slice Aa (lentL ln).length ca) ∧ w'.cell? ⟨X, 1, none⟩ = some (.slice Ab (lentL ln).length cb)) (i := 0) (v := ?_) rfl (by kernel_rfl) (by kernel_rfl) (by kernel_rfl) (fun _ _ _ h => h) hPT (by rfl) ?_ ?_ ?_
        rotate_left
        · (first | exact ⟨by assumption, by assumption⟩ | (go_simp; done))
        · (intro w hSw; (try dsimp only at hSw); obtain ⟨hSw1, hSw2⟩ := hSw; go_simp; with_reducible rfl)
        (clear hPT; intro hPT; simp only [List.getElem_toArray, List.getElem_cons_zero, List.getElem_cons_succ, Act.put, List.setIfInBounds_toArray, List.set_cons_zero, List.set_cons_succ])
        refine plan_take (i := 3) (v := ?_) rfl (by kernel_rfl) (by kernel_rfl) (by kernel_rfl) (fun _ _ _ h => h) hPT (by rfl) ?_ ?_
        rotate_left
        · (intro w; go_simp; with_reducible rfl)
        (clear hPT; intro hPT; simp only [List.getElem_toArray, List.getElem_cons_zero, List.getElem_cons_succ, Act.put, List.setIfInBounds_toArray, List.set_cons_zero, List.set_cons_succ])
        refine plan_load (fun w' => w'.cell? ⟨b, o + k, none⟩ = some (.int .i64 x)) (i := 4) (v := ?_) rfl (by kernel_rfl) (by kernel_rfl) (by kernel_rfl) (fun _ _ _ h => h) hPT (by rfl) ?_ ?_ ?_
        rotate_left
        · (first | assumption | (go_simp; done))
        · (intro w hSw; (try dsimp only at hSw); go_simp; with_reducible rfl)
        (clear hPT; intro hPT; simp only [List.getElem_toArray, List.getElem_cons_zero, List.getElem_cons_succ, Act.put, List.setIfInBounds_toArray, List.set_cons_zero, List.set_cons_succ])
        refine plan_two (i := 5) (j := 10) (by kernel_rfl) rfl rfl (by rfl) (by rfl) (fun K hK => ?ordA) (fun K hK => ?ordB)
        case' ordA =>
          (try simp only [List.getElem_toArray, List.getElem_cons_zero, List.getElem_cons_succ, Act.put, List.setIfInBounds_toArray, List.set_cons_zero, List.set_cons_succ])
          go_simp
          refine Calls.mono (rblend_any (F := (fun b => ¬ S b ∧ b ≠ X ∧ w.heap.size ≤ b)) _ fr ln x _ (HA.out.ar.no (by (repeat (first | exact Kp.refl _ _ | with_reducible refine Kp.drewN ?_ _ | with_reducible refine Kp.drew ?_ | with_reducible refine Kp.alloc ?_ _ | with_reducible refine Kp.setCell ?_ (fun _ => ?_) _)); all_goals (simp_all; omega))) HB.out (fun b hb => HNEW.out b (by simpa using hb))) ?_
          rintro e w5 ⟨v5, rfl, h5, hk5⟩
          have HK5 := hide ((show Kp No wr _ from (by (repeat (first | exact Kp.refl _ _ | with_reducible refine Kp.drewN ?_ _ | with_reducible refine Kp.drew ?_ | with_reducible refine Kp.alloc ?_ _ | with_reducible refine Kp.setCell ?_ (fun _ => ?_) _)); all_goals (simp_all; omega))).trans hk5)
          have HI5 := hide h5
          obtain ⟨A5, c5, B5, d5, rfl⟩ := ar_slices h5
          clear h5 hk5 x1 x2 x3 x4 x5
          refine hK.out [] _ _ (t_nil _) (k_drop (by kernel_rfl) (k_drop (by kernel_rfl) k_nil)) (fun hPT' => ?_)
          (clear hPT hK K; have hPT := hPT'; clear hPT'; try simp only [List.getElem_toArray, List.getElem_cons_zero, List.getElem_cons_succ, Act.put, List.setIfInBounds_toArray, List.set_cons_zero, List.set_cons_succ])
          refine plan_take (i := 6) (v := ?_) rfl (by kernel_rfl) (by kernel_rfl) (by kernel_rfl) (fun _ _ _ h => h) hPT (by rfl) ?_ ?_
          rotate_left
          · (intro w; go_simp; with_reducible rfl)
          (clear hPT; intro hPT; simp only [List.getElem_toArray, List.getElem_cons_zero, List.getElem_cons_succ, Act.put, List.setIfInBounds_toArray, List.set_cons_zero, List.set_cons_succ])
          refine plan_take (i := 7) (v := ?_) rfl (by kernel_rfl) (by kernel_rfl) (by kernel_rfl) (fun _ _ _ h => h) hPT (by rfl) ?_ ?_
          rotate_left
          · (intro w; go_simp; with_reducible rfl)
          (clear hPT; intro hPT; simp only [List.getElem_toArray, List.getElem_cons_zero, List.getElem_cons_succ, Act.put, List.setIfInBounds_toArray, List.set_cons_zero, List.set_cons_succ])
          refine plan_take (i := 8) (v := ?_) rfl (by kernel_rfl) (by kernel_rfl) (by kernel_rfl) (fun _ _ _ h => h) hPT (by rfl) ?_ ?_
          rotate_left
          · (intro w; go_simp; with_reducible rfl)
          (clear hPT; intro hPT; simp only [List.getElem_toArray, List.getElem_cons_zero, List.getElem_cons_succ, Act.put, List.setIfInBounds_toArray, List.set_cons_zero, List.set_cons_succ])
          refine plan_take (i := 9) (v := ?_) rfl (by kernel_rfl) (by kernel_rfl) (by kernel_rfl) (fun _ _ _ h => h) hPT (by rfl) ?_ ?_
          rotate_left
          · (intro w; go_simp; with_reducible rfl)
          (clear hPT; intro hPT; simp only [List.getElem_toArray, List.getElem_cons_zero, List.getElem_cons_succ, Act.put, List.setIfInBounds_toArray, List.set_cons_zero, List.set_cons_succ])
          refine plan_one (i := 10) (by kernel_rfl) rfl (by rfl) (fun K hK => ?_)
          (try simp only [List.getElem_toArray, List.getElem_cons_zero, List.getElem_cons_succ, Act.put, List.setIfInBounds_toArray, List.set_cons_zero, List.set_cons_succ])
          go_simp
          refine hK.out [] _ _ (t_nil _) k_nil (fun hPT' => ?_)
          (clear hPT hK K; have hPT := hPT'; clear hPT'; try simp only [List.getElem_toArray, List.getElem_cons_zero, List.getElem_cons_succ, Act.put, List.setIfInBounds_toArray, List.set_cons_zero, List.set_cons_succ])
          refine plan_one (i := 11) (by kernel_rfl) rfl (by rfl) (fun K hK => ?_)
          (try simp only [List.getElem_toArray, List.getElem_cons_zero, List.getElem_cons_succ, Act.put, List.setIfInBounds_toArray, List.set_cons_zero, List.set_cons_succ])
          go_simp
          refine hK.out [] _ _ (t_nil _) k_nil (fun hPT' => ?_)
          (clear hPT hK K; have hPT := hPT'; clear hPT'; try simp only [List.getElem_toArray, List.getElem_cons_zero, List.getElem_cons_succ, Act.put, List.setIfInBounds_toArray, List.set_cons_zero, List.set_cons_succ])
          refine plan_take (i := 12) (v := ?_) rfl (by kernel_rfl) (by kernel_rfl) (by kernel_rfl) (fun _ _ _ h => h) hPT (by rfl) ?_ ?_
          rotate_left
          · (intro w; go_simp; with_reducible rfl)
          (clear hPT; intro hPT; simp only [List.getElem_toArray, List.getElem_cons_zero, List.getElem_cons_succ, Act.put, List.setIfInBounds_toArray, List.set_cons_zero, List.set_cons_succ])
          refine plan_take (i := 13) (v := ?_) rfl (by kernel_rfl) (by kernel_rfl) (by kernel_rfl) (fun _ _ _ h => h) hPT (by rfl) ?_ ?_
          rotate_left
          · (intro w; go_simp; with_reducible rfl)
          (clear hPT; intro hPT; simp only [List.getElem_toArray, List.getElem_cons_zero, List.getElem_cons_succ, Act.put, List.setIfInBounds_toArray, List.set_cons_zero, List.set_cons_succ])
          refine plan_done (by kernel_rfl) ?_ _
          clear hPT
          obtain ⟨t, htt⟩ : ∃ t, w5.heap.size = t := ⟨_, rfl⟩
          have HQ6 := hide (show Blk (w5.alloc (.cells #[.slice A5 (lentL (lendL fr ln x)).length c5, .slice B5 (lentL (lendL fr ln x)).length d5] 26)) t 26 #[.slice A5 (lentL (lendL fr ln x)).length c5, .slice B5 (lentL (lendL fr ln x)).length d5] from Blk.at_ _ _ htt)
          have HK6 := hide (HK5.out.alloc (.cells #[.slice A5 (lentL (lendL fr ln x)).length c5, .slice B5 (lentL (lendL fr ln x)).length d5] 26))
          have HI6 := hide (HI5.out.no ((Kp.refl No w5).alloc (.cells #[.slice A5 (lentL (lendL fr ln x)).length c5, .slice B5 (lentL (lendL fr ln x)).length d5] 26)))
          have htx : X < t := by have := HK5.out.size; omega
          obtain ⟨W6, hW6⟩ : ∃ W6, w5.alloc (.cells #[.slice A5 (lentL (lendL fr ln x)).length c5, .slice B5 (lentL (lendL fr ln x)).length d5] 26) = W6 := ⟨_, rfl⟩
          rw [hW6] at HQ6 HK6 HI6
          rw [htt, hW6]
          clear HI5 HK5 htt hW6
        case' ordB =>
          (try simp only [List.getElem_toArray, List.getElem_cons_zero, List.getElem_cons_succ, Act.put, List.setIfInBounds_toArray, List.set_cons_zero, List.set_cons_succ])
          go_simp
          obtain ⟨t, htt⟩ : ∃ t, wr.heap.size = t := ⟨_, rfl⟩
          have HQ0 := hide (show Blk (wr.alloc (.cells #[.slice none 0 0, .slice none 0 0] 26)).drew t 26 #[.slice none 0 0, .slice none 0 0] from (Blk.at_ _ _ htt).drew)
          have HKB := hide (show Kp No wr (wr.alloc (.cells #[.slice none 0 0, .slice none 0 0] 26)).drew from ((Kp.refl No wr).alloc _).drew)
          have htx : X < t := by omega
          have HGG := hide (show ∀ W' : World, t < W'.heap.size → ∀ b, W'.heap.size ≤ b → (¬ S b ∧ b ≠ X ∧ w.heap.size ≤ b) ∧ b ≠ t from fun W' h b hb => ⟨HNEW.out b (by omega), by omega⟩)
          have HRO := hide ((HA.out.ar.mono (F' := (fun b => (¬ S b ∧ b ≠ X ∧ w.heap.size ≤ b) ∧ b ≠ t)) fun b h1 h2 => ⟨h2, by omega⟩).no HKB.out)
          refine hK.out _ _ _ (t_cons (HKB.out.cell hcx id) (t_cons ⟨HKB.out.cell x1 id, HKB.out.cell x2 id⟩ (t_nil _))) k_same (fun hPT' => ?_)
          (clear hPT hK K; have hPT := hPT'; clear hPT'; try simp only [List.getElem_toArray, List.getElem_cons_zero, List.getElem_cons_succ, Act.put, List.setIfInBounds_toArray, List.set_cons_zero, List.set_cons_succ])
          refine plan_one (i := 5) (by kernel_rfl) rfl (by rfl) (fun K hK => ?_)
          (try simp only [List.getElem_toArray, List.getElem_cons_zero, List.getElem_cons_succ, Act.put, List.setIfInBounds_toArray, List.set_cons_zero, List.set_cons_succ])
          go_simp
          refine Calls.mono (rblend_any (F := (fun b => (¬ S b ∧ b ≠ X ∧ w.heap.size ≤ b) ∧ b ≠ t)) _ fr ln x _ HRO.out HB.out (HGG.out _ HQ0.out.lt)) ?_
          rintro e w5 ⟨v5, rfl, h5, hk5⟩
          have HK5 := hide (HKB.out.trans hk5)
          have HQ5 := hide (HQ0.out.kp hk5 id)
          have HI5 := hide h5
          obtain ⟨A5, c5, B5, d5, rfl⟩ := ar_slices h5
          obtain ⟨y1, y2, y3, y4, y5⟩ := HQ5.out.a2
          clear h5 hk5 x1 x2 x3 x4 x5
          refine hK.out [] _ _ (t_nil _) (k_drop (by kernel_rfl) (k_drop (by kernel_rfl) k_nil)) (fun hPT' => ?_)
          (clear hPT hK K; have hPT := hPT'; clear hPT'; try simp only [List.getElem_toArray, List.getElem_cons_zero, List.getElem_cons_succ, Act.put, List.setIfInBounds_toArray, List.set_cons_zero, List.set_cons_succ])
          refine plan_take (i := 6) (v := ?_) rfl (by kernel_rfl) (by kernel_rfl) (by kernel_rfl) (fun _ _ _ h => h) hPT (by rfl) ?_ ?_
          rotate_left
          · (intro w; go_simp; with_reducible rfl)
          (clear hPT; intro hPT; simp only [List.getElem_toArray, List.getElem_cons_zero, List.getElem_cons_succ, Act.put, List.setIfInBounds_toArray, List.set_cons_zero, List.set_cons_succ])
          refine plan_take (i := 7) (v := ?_) rfl (by kernel_rfl) (by kernel_rfl) (by kernel_rfl) (fun _ _ _ h => h) hPT (by rfl) ?_ ?_
          rotate_left
          · (intro w; go_simp; with_reducible rfl)
          (clear hPT; intro hPT; simp only [List.getElem_toArray, List.getElem_cons_zero, List.getElem_cons_succ, Act.put, List.setIfInBounds_toArray, List.set_cons_zero, List.set_cons_succ])
          refine plan_take (i := 8) (v := ?_) rfl (by kernel_rfl) (by kernel_rfl) (by kernel_rfl) (fun _ _ _ h => h) hPT (by rfl) ?_ ?_
          rotate_left
          · (intro w; go_simp; with_reducible rfl)
          (clear hPT; intro hPT; simp only [List.getElem_toArray, List.getElem_cons_zero, List.getElem_cons_succ, Act.put, List.setIfInBounds_toArray, List.set_cons_zero, List.set_cons_succ])
          refine plan_take (i := 9) (v := ?_) rfl (by kernel_rfl) (by kernel_rfl) (by kernel_rfl) (fun _ _ _ h => h) hPT (by rfl) ?_ ?_
          rotate_left
          · (intro w; go_simp; with_reducible rfl)
          (clear hPT; intro hPT; simp only [List.getElem_toArray, List.getElem_cons_zero, List.getElem_cons_succ, Act.put, List.setIfInBounds_toArray, List.set_cons_zero, List.set_cons_succ])
          refine plan_one (i := 11) (by kernel_rfl) rfl (by rfl) (fun K hK => ?_)
          (try simp only [List.getElem_toArray, List.getElem_cons_zero, List.getElem_cons_succ, Act.put, List.setIfInBounds_toArray, List.set_cons_zero, List.set_cons_succ])
          go_simp
          refine hK.out [] _ _ (t_nil _) k_nil (fun hPT' => ?_)
          (clear hPT hK K; have hPT := hPT'; clear hPT'; try simp only [List.getElem_toArray, List.getElem_cons_zero, List.getElem_cons_succ, Act.put, List.setIfInBounds_toArray, List.set_cons_zero, List.set_cons_succ])
          refine plan_take (i := 12) (v := ?_) rfl (by kernel_rfl) (by kernel_rfl) (by kernel_rfl) (fun _ _ _ h => h) hPT (by rfl) ?_ ?_
          rotate_left
          · (intro w; go_simp; with_reducible rfl)
          (clear hPT; intro hPT; simp only [List.getElem_toArray, List.getElem_cons_zero, List.getElem_cons_succ, Act.put, List.setIfInBounds_toArray, List.set_cons_zero, List.set_cons_succ])
          refine plan_take (i := 13) (v := ?_) rfl (by kernel_rfl) (by kernel_rfl) (by kernel_rfl) (fun _ _ _ h => h) hPT (by rfl) ?_ ?_
          rotate_left
          · (intro w; go_simp; with_reducible rfl)
          (clear hPT; intro hPT; simp only [List.getElem_toArray, List.getElem_cons_zero, List.getElem_cons_succ, Act.put, List.setIfInBounds_toArray, List.set_cons_zero, List.set_cons_succ])
          refine plan_done (by kernel_rfl) ?_ _
          clear hPT
          obtain ⟨W6, hW6⟩ : ∃ W6, (w5.setCell ⟨t, 0, none⟩ (.slice A5 (lentL (lendL fr ln x)).length c5)).setCell ⟨t, 1, none⟩ (.slice B5 (lentL (lendL fr ln x)).length d5) = W6 := ⟨_, rfl⟩
          have hk3 : Kp (At t) w5 W6 := by rw [← hW6]; exact (kp_put _ _ _ _).trans (kp_put _ _ _ _)
          have HQ6 := hide (show Blk W6 t 26 #[.slice A5 (lentL (lendL fr ln x)).length c5, .slice B5 (lentL (lendL fr ln x)).length d5] by rw [← hW6]; exact (HQ5.out.set_ 0 _).set_ 1 _)
          have HK6 := hide (HK5.out.trans' hk3 fun b hb e => by unfold At at e; omega)
          have HI6 := hide ((HI5.out.kp hk3 fun b hb e => hb.2 e).mono (F' := (fun b => ¬ S b ∧ b ≠ X ∧ w.heap.size ≤ b)) fun b _ h => h.1)
          rw [hW6]
          clear HI5 HK5 HQ5 HQ0 HKB HGG HRO htt hW6 hk3 y1 y2 y3 y4 y5
        all_goals
          obtain ⟨q0, q1⟩ : W6.cell? ⟨t, 0, none⟩ = some (.slice A5 (lentL (lendL fr ln x)).length c5) ∧ W6.cell? ⟨t, 1, none⟩ = some (.slice B5 (lentL (lendL fr ln x)).length d5) := ⟨HQ6.out.cell 0, HQ6.out.cell 1⟩
          obtain ⟨y1, y2, y3, y4, y5⟩ := (HA.out.blk.kp HK6.out id).a2
          obtain ⟨f1, f2, f3, f4⟩ := HA.out.put HK6.out HI6.out (fun b _ h => h)
          have hcx' := HCX.out W6 (HA.out.kp.trans HK6.out)
          have F1 := hide f1
          have F2 := hide f2
          have F3 := hide f3
          have F4 := hide f4
          clear f1 f2 f3 f4
          obtain ⟨W7, hW7⟩ : ∃ W7, (W6.setCell ⟨X, 0, none⟩ (.slice A5 (lentL (lendL fr ln x)).length c5)).setCell ⟨X, 1, none⟩ (.slice B5 (lentL (lendL fr ln x)).length d5) = W7 := ⟨_, rfl⟩
          rw [hW7] at F1 F2 F3 F4
          have hcx7 := HCX.out W7 F4.out
          have HW7 := hide hW7
          clear hW7 hcx
          go_upto_region 9 with fail
          rw [HW7.out]
          go_wp2_with fail
          refine Calls.mono (blend_any (m := k) x W7 (F1.out.mono (S' := fun b => S b ∨ W7.heap.size ≤ b) fun b _ h => .inl h) HB.out (by omega) (fun b hb => .inr hb)) ?_
          rintro e w8 ⟨rfl, hf8, hk8⟩
          have HA8 := hide (BAl.mk_ HA.out.far HA.out.ge F2.out F3.out F4.out hf8 hk8)
          have HG8 := hide (HH.out.no HA8.out.kp)
          clear hf8 hk8 y1 y2 y3 y4 y5 q0 q1 hcx' hcx7
          have HE := hide (fun (W : World) (h : Handle W) => error_any (lendE fr x) (lendE fr x : Nat) W h (lendE_le _ _))
          rw [HFS.out] at HNX
          obtain ⟨fe, hfe⟩ : ∃ fe, lendE fr x = fe := ⟨_, rfl⟩
          obtain ⟨fp, hfp⟩ : ∃ fp, lendAt fr x = fp := ⟨_, rfl⟩
          obtain ⟨fr', hfr'⟩ : ∃ fr', lendF fr x = fr' := ⟨_, rfl⟩
          obtain ⟨ln', hln'⟩ : ∃ ln', lendL fr ln x = ln' := ⟨_, rfl⟩
          rw [hfr', hln'] at HNX
          rw [HNX.out] at HB'
          rw [hfr', hln'] at HA8
          rw [hfe] at HE ⊢
          rw [hfp]
          obtain ⟨er, her⟩ : ∃ er, errV fe = er := ⟨_, rfl⟩
          rw [her] at HE ⊢
          simp only [hln'] at *
          clear hfe hfp her hfr' hln'
          go_wp2_with fail
          refine Calls.mono (HE.out _ HG8.out) ?_
          rintro e w9 ⟨rfl, hk9⟩
          have HA9 := hide (HA8.out.no hk9)
          clear hk9
          clear HE HG8 HFS
      case' neg =>
        have HFS := hide (show budStep (fr, ln) x = (backBF fr ln (-1 - x), backBL ln (-1 - x)) by unfold budStep; rw [if_neg hx0])
        have hwx : IntKind.i64.wrap (-1 - x) = -1 - x := by rw [IntKind.wrap_i64]; omega
        go_wp2_with fail
        refine plan_start 13 (by kernel_rfl) rfl (fun hPT => ?_)
        refine plan_take (i := 1) (v := ?_) rfl (by kernel_rfl) (by kernel_rfl) (by kernel_rfl) (fun _ _ _ h => h) hPT (by rfl) ?_ ?_
        rotate_left
        · (intro w; go_simp; with_reducible rfl)
        (clear hPT; intro hPT; simp only [List.getElem_toArray, List.getElem_cons_zero, List.getElem_cons_succ, Act.put, List.setIfInBounds_toArray, List.set_cons_zero, List.set_cons_succ])
        refine plan_take (i := 2) (v := ?_) rfl (by kernel_rfl) (by kernel_rfl) (by kernel_rfl) (fun _ _ _ h => h) hPT (by rfl) ?_ ?_
        rotate_left
        · (intro w; go_simp; with_reducible rfl)
        (clear hPT; intro hPT; simp only [List.getElem_toArray, List.getElem_cons_zero, List.getElem_cons_succ, Act.put, List.setIfInBounds_toArray, List.set_cons_zero, List.set_cons_succ])
        refine plan_load (fun w' => w'.cell? ⟨X, 0, none⟩ = some (.slice Aa (lentL ln).length ca) ∧ w'.cell? ⟨X, 1, none⟩ = some (.slice Ab (lentL ln).length cb)) (i := 0) (v := ?_) rfl (by kernel_rfl) (by kernel_rfl) (by kernel_rfl) (fun _ _ _ h => h) hPT (by rfl) ?_ ?_ ?_
        rotate_left
        · (first | exact ⟨by assumption, by assumption⟩ | (go_simp; done))
        · (intro w hSw; (try dsimp only at hSw); obtain ⟨hSw1, hSw2⟩ := hSw; go_simp; with_reducible rfl)
        (clear hPT; intro hPT; simp only [List.getElem_toArray, List.getElem_cons_zero, List.getElem_cons_succ, Act.put, List.setIfInBounds_toArray, List.set_cons_zero, List.set_cons_succ])
        refine plan_take (i := 3) (v := ?_) rfl (by kernel_rfl) (by kernel_rfl) (by kernel_rfl) (fun _ _ _ h => h) hPT (by rfl) ?_ ?_
        rotate_left
        · (intro w; go_simp; with_reducible rfl)
        (clear hPT; intro hPT; simp only [List.getElem_toArray, List.getElem_cons_zero, List.getElem_cons_succ, Act.put, List.setIfInBounds_toArray, List.set_cons_zero, List.set_cons_succ])
        refine plan_load (fun w' => w'.cell? ⟨b, o + k, none⟩ = some (.int .i64 x)) (i := 4) (v := ?_) rfl (by kernel_rfl) (by kernel_rfl) (by kernel_rfl) (fun _ _ _ h => h) hPT (by rfl) ?_ ?_ ?_
        rotate_left
        · (first | assumption | (go_simp; done))
        · (intro w hSw; (try dsimp only at hSw); go_simp; with_reducible rfl)
        (clear hPT; intro hPT; simp only [List.getElem_toArray, List.getElem_cons_zero, List.getElem_cons_succ, Act.put, List.setIfInBounds_toArray, List.set_cons_zero, List.set_cons_succ])
        refine plan_take (i := 5) (v := ?_) rfl (by kernel_rfl) (by kernel_rfl) (by kernel_rfl) (fun _ _ _ h => h) hPT (by rfl) ?_ ?_
        rotate_left
        · (intro w; go_simp; with_reducible rfl)
        (clear hPT; intro hPT; simp only [List.getElem_toArray, List.getElem_cons_zero, List.getElem_cons_succ, Act.put, List.setIfInBounds_toArray, List.set_cons_zero, List.set_cons_succ])
        refine plan_two (i := 6) (j := 10) (by kernel_rfl) rfl rfl (by rfl) (by rfl) (fun K hK => ?ordAz) (fun K hK => ?ordBz)
        case' ordAz =>
          (try simp only [List.getElem_toArray, List.getElem_cons_zero, List.getElem_cons_succ, Act.put, List.setIfInBounds_toArray, List.set_cons_zero, List.set_cons_succ])
          go_simp
          refine Calls.mono (rbback_any (F := (fun b => ¬ S b ∧ b ≠ X ∧ w.heap.size ≤ b)) _ fr ln (-1 - x) _ (HA.out.ar.no (by (repeat (first | exact Kp.refl _ _ | with_reducible refine Kp.drewN ?_ _ | with_reducible refine Kp.drew ?_ | with_reducible refine Kp.alloc ?_ _ | with_reducible refine Kp.setCell ?_ (fun _ => ?_) _)); all_goals (simp_all; omega))) HB.out (fun b hb => HNEW.out b (by simpa using hb))) ?_
          rintro e w5 ⟨v5, rfl, h5, hk5⟩
          have HK5 := hide ((show Kp No wr _ from (by (repeat (first | exact Kp.refl _ _ | with_reducible refine Kp.drewN ?_ _ | with_reducible refine Kp.drew ?_ | with_reducible refine Kp.alloc ?_ _ | with_reducible refine Kp.setCell ?_ (fun _ => ?_) _)); all_goals (simp_all; omega))).trans hk5)
          have HI5 := hide h5
          obtain ⟨A5, c5, B5, d5, rfl⟩ := ar_slices h5
          clear h5 hk5 x1 x2 x3 x4 x5
          refine hK.out _ _ _ (t_cons (HK5.out.cell hcx id) (t_nil _)) (k_keep (k_drop (by kernel_rfl) k_nil)) (fun hPT' => ?_)
          (clear hPT hK K; have hPT := hPT'; clear hPT'; try simp only [List.getElem_toArray, List.getElem_cons_zero, List.getElem_cons_succ, Act.put, List.setIfInBounds_toArray, List.set_cons_zero, List.set_cons_succ])
          refine plan_take (i := 7) (v := ?_) rfl (by kernel_rfl) (by kernel_rfl) (by kernel_rfl) (fun _ _ _ h => h) hPT (by rfl) ?_ ?_
          rotate_left
          · (intro w; go_simp; with_reducible rfl)
          (clear hPT; intro hPT; simp only [List.getElem_toArray, List.getElem_cons_zero, List.getElem_cons_succ, Act.put, List.setIfInBounds_toArray, List.set_cons_zero, List.set_cons_succ])
          refine plan_take (i := 8) (v := ?_) rfl (by kernel_rfl) (by kernel_rfl) (by kernel_rfl) (fun _ _ _ h => h) hPT (by rfl) ?_ ?_
          rotate_left
          · (intro w; go_simp; with_reducible rfl)
          (clear hPT; intro hPT; simp only [List.getElem_toArray, List.getElem_cons_zero, List.getElem_cons_succ, Act.put, List.setIfInBounds_toArray, List.set_cons_zero, List.set_cons_succ])
          refine plan_take (i := 9) (v := ?_) rfl (by kernel_rfl) (by kernel_rfl) (by kernel_rfl) (fun _ _ _ h => h) hPT (by rfl) ?_ ?_
          rotate_left
          · (intro w; go_simp; with_reducible rfl)
          (clear hPT; intro hPT; simp only [List.getElem_toArray, List.getElem_cons_zero, List.getElem_cons_succ, Act.put, List.setIfInBounds_toArray, List.set_cons_zero, List.set_cons_succ])
          refine plan_one (i := 10) (by kernel_rfl) rfl (by rfl) (fun K hK => ?_)
          (try simp only [List.getElem_toArray, List.getElem_cons_zero, List.getElem_cons_succ, Act.put, List.setIfInBounds_toArray, List.set_cons_zero, List.set_cons_succ])
          go_simp
          refine hK.out _ _ _ (t_cons (HCX.out _ (HA.out.kp.trans (HK5.out.alloc _))) (t_nil _)) k_same (fun hPT' => ?_)
          (clear hPT hK K; have hPT := hPT'; clear hPT'; try simp only [List.getElem_toArray, List.getElem_cons_zero, List.getElem_cons_succ, Act.put, List.setIfInBounds_toArray, List.set_cons_zero, List.set_cons_succ])
          refine plan_one (i := 11) (by kernel_rfl) rfl (by rfl) (fun K hK => ?_)
          (try simp only [List.getElem_toArray, List.getElem_cons_zero, List.getElem_cons_succ, Act.put, List.setIfInBounds_toArray, List.set_cons_zero, List.set_cons_succ])
          go_simp
          refine hK.out _ _ _ (t_cons (HCX.out _ (HA.out.kp.trans (HK5.out.alloc _))) (t_nil _)) k_same (fun hPT' => ?_)
          (clear hPT hK K; have hPT := hPT'; clear hPT'; try simp only [List.getElem_toArray, List.getElem_cons_zero, List.getElem_cons_succ, Act.put, List.setIfInBounds_toArray, List.set_cons_zero, List.set_cons_succ])
          refine plan_take (i := 12) (v := ?_) rfl (by kernel_rfl) (by kernel_rfl) (by kernel_rfl) (fun _ _ _ h => h) hPT (by rfl) ?_ ?_
          rotate_left
          · (intro w; go_simp; with_reducible rfl)
          (clear hPT; intro hPT; simp only [List.getElem_toArray, List.getElem_cons_zero, List.getElem_cons_succ, Act.put, List.setIfInBounds_toArray, List.set_cons_zero, List.set_cons_succ])
          refine plan_done (by kernel_rfl) ?_ _
          clear hPT
          obtain ⟨t, htt⟩ : ∃ t, w5.heap.size = t := ⟨_, rfl⟩
          have HQ6 := hide (show Blk (w5.alloc (.cells #[.slice A5 (lentL (backBL ln (-1 - x))).length c5, .slice B5 (lentL (backBL ln (-1 - x))).length d5] 26)) t 26 #[.slice A5 (lentL (backBL ln (-1 - x))).length c5, .slice B5 (lentL (backBL ln (-1 - x))).length d5] from Blk.at_ _ _ htt)
          have HK6 := hide (HK5.out.alloc (.cells #[.slice A5 (lentL (backBL ln (-1 - x))).length c5, .slice B5 (lentL (backBL ln (-1 - x))).length d5] 26))
          have HI6 := hide (HI5.out.no ((Kp.refl No w5).alloc (.cells #[.slice A5 (lentL (backBL ln (-1 - x))).length c5, .slice B5 (lentL (backBL ln (-1 - x))).length d5] 26)))
          have htx : X < t := by have := HK5.out.size; omega
          obtain ⟨W6, hW6⟩ : ∃ W6, w5.alloc (.cells #[.slice A5 (lentL (backBL ln (-1 - x))).length c5, .slice B5 (lentL (backBL ln (-1 - x))).length d5] 26) = W6 := ⟨_, rfl⟩
          rw [hW6] at HQ6 HK6 HI6
          rw [htt, hW6]
          clear HI5 HK5 htt hW6
        case' ordBz =>
          (try simp only [List.getElem_toArray, List.getElem_cons_zero, List.getElem_cons_succ, Act.put, List.setIfInBounds_toArray, List.set_cons_zero, List.set_cons_succ])
          go_simp
          obtain ⟨t, htt⟩ : ∃ t, wr.heap.size = t := ⟨_, rfl⟩
          have HQ0 := hide (show Blk (wr.alloc (.cells #[.slice none 0 0, .slice none 0 0] 26)).drew t 26 #[.slice none 0 0, .slice none 0 0] from (Blk.at_ _ _ htt).drew)
          have HKB := hide (show Kp No wr (wr.alloc (.cells #[.slice none 0 0, .slice none 0 0] 26)).drew from ((Kp.refl No wr).alloc _).drew)
          have htx : X < t := by omega
          have HGG := hide (show ∀ W' : World, t < W'.heap.size → ∀ b, W'.heap.size ≤ b → (¬ S b ∧ b ≠ X ∧ w.heap.size ≤ b) ∧ b ≠ t from fun W' h b hb => ⟨HNEW.out b (by omega), by omega⟩)
          have HRO := hide ((HA.out.ar.mono (F' := (fun b => (¬ S b ∧ b ≠ X ∧ w.heap.size ≤ b) ∧ b ≠ t)) fun b h1 h2 => ⟨h2, by omega⟩).no HKB.out)
          refine hK.out _ _ _ (t_cons (HKB.out.cell hcx id) (t_cons ⟨HKB.out.cell x1 id, HKB.out.cell x2 id⟩ (t_nil _))) k_same (fun hPT' => ?_)
          (clear hPT hK K; have hPT := hPT'; clear hPT'; try simp only [List.getElem_toArray, List.getElem_cons_zero, List.getElem_cons_succ, Act.put, List.setIfInBounds_toArray, List.set_cons_zero, List.set_cons_succ])
          refine plan_one (i := 6) (by kernel_rfl) rfl (by rfl) (fun K hK => ?_)
          (try simp only [List.getElem_toArray, List.getElem_cons_zero, List.getElem_cons_succ, Act.put, List.setIfInBounds_toArray, List.set_cons_zero, List.set_cons_succ])
          go_simp
          refine Calls.mono (rbback_any (F := (fun b => (¬ S b ∧ b ≠ X ∧ w.heap.size ≤ b) ∧ b ≠ t)) _ fr ln (-1 - x) _ HRO.out HB.out (HGG.out _ HQ0.out.lt)) ?_
          rintro e w5 ⟨v5, rfl, h5, hk5⟩
          have HK5 := hide (HKB.out.trans hk5)
          have HQ5 := hide (HQ0.out.kp hk5 id)
          have HI5 := hide h5
          obtain ⟨A5, c5, B5, d5, rfl⟩ := ar_slices h5
          obtain ⟨y1, y2, y3, y4, y5⟩ := HQ5.out.a2
          clear h5 hk5 x1 x2 x3 x4 x5
          refine hK.out _ _ _ (t_cons (HK5.out.cell hcx id) (t_nil _)) (k_keep (k_drop (by kernel_rfl) k_nil)) (fun hPT' => ?_)
          (clear hPT hK K; have hPT := hPT'; clear hPT'; try simp only [List.getElem_toArray, List.getElem_cons_zero, List.getElem_cons_succ, Act.put, List.setIfInBounds_toArray, List.set_cons_zero, List.set_cons_succ])
          refine plan_take (i := 7) (v := ?_) rfl (by kernel_rfl) (by kernel_rfl) (by kernel_rfl) (fun _ _ _ h => h) hPT (by rfl) ?_ ?_
          rotate_left
          · (intro w; go_simp; with_reducible rfl)
          (clear hPT; intro hPT; simp only [List.getElem_toArray, List.getElem_cons_zero, List.getElem_cons_succ, Act.put, List.setIfInBounds_toArray, List.set_cons_zero, List.set_cons_succ])
          refine plan_take (i := 8) (v := ?_) rfl (by kernel_rfl) (by kernel_rfl) (by kernel_rfl) (fun _ _ _ h => h) hPT (by rfl) ?_ ?_
          rotate_left
          · (intro w; go_simp; with_reducible rfl)
          (clear hPT; intro hPT; simp only [List.getElem_toArray, List.getElem_cons_zero, List.getElem_cons_succ, Act.put, List.setIfInBounds_toArray, List.set_cons_zero, List.set_cons_succ])
          refine plan_take (i := 9) (v := ?_) rfl (by kernel_rfl) (by kernel_rfl) (by kernel_rfl) (fun _ _ _ h => h) hPT (by rfl) ?_ ?_
          rotate_left
          · (intro w; go_simp; with_reducible rfl)
          (clear hPT; intro hPT; simp only [List.getElem_toArray, List.getElem_cons_zero, List.getElem_cons_succ, Act.put, List.setIfInBounds_toArray, List.set_cons_zero, List.set_cons_succ])
          refine plan_one (i := 11) (by kernel_rfl) rfl (by rfl) (fun K hK => ?_)
          (try simp only [List.getElem_toArray, List.getElem_cons_zero, List.getElem_cons_succ, Act.put, List.setIfInBounds_toArray, List.set_cons_zero, List.set_cons_succ])
          go_simp
          refine hK.out _ _ _ (t_cons (HCX.out _ ((HA.out.kp.trans HK5.out).trans' (show Kp (At t) _ _ from (kp_put _ _ _ _).trans (kp_put _ _ _ _)) fun b hb e => by unfold At at e; have := HA.out.kp.size; omega)) (t_nil _)) k_same (fun hPT' => ?_)
          (clear hPT hK K; have hPT := hPT'; clear hPT'; try simp only [List.getElem_toArray, List.getElem_cons_zero, List.getElem_cons_succ, Act.put, List.setIfInBounds_toArray, List.set_cons_zero, List.set_cons_succ])
          refine plan_take (i := 12) (v := ?_) rfl (by kernel_rfl) (by kernel_rfl) (by kernel_rfl) (fun _ _ _ h => h) hPT (by rfl) ?_ ?_
          rotate_left
          · (intro w; go_simp; with_reducible rfl)
          (clear hPT; intro hPT; simp only [List.getElem_toArray, List.getElem_cons_zero, List.getElem_cons_succ, Act.put, List.setIfInBounds_toArray, List.set_cons_zero, List.set_cons_succ])
          refine plan_done (by kernel_rfl) ?_ _
          clear hPT
          obtain ⟨W6, hW6⟩ : ∃ W6, (w5.setCell ⟨t, 0, none⟩ (.slice A5 (lentL (backBL ln (-1 - x))).length c5)).setCell ⟨t, 1, none⟩ (.slice B5 (lentL (backBL ln (-1 - x))).length d5) = W6 := ⟨_, rfl⟩
          have hk3 : Kp (At t) w5 W6 := by rw [← hW6]; exact (kp_put _ _ _ _).trans (kp_put _ _ _ _)
          have HQ6 := hide (show Blk W6 t 26 #[.slice A5 (lentL (backBL ln (-1 - x))).length c5, .slice B5 (lentL (backBL ln (-1 - x))).length d5] by rw [← hW6]; exact (HQ5.out.set_ 0 _).set_ 1 _)
          have HK6 := hide (HK5.out.trans' hk3 fun b hb e => by unfold At at e; omega)
          have HI6 := hide ((HI5.out.kp hk3 fun b hb e => hb.2 e).mono (F' := (fun b => ¬ S b ∧ b ≠ X ∧ w.heap.size ≤ b)) fun b _ h => h.1)
          rw [hW6]
          clear HI5 HK5 HQ5 HQ0 HKB HGG HRO htt hW6 hk3 y1 y2 y3 y4 y5
        all_goals
          obtain ⟨q0, q1⟩ : W6.cell? ⟨t, 0, none⟩ = some (.slice A5 (lentL (backBL ln (-1 - x))).length c5) ∧ W6.cell? ⟨t, 1, none⟩ = some (.slice B5 (lentL (backBL ln (-1 - x))).length d5) := ⟨HQ6.out.cell 0, HQ6.out.cell 1⟩
          obtain ⟨y1, y2, y3, y4, y5⟩ := (HA.out.blk.kp HK6.out id).a2
          obtain ⟨f1, f2, f3, f4⟩ := HA.out.put HK6.out HI6.out (fun b _ h => h)
          have hcx' := HCX.out W6 (HA.out.kp.trans HK6.out)
          have F1 := hide f1
          have F2 := hide f2
          have F3 := hide f3
          have F4 := hide f4
          clear f1 f2 f3 f4
          obtain ⟨W7, hW7⟩ : ∃ W7, (W6.setCell ⟨X, 0, none⟩ (.slice A5 (lentL (backBL ln (-1 - x))).length c5)).setCell ⟨X, 1, none⟩ (.slice B5 (lentL (backBL ln (-1 - x))).length d5) = W7 := ⟨_, rfl⟩
          rw [hW7] at F1 F2 F3 F4
          have hcx7 := HCX.out W7 F4.out
          have HW7 := hide hW7
          clear hW7 hcx
          go_upto_region 14 with fail
          rw [HW7.out]
          go_wp2_with fail
          refine Calls.mono (bback_any (m := k) (-1 - x) W7 (F1.out.mono (S' := fun b => S b ∨ W7.heap.size ≤ b) fun b _ h => .inl h) HB.out (by unfold W64; omega) (fun b hb => .inr hb)) ?_
          rintro e w8 ⟨rfl, hf8, hk8⟩
          have HA8 := hide (BAl.mk_ HA.out.far HA.out.ge F2.out F3.out F4.out (hf8.more (Nat.le_succ k)) hk8)
          have HG8 := hide (HH.out.no HA8.out.kp)
          clear hf8 hk8 y1 y2 y3 y4 y5 q0 q1 hcx' hcx7
          have HE := hide (fun (W : World) (h : Handle W) => error_any (backBE ln (-1 - x)) (backBE ln (-1 - x) : Nat) W h (backBE_le _ _))
          rw [HFS.out] at HNX
          obtain ⟨fe, hfe⟩ : ∃ fe, backBE ln (-1 - x) = fe := ⟨_, rfl⟩
          obtain ⟨fr', hfr'⟩ : ∃ fr', backBF fr ln (-1 - x) = fr' := ⟨_, rfl⟩
          obtain ⟨ln', hln'⟩ : ∃ ln', backBL ln (-1 - x) = ln' := ⟨_, rfl⟩
          rw [hfr', hln'] at HNX
          rw [HNX.out] at HB'
          rw [hfr', hln'] at HA8
          rw [hfe] at HE ⊢
          obtain ⟨er, her⟩ : ∃ er, errV fe = er := ⟨_, rfl⟩
          rw [her] at HE ⊢
          simp only [hln'] at *
          clear hfe her hfr' hln'
          go_wp2_with fail
          refine Calls.mono (HE.out _ HG8.out) ?_
          rintro e w9 ⟨rfl, hk9⟩
          have HA9 := hide (HA8.out.no hk9)
          clear hk9
          clear HE HG8 HFS
      all_goals
        have HLN := hide (show (lentL ln').length ≤ 64 from lentTo_len ln' 64)
        have HLE := hide (show ∀ b ∈ lentL ln', b.1 < 64 ∧ b.2 ≤ 6 from fun b hb => ⟨(mem_lentTo.1 hb).1, (HB'.out.lal _ _ (mem_lentTo.1 hb).2).1⟩)
        go_wp2_with fail
        refine Calls.mono (blent_any w9 HA9.out.fit (fun a o h => (HB'.out.lal a o h).1)) ?_
        intro e w10 hot
        obtain ⟨v1, v2, rfl, i1, i2, hk10⟩ := hot.post
        clear hot
        have HA10 := hide (HA9.out.no hk10)
        have I1 := hide i1
        have I2 := hide i2
        have HAA := hide (bar_at HA10.out.ar)
        obtain ⟨z0, z1⟩ : w10.cell? ⟨X, 0, none⟩ = some (.slice A5 (lentL ln').length c5) ∧ w10.cell? ⟨X, 1, none⟩ = some (.slice B5 (lentL ln').length d5) := ⟨HA10.out.blk.cell 0, HA10.out.blk.cell 1⟩
        clear i1 i2 hk10
        go_wp2_with fail
        refine Calls.mono (ints_any _ _ _ _ _ I1.out HAA.out.1) ?_
        rw [eqB_same]
        rintro e w13 ⟨rfl, n13, hn13⟩
        have HK13 := hide (show Kp No w10 w13 by rw [hn13]; exact (Kp.refl No w10).drewN _)
        have z0' := HK13.out.cell z0 id
        have z1' := HK13.out.cell z1 id
        clear hn13
        go_wp2_with fail
        refine Calls.mono (ints_any _ _ _ _ _ (I2.out.no HK13.out) (HAA.out.2.no HK13.out)) ?_
        rw [eqB_same]
        rintro e w14 ⟨rfl, n14, hn14⟩
        have HK14 := hide (HK13.out.trans (show Kp No w13 w14 by rw [hn14]; exact (Kp.refl No w13).drewN _))
        have HA14 := hide (HA10.out.no HK14.out)
        clear hn14 z0 z1 z0' z1'
        go_wp2_with fail
        have hx14 := HA14.out.blk.lt
        go_loopw [15] (fun q wr => ∃ j : Nat, q = .int .i64 j ∧ j ≤ 7 ∧ Hid (Kp No w14 wr)) (fun q _ => 7 - (intOf q).toNat)
        case atStart => exact ⟨0, rfl, by omega, Kp.refl _ _⟩
        case round =>
          obtain ⟨j, rfl, hj, hki⟩ := hrel
          have HA15 := hide (HA14.out.no hki.out)
          by_cases hj6 : j ≤ 6
          · have hj6' : (j : Int) ≤ 6 := by omega
            have HRF := hide (show ∀ (va : Value) (W : World), ArIs W (fun b => ¬ (S b ∨ W7.heap.size ≤ b) ∧ b ≠ X ∧ w.heap.size ≤ b) va (lentL ln') → Calls Tryd.prog 23 #[va, .int .i64 (j : Nat)] W fun e w' => ∃ v', e = .returned v' ∧ IntsIn w' (Hi W.heap.size) v' (ni (fr' j)) ∧ Kp No W w' from fun va W h => by
              have := rfrees_any va (lentL ln') j W h hj6 HLE.out
              rw [HB'.out.ref (L := lentL ln') (fun b => mem_lentTo) hj6] at this
              exact this)
            obtain ⟨x1, x2, x3, x4, x5⟩ := HA15.out.blk.a2
            go_wp2_with fail
            refine plan_start 8 (by kernel_rfl) rfl (fun hPT => ?_)
            refine plan_take (i := 0) (v := ?_) rfl (by kernel_rfl) (by kernel_rfl) (by kernel_rfl) (fun _ _ _ h => h) hPT (by rfl) ?_ ?_
            rotate_left
            · (intro w; go_simp; with_reducible rfl)
            (clear hPT; intro hPT; simp only [List.getElem_toArray, List.getElem_cons_zero, List.getElem_cons_succ, Act.put, List.setIfInBounds_toArray, List.set_cons_zero, List.set_cons_succ])
            refine plan_take (i := 1) (v := ?_) rfl (by kernel_rfl) (by kernel_rfl) (by kernel_rfl) (fun _ _ _ h => h) hPT (by rfl) ?_ ?_
            rotate_left
            · (intro w; go_simp; with_reducible rfl)
            (clear hPT; intro hPT; simp only [List.getElem_toArray, List.getElem_cons_zero, List.getElem_cons_succ, Act.put, List.setIfInBounds_toArray, List.set_cons_zero, List.set_cons_succ])
            refine plan_take (i := 4) (v := ?_) rfl (by kernel_rfl) (by kernel_rfl) (by kernel_rfl) (fun _ _ _ h => h) hPT (by rfl) ?_ ?_
            rotate_left
            · (intro w; go_simp; with_reducible rfl)
            (clear hPT; intro hPT; simp only [List.getElem_toArray, List.getElem_cons_zero, List.getElem_cons_succ, Act.put, List.setIfInBounds_toArray, List.set_cons_zero, List.set_cons_succ])
            refine plan_load (fun w' => w'.cell? ⟨X, 0, none⟩ = some (.slice A5 (lentL ln').length c5) ∧ w'.cell? ⟨X, 1, none⟩ = some (.slice B5 (lentL ln').length d5)) (i := 3) (v := ?_) rfl (by kernel_rfl) (by kernel_rfl) (by kernel_rfl) (fun _ _ _ h => h) hPT (by rfl) ?_ ?_ ?_
            rotate_left
            · (first | exact ⟨by assumption, by assumption⟩ | (go_simp; done))
            · (intro w hSw; (try dsimp only at hSw); obtain ⟨hSw1, hSw2⟩ := hSw; go_simp; with_reducible rfl)
            (clear hPT; intro hPT; simp only [List.getElem_toArray, List.getElem_cons_zero, List.getElem_cons_succ, Act.put, List.setIfInBounds_toArray, List.set_cons_zero, List.set_cons_succ])
            refine plan_one (i := 2) (by kernel_rfl) rfl (by rfl) (fun K hK => ?_)
            (try simp only [List.getElem_toArray, List.getElem_cons_zero, List.getElem_cons_succ, Act.put, List.setIfInBounds_toArray, List.set_cons_zero, List.set_cons_succ])
            go_simp
            refine Calls.mono (bfree_ok j hj6 _ (HA15.out.fit.no (by (repeat (first | exact Kp.refl _ _ | with_reducible refine Kp.drewN ?_ _ | with_reducible refine Kp.drew ?_ | with_reducible refine Kp.alloc ?_ _ | with_reducible refine Kp.setCell ?_ (fun _ => ?_) _)); all_goals (simp_all; omega))) (fun k hk => HB'.out.len hk)) ?_
            rintro e wa ⟨va1, rfl, ia, hka⟩
            have HKa := hide ((show Kp No wr _ from (by (repeat (first | exact Kp.refl _ _ | with_reducible refine Kp.drewN ?_ _ | with_reducible refine Kp.drew ?_ | with_reducible refine Kp.alloc ?_ _ | with_reducible refine Kp.setCell ?_ (fun _ => ?_) _)); all_goals (simp_all; omega))).trans hka)
            have Ia := hide ia
            clear ia hka
            refine hK.out _ _ _ (t_cons ⟨HKa.out.cell x1 id, HKa.out.cell x2 id⟩ (t_nil _)) k_same (fun hPT' => ?_)
            (clear hPT hK K; have hPT := hPT'; clear hPT'; try simp only [List.getElem_toArray, List.getElem_cons_zero, List.getElem_cons_succ, Act.put, List.setIfInBounds_toArray, List.set_cons_zero, List.set_cons_succ])
            refine plan_one (i := 5) (by kernel_rfl) rfl (by rfl) (fun K hK => ?_)
            (try simp only [List.getElem_toArray, List.getElem_cons_zero, List.getElem_cons_succ, Act.put, List.setIfInBounds_toArray, List.set_cons_zero, List.set_cons_succ])
            go_simp
            refine Calls.mono (HRF.out _ _ (HA15.out.ar.no HKa.out)) ?_
            rintro e wb ⟨vb1, rfl, ib, hkb⟩
            have HKb := hide (HKa.out.trans hkb)
            have Ib := hide ib
            have Ia' := hide (Ia.out.no hkb)
            clear ib hkb
            refine hK.out [] _ _ (t_nil _) (k_drop (by kernel_rfl) k_nil) (fun hPT' => ?_)
            (clear hPT hK K; have hPT := hPT'; clear hPT'; try simp only [List.getElem_toArray, List.getElem_cons_zero, List.getElem_cons_succ, Act.put, List.setIfInBounds_toArray, List.set_cons_zero, List.set_cons_succ])
            refine plan_one (i := 6) (by kernel_rfl) rfl (by rfl) (fun K hK => ?_)
            (try simp only [List.getElem_toArray, List.getElem_cons_zero, List.getElem_cons_succ, Act.put, List.setIfInBounds_toArray, List.set_cons_zero, List.set_cons_succ])
            go_simp
            refine Calls.mono (ints_any _ _ _ _ _ Ia'.out Ib.out) ?_
            rw [eqB_same]
            rintro e wc ⟨rfl, nc, hnc⟩
            have HKc := hide (HKb.out.trans (show Kp No wb wc by rw [hnc]; exact (Kp.refl No wb).drewN _))
            clear hnc
            refine hK.out [] _ _ (t_nil _) k_nil (fun hPT' => ?_)
            (clear hPT hK K; have hPT := hPT'; clear hPT'; try simp only [List.getElem_toArray, List.getElem_cons_zero, List.getElem_cons_succ, Act.put, List.setIfInBounds_toArray, List.set_cons_zero, List.set_cons_succ])
            refine plan_take (i := 7) (v := ?_) rfl (by kernel_rfl) (by kernel_rfl) (by kernel_rfl) (fun _ _ _ h => h) hPT (by rfl) ?_ ?_
            rotate_left
            · (intro w; go_simp; with_reducible rfl)
            (clear hPT; intro hPT; simp only [List.getElem_toArray, List.getElem_cons_zero, List.getElem_cons_succ, Act.put, List.setIfInBounds_toArray, List.set_cons_zero, List.set_cons_succ])
            refine plan_done (by kernel_rfl) ?_ _
            clear hPT
            go_wp2_with fail
            exact ⟨⟨j + 1, by go_num, by omega, hki.out.trans HKc.out⟩, by simp [intOf]; omega⟩
          · obtain rfl : j = 7 := by omega
            have HNX' := hide (show BAl w p X (.slice A5 (lentL ln').length c5) (.slice B5 (lentL ln').length d5) (budRun steps (k + 1)).1 (budRun steps (k + 1)).2 (k + 1) _ wr by rw [HNX.out]; exact HA15.out)
            go_wp2_with fail
            exact ⟨⟨k + 1, _, _, _, by go_num, hlt, hlt100, HNX'⟩, by simp [intOf]; omega⟩
    · have hf : (decide ((k : Int) < (steps.length : Int)) && decide ((k : Int) < 100)) = false := by
        rw [Bool.and_eq_false_iff]
        by_cases h1 : k < steps.length
        · right; exact decide_eq_false (by omega)
        · left; exact decide_eq_false (by omega)
      have HB := hide (bud_run steps k hk)
      have HKW := hide HA.out.kp
      have HFX := hide (fun (x : Int) (hx : btw x 0 6 = false) (W : World) (hW : Kp No wr W) => (show Calls Tryd.prog 22 #[.pointer (some ⟨p, 0, none⟩), .int .i64 x] W fun e w' => ∃ v, e = .returned v ∧ ∃ A c, v = .slice A 0 c ∧ Kp No W w' from by
        refine (bfree_any x W (HA.out.fit.no hW) (fun k hk => HB.out.len hk)).mono ?_
        rw [hx]
        rintro e w' ⟨v, rfl, ho, hk⟩
        obtain ⟨_, A, c, rfl, _⟩ := own_form ho
        exact ⟨_, rfl, A, c, rfl, hk⟩))
      have HF1 := hide (HFX.out (-1) (by decide) wr (Kp.refl _ _))
      have HF7 := hide (HFX.out 7 (by decide))
      clear HFX
      rcases Nat.lt_or_ge k steps.length with h1 | h1
      · have h2 : ¬ (k : Int) < 100 := by omega
        have h1' : (k : Int) < (steps.length : Int) := by omega
        clear hlt
        go_wp2_with fail
        refine Calls.mono HF1.out ?_
        rintro e w8 ⟨v8, rfl, A8, c8, rfl, hk8⟩
        have HK8 := hide (HKW.out.trans hk8)
        have HF7' := hide (HF7.out w8 hk8)
        clear hk8
        go_wp2_with fail
        refine Calls.mono HF7'.out ?_
        rintro e w9 ⟨v9, rfl, A9, c9, rfl, hk9⟩
        have HK9 := hide (HK8.out.trans hk9)
        clear hk9
        go_wp2_with fail
        go_ret
        exact ⟨rfl, HK9.out⟩
      · have h1' : ¬ (k : Int) < (steps.length : Int) := by omega
        clear hlt
        go_wp2_with fail
        refine Calls.mono HF1.out ?_
        rintro e w8 ⟨v8, rfl, A8, c8, rfl, hk8⟩
        have HK8 := hide (HKW.out.trans hk8)
        have HF7' := hide (HF7.out w8 hk8)
        clear hk8
        go_wp2_with fail
        refine Calls.mono HF7'.out ?_
        rintro e w9 ⟨v9, rfl, A9, c9, rfl, hk9⟩
        have HK9 := hide (HK8.out.trans hk9)
        clear hk9
        go_wp2_with fail
        go_ret
        exact ⟨rfl, HK9.out⟩
end Go.Proofs.YtibdddkcjijlaaaDoor
