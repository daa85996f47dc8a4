/- The law FitPlays, walked: of all steps. -/
import Derived.Test.YtfhfakkdilngbaaDoorFitRHoles
import Derived.Test.YtfhfakkdilngbaaDoorFitPacked
import Derived.Test.YtfhfakkdilngbaaDoorFitFirst
import Derived.Deep.Cut
namespace Go.Proofs.YtfhfakkdilngbaaDoor
open Go.RowKit
set_option linter.unusedSimpArgs false

/-- the program's arena at p, the reference's at X, alike; nothing of w0 has changed -/
structure FAl (w0 : World) (p X : Nat) (va vb : Value) (bs : List (Nat × Nat)) (S : Nat → Prop) (w : World) : Prop where
  fit : FitIs w p S bs
  ar : ArIs w (fun b => ¬ S b ∧ b ≠ X ∧ w0.heap.size ≤ b) (.agg #[va, vb]) bs
  blk : Blk w X 37 #[va, vb]
  far : ∀ b, S b → w0.heap.size ≤ b ∧ b ≠ X
  ge : w0.heap.size ≤ X
  kp : Kp No w0 w
/-- only blocks that stand, and fresh ones, are of S -/
theorem FAl.fresh {w0 w : World} {p X : Nat} {va vb : Value} {bs : List (Nat × Nat)} {S : Nat → Prop} (h : FAl w0 p X va vb bs S w) : FAl w0 p X va vb bs (fun b => (S b ∧ b < w.heap.size) ∨ w.heap.size ≤ b) w :=
  ⟨h.fit.to fun b h1 h2 => .inl ⟨h2, h1⟩, h.ar.mono fun b h1 h2 => ⟨fun e => by rcases e with e | e; exact h2.1 e.1; omega, h2.2⟩, h.blk,
    fun b hb => by
      rcases hb with e | e
      · exact h.far b e.1
      · have := h.kp.size; have := h.blk.lt; exact ⟨by omega, by omega⟩, h.ge, h.kp⟩
theorem FAl.old {w0 w : World} {p X : Nat} {va vb : Value} {bs : List (Nat × Nat)} {S : Nat → Prop} (h : FAl w0 p X va vb bs S w) : FAl w0 p X va vb bs (fun b => (S b ∧ b < w.heap.size)) w :=
  ⟨h.fit.to fun b h1 h2 => ⟨h2, h1⟩, h.ar.mono fun b h1 h2 => ⟨fun e => h2.1 e.1, h2.2⟩, h.blk, fun b hb => h.far b hb.1, h.ge, h.kp⟩
theorem FAl.no {w0 w w' : World} {p X : Nat} {va vb : Value} {bs : List (Nat × Nat)} {S : Nat → Prop} (h : FAl w0 p X va vb bs S w) (hk : Kp No w w') : FAl w0 p X va vb bs S w' :=
  ⟨h.fit.no hk, h.ar.no hk, h.blk.kp hk id, h.far, h.ge, h.kp.trans hk⟩
/-- the reference's arena is another -/
theorem FAl.put {w0 w w' : World} {p X : Nat} {va vb : Value} {bs bs' : List (Nat × Nat)} {S : Nat → Prop} {F : Nat → Prop} (h : FAl w0 p X va vb bs S w) (hk : Kp No w w') {A B : Option Addr} {n c m d : Nat}
    (ha : ArIs w' F (.agg #[.slice A n c, .slice B m d]) bs') (hF : ∀ b, b < w'.heap.size → F b → ¬ S b ∧ b ≠ X ∧ w0.heap.size ≤ b) :
    FitIs ((w'.setCell ⟨X, 0, none⟩ (.slice A n c)).setCell ⟨X, 1, none⟩ (.slice B m d)) p S bs ∧ ArIs ((w'.setCell ⟨X, 0, none⟩ (.slice A n c)).setCell ⟨X, 1, none⟩ (.slice B m d)) (fun b => ¬ S b ∧ b ≠ X ∧ w0.heap.size ≤ b) (.agg #[.slice A n c, .slice B m d]) bs' ∧
    Blk ((w'.setCell ⟨X, 0, none⟩ (.slice A n c)).setCell ⟨X, 1, none⟩ (.slice B m d)) X 37 #[.slice A n c, .slice B m d] ∧ Kp No w0 ((w'.setCell ⟨X, 0, none⟩ (.slice A n c)).setCell ⟨X, 1, none⟩ (.slice B m d)) := by
  have hkk : Kp (At X) w' ((w'.setCell ⟨X, 0, none⟩ (.slice A n c)).setCell ⟨X, 1, none⟩ (.slice B m d)) := (kp_put _ _ _ _).trans (kp_put _ _ _ _)
  have hb := (h.blk.kp hk id)
  exact ⟨(h.fit.no hk).kp hkk fun b hb e => (h.far b hb).2 e, (ha.mono hF).kp hkk fun b hb e => hb.2.1 e, (hb.set_ 0 _).set_ 1 _, (h.kp.trans hk).trans' hkk fun b hb e => by unfold At at e; have := h.ge; omega⟩

theorem FAl.mk_ {w0 W7 w8 : World} {p X : Nat} {va vb : Value} {bs2 : List (Nat × Nat)} {S : Nat → Prop} (far : ∀ b, S b → w0.heap.size ≤ b ∧ b ≠ X) (ge : w0.heap.size ≤ X)
    (f2 : ArIs W7 (fun b => ¬ S b ∧ b ≠ X ∧ w0.heap.size ≤ b) (.agg #[va, vb]) bs2) (f3 : Blk W7 X 37 #[va, vb]) (f4 : Kp No w0 W7)
    (hf8 : FitIs w8 p (fun b => S b ∨ W7.heap.size ≤ b) bs2) (hk8 : Kp (fun b => S b ∨ W7.heap.size ≤ b) W7 w8) : FAl w0 p X va vb bs2 (fun b => S b ∨ W7.heap.size ≤ b) w8 := by
  have hX := f3.lt
  have hs := f4.size
  have hfar : ∀ b, S b ∨ W7.heap.size ≤ b → w0.heap.size ≤ b ∧ b ≠ X := fun b hb => by
    rcases hb with e | e
    · exact far b e
    · exact ⟨by omega, by omega⟩
  refine ⟨hf8, (f2.mono fun b h1 h2 => (⟨fun e => ?_, h2.2⟩ : ¬ (S b ∨ W7.heap.size ≤ b) ∧ b ≠ X ∧ w0.heap.size ≤ b)).kp hk8 fun b hb => hb.1, f3.kp hk8 fun e => (hfar X e).2 rfl, hfar, ge, f4.trans' hk8 fun b hb e => by have := (hfar b e).1; omega⟩
  rcases e with e | e
  · exact h2.1 e
  · omega
theorem ar_at {w : World} {F : Nat → Prop} {a b : Value} {bs : List (Nat × Nat)} (h : ArIs w F (.agg #[a, b]) bs) : IntsIn w F a (fsts bs) ∧ IntsIn w F b (snds bs) := by
  obtain ⟨a', b', e, h1, h2⟩ := h
  injection e with e
  injection e with e
  injection e with e1 e
  injection e with e2 e
  subst e1 e2
  exact ⟨h1, h2⟩
theorem eqB_refl (xs : List Int) : eqB xs xs = true := decide_eq_true rfl
theorem fl_le (bs : List (Nat × Nat)) (x : Int) : flE bs x ≤ 100 := by
  unfold flE
  split
  · omega
  · split <;> omega
theorem back_le (bs : List (Nat × Nat)) (x : Int) : backE bs x ≤ 100 := by
  unfold backE
  split <;> omega

set_option maxRecDepth 100000 in
set_option maxHeartbeats 16000000 in
theorem fitPlays_any {F : Nat → Prop} (v : Value) (steps : List Int) (w : World) (hv : IntsIn w F v steps) (hr : ∀ x ∈ steps, -9223372036854775808 ≤ x ∧ x ≤ 9223372036854775807) (hh : Handle w) :
    Calls Tryd.prog 4 #[v] w fun e w' => e = .returned (.bool true) ∧ Kp No w w' := by
  have HV := hide (hv.mono (F' := Lo w.heap.size) fun k h _ => h)
  have HR := hide hr
  have HH := hide hh
  obtain ⟨Av, cv, rfl, hcv, hmv, _⟩ := id hv
  clear hv hr hh
  go_enter Tryd.func4, Tryd.ntmps4
  go_wp2_with fail
  refine Calls.mono (fnew_any w) ?_
  rintro e w1 ⟨rfl, hf1, hk1⟩
  obtain ⟨p, hp⟩ : ∃ p, w.heap.size = p := ⟨_, rfl⟩
  obtain ⟨X, hX⟩ : ∃ X, w1.heap.size = X := ⟨_, rfl⟩
  have HX := hide hX
  have HP := hide hp
  have HA1 := hide (show FAl w p X (.slice none 0 0) (.slice none 0 0) [] (fun b => w.heap.size ≤ b ∧ b < X) (w1.alloc (.cells #[.slice none 0 0, .slice none 0 0] 37)) from by
    have hk : Kp No w1 (w1.alloc (.cells #[.slice none 0 0, .slice none 0 0] 37)) := (Kp.refl No w1).alloc _
    rw [← hp, ← hX]
    refine ⟨(hf1.to fun b h1 h2 => ⟨h2, h1⟩).no hk, ⟨_, _, rfl, IntsIn.nil_ _ _, IntsIn.nil_ _ _⟩, Blk.new w1 _ _, fun b hb => ⟨hb.1, by have := hb.2; omega⟩, hk1.size, hk1.trans hk⟩)
  clear hf1 hk1
  go_wp2_with fail

  obtain ⟨W1, hW1⟩ : ∃ W1, w1.alloc (.cells #[.slice none 0 0, .slice none 0 0] 37) = W1 := ⟨_, rfl⟩
  rw [hW1] at HA1 ⊢
  clear hW1 hX hp
  go_loopw [5] (fun q wr => ∃ (k : Nat) (va vb : Value) (S : Nat → Prop), q = .int .i64 k ∧ k ≤ steps.length ∧ k ≤ 100 ∧ Hid (FAl w p X va vb (fitRun steps k) S wr)) (fun q _ => 100 - (intOf q).toNat)
  case atStart => exact ⟨0, _, _, _, rfl, Nat.zero_le _, by omega, HA1⟩
  case round =>
    obtain ⟨k, va, vb, S0, rfl, hk, hk100, ha0⟩ := hrel
    obtain ⟨S, hS⟩ : ∃ S, (fun b => (S0 b ∧ b < wr.heap.size)) = S := ⟨_, rfl⟩
    have HA := hide (show FAl w p X va vb (fitRun steps k) S wr by rw [← hS]; exact ha0.out.old)
    have HSL := hide (show ∀ b, wr.heap.size ≤ b → ¬ S b from fun b hb h => by rw [← hS] at h; have := h.2; omega)
    clear ha0 hS
    by_cases hlt : k < steps.length ∧ k < 100
    · obtain ⟨hlt, hlt100⟩ := hlt
      have HLI := hide (lie_run steps k hk)
      have HLN := hide (show (fitRun steps k).length ≤ 64 from by have := HLI.out.len; omega)
      have HNX := hide (fitRun_succ hlt)
      have HNEW := hide (show ∀ b, wr.heap.size ≤ b → ¬ S b ∧ b ≠ X ∧ w.heap.size ≤ b from fun b hb => by
        have h1 := HA.out.blk.lt
        have h2 := HA.out.kp.size
        exact ⟨HSL.out b hb, by omega, by omega⟩)
      have hxb := HR.out _ (List.getElem_mem hlt)
      obtain ⟨_, _, e, _, _, hcell⟩ := HV.out.no HA.out.kp
      cases e
      obtain ⟨b, o, rfl, hbl, hcx⟩ := hcell k hlt
      have HCX := hide (show ∀ W, Kp No w W → W.cell? ⟨b, o + k, none⟩ = some (.int .i64 steps[k]) from fun W hW => by
        obtain ⟨_, _, e, _, _, hcell⟩ := HV.out.no hW
        cases e
        obtain ⟨b', o', e, _, c'⟩ := hcell k hlt
        cases e
        exact c')
      obtain ⟨x, hx⟩ : ∃ x, steps[k] = x := ⟨_, rfl⟩
      rw [hx] at hcx hxb HNX HCX
      obtain ⟨Aa, ca, Ab, cb, hva⟩ := ar_slices HA.out.ar
      injection hva with hva
      injection hva with hva
      injection hva with hva1 hva
      injection hva with hva2 hva
      subst hva1 hva2
      clear hva
      obtain ⟨x1, x2, x3, x4, x5⟩ := HA.out.blk.a2
      have hpx := HA.out.blk.lt
      clear hcell hx
      have hkl : (k : Int) < (steps.length : Int) := by omega
      have hk1 : (k : Int) < 100 := by omega
      by_cases hx0 : 0 < x
      · have HFS := hide (show fitStep (fitRun steps k) x = flB (fitRun steps k) x by unfold fitStep; rw [if_pos hx0])
        go_wp2_with fail
        refine plan_start 14 (by kernel_rfl) rfl (fun hPT => ?_)
        refine plan_take (i := 1) (v := ?_) rfl (by kernel_rfl) (by kernel_rfl) (by kernel_rfl) (fun _ _ _ h => h) hPT (by rfl) ?_ ?_
        rotate_left
        · (intro w; go_simp; with_reducible rfl)
        (clear hPT; intro hPT; simp only [List.getElem_toArray, List.getElem_cons_zero, List.getElem_cons_succ, Act.put, List.setIfInBounds_toArray, List.set_cons_zero, List.set_cons_succ])
        refine plan_take (i := 2) (v := ?_) rfl (by kernel_rfl) (by kernel_rfl) (by kernel_rfl) (fun _ _ _ h => h) hPT (by rfl) ?_ ?_
        rotate_left
        · (intro w; go_simp; with_reducible rfl)
        (clear hPT; intro hPT; simp only [List.getElem_toArray, List.getElem_cons_zero, List.getElem_cons_succ, Act.put, List.setIfInBounds_toArray, List.set_cons_zero, List.set_cons_succ])
        refine plan_load (fun w' => w'.cell? ⟨X, 0, none⟩ = some (.slice Aa (fitRun steps k).length ca) ∧ w'.cell? ⟨X, 1, none⟩ = some (.slice Ab (fitRun steps k).length cb)) (i := 0) (v := ?_) rfl (by kernel_rfl) (by kernel_rfl) (by kernel_rfl) (fun _ _ _ h => h) hPT (by rfl) ?_ ?_ ?_
        rotate_left
        · (first | exact ⟨by assumption, by assumption⟩ | (go_simp; done))
        · (intro w hSw; (try dsimp only at hSw); obtain ⟨hSw1, hSw2⟩ := hSw; go_simp; with_reducible rfl)
        (clear hPT; intro hPT; simp only [List.getElem_toArray, List.getElem_cons_zero, List.getElem_cons_succ, Act.put, List.setIfInBounds_toArray, List.set_cons_zero, List.set_cons_succ])
        refine plan_take (i := 3) (v := ?_) rfl (by kernel_rfl) (by kernel_rfl) (by kernel_rfl) (fun _ _ _ h => h) hPT (by rfl) ?_ ?_
        rotate_left
        · (intro w; go_simp; with_reducible rfl)
        (clear hPT; intro hPT; simp only [List.getElem_toArray, List.getElem_cons_zero, List.getElem_cons_succ, Act.put, List.setIfInBounds_toArray, List.set_cons_zero, List.set_cons_succ])
        refine plan_load (fun w' => w'.cell? ⟨b, o + k, none⟩ = some (.int .i64 x)) (i := 4) (v := ?_) rfl (by kernel_rfl) (by kernel_rfl) (by kernel_rfl) (fun _ _ _ h => h) hPT (by rfl) ?_ ?_ ?_
        rotate_left
        · (first | assumption | (go_simp; done))
        · (intro w hSw; (try dsimp only at hSw); go_simp; with_reducible rfl)
        (clear hPT; intro hPT; simp only [List.getElem_toArray, List.getElem_cons_zero, List.getElem_cons_succ, Act.put, List.setIfInBounds_toArray, List.set_cons_zero, List.set_cons_succ])
        refine plan_two (i := 5) (j := 10) (by kernel_rfl) rfl rfl (by rfl) (by rfl) (fun K hK => ?ordA) (fun K hK => ?ordB)
        case' ordA =>
          (try simp only [List.getElem_toArray, List.getElem_cons_zero, List.getElem_cons_succ, Act.put, List.setIfInBounds_toArray, List.set_cons_zero, List.set_cons_succ])
          go_simp
          refine Calls.mono (rlend_any (F := (fun b => ¬ S b ∧ b ≠ X ∧ w.heap.size ≤ b)) _ (fitRun steps k) x _ (HA.out.ar.no (by (repeat (first | exact Kp.refl _ _ | with_reducible refine Kp.drewN ?_ _ | with_reducible refine Kp.drew ?_ | with_reducible refine Kp.alloc ?_ _ | with_reducible refine Kp.setCell ?_ (fun _ => ?_) _)); all_goals (simp_all; omega))) HLI.out (fun b hb => HNEW.out b (by simpa using hb))) ?_
          rintro e w5 ⟨v5, rfl, h5, hk5⟩
          have HK5 := hide ((show Kp No wr _ from (by (repeat (first | exact Kp.refl _ _ | with_reducible refine Kp.drewN ?_ _ | with_reducible refine Kp.drew ?_ | with_reducible refine Kp.alloc ?_ _ | with_reducible refine Kp.setCell ?_ (fun _ => ?_) _)); all_goals (simp_all; omega))).trans hk5)
          have HI5 := hide h5
          obtain ⟨A5, c5, B5, d5, rfl⟩ := ar_slices h5
          clear h5 hk5 x1 x2 x3 x4 x5
          refine hK.out [] _ _ (t_nil _) (k_drop (by kernel_rfl) (k_drop (by kernel_rfl) k_nil)) (fun hPT' => ?_)
          (clear hPT hK K; have hPT := hPT'; clear hPT'; try simp only [List.getElem_toArray, List.getElem_cons_zero, List.getElem_cons_succ, Act.put, List.setIfInBounds_toArray, List.set_cons_zero, List.set_cons_succ])
          refine plan_take (i := 6) (v := ?_) rfl (by kernel_rfl) (by kernel_rfl) (by kernel_rfl) (fun _ _ _ h => h) hPT (by rfl) ?_ ?_
          rotate_left
          · (intro w; go_simp; with_reducible rfl)
          (clear hPT; intro hPT; simp only [List.getElem_toArray, List.getElem_cons_zero, List.getElem_cons_succ, Act.put, List.setIfInBounds_toArray, List.set_cons_zero, List.set_cons_succ])
          refine plan_take (i := 7) (v := ?_) rfl (by kernel_rfl) (by kernel_rfl) (by kernel_rfl) (fun _ _ _ h => h) hPT (by rfl) ?_ ?_
          rotate_left
          · (intro w; go_simp; with_reducible rfl)
          (clear hPT; intro hPT; simp only [List.getElem_toArray, List.getElem_cons_zero, List.getElem_cons_succ, Act.put, List.setIfInBounds_toArray, List.set_cons_zero, List.set_cons_succ])
          refine plan_take (i := 8) (v := ?_) rfl (by kernel_rfl) (by kernel_rfl) (by kernel_rfl) (fun _ _ _ h => h) hPT (by rfl) ?_ ?_
          rotate_left
          · (intro w; go_simp; with_reducible rfl)
          (clear hPT; intro hPT; simp only [List.getElem_toArray, List.getElem_cons_zero, List.getElem_cons_succ, Act.put, List.setIfInBounds_toArray, List.set_cons_zero, List.set_cons_succ])
          refine plan_take (i := 9) (v := ?_) rfl (by kernel_rfl) (by kernel_rfl) (by kernel_rfl) (fun _ _ _ h => h) hPT (by rfl) ?_ ?_
          rotate_left
          · (intro w; go_simp; with_reducible rfl)
          (clear hPT; intro hPT; simp only [List.getElem_toArray, List.getElem_cons_zero, List.getElem_cons_succ, Act.put, List.setIfInBounds_toArray, List.set_cons_zero, List.set_cons_succ])
          refine plan_one (i := 10) (by kernel_rfl) rfl (by rfl) (fun K hK => ?_)
          (try simp only [List.getElem_toArray, List.getElem_cons_zero, List.getElem_cons_succ, Act.put, List.setIfInBounds_toArray, List.set_cons_zero, List.set_cons_succ])
          go_simp
          refine hK.out [] _ _ (t_nil _) k_nil (fun hPT' => ?_)
          (clear hPT hK K; have hPT := hPT'; clear hPT'; try simp only [List.getElem_toArray, List.getElem_cons_zero, List.getElem_cons_succ, Act.put, List.setIfInBounds_toArray, List.set_cons_zero, List.set_cons_succ])
          refine plan_one (i := 11) (by kernel_rfl) rfl (by rfl) (fun K hK => ?_)
          (try simp only [List.getElem_toArray, List.getElem_cons_zero, List.getElem_cons_succ, Act.put, List.setIfInBounds_toArray, List.set_cons_zero, List.set_cons_succ])
          go_simp
          refine hK.out [] _ _ (t_nil _) k_nil (fun hPT' => ?_)
          (clear hPT hK K; have hPT := hPT'; clear hPT'; try simp only [List.getElem_toArray, List.getElem_cons_zero, List.getElem_cons_succ, Act.put, List.setIfInBounds_toArray, List.set_cons_zero, List.set_cons_succ])
          refine plan_take (i := 12) (v := ?_) rfl (by kernel_rfl) (by kernel_rfl) (by kernel_rfl) (fun _ _ _ h => h) hPT (by rfl) ?_ ?_
          rotate_left
          · (intro w; go_simp; with_reducible rfl)
          (clear hPT; intro hPT; simp only [List.getElem_toArray, List.getElem_cons_zero, List.getElem_cons_succ, Act.put, List.setIfInBounds_toArray, List.set_cons_zero, List.set_cons_succ])
          refine plan_take (i := 13) (v := ?_) rfl (by kernel_rfl) (by kernel_rfl) (by kernel_rfl) (fun _ _ _ h => h) hPT (by rfl) ?_ ?_
          rotate_left
          · (intro w; go_simp; with_reducible rfl)
          (clear hPT; intro hPT; simp only [List.getElem_toArray, List.getElem_cons_zero, List.getElem_cons_succ, Act.put, List.setIfInBounds_toArray, List.set_cons_zero, List.set_cons_succ])
          refine plan_done (by kernel_rfl) ?_ _
          clear hPT
          obtain ⟨t, htt⟩ : ∃ t, w5.heap.size = t := ⟨_, rfl⟩
          have HQ6 := hide (show Blk (w5.alloc (.cells #[.slice A5 (flB (fitRun steps k) x).length c5, .slice B5 (flB (fitRun steps k) x).length d5] 37)) t 37 #[.slice A5 (flB (fitRun steps k) x).length c5, .slice B5 (flB (fitRun steps k) x).length d5] from Blk.at_ _ _ htt)
          have HK6 := hide (HK5.out.alloc (.cells #[.slice A5 (flB (fitRun steps k) x).length c5, .slice B5 (flB (fitRun steps k) x).length d5] 37))
          have HI6 := hide (HI5.out.no ((Kp.refl No w5).alloc (.cells #[.slice A5 (flB (fitRun steps k) x).length c5, .slice B5 (flB (fitRun steps k) x).length d5] 37)))
          have htx : X < t := by have := HK5.out.size; omega
          obtain ⟨W6, hW6⟩ : ∃ W6, w5.alloc (.cells #[.slice A5 (flB (fitRun steps k) x).length c5, .slice B5 (flB (fitRun steps k) x).length d5] 37) = W6 := ⟨_, rfl⟩
          rw [hW6] at HQ6 HK6 HI6
          rw [htt, hW6]
          clear HI5 HK5 htt hW6
        case' ordB =>
          (try simp only [List.getElem_toArray, List.getElem_cons_zero, List.getElem_cons_succ, Act.put, List.setIfInBounds_toArray, List.set_cons_zero, List.set_cons_succ])
          go_simp
          obtain ⟨t, htt⟩ : ∃ t, wr.heap.size = t := ⟨_, rfl⟩
          have HQ0 := hide (show Blk (wr.alloc (.cells #[.slice none 0 0, .slice none 0 0] 37)).drew t 37 #[.slice none 0 0, .slice none 0 0] from (Blk.at_ _ _ htt).drew)
          have HKB := hide (show Kp No wr (wr.alloc (.cells #[.slice none 0 0, .slice none 0 0] 37)).drew from ((Kp.refl No wr).alloc _).drew)
          have htx : X < t := by omega
          have HGG := hide (show ∀ W' : World, t < W'.heap.size → ∀ b, W'.heap.size ≤ b → (¬ S b ∧ b ≠ X ∧ w.heap.size ≤ b) ∧ b ≠ t from fun W' h b hb => ⟨HNEW.out b (by omega), by omega⟩)
          have HRO := hide ((HA.out.ar.mono (F' := (fun b => (¬ S b ∧ b ≠ X ∧ w.heap.size ≤ b) ∧ b ≠ t)) fun b h1 h2 => ⟨h2, by omega⟩).no HKB.out)
          refine hK.out _ _ _ (t_cons (HKB.out.cell hcx id) (t_cons ⟨HKB.out.cell x1 id, HKB.out.cell x2 id⟩ (t_nil _))) k_same (fun hPT' => ?_)
          (clear hPT hK K; have hPT := hPT'; clear hPT'; try simp only [List.getElem_toArray, List.getElem_cons_zero, List.getElem_cons_succ, Act.put, List.setIfInBounds_toArray, List.set_cons_zero, List.set_cons_succ])
          refine plan_one (i := 5) (by kernel_rfl) rfl (by rfl) (fun K hK => ?_)
          (try simp only [List.getElem_toArray, List.getElem_cons_zero, List.getElem_cons_succ, Act.put, List.setIfInBounds_toArray, List.set_cons_zero, List.set_cons_succ])
          go_simp
          refine Calls.mono (rlend_any (F := (fun b => (¬ S b ∧ b ≠ X ∧ w.heap.size ≤ b) ∧ b ≠ t)) _ (fitRun steps k) x _ HRO.out HLI.out (HGG.out _ HQ0.out.lt)) ?_
          rintro e w5 ⟨v5, rfl, h5, hk5⟩
          have HK5 := hide (HKB.out.trans hk5)
          have HQ5 := hide (HQ0.out.kp hk5 id)
          have HI5 := hide h5
          obtain ⟨A5, c5, B5, d5, rfl⟩ := ar_slices h5
          obtain ⟨y1, y2, y3, y4, y5⟩ := HQ5.out.a2
          clear h5 hk5 x1 x2 x3 x4 x5
          refine hK.out [] _ _ (t_nil _) (k_drop (by kernel_rfl) (k_drop (by kernel_rfl) k_nil)) (fun hPT' => ?_)
          (clear hPT hK K; have hPT := hPT'; clear hPT'; try simp only [List.getElem_toArray, List.getElem_cons_zero, List.getElem_cons_succ, Act.put, List.setIfInBounds_toArray, List.set_cons_zero, List.set_cons_succ])
          refine plan_take (i := 6) (v := ?_) rfl (by kernel_rfl) (by kernel_rfl) (by kernel_rfl) (fun _ _ _ h => h) hPT (by rfl) ?_ ?_
          rotate_left
          · (intro w; go_simp; with_reducible rfl)
          (clear hPT; intro hPT; simp only [List.getElem_toArray, List.getElem_cons_zero, List.getElem_cons_succ, Act.put, List.setIfInBounds_toArray, List.set_cons_zero, List.set_cons_succ])
          refine plan_take (i := 7) (v := ?_) rfl (by kernel_rfl) (by kernel_rfl) (by kernel_rfl) (fun _ _ _ h => h) hPT (by rfl) ?_ ?_
          rotate_left
          · (intro w; go_simp; with_reducible rfl)
          (clear hPT; intro hPT; simp only [List.getElem_toArray, List.getElem_cons_zero, List.getElem_cons_succ, Act.put, List.setIfInBounds_toArray, List.set_cons_zero, List.set_cons_succ])
          refine plan_take (i := 8) (v := ?_) rfl (by kernel_rfl) (by kernel_rfl) (by kernel_rfl) (fun _ _ _ h => h) hPT (by rfl) ?_ ?_
          rotate_left
          · (intro w; go_simp; with_reducible rfl)
          (clear hPT; intro hPT; simp only [List.getElem_toArray, List.getElem_cons_zero, List.getElem_cons_succ, Act.put, List.setIfInBounds_toArray, List.set_cons_zero, List.set_cons_succ])
          refine plan_take (i := 9) (v := ?_) rfl (by kernel_rfl) (by kernel_rfl) (by kernel_rfl) (fun _ _ _ h => h) hPT (by rfl) ?_ ?_
          rotate_left
          · (intro w; go_simp; with_reducible rfl)
          (clear hPT; intro hPT; simp only [List.getElem_toArray, List.getElem_cons_zero, List.getElem_cons_succ, Act.put, List.setIfInBounds_toArray, List.set_cons_zero, List.set_cons_succ])
          refine plan_one (i := 11) (by kernel_rfl) rfl (by rfl) (fun K hK => ?_)
          (try simp only [List.getElem_toArray, List.getElem_cons_zero, List.getElem_cons_succ, Act.put, List.setIfInBounds_toArray, List.set_cons_zero, List.set_cons_succ])
          go_simp
          refine hK.out [] _ _ (t_nil _) k_nil (fun hPT' => ?_)
          (clear hPT hK K; have hPT := hPT'; clear hPT'; try simp only [List.getElem_toArray, List.getElem_cons_zero, List.getElem_cons_succ, Act.put, List.setIfInBounds_toArray, List.set_cons_zero, List.set_cons_succ])
          refine plan_take (i := 12) (v := ?_) rfl (by kernel_rfl) (by kernel_rfl) (by kernel_rfl) (fun _ _ _ h => h) hPT (by rfl) ?_ ?_
          rotate_left
          · (intro w; go_simp; with_reducible rfl)
          (clear hPT; intro hPT; simp only [List.getElem_toArray, List.getElem_cons_zero, List.getElem_cons_succ, Act.put, List.setIfInBounds_toArray, List.set_cons_zero, List.set_cons_succ])
          refine plan_take (i := 13) (v := ?_) rfl (by kernel_rfl) (by kernel_rfl) (by kernel_rfl) (fun _ _ _ h => h) hPT (by rfl) ?_ ?_
          rotate_left
          · (intro w; go_simp; with_reducible rfl)
          (clear hPT; intro hPT; simp only [List.getElem_toArray, List.getElem_cons_zero, List.getElem_cons_succ, Act.put, List.setIfInBounds_toArray, List.set_cons_zero, List.set_cons_succ])
          refine plan_done (by kernel_rfl) ?_ _
          clear hPT
          obtain ⟨W6, hW6⟩ : ∃ W6, (w5.setCell ⟨t, 0, none⟩ (.slice A5 (flB (fitRun steps k) x).length c5)).setCell ⟨t, 1, none⟩ (.slice B5 (flB (fitRun steps k) x).length d5) = W6 := ⟨_, rfl⟩
          have hk3 : Kp (At t) w5 W6 := by rw [← hW6]; exact (kp_put _ _ _ _).trans (kp_put _ _ _ _)
          have HQ6 := hide (show Blk W6 t 37 #[.slice A5 (flB (fitRun steps k) x).length c5, .slice B5 (flB (fitRun steps k) x).length d5] by rw [← hW6]; exact (HQ5.out.set_ 0 _).set_ 1 _)
          have HK6 := hide (HK5.out.trans' hk3 fun b hb e => by unfold At at e; omega)
          have HI6 := hide ((HI5.out.kp hk3 fun b hb e => hb.2 e).mono (F' := (fun b => ¬ S b ∧ b ≠ X ∧ w.heap.size ≤ b)) fun b _ h => h.1)
          rw [hW6]
          clear HI5 HK5 HQ5 HQ0 HKB HGG HRO htt hW6 hk3 y1 y2 y3 y4 y5
        all_goals
          obtain ⟨q0, q1⟩ : W6.cell? ⟨t, 0, none⟩ = some (.slice A5 (flB (fitRun steps k) x).length c5) ∧ W6.cell? ⟨t, 1, none⟩ = some (.slice B5 (flB (fitRun steps k) x).length d5) := ⟨HQ6.out.cell 0, HQ6.out.cell 1⟩
          obtain ⟨y1, y2, y3, y4, y5⟩ := (HA.out.blk.kp HK6.out id).a2
          obtain ⟨f1, f2, f3, f4⟩ := HA.out.put HK6.out HI6.out (fun b _ h => h)
          have hcx' := HCX.out W6 (HA.out.kp.trans HK6.out)
          have F1 := hide f1
          have F2 := hide f2
          have F3 := hide f3
          have F4 := hide f4
          clear f1 f2 f3 f4
          obtain ⟨W7, hW7⟩ : ∃ W7, (W6.setCell ⟨X, 0, none⟩ (.slice A5 (flB (fitRun steps k) x).length c5)).setCell ⟨X, 1, none⟩ (.slice B5 (flB (fitRun steps k) x).length d5) = W7 := ⟨_, rfl⟩
          rw [hW7] at F1 F2 F3 F4
          have hcx7 := HCX.out W7 F4.out
          have HW7 := hide hW7
          clear hW7 hcx
          go_upto_region 9 with fail
          rw [HW7.out]
          go_wp2_with fail
          refine Calls.mono (flend_any x W7 (F1.out.to (S' := fun b => S b ∨ W7.heap.size ≤ b) fun b _ h => .inl h) HLI.out (fun b hb => .inr hb)) ?_
          rintro e w8 ⟨rfl, hf8, hk8⟩
          have HA8 := hide (FAl.mk_ HA.out.far HA.out.ge F2.out F3.out F4.out hf8 hk8)
          have HG8 := hide (HH.out.no HA8.out.kp)
          clear hf8 hk8 y1 y2 y3 y4 y5 q0 q1 hcx' hcx7
          have HE := hide (fun (W : World) (h : Handle W) => error_any (flE (fitRun steps k) x) (flE (fitRun steps k) x : Nat) W h (fl_le _ _))
          rw [← HFS.out, ← HNX.out] at HA8 ⊢
          obtain ⟨fe, hfe⟩ : ∃ fe, flE (fitRun steps k) x = fe := ⟨_, rfl⟩
          obtain ⟨fp, hfp⟩ : ∃ fp, flP (fitRun steps k) x = fp := ⟨_, rfl⟩
          rw [hfe] at HE ⊢
          rw [hfp]
          obtain ⟨er, her⟩ : ∃ er, errV fe = er := ⟨_, rfl⟩
          rw [her] at HE ⊢
          clear hfe hfp her
          go_wp2_with fail
          refine Calls.mono (HE.out _ HG8.out) ?_
          rintro e w9 ⟨rfl, hk9⟩
          have HA9 := hide (HA8.out.no hk9)
          clear hk9
          have HL' := hide (lie_run steps (k + 1) hlt)
          obtain ⟨bs', hbs⟩ : ∃ bs', fitRun steps (k + 1) = bs' := ⟨_, rfl⟩
          have HBS := hide hbs
          rw [hbs] at HA9 HL' ⊢
          have hl64 : bs'.length ≤ 64 := by have := HL'.out.len; omega
          clear hbs
          go_wp2_with fail
          refine Calls.mono (flent_any w9 HA9.out.fit hl64) ?_
          rintro e w10 ⟨v1, v2, rfl, i1, i2, hk10⟩
          have HA10 := hide (HA9.out.no hk10)
          have I1 := hide i1
          have I2 := hide i2
          obtain ⟨z0, z1⟩ : w10.cell? ⟨X, 0, none⟩ = some (.slice A5 bs'.length c5) ∧ w10.cell? ⟨X, 1, none⟩ = some (.slice B5 bs'.length d5) := ⟨HA10.out.blk.cell 0, HA10.out.blk.cell 1⟩
          clear i1 i2 hk10
          go_wp2_with fail
          refine Calls.mono (rholes_any _ bs' w10 HA10.out.ar HL'.out) ?_
          rintro e w11 ⟨v3, v4, rfl, i3, i4, hk11⟩
          have HA11 := hide (HA10.out.no hk11)
          have J1 := hide (I1.out.no hk11)
          have J2 := hide (I2.out.no hk11)
          have I3 := hide i3
          have I4 := hide i4
          clear i3 i4 hk11 z0 z1
          go_wp2_with fail
          refine Calls.mono (fholes_any w11 HA11.out.fit HL'.out) ?_
          rintro e w12 ⟨v5, v6, rfl, i5, i6, hk12⟩
          have HA12 := hide (HA11.out.no hk12)
          have M1 := hide (J1.out.no hk12)
          have M2 := hide (J2.out.no hk12)
          have M3 := hide (I3.out.no hk12)
          have M4 := hide (I4.out.no hk12)
          have M5 := hide i5
          have M6 := hide i6
          obtain ⟨z0, z1⟩ : w12.cell? ⟨X, 0, none⟩ = some (.slice A5 bs'.length c5) ∧ w12.cell? ⟨X, 1, none⟩ = some (.slice B5 bs'.length d5) := ⟨HA12.out.blk.cell 0, HA12.out.blk.cell 1⟩
          have HAA := hide (ar_at HA12.out.ar)
          clear i5 i6 hk12
          go_wp2_with fail
          refine Calls.mono (ints_any _ _ _ _ _ M1.out HAA.out.1) ?_
          rw [eqB_refl]
          rintro e w13 ⟨rfl, n13, hn13⟩
          have HK13 := hide (show Kp No w12 w13 by rw [hn13]; exact (Kp.refl No w12).drewN _)
          have z0' := HK13.out.cell z0 id
          have z1' := HK13.out.cell z1 id
          clear hn13
          go_wp2_with fail
          refine Calls.mono (ints_any _ _ _ _ _ (M2.out.no HK13.out) (HAA.out.2.no HK13.out)) ?_
          rw [eqB_refl]
          rintro e w14 ⟨rfl, n14, hn14⟩
          have HK14 := hide (HK13.out.trans (show Kp No w13 w14 by rw [hn14]; exact (Kp.refl No w13).drewN _))
          clear hn14 z0 z1 z0' z1'
          go_wp2_with fail
          refine Calls.mono (ints_any _ _ _ _ _ (M5.out.no HK14.out) (M3.out.no HK14.out)) ?_
          rw [eqB_refl]
          rintro e w15 ⟨rfl, n15, hn15⟩
          have HK15 := hide (HK14.out.trans (show Kp No w14 w15 by rw [hn15]; exact (Kp.refl No w14).drewN _))
          clear hn15
          go_wp2_with fail
          refine Calls.mono (ints_any _ _ _ _ _ (M6.out.no HK15.out) (M4.out.no HK15.out)) ?_
          rw [eqB_refl]
          rintro e w16 ⟨rfl, n16, hn16⟩
          have HK16 := hide (HK15.out.trans (show Kp No w15 w16 by rw [hn16]; exact (Kp.refl No w15).drewN _))
          have HA16 := hide (HA12.out.no HK16.out)
          clear hn16
          go_wp2_with fail
          exact ⟨⟨k + 1, _, _, _, by go_num, hlt, hlt100, by rw [HBS.out]; exact HA16⟩, by simp [intOf]; omega⟩
      · by_cases hx00 : x = 0
        · subst hx00
          have HFS := hide (show fitStep (fitRun steps k) 0 = packF 0 (fitRun steps k) by unfold fitStep; rw [if_neg (by decide), if_pos rfl])
          have hcx' := hcx
          go_wp2_with fail
          refine Calls.mono (packed_any _ (fitRun steps k) wr HA.out.ar HLI.out) ?_
          rintro e W6 ⟨v5, rfl, h5, hk5⟩
          have HK6 := hide hk5
          have HI6 := hide (h5.mono (F' := fun b => ¬ S b ∧ b ≠ X ∧ w.heap.size ≤ b) fun b _ hb => HNEW.out b hb)
          obtain ⟨A5, c5, B5, d5, rfl⟩ := ar_slices h5
          clear h5 hk5 x1 x2 x3 x4 x5 hcx'
          obtain ⟨y1, y2, y3, y4, y5⟩ := (HA.out.blk.kp HK6.out id).a2
          obtain ⟨f1, f2, f3, f4⟩ := HA.out.put HK6.out HI6.out (fun b _ h => h)
          have F1 := hide f1
          have F2 := hide f2
          have F3 := hide f3
          have F4 := hide f4
          clear f1 f2 f3 f4
          obtain ⟨W7, hW7⟩ : ∃ W7, (W6.setCell ⟨X, 0, none⟩ (.slice A5 (packF 0 (fitRun steps k)).length c5)).setCell ⟨X, 1, none⟩ (.slice B5 (packF 0 (fitRun steps k)).length d5) = W7 := ⟨_, rfl⟩
          rw [hW7] at F1 F2 F3 F4
          have HW7 := hide hW7
          clear hW7 hcx
          go_wp2_with fail
          rw [HW7.out]
          have z0 := F3.out.cell 0
          have HA7 := hide (ar_at F2.out)
          refine plan_start 6 (by kernel_rfl) rfl (fun hPT => ?_)
          refine plan_take (i := 0) (v := ?_) rfl (by kernel_rfl) (by kernel_rfl) (by kernel_rfl) (fun _ _ _ h => h) hPT (by rfl) ?_ ?_
          rotate_left
          · (intro w; go_simp; with_reducible rfl)
          (clear hPT; intro hPT; simp only [List.getElem_toArray, List.getElem_cons_zero, List.getElem_cons_succ, Act.put, List.setIfInBounds_toArray, List.set_cons_zero, List.set_cons_succ])
          refine plan_take (i := 2) (v := ?_) rfl (by kernel_rfl) (by kernel_rfl) (by kernel_rfl) (fun _ _ _ h => h) hPT (by rfl) ?_ ?_
          rotate_left
          · (intro w; go_simp; with_reducible rfl)
          (clear hPT; intro hPT; simp only [List.getElem_toArray, List.getElem_cons_zero, List.getElem_cons_succ, Act.put, List.setIfInBounds_toArray, List.set_cons_zero, List.set_cons_succ])
          refine plan_load (fun w' => w'.cell? ⟨X, 0, none⟩ = some (.slice A5 (packF 0 (fitRun steps k)).length c5)) (i := 3) (v := ?_) rfl (by kernel_rfl) (by kernel_rfl) (by kernel_rfl) (fun _ _ _ h => h) hPT (by rfl) ?_ ?_ ?_
          rotate_left
          · (first | assumption | (go_simp; done))
          · (intro w hSw; (try dsimp only at hSw); go_simp; with_reducible rfl)
          (clear hPT; intro hPT; simp only [List.getElem_toArray, List.getElem_cons_zero, List.getElem_cons_succ, Act.put, List.setIfInBounds_toArray, List.set_cons_zero, List.set_cons_succ])
          refine plan_one (i := 1) (by kernel_rfl) rfl (by rfl) (fun K hK => ?_)
          (try simp only [List.getElem_toArray, List.getElem_cons_zero, List.getElem_cons_succ, Act.put, List.setIfInBounds_toArray, List.set_cons_zero, List.set_cons_succ])
          go_simp
          refine Calls.mono (fpack_any (S := fun b => S b ∨ W7.heap.size ≤ b) _ ((F1.out.to (S' := fun b => S b ∨ W7.heap.size ≤ b) fun b _ h => .inl h).no (by (repeat (first | exact Kp.refl _ _ | with_reducible refine Kp.drewN ?_ _ | with_reducible refine Kp.drew ?_ | with_reducible refine Kp.alloc ?_ _ | with_reducible refine Kp.setCell ?_ (fun _ => ?_) _)); all_goals (simp_all; omega))) HLI.out) ?_
          rintro e w8 ⟨v8, rfl, i8, hf8, hk8⟩
          have HK78 := hide ((show Kp No W7 _ from (by (repeat (first | exact Kp.refl _ _ | with_reducible refine Kp.drewN ?_ _ | with_reducible refine Kp.drew ?_ | with_reducible refine Kp.alloc ?_ _ | with_reducible refine Kp.setCell ?_ (fun _ => ?_) _)); all_goals (simp_all; omega))).of_no.trans hk8)
          have HA8 := hide (FAl.mk_ HA.out.far HA.out.ge F2.out F3.out F4.out hf8 HK78.out)
          have I8 := hide i8
          clear hf8 hk8 y1 y2 y3 y4 y5 i8
          refine hK.out _ _ _ (t_cons (HA8.out.blk.cell 0) (t_nil _)) k_same (fun hPT' => ?_)
          (clear hPT hK K; have hPT := hPT'; clear hPT'; try simp only [List.getElem_toArray, List.getElem_cons_zero, List.getElem_cons_succ, Act.put, List.setIfInBounds_toArray, List.set_cons_zero, List.set_cons_succ])
          refine plan_one (i := 4) (by kernel_rfl) rfl (by rfl) (fun K hK => ?_)
          (try simp only [List.getElem_toArray, List.getElem_cons_zero, List.getElem_cons_succ, Act.put, List.setIfInBounds_toArray, List.set_cons_zero, List.set_cons_succ])
          go_simp
          refine Calls.mono (ints_any _ _ _ _ _ (I8.out.no (by (repeat (first | exact Kp.refl _ _ | with_reducible refine Kp.drewN ?_ _ | with_reducible refine Kp.drew ?_ | with_reducible refine Kp.alloc ?_ _ | with_reducible refine Kp.setCell ?_ (fun _ => ?_) _)); all_goals (simp_all; omega))) ((ar_at HA8.out.ar).1.no (by (repeat (first | exact Kp.refl _ _ | with_reducible refine Kp.drewN ?_ _ | with_reducible refine Kp.drew ?_ | with_reducible refine Kp.alloc ?_ _ | with_reducible refine Kp.setCell ?_ (fun _ => ?_) _)); all_goals (simp_all; omega)))) ?_
          rw [eqB_refl]
          rintro e w9 ⟨rfl, n9, hn9⟩
          have HA9 := hide (HA8.out.no (show Kp No w8 w9 by rw [hn9]; exact (show Kp No w8 _ from (by (repeat (first | exact Kp.refl _ _ | with_reducible refine Kp.drewN ?_ _ | with_reducible refine Kp.drew ?_ | with_reducible refine Kp.alloc ?_ _ | with_reducible refine Kp.setCell ?_ (fun _ => ?_) _)); all_goals (simp_all; omega))).trans ((Kp.refl No _).drewN _)))
          clear hn9
          refine hK.out [] _ _ (t_nil _) (k_drop (by kernel_rfl) k_nil) (fun hPT' => ?_)
          (clear hPT hK K; have hPT := hPT'; clear hPT'; try simp only [List.getElem_toArray, List.getElem_cons_zero, List.getElem_cons_succ, Act.put, List.setIfInBounds_toArray, List.set_cons_zero, List.set_cons_succ])
          refine plan_take (i := 5) (v := ?_) rfl (by kernel_rfl) (by kernel_rfl) (by kernel_rfl) (fun _ _ _ h => h) hPT (by rfl) ?_ ?_
          rotate_left
          · (intro w; go_simp; with_reducible rfl)
          (clear hPT; intro hPT; simp only [List.getElem_toArray, List.getElem_cons_zero, List.getElem_cons_succ, Act.put, List.setIfInBounds_toArray, List.set_cons_zero, List.set_cons_succ])
          refine plan_done (by kernel_rfl) ?_ _
          clear hPT
          rw [← HFS.out, ← HNX.out] at HA9 ⊢
          have HL' := hide (lie_run steps (k + 1) hlt)
          obtain ⟨bs', hbs⟩ : ∃ bs', fitRun steps (k + 1) = bs' := ⟨_, rfl⟩
          have HBS := hide hbs
          rw [hbs] at HA9 HL' ⊢
          have hl64 : bs'.length ≤ 64 := by have := HL'.out.len; omega
          clear hbs
          go_wp2_with fail
          refine Calls.mono (flent_any w9 HA9.out.fit hl64) ?_
          rintro e w10 ⟨v1, v2, rfl, i1, i2, hk10⟩
          have HA10 := hide (HA9.out.no hk10)
          have I1 := hide i1
          have I2 := hide i2
          obtain ⟨z0, z1⟩ : w10.cell? ⟨X, 0, none⟩ = some (.slice A5 bs'.length c5) ∧ w10.cell? ⟨X, 1, none⟩ = some (.slice B5 bs'.length d5) := ⟨HA10.out.blk.cell 0, HA10.out.blk.cell 1⟩
          clear i1 i2 hk10
          go_wp2_with fail
          refine Calls.mono (rholes_any _ bs' w10 HA10.out.ar HL'.out) ?_
          rintro e w11 ⟨v3, v4, rfl, i3, i4, hk11⟩
          have HA11 := hide (HA10.out.no hk11)
          have J1 := hide (I1.out.no hk11)
          have J2 := hide (I2.out.no hk11)
          have I3 := hide i3
          have I4 := hide i4
          clear i3 i4 hk11 z0 z1
          go_wp2_with fail
          refine Calls.mono (fholes_any w11 HA11.out.fit HL'.out) ?_
          rintro e w12 ⟨v5, v6, rfl, i5, i6, hk12⟩
          have HA12 := hide (HA11.out.no hk12)
          have M1 := hide (J1.out.no hk12)
          have M2 := hide (J2.out.no hk12)
          have M3 := hide (I3.out.no hk12)
          have M4 := hide (I4.out.no hk12)
          have M5 := hide i5
          have M6 := hide i6
          obtain ⟨z0, z1⟩ : w12.cell? ⟨X, 0, none⟩ = some (.slice A5 bs'.length c5) ∧ w12.cell? ⟨X, 1, none⟩ = some (.slice B5 bs'.length d5) := ⟨HA12.out.blk.cell 0, HA12.out.blk.cell 1⟩
          have HAA := hide (ar_at HA12.out.ar)
          clear i5 i6 hk12
          go_wp2_with fail
          refine Calls.mono (ints_any _ _ _ _ _ M1.out HAA.out.1) ?_
          rw [eqB_refl]
          rintro e w13 ⟨rfl, n13, hn13⟩
          have HK13 := hide (show Kp No w12 w13 by rw [hn13]; exact (Kp.refl No w12).drewN _)
          have z0' := HK13.out.cell z0 id
          have z1' := HK13.out.cell z1 id
          clear hn13
          go_wp2_with fail
          refine Calls.mono (ints_any _ _ _ _ _ (M2.out.no HK13.out) (HAA.out.2.no HK13.out)) ?_
          rw [eqB_refl]
          rintro e w14 ⟨rfl, n14, hn14⟩
          have HK14 := hide (HK13.out.trans (show Kp No w13 w14 by rw [hn14]; exact (Kp.refl No w13).drewN _))
          clear hn14 z0 z1 z0' z1'
          go_wp2_with fail
          refine Calls.mono (ints_any _ _ _ _ _ (M5.out.no HK14.out) (M3.out.no HK14.out)) ?_
          rw [eqB_refl]
          rintro e w15 ⟨rfl, n15, hn15⟩
          have HK15 := hide (HK14.out.trans (show Kp No w14 w15 by rw [hn15]; exact (Kp.refl No w14).drewN _))
          clear hn15
          go_wp2_with fail
          refine Calls.mono (ints_any _ _ _ _ _ (M6.out.no HK15.out) (M4.out.no HK15.out)) ?_
          rw [eqB_refl]
          rintro e w16 ⟨rfl, n16, hn16⟩
          have HK16 := hide (HK15.out.trans (show Kp No w15 w16 by rw [hn16]; exact (Kp.refl No w15).drewN _))
          have HA16 := hide (HA12.out.no HK16.out)
          clear hn16
          go_wp2_with fail
          exact ⟨⟨k + 1, _, _, _, by go_num, hlt, hlt100, by rw [HBS.out]; exact HA16⟩, by simp [intOf]; omega⟩
        · have HFS := hide (show fitStep (fitRun steps k) x = backB (fitRun steps k) (-1 - x) by unfold fitStep; rw [if_neg hx0, if_neg hx00])
          have hxn : (x == 0) = false := by rw [beq_eq_false_iff_ne]; exact hx00
          have hwx : IntKind.i64.wrap (-1 - x) = -1 - x := by rw [IntKind.wrap_i64]; omega
          go_wp2_with fail
          refine plan_start 13 (by kernel_rfl) rfl (fun hPT => ?_)
          refine plan_take (i := 1) (v := ?_) rfl (by kernel_rfl) (by kernel_rfl) (by kernel_rfl) (fun _ _ _ h => h) hPT (by rfl) ?_ ?_
          rotate_left
          · (intro w; go_simp; with_reducible rfl)
          (clear hPT; intro hPT; simp only [List.getElem_toArray, List.getElem_cons_zero, List.getElem_cons_succ, Act.put, List.setIfInBounds_toArray, List.set_cons_zero, List.set_cons_succ])
          refine plan_take (i := 2) (v := ?_) rfl (by kernel_rfl) (by kernel_rfl) (by kernel_rfl) (fun _ _ _ h => h) hPT (by rfl) ?_ ?_
          rotate_left
          · (intro w; go_simp; with_reducible rfl)
          (clear hPT; intro hPT; simp only [List.getElem_toArray, List.getElem_cons_zero, List.getElem_cons_succ, Act.put, List.setIfInBounds_toArray, List.set_cons_zero, List.set_cons_succ])
          refine plan_load (fun w' => w'.cell? ⟨X, 0, none⟩ = some (.slice Aa (fitRun steps k).length ca) ∧ w'.cell? ⟨X, 1, none⟩ = some (.slice Ab (fitRun steps k).length cb)) (i := 0) (v := ?_) rfl (by kernel_rfl) (by kernel_rfl) (by kernel_rfl) (fun _ _ _ h => h) hPT (by rfl) ?_ ?_ ?_
          rotate_left
          · (first | exact ⟨by assumption, by assumption⟩ | (go_simp; done))
          · (intro w hSw; (try dsimp only at hSw); obtain ⟨hSw1, hSw2⟩ := hSw; go_simp; with_reducible rfl)
          (clear hPT; intro hPT; simp only [List.getElem_toArray, List.getElem_cons_zero, List.getElem_cons_succ, Act.put, List.setIfInBounds_toArray, List.set_cons_zero, List.set_cons_succ])
          refine plan_take (i := 3) (v := ?_) rfl (by kernel_rfl) (by kernel_rfl) (by kernel_rfl) (fun _ _ _ h => h) hPT (by rfl) ?_ ?_
          rotate_left
          · (intro w; go_simp; with_reducible rfl)
          (clear hPT; intro hPT; simp only [List.getElem_toArray, List.getElem_cons_zero, List.getElem_cons_succ, Act.put, List.setIfInBounds_toArray, List.set_cons_zero, List.set_cons_succ])
          refine plan_load (fun w' => w'.cell? ⟨b, o + k, none⟩ = some (.int .i64 x)) (i := 4) (v := ?_) rfl (by kernel_rfl) (by kernel_rfl) (by kernel_rfl) (fun _ _ _ h => h) hPT (by rfl) ?_ ?_ ?_
          rotate_left
          · (first | assumption | (go_simp; done))
          · (intro w hSw; (try dsimp only at hSw); go_simp; with_reducible rfl)
          (clear hPT; intro hPT; simp only [List.getElem_toArray, List.getElem_cons_zero, List.getElem_cons_succ, Act.put, List.setIfInBounds_toArray, List.set_cons_zero, List.set_cons_succ])
          refine plan_take (i := 5) (v := ?_) rfl (by kernel_rfl) (by kernel_rfl) (by kernel_rfl) (fun _ _ _ h => h) hPT (by rfl) ?_ ?_
          rotate_left
          · (intro w; go_simp; with_reducible rfl)
          (clear hPT; intro hPT; simp only [List.getElem_toArray, List.getElem_cons_zero, List.getElem_cons_succ, Act.put, List.setIfInBounds_toArray, List.set_cons_zero, List.set_cons_succ])
          refine plan_two (i := 6) (j := 10) (by kernel_rfl) rfl rfl (by rfl) (by rfl) (fun K hK => ?ordAz) (fun K hK => ?ordBz)
          case' ordAz =>
            (try simp only [List.getElem_toArray, List.getElem_cons_zero, List.getElem_cons_succ, Act.put, List.setIfInBounds_toArray, List.set_cons_zero, List.set_cons_succ])
            go_simp
            refine Calls.mono (rback_any (F := (fun b => ¬ S b ∧ b ≠ X ∧ w.heap.size ≤ b)) _ (fitRun steps k) (-1 - x) _ (HA.out.ar.no (by (repeat (first | exact Kp.refl _ _ | with_reducible refine Kp.drewN ?_ _ | with_reducible refine Kp.drew ?_ | with_reducible refine Kp.alloc ?_ _ | with_reducible refine Kp.setCell ?_ (fun _ => ?_) _)); all_goals (simp_all; omega))) HLN.out (fun b hb => HNEW.out b (by simpa using hb))) ?_
            rintro e w5 ⟨v5, rfl, h5, hk5⟩
            have HK5 := hide ((show Kp No wr _ from (by (repeat (first | exact Kp.refl _ _ | with_reducible refine Kp.drewN ?_ _ | with_reducible refine Kp.drew ?_ | with_reducible refine Kp.alloc ?_ _ | with_reducible refine Kp.setCell ?_ (fun _ => ?_) _)); all_goals (simp_all; omega))).trans hk5)
            have HI5 := hide h5
            obtain ⟨A5, c5, B5, d5, rfl⟩ := ar_slices h5
            clear h5 hk5 x1 x2 x3 x4 x5
            refine hK.out _ _ _ (t_cons (HK5.out.cell hcx id) (t_nil _)) (k_keep (k_drop (by kernel_rfl) k_nil)) (fun hPT' => ?_)
            (clear hPT hK K; have hPT := hPT'; clear hPT'; try simp only [List.getElem_toArray, List.getElem_cons_zero, List.getElem_cons_succ, Act.put, List.setIfInBounds_toArray, List.set_cons_zero, List.set_cons_succ])
            refine plan_take (i := 7) (v := ?_) rfl (by kernel_rfl) (by kernel_rfl) (by kernel_rfl) (fun _ _ _ h => h) hPT (by rfl) ?_ ?_
            rotate_left
            · (intro w; go_simp; with_reducible rfl)
            (clear hPT; intro hPT; simp only [List.getElem_toArray, List.getElem_cons_zero, List.getElem_cons_succ, Act.put, List.setIfInBounds_toArray, List.set_cons_zero, List.set_cons_succ])
            refine plan_take (i := 8) (v := ?_) rfl (by kernel_rfl) (by kernel_rfl) (by kernel_rfl) (fun _ _ _ h => h) hPT (by rfl) ?_ ?_
            rotate_left
            · (intro w; go_simp; with_reducible rfl)
            (clear hPT; intro hPT; simp only [List.getElem_toArray, List.getElem_cons_zero, List.getElem_cons_succ, Act.put, List.setIfInBounds_toArray, List.set_cons_zero, List.set_cons_succ])
            refine plan_take (i := 9) (v := ?_) rfl (by kernel_rfl) (by kernel_rfl) (by kernel_rfl) (fun _ _ _ h => h) hPT (by rfl) ?_ ?_
            rotate_left
            · (intro w; go_simp; with_reducible rfl)
            (clear hPT; intro hPT; simp only [List.getElem_toArray, List.getElem_cons_zero, List.getElem_cons_succ, Act.put, List.setIfInBounds_toArray, List.set_cons_zero, List.set_cons_succ])
            refine plan_one (i := 10) (by kernel_rfl) rfl (by rfl) (fun K hK => ?_)
            (try simp only [List.getElem_toArray, List.getElem_cons_zero, List.getElem_cons_succ, Act.put, List.setIfInBounds_toArray, List.set_cons_zero, List.set_cons_succ])
            go_simp
            refine hK.out _ _ _ (t_cons (HCX.out _ (HA.out.kp.trans (HK5.out.alloc _))) (t_nil _)) k_same (fun hPT' => ?_)
            (clear hPT hK K; have hPT := hPT'; clear hPT'; try simp only [List.getElem_toArray, List.getElem_cons_zero, List.getElem_cons_succ, Act.put, List.setIfInBounds_toArray, List.set_cons_zero, List.set_cons_succ])
            refine plan_one (i := 11) (by kernel_rfl) rfl (by rfl) (fun K hK => ?_)
            (try simp only [List.getElem_toArray, List.getElem_cons_zero, List.getElem_cons_succ, Act.put, List.setIfInBounds_toArray, List.set_cons_zero, List.set_cons_succ])
            go_simp
            refine hK.out _ _ _ (t_cons (HCX.out _ (HA.out.kp.trans (HK5.out.alloc _))) (t_nil _)) k_same (fun hPT' => ?_)
            (clear hPT hK K; have hPT := hPT'; clear hPT'; try simp only [List.getElem_toArray, List.getElem_cons_zero, List.getElem_cons_succ, Act.put, List.setIfInBounds_toArray, List.set_cons_zero, List.set_cons_succ])
            refine plan_take (i := 12) (v := ?_) rfl (by kernel_rfl) (by kernel_rfl) (by kernel_rfl) (fun _ _ _ h => h) hPT (by rfl) ?_ ?_
            rotate_left
            · (intro w; go_simp; with_reducible rfl)
            (clear hPT; intro hPT; simp only [List.getElem_toArray, List.getElem_cons_zero, List.getElem_cons_succ, Act.put, List.setIfInBounds_toArray, List.set_cons_zero, List.set_cons_succ])
            refine plan_done (by kernel_rfl) ?_ _
            clear hPT
            obtain ⟨t, htt⟩ : ∃ t, w5.heap.size = t := ⟨_, rfl⟩
            have HQ6 := hide (show Blk (w5.alloc (.cells #[.slice A5 (backB (fitRun steps k) (-1 - x)).length c5, .slice B5 (backB (fitRun steps k) (-1 - x)).length d5] 37)) t 37 #[.slice A5 (backB (fitRun steps k) (-1 - x)).length c5, .slice B5 (backB (fitRun steps k) (-1 - x)).length d5] from Blk.at_ _ _ htt)
            have HK6 := hide (HK5.out.alloc (.cells #[.slice A5 (backB (fitRun steps k) (-1 - x)).length c5, .slice B5 (backB (fitRun steps k) (-1 - x)).length d5] 37))
            have HI6 := hide (HI5.out.no ((Kp.refl No w5).alloc (.cells #[.slice A5 (backB (fitRun steps k) (-1 - x)).length c5, .slice B5 (backB (fitRun steps k) (-1 - x)).length d5] 37)))
            have htx : X < t := by have := HK5.out.size; omega
            obtain ⟨W6, hW6⟩ : ∃ W6, w5.alloc (.cells #[.slice A5 (backB (fitRun steps k) (-1 - x)).length c5, .slice B5 (backB (fitRun steps k) (-1 - x)).length d5] 37) = W6 := ⟨_, rfl⟩
            rw [hW6] at HQ6 HK6 HI6
            rw [htt, hW6]
            clear HI5 HK5 htt hW6
          case' ordBz =>
            (try simp only [List.getElem_toArray, List.getElem_cons_zero, List.getElem_cons_succ, Act.put, List.setIfInBounds_toArray, List.set_cons_zero, List.set_cons_succ])
            go_simp
            obtain ⟨t, htt⟩ : ∃ t, wr.heap.size = t := ⟨_, rfl⟩
            have HQ0 := hide (show Blk (wr.alloc (.cells #[.slice none 0 0, .slice none 0 0] 37)).drew t 37 #[.slice none 0 0, .slice none 0 0] from (Blk.at_ _ _ htt).drew)
            have HKB := hide (show Kp No wr (wr.alloc (.cells #[.slice none 0 0, .slice none 0 0] 37)).drew from ((Kp.refl No wr).alloc _).drew)
            have htx : X < t := by omega
            have HGG := hide (show ∀ W' : World, t < W'.heap.size → ∀ b, W'.heap.size ≤ b → (¬ S b ∧ b ≠ X ∧ w.heap.size ≤ b) ∧ b ≠ t from fun W' h b hb => ⟨HNEW.out b (by omega), by omega⟩)
            have HRO := hide ((HA.out.ar.mono (F' := (fun b => (¬ S b ∧ b ≠ X ∧ w.heap.size ≤ b) ∧ b ≠ t)) fun b h1 h2 => ⟨h2, by omega⟩).no HKB.out)
            refine hK.out _ _ _ (t_cons (HKB.out.cell hcx id) (t_cons ⟨HKB.out.cell x1 id, HKB.out.cell x2 id⟩ (t_nil _))) k_same (fun hPT' => ?_)
            (clear hPT hK K; have hPT := hPT'; clear hPT'; try simp only [List.getElem_toArray, List.getElem_cons_zero, List.getElem_cons_succ, Act.put, List.setIfInBounds_toArray, List.set_cons_zero, List.set_cons_succ])
            refine plan_one (i := 6) (by kernel_rfl) rfl (by rfl) (fun K hK => ?_)
            (try simp only [List.getElem_toArray, List.getElem_cons_zero, List.getElem_cons_succ, Act.put, List.setIfInBounds_toArray, List.set_cons_zero, List.set_cons_succ])
            go_simp
            refine Calls.mono (rback_any (F := (fun b => (¬ S b ∧ b ≠ X ∧ w.heap.size ≤ b) ∧ b ≠ t)) _ (fitRun steps k) (-1 - x) _ HRO.out HLN.out (HGG.out _ HQ0.out.lt)) ?_
            rintro e w5 ⟨v5, rfl, h5, hk5⟩
            have HK5 := hide (HKB.out.trans hk5)
            have HQ5 := hide (HQ0.out.kp hk5 id)
            have HI5 := hide h5
            obtain ⟨A5, c5, B5, d5, rfl⟩ := ar_slices h5
            obtain ⟨y1, y2, y3, y4, y5⟩ := HQ5.out.a2
            clear h5 hk5 x1 x2 x3 x4 x5
            refine hK.out _ _ _ (t_cons (HK5.out.cell hcx id) (t_nil _)) (k_keep (k_drop (by kernel_rfl) k_nil)) (fun hPT' => ?_)
            (clear hPT hK K; have hPT := hPT'; clear hPT'; try simp only [List.getElem_toArray, List.getElem_cons_zero, List.getElem_cons_succ, Act.put, List.setIfInBounds_toArray, List.set_cons_zero, List.set_cons_succ])
            refine plan_take (i := 7) (v := ?_) rfl (by kernel_rfl) (by kernel_rfl) (by kernel_rfl) (fun _ _ _ h => h) hPT (by rfl) ?_ ?_
            rotate_left
            · (intro w; go_simp; with_reducible rfl)
            (clear hPT; intro hPT; simp only [List.getElem_toArray, List.getElem_cons_zero, List.getElem_cons_succ, Act.put, List.setIfInBounds_toArray, List.set_cons_zero, List.set_cons_succ])
            refine plan_take (i := 8) (v := ?_) rfl (by kernel_rfl) (by kernel_rfl) (by kernel_rfl) (fun _ _ _ h => h) hPT (by rfl) ?_ ?_
            rotate_left
            · (intro w; go_simp; with_reducible rfl)
            (clear hPT; intro hPT; simp only [List.getElem_toArray, List.getElem_cons_zero, List.getElem_cons_succ, Act.put, List.setIfInBounds_toArray, List.set_cons_zero, List.set_cons_succ])
            refine plan_take (i := 9) (v := ?_) rfl (by kernel_rfl) (by kernel_rfl) (by kernel_rfl) (fun _ _ _ h => h) hPT (by rfl) ?_ ?_
            rotate_left
            · (intro w; go_simp; with_reducible rfl)
            (clear hPT; intro hPT; simp only [List.getElem_toArray, List.getElem_cons_zero, List.getElem_cons_succ, Act.put, List.setIfInBounds_toArray, List.set_cons_zero, List.set_cons_succ])
            refine plan_one (i := 11) (by kernel_rfl) rfl (by rfl) (fun K hK => ?_)
            (try simp only [List.getElem_toArray, List.getElem_cons_zero, List.getElem_cons_succ, Act.put, List.setIfInBounds_toArray, List.set_cons_zero, List.set_cons_succ])
            go_simp
            refine hK.out _ _ _ (t_cons (HCX.out _ ((HA.out.kp.trans HK5.out).trans' (show Kp (At t) _ _ from (kp_put _ _ _ _).trans (kp_put _ _ _ _)) fun b hb e => by unfold At at e; have := HA.out.kp.size; omega)) (t_nil _)) k_same (fun hPT' => ?_)
            (clear hPT hK K; have hPT := hPT'; clear hPT'; try simp only [List.getElem_toArray, List.getElem_cons_zero, List.getElem_cons_succ, Act.put, List.setIfInBounds_toArray, List.set_cons_zero, List.set_cons_succ])
            refine plan_take (i := 12) (v := ?_) rfl (by kernel_rfl) (by kernel_rfl) (by kernel_rfl) (fun _ _ _ h => h) hPT (by rfl) ?_ ?_
            rotate_left
            · (intro w; go_simp; with_reducible rfl)
            (clear hPT; intro hPT; simp only [List.getElem_toArray, List.getElem_cons_zero, List.getElem_cons_succ, Act.put, List.setIfInBounds_toArray, List.set_cons_zero, List.set_cons_succ])
            refine plan_done (by kernel_rfl) ?_ _
            clear hPT
            obtain ⟨W6, hW6⟩ : ∃ W6, (w5.setCell ⟨t, 0, none⟩ (.slice A5 (backB (fitRun steps k) (-1 - x)).length c5)).setCell ⟨t, 1, none⟩ (.slice B5 (backB (fitRun steps k) (-1 - x)).length d5) = W6 := ⟨_, rfl⟩
            have hk3 : Kp (At t) w5 W6 := by rw [← hW6]; exact (kp_put _ _ _ _).trans (kp_put _ _ _ _)
            have HQ6 := hide (show Blk W6 t 37 #[.slice A5 (backB (fitRun steps k) (-1 - x)).length c5, .slice B5 (backB (fitRun steps k) (-1 - x)).length d5] by rw [← hW6]; exact (HQ5.out.set_ 0 _).set_ 1 _)
            have HK6 := hide (HK5.out.trans' hk3 fun b hb e => by unfold At at e; omega)
            have HI6 := hide ((HI5.out.kp hk3 fun b hb e => hb.2 e).mono (F' := (fun b => ¬ S b ∧ b ≠ X ∧ w.heap.size ≤ b)) fun b _ h => h.1)
            rw [hW6]
            clear HI5 HK5 HQ5 HQ0 HKB HGG HRO htt hW6 hk3 y1 y2 y3 y4 y5
          all_goals
            obtain ⟨q0, q1⟩ : W6.cell? ⟨t, 0, none⟩ = some (.slice A5 (backB (fitRun steps k) (-1 - x)).length c5) ∧ W6.cell? ⟨t, 1, none⟩ = some (.slice B5 (backB (fitRun steps k) (-1 - x)).length d5) := ⟨HQ6.out.cell 0, HQ6.out.cell 1⟩
            obtain ⟨y1, y2, y3, y4, y5⟩ := (HA.out.blk.kp HK6.out id).a2
            obtain ⟨f1, f2, f3, f4⟩ := HA.out.put HK6.out HI6.out (fun b _ h => h)
            have hcx' := HCX.out W6 (HA.out.kp.trans HK6.out)
            have F1 := hide f1
            have F2 := hide f2
            have F3 := hide f3
            have F4 := hide f4
            clear f1 f2 f3 f4
            obtain ⟨W7, hW7⟩ : ∃ W7, (W6.setCell ⟨X, 0, none⟩ (.slice A5 (backB (fitRun steps k) (-1 - x)).length c5)).setCell ⟨X, 1, none⟩ (.slice B5 (backB (fitRun steps k) (-1 - x)).length d5) = W7 := ⟨_, rfl⟩
            rw [hW7] at F1 F2 F3 F4
            have hcx7 := HCX.out W7 F4.out
            have HW7 := hide hW7
            clear hW7 hcx
            go_upto_region 18 with fail
            rw [HW7.out]
            go_wp2_with fail
            refine Calls.mono (fback_any (-1 - x) W7 (F1.out.to (S' := fun b => S b ∨ W7.heap.size ≤ b) fun b _ h => .inl h) HLN.out) ?_
            rintro e w8 ⟨rfl, hf8, hk8⟩
            have HA8 := hide (FAl.mk_ HA.out.far HA.out.ge F2.out F3.out F4.out hf8 hk8)
            have HG8 := hide (HH.out.no HA8.out.kp)
            clear hf8 hk8 y1 y2 y3 y4 y5 q0 q1 hcx' hcx7
            have HE := hide (fun (W : World) (h : Handle W) => error_any (backE (fitRun steps k) (-1 - x)) (backE (fitRun steps k) (-1 - x) : Nat) W h (back_le _ _))
            rw [← HFS.out, ← HNX.out] at HA8 ⊢
            obtain ⟨fe, hfe⟩ : ∃ fe, backE (fitRun steps k) (-1 - x) = fe := ⟨_, rfl⟩
            rw [hfe] at HE ⊢
            obtain ⟨er, her⟩ : ∃ er, errV fe = er := ⟨_, rfl⟩
            rw [her] at HE ⊢
            clear hfe her
            go_wp2_with fail
            refine Calls.mono (HE.out _ HG8.out) ?_
            rintro e w9 ⟨rfl, hk9⟩
            have HA9 := hide (HA8.out.no hk9)
            clear hk9
            have HL' := hide (lie_run steps (k + 1) hlt)
            obtain ⟨bs', hbs⟩ : ∃ bs', fitRun steps (k + 1) = bs' := ⟨_, rfl⟩
            have HBS := hide hbs
            rw [hbs] at HA9 HL' ⊢
            have hl64 : bs'.length ≤ 64 := by have := HL'.out.len; omega
            clear hbs
            go_wp2_with fail
            refine Calls.mono (flent_any w9 HA9.out.fit hl64) ?_
            rintro e w10 ⟨v1, v2, rfl, i1, i2, hk10⟩
            have HA10 := hide (HA9.out.no hk10)
            have I1 := hide i1
            have I2 := hide i2
            obtain ⟨z0, z1⟩ : w10.cell? ⟨X, 0, none⟩ = some (.slice A5 bs'.length c5) ∧ w10.cell? ⟨X, 1, none⟩ = some (.slice B5 bs'.length d5) := ⟨HA10.out.blk.cell 0, HA10.out.blk.cell 1⟩
            clear i1 i2 hk10
            go_wp2_with fail
            refine Calls.mono (rholes_any _ bs' w10 HA10.out.ar HL'.out) ?_
            rintro e w11 ⟨v3, v4, rfl, i3, i4, hk11⟩
            have HA11 := hide (HA10.out.no hk11)
            have J1 := hide (I1.out.no hk11)
            have J2 := hide (I2.out.no hk11)
            have I3 := hide i3
            have I4 := hide i4
            clear i3 i4 hk11 z0 z1
            go_wp2_with fail
            refine Calls.mono (fholes_any w11 HA11.out.fit HL'.out) ?_
            rintro e w12 ⟨v5, v6, rfl, i5, i6, hk12⟩
            have HA12 := hide (HA11.out.no hk12)
            have M1 := hide (J1.out.no hk12)
            have M2 := hide (J2.out.no hk12)
            have M3 := hide (I3.out.no hk12)
            have M4 := hide (I4.out.no hk12)
            have M5 := hide i5
            have M6 := hide i6
            obtain ⟨z0, z1⟩ : w12.cell? ⟨X, 0, none⟩ = some (.slice A5 bs'.length c5) ∧ w12.cell? ⟨X, 1, none⟩ = some (.slice B5 bs'.length d5) := ⟨HA12.out.blk.cell 0, HA12.out.blk.cell 1⟩
            have HAA := hide (ar_at HA12.out.ar)
            clear i5 i6 hk12
            go_wp2_with fail
            refine Calls.mono (ints_any _ _ _ _ _ M1.out HAA.out.1) ?_
            rw [eqB_refl]
            rintro e w13 ⟨rfl, n13, hn13⟩
            have HK13 := hide (show Kp No w12 w13 by rw [hn13]; exact (Kp.refl No w12).drewN _)
            have z0' := HK13.out.cell z0 id
            have z1' := HK13.out.cell z1 id
            clear hn13
            go_wp2_with fail
            refine Calls.mono (ints_any _ _ _ _ _ (M2.out.no HK13.out) (HAA.out.2.no HK13.out)) ?_
            rw [eqB_refl]
            rintro e w14 ⟨rfl, n14, hn14⟩
            have HK14 := hide (HK13.out.trans (show Kp No w13 w14 by rw [hn14]; exact (Kp.refl No w13).drewN _))
            clear hn14 z0 z1 z0' z1'
            go_wp2_with fail
            refine Calls.mono (ints_any _ _ _ _ _ (M5.out.no HK14.out) (M3.out.no HK14.out)) ?_
            rw [eqB_refl]
            rintro e w15 ⟨rfl, n15, hn15⟩
            have HK15 := hide (HK14.out.trans (show Kp No w14 w15 by rw [hn15]; exact (Kp.refl No w14).drewN _))
            clear hn15
            go_wp2_with fail
            refine Calls.mono (ints_any _ _ _ _ _ (M6.out.no HK15.out) (M4.out.no HK15.out)) ?_
            rw [eqB_refl]
            rintro e w16 ⟨rfl, n16, hn16⟩
            have HK16 := hide (HK15.out.trans (show Kp No w15 w16 by rw [hn16]; exact (Kp.refl No w15).drewN _))
            have HA16 := hide (HA12.out.no HK16.out)
            clear hn16
            go_wp2_with fail
            exact ⟨⟨k + 1, _, _, _, by go_num, hlt, hlt100, by rw [HBS.out]; exact HA16⟩, by simp [intOf]; omega⟩
    · have hf : (decide ((k : Int) < (steps.length : Int)) && decide ((k : Int) < 100)) = false := by
        rw [Bool.and_eq_false_iff]
        by_cases h1 : k < steps.length
        · right; exact decide_eq_false (by omega)
        · left; exact decide_eq_false (by omega)
      have HLI := hide (lie_run steps k hk)
      have HS2 := hide HA.out.far
      have HKW := hide HA.out.kp
      have HF2 := hide (HA.out.fit.to (S' := fun b => S b ∨ wr.heap.size ≤ b) fun b _ h => .inl h)
      have HE := hide (fun (W : World) (h : Handle W) => error_any 1 1 W h (by omega))
      obtain ⟨bs, hbs⟩ : ∃ bs, fitRun steps k = bs := ⟨_, rfl⟩
      rw [hbs] at HLI HF2
      have HFR := hide ((fl_range (bs := bs) (x := 0) (by decide)))
      obtain ⟨fe, hfe⟩ : ∃ fe, flE bs 0 = fe := ⟨_, rfl⟩
      obtain ⟨fp, hfp⟩ : ∃ fp, flP bs 0 = fp := ⟨_, rfl⟩
      clear hbs
      have HLEND := hide (flend_any 0 wr HF2.out HLI.out (fun b hb => .inr hb))
      rw [hfe, hfp] at HLEND
      rw [hfe] at HFR
      have hfe1 : fe = 1 := HFR.out.1
      subst hfe1
      obtain ⟨er, her⟩ : ∃ er, errV 1 = er := ⟨_, rfl⟩
      rw [her] at HE HLEND
      have HK2 := hide (show ∀ w', Kp (fun b => S b ∨ wr.heap.size ≤ b) wr w' → Kp No w w' from fun w' h => HKW.out.trans' h fun b hb e => by
        rcases e with e | e
        · have := (HS2.out b e).1; omega
        · have := HKW.out.size; omega)
      clear hfe hfp her HFR
      rcases Nat.lt_or_ge k steps.length with h1 | h1
      · have h2 : ¬ (k : Int) < 100 := by omega
        have h1' : (k : Int) < (steps.length : Int) := by omega
        clear hlt
        go_wp2_with fail
        refine Calls.mono HLEND.out ?_
        rintro e w8 ⟨rfl, _, hk8⟩
        have HK8 := hide (HK2.out w8 hk8)
        have HG8 := hide (HH.out.no HK8.out)
        clear hk8
        go_wp2_with fail
        refine Calls.mono (HE.out _ HG8.out) ?_
        rintro e w9 ⟨rfl, hk9⟩
        have HK9 := hide (HK8.out.trans hk9)
        clear hk9
        go_wp2_with fail
        go_ret
        exact ⟨rfl, HK9.out⟩
      · have h1' : ¬ (k : Int) < (steps.length : Int) := by omega
        clear hlt
        go_wp2_with fail
        refine Calls.mono HLEND.out ?_
        rintro e w8 ⟨rfl, _, hk8⟩
        have HK8 := hide (HK2.out w8 hk8)
        have HG8 := hide (HH.out.no HK8.out)
        clear hk8
        go_wp2_with fail
        refine Calls.mono (HE.out _ HG8.out) ?_
        rintro e w9 ⟨rfl, hk9⟩
        have HK9 := hide (HK8.out.trans hk9)
        clear hk9
        go_wp2_with fail
        go_ret
        exact ⟨rfl, HK9.out⟩
end Go.Proofs.YtfhfakkdilngbaaDoor
