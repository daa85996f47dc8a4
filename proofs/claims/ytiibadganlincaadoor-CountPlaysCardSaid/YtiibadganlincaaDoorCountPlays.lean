/- The law CountPlays, walked: of all steps. -/
import Derived.Test.YtiibadganlincaaDoorRefDo
import Derived.Test.YtiibadganlincaaDoorAs
import Derived.Deep.CutBlock
namespace Go.Proofs.YtiibadganlincaaDoor
open Go.RowKit
set_option linter.unusedSimpArgs false

theorem CnIs.kp {w w' : World} {p : Nat} {S S' : Nat → Prop} {s : Cn} (h : CnIs w p S s) (hk : Kp S' w w') (hs : ∀ b, S b → ¬ S' b) : CnIs w' p S s := by
  obtain ⟨vo, vr, vc, vg, vs, h1, h2⟩ := h
  exact ⟨vo, vr, vc, vg, vs, h1.kp hk fun b hb => hs b (h2 b hb), h2⟩
/-- the program's heap at p, the reference's at X; nothing of w0 has changed -/
structure CAl (w0 : World) (p X : Nat) (vo vr vh : Value) (s : Cn) (c : Rc) (S : Nat → Prop) (w : World) : Prop where
  cn : CnIs w p S s
  rc : RcIs w (fun b => ¬ S b ∧ b ≠ X ∧ w0.heap.size ≤ b) vo vr vh c
  blk : Blk w X 28 #[vo, vr, vh]
  far : ∀ b, S b → w0.heap.size ≤ b ∧ b ≠ X
  ge : w0.heap.size ≤ X
  kp : Kp No w0 w
section
variable {w0 w w' : World} {p X : Nat} {vo vr vh uo ur uh : Value} {s : Cn} {c d : Rc} {S : Nat → Prop} {F : Nat → Prop}
theorem CAl.old (h : CAl w0 p X vo vr vh s c S w) : CAl w0 p X vo vr vh s c (fun b => S b ∧ b < w.heap.size) w :=
  ⟨h.cn.tight, h.rc.mono fun b _ h2 => ⟨fun e => h2.1 e.1, h2.2⟩, h.blk, fun b hb => h.far b hb.1, h.ge, h.kp⟩
theorem CAl.no (h : CAl w0 p X vo vr vh s c S w) (hk : Kp No w w') : CAl w0 p X vo vr vh s c S w' :=
  ⟨h.cn.no hk, h.rc.no hk, h.blk.kp hk id, h.far, h.ge, h.kp.trans hk⟩
theorem CAl.put (h : CAl w0 p X vo vr vh s c S w) (hd : RcIs w (fun b => ¬ S b ∧ b ≠ X ∧ w0.heap.size ≤ b) uo ur uh d) :
    CAl w0 p X uo ur uh s d S (((w.setCell ⟨X, 0, none⟩ uo).setCell ⟨X, 1, none⟩ ur).setCell ⟨X, 2, none⟩ uh) := by
  have hk := kp_res w X uo ur uh
  exact ⟨h.cn.kp hk fun b hb e => (h.far b hb).2 e, hd.kp hk fun b hb e => hb.2.1 e, ((h.blk.set_ 0 _).set_ 1 _).set_ 2 _, h.far, h.ge, h.kp.trans' hk fun b hb e => by unfold At at e; have := h.ge; omega⟩
theorem CAl.step {t : Cn} (h : CAl w0 p X vo vr vh s c S w) (hc : CnIs w' p (fun b => S b ∨ w.heap.size ≤ b) t) (hk : Kp (fun b => S b ∨ w.heap.size ≤ b) w w') : CAl w0 p X vo vr vh t c (fun b => S b ∨ w.heap.size ≤ b) w' := by
  have hX := h.blk.lt
  have hs := h.kp.size
  have hfar : ∀ b, S b ∨ w.heap.size ≤ b → w0.heap.size ≤ b ∧ b ≠ X := fun b hb => by
    rcases hb with e | e
    · exact h.far b e
    · exact ⟨by omega, by omega⟩
  refine ⟨hc, (h.rc.mono fun b h1 h2 => (⟨fun e => ?_, h2.2⟩ : ¬ (S b ∨ w.heap.size ≤ b) ∧ b ≠ X ∧ w0.heap.size ≤ b)).kp hk fun b hb => hb.1, h.blk.kp hk fun e => (hfar X e).2 rfl, hfar, h.ge, h.kp.trans' hk fun b hb e => by have := (hfar b e).1; omega⟩
  rcases e with e | e
  · exact h2.1 e
  · omega
theorem CAl.grow (h : CAl w0 p X vo vr vh s c S w) : CnIs w p (fun b => S b ∨ w.heap.size ≤ b) s := h.cn.mono fun b h => .inl h
end
theorem makeN_int (s : Cn) : ((makeN s : Nat) : Int) = if makeE s = 0 then (s.outs.length : Int) else 0 := by unfold makeN; split <;> rfl
theorem eqHB_same (a : List (List Int)) (c : List Int) : eqHB a a c c = true := by unfold eqHB eqB eqBB; simp

set_option maxRecDepth 100000 in
set_option maxHeartbeats 16000000 in
theorem countPlays_any {F : Nat → Prop} (vt : Value) (steps : List (List Int)) (w : World) (ht : RowsIn w F vt steps) (hh : Handle w) :
    Calls Tryd.prog 3 #[vt] w fun e w' => e = .returned (.bool true) ∧ Kp No w w' := by
  have HT := hide (ht.mono (F' := Lo w.heap.size) fun k h _ => h)
  have HH := hide hh
  clear ht hh
  obtain ⟨At', ct, rfl, hct, hmt, _⟩ := RowsIn.form HT.out
  go_enter Tryd.func3, Tryd.ntmps3
  go_wp2_with fail
  refine Calls.mono (cnew_any w) ?_
  rintro e w1 ⟨rfl, hc1, hk1⟩
  obtain ⟨p, hp⟩ : ∃ p, w.heap.size = p := ⟨_, rfl⟩
  obtain ⟨X, hX⟩ : ∃ X, w1.heap.size = X := ⟨_, rfl⟩
  have HA1 := hide (show CAl w p X (.slice none 0 0) (.slice none 0 0) (.slice none 0 0) (runS steps 0) (rcOf (runS steps 0)) (fun b => w.heap.size ≤ b ∧ b < X) (w1.alloc (.cells #[.slice none 0 0, .slice none 0 0, .slice none 0 0] 28)) from by
    have hk : Kp No w1 (w1.alloc (.cells #[.slice none 0 0, .slice none 0 0, .slice none 0 0] 28)) := (Kp.refl No w1).alloc _
    have e0 : runS steps 0 = Cn.new := by simp [runS]
    rw [← hp, ← hX, e0]
    exact ⟨(hc1.tight.mono fun b h => ⟨h.1, h.2⟩).no hk, ⟨RowsIn.nil_ _ _, IntsIn.nil_ _ _, BoolsIn.nil_ _ _⟩, Blk.new w1 _ _, fun b hb => ⟨hb.1, by have := hb.2; omega⟩, hk1.size, hk1.trans hk⟩)
  clear hc1 hk1
  go_wp2_with fail
  obtain ⟨W1, hW1⟩ : ∃ W1, w1.alloc (.cells #[.slice none 0 0, .slice none 0 0, .slice none 0 0] 28) = W1 := ⟨_, rfl⟩
  rw [hW1] at HA1 ⊢
  clear hW1 hX hp
  go_loopw [5] (fun q wr => ∃ (k : Nat) (vo vr vh : Value) (S : Nat → Prop), q = .int .i64 k ∧ k ≤ steps.length ∧ k ≤ 60 ∧ Hid (CAl w p X vo vr vh (runS steps k) (rcOf (runS steps k)) S wr)) (fun q _ => 60 - (intOf q).toNat)
  case atStart => exact ⟨0, _, _, _, _, rfl, Nat.zero_le _, by omega, HA1⟩
  case round =>
    obtain ⟨k, vo, vr, vh, S0, rfl, hk, hk60, ha0⟩ := hrel
    obtain ⟨S, hS⟩ : ∃ S, (fun b => (S0 b ∧ b < wr.heap.size)) = S := ⟨_, rfl⟩
    have HA := hide (show CAl w p X vo vr vh (runS steps k) (rcOf (runS steps k)) S wr by rw [← hS]; exact ha0.out.old)
    have HSL := hide (show ∀ b, wr.heap.size ≤ b → ¬ S b from fun b hb h => by rw [← hS] at h; have := h.2; omega)
    clear ha0 hS
    have HP := hide (PInv.run steps k)
    by_cases hlt : k < steps.length ∧ k < 60
    · obtain ⟨hlt, hlt60⟩ := hlt
      have hkl : (k : Int) < (steps.length : Int) := by omega
      have hk6 : (k : Int) < 60 := by omega
      have HN := hide (run_succ hlt)
      have HP' := hide (PInv.run steps (k + 1))
      obtain ⟨s, hs⟩ : ∃ s, runS steps k = s := ⟨_, rfl⟩
      rw [hs] at HA HP HN
      clear hs
      have HNEW := hide (show ∀ b, wr.heap.size ≤ b → ¬ S b ∧ b ≠ X ∧ w.heap.size ≤ b from fun b hb => by
        have h1 := HA.out.blk.lt
        have h2 := HA.out.kp.size
        exact ⟨HSL.out b hb, by omega, by omega⟩)
      obtain ⟨_, _, e, _, _, hrow⟩ := RowsIn.form HT.out
      cases e
      obtain ⟨bt', ot, A', c', rfl, hFb, hrc, hri⟩ := hrow k hlt
      replace hrc := HA.out.kp.cell hrc id
      clear hrow
      by_cases h3 : steps[k].length = 3
      · obtain ⟨x0, x1, x2, hx⟩ : ∃ x0 x1 x2, steps[k] = [x0, x1, x2] := by
          match hs : steps[k], h3 with
          | [a, b, c], _ => exact ⟨a, b, c, rfl⟩
        rw [hx] at hrc hri HN
        obtain ⟨_, _, e, _, _, hcell⟩ := hri
        cases e
        obtain ⟨b3', o3, rfl, hF3, i0⟩ := hcell 0 (by simp)
        obtain ⟨_, _, e, _, i1⟩ := hcell 1 (by simp)
        cases e
        obtain ⟨_, _, e, _, i2⟩ := hcell 2 (by simp)
        cases e
        simp only [List.getElem_cons_zero, List.getElem_cons_succ, Nat.add_zero, List.length_cons, List.length_nil] at i0 i1 i2 hrc
        clear hcell hx h3
        have HC0 := hide (show ∀ W, Kp No w W → W.cell? ⟨b3', o3, none⟩ = some (.int .i64 x0) from fun W hW => hW.cell i0 id)
        have HC1 := hide (show ∀ W, Kp No w W → W.cell? ⟨b3', o3 + 1, none⟩ = some (.int .i64 x1) from fun W hW => hW.cell i1 id)
        have HC2 := hide (show ∀ W, Kp No w W → W.cell? ⟨b3', o3 + 2, none⟩ = some (.int .i64 x2) from fun W hW => hW.cell i2 id)
        clear i0 i1 i2
        have i0 := HC0.out _ HA.out.kp
        have i1 := HC1.out _ HA.out.kp
        have i2 := HC2.out _ HA.out.kp
        cases hbt : btw x0 0 4 with
        | false =>
          have HBT := hide hbt
          have HD := hide (doS_out (s := s) (i := x1) (j := x2) hbt)
          have HA' := hide (show CAl w p X vo vr vh (runS steps (k + 1)) (rcOf (runS steps (k + 1))) S wr by rw [HN.out, HD.out]; exact HA.out)
          clear hbt
          go_wp2_with fail
          refine Calls.mono (in_any _ _ _ _) ?_
          rw [HBT.out]
          rintro e w5 ⟨rfl, rfl⟩
          go_wp2_with fail
          exact ⟨⟨k + 1, _, _, _, _, by go_num, hlt, hlt60, HA'⟩, by simp [intOf]; omega⟩
        | true =>
          have HBT := hide hbt
          clear hbt
          obtain ⟨Ao, co, Ar, cr, Ah, ch, rfl, rfl, rfl⟩ := HA.out.rc.slices
          go_wp2_with fail
          refine Calls.mono (in_any _ _ _ _) ?_
          rw [HBT.out]
          rintro e w5 ⟨rfl, rfl⟩
          go_upto_region 8 with fail
          go_cut [7, 8, 9] from 16 to 148 (fun s7 s8 s9 w' => ∃ (t : Nat) (uo ur uh : Value), s7 = .pointer (some ⟨t, 0, none⟩) ∧ s8 = .int .i64 (doN s x0 : Nat) ∧ s9 = .int .i64 (doE s x0 x1 x2 : Nat) ∧ Hid (Blk w' t 28 #[uo, ur, uh]) ∧ Hid (RcIs w' (fun b => ¬ S b ∧ b ≠ X ∧ w.heap.size ≤ b) uo ur uh (rcOf (doS s [x0, x1, x2]))) ∧ Hid (Kp No wr w') ∧ X < t)
          case first =>
            obtain ⟨q1, q2, q3, q4, q5, q6, q7⟩ := HA.out.blk.a3
            refine plan_start 19 (by kernel_rfl) rfl (fun hPT => ?_)
            refine plan_take (i := 1) (v := ?_) rfl (by kernel_rfl) (by kernel_rfl) (by kernel_rfl) (fun _ _ _ h => h) hPT (by rfl) ?_ ?_
            rotate_left
            · (intro w; go_simp; with_reducible rfl)
            (clear hPT; intro hPT; simp only [List.getElem_toArray, List.getElem_cons_zero, List.getElem_cons_succ, Act.put, List.setIfInBounds_toArray, List.set_cons_zero, List.set_cons_succ])
            refine plan_take (i := 4) (v := ?_) rfl (by kernel_rfl) (by kernel_rfl) (by kernel_rfl) (fun _ _ _ h => h) hPT (by rfl) ?_ ?_
            rotate_left
            · (intro w; go_simp; with_reducible rfl)
            (clear hPT; intro hPT; simp only [List.getElem_toArray, List.getElem_cons_zero, List.getElem_cons_succ, Act.put, List.setIfInBounds_toArray, List.set_cons_zero, List.set_cons_succ])
            refine plan_take (i := 7) (v := ?_) rfl (by kernel_rfl) (by kernel_rfl) (by kernel_rfl) (fun _ _ _ h => h) hPT (by rfl) ?_ ?_
            rotate_left
            · (intro w; go_simp; with_reducible rfl)
            (clear hPT; intro hPT; simp only [List.getElem_toArray, List.getElem_cons_zero, List.getElem_cons_succ, Act.put, List.setIfInBounds_toArray, List.set_cons_zero, List.set_cons_succ])
            refine plan_load (fun w' => w'.cell? ⟨X, 0, none⟩ = some (.slice Ao (rcOf s).outs.length co) ∧ w'.cell? ⟨X, 1, none⟩ = some (.slice Ar (rcOf s).roots.length cr) ∧ w'.cell? ⟨X, 2, none⟩ = some (.slice Ah (rcOf s).here.length ch)) (i := 0) (v := ?_) rfl (by kernel_rfl) (by kernel_rfl) (by kernel_rfl) (fun _ _ _ h => h) hPT (by rfl) ?_ ?_ ?_
            rotate_left
            · (first | exact ⟨by assumption, by assumption, by assumption⟩ | (go_simp; done))
            · (intro w hSw; (try dsimp only at hSw); obtain ⟨hSw1, hSw2, hSw3⟩ := hSw; go_simp; with_reducible rfl)
            (clear hPT; intro hPT; simp only [List.getElem_toArray, List.getElem_cons_zero, List.getElem_cons_succ, Act.put, List.setIfInBounds_toArray, List.set_cons_zero, List.set_cons_succ])
            refine plan_take (i := 2) (v := ?_) rfl (by kernel_rfl) (by kernel_rfl) (by kernel_rfl) (fun _ _ _ h => h) hPT (by rfl) ?_ ?_
            rotate_left
            · (intro w; go_simp; with_reducible rfl)
            (clear hPT; intro hPT; simp only [List.getElem_toArray, List.getElem_cons_zero, List.getElem_cons_succ, Act.put, List.setIfInBounds_toArray, List.set_cons_zero, List.set_cons_succ])
            refine plan_take (i := 5) (v := ?_) rfl (by kernel_rfl) (by kernel_rfl) (by kernel_rfl) (fun _ _ _ h => h) hPT (by rfl) ?_ ?_
            rotate_left
            · (intro w; go_simp; with_reducible rfl)
            (clear hPT; intro hPT; simp only [List.getElem_toArray, List.getElem_cons_zero, List.getElem_cons_succ, Act.put, List.setIfInBounds_toArray, List.set_cons_zero, List.set_cons_succ])
            refine plan_take (i := 8) (v := ?_) rfl (by kernel_rfl) (by kernel_rfl) (by kernel_rfl) (fun _ _ _ h => h) hPT (by rfl) ?_ ?_
            rotate_left
            · (intro w; go_simp; with_reducible rfl)
            (clear hPT; intro hPT; simp only [List.getElem_toArray, List.getElem_cons_zero, List.getElem_cons_succ, Act.put, List.setIfInBounds_toArray, List.set_cons_zero, List.set_cons_succ])
            refine plan_load (fun w' => w'.cell? ⟨b3', o3, none⟩ = some (.int .i64 x0)) (i := 3) (v := ?_) rfl (by kernel_rfl) (by kernel_rfl) (by kernel_rfl) (fun _ _ _ h => h) hPT (by rfl) ?_ ?_ ?_
            rotate_left
            · (first | assumption | (go_simp; done))
            · (intro w hSw; (try dsimp only at hSw); go_simp; with_reducible rfl)
            (clear hPT; intro hPT; simp only [List.getElem_toArray, List.getElem_cons_zero, List.getElem_cons_succ, Act.put, List.setIfInBounds_toArray, List.set_cons_zero, List.set_cons_succ])
            refine plan_load (fun w' => w'.cell? ⟨b3', o3 + 1, none⟩ = some (.int .i64 x1)) (i := 6) (v := ?_) rfl (by kernel_rfl) (by kernel_rfl) (by kernel_rfl) (fun _ _ _ h => h) hPT (by rfl) ?_ ?_ ?_
            rotate_left
            · (first | assumption | (go_simp; done))
            · (intro w hSw; (try dsimp only at hSw); go_simp; with_reducible rfl)
            (clear hPT; intro hPT; simp only [List.getElem_toArray, List.getElem_cons_zero, List.getElem_cons_succ, Act.put, List.setIfInBounds_toArray, List.set_cons_zero, List.set_cons_succ])
            refine plan_load (fun w' => w'.cell? ⟨b3', o3 + 2, none⟩ = some (.int .i64 x2)) (i := 9) (v := ?_) rfl (by kernel_rfl) (by kernel_rfl) (by kernel_rfl) (fun _ _ _ h => h) hPT (by rfl) ?_ ?_ ?_
            rotate_left
            · (first | assumption | (go_simp; done))
            · (intro w hSw; (try dsimp only at hSw); go_simp; with_reducible rfl)
            (clear hPT; intro hPT; simp only [List.getElem_toArray, List.getElem_cons_zero, List.getElem_cons_succ, Act.put, List.setIfInBounds_toArray, List.set_cons_zero, List.set_cons_succ])
            refine plan_two (i := 10) (j := 15) (by kernel_rfl) rfl rfl (by rfl) (by rfl) (fun K hK => ?ordA) (fun K hK => ?ordB)
            case' ordA =>
              (try simp only [List.getElem_toArray, List.getElem_cons_zero, List.getElem_cons_succ, Act.put, List.setIfInBounds_toArray, List.set_cons_zero, List.set_cons_succ])
              go_simp
              refine Calls.mono (rdo_any (F := (fun b => ¬ S b ∧ b ≠ X ∧ w.heap.size ≤ b)) _ _ _ s x0 x1 x2 _ (HA.out.rc.no (by (repeat (first | exact Kp.refl _ _ | with_reducible refine Kp.drewN ?_ _ | with_reducible refine Kp.drew ?_ | with_reducible refine Kp.alloc ?_ _ | with_reducible refine Kp.setCell ?_ (fun _ => ?_) _)); all_goals (simp_all; omega))) HP.out (fun b hb => HNEW.out b (by simpa using hb)) HBT.out) ?_
              rintro e w5 ⟨uo, ur, uh, rfl, h5, hk5⟩
              have HK5 := hide ((show Kp No wr _ from (by (repeat (first | exact Kp.refl _ _ | with_reducible refine Kp.drewN ?_ _ | with_reducible refine Kp.drew ?_ | with_reducible refine Kp.alloc ?_ _ | with_reducible refine Kp.setCell ?_ (fun _ => ?_) _)); all_goals (simp_all; omega))).trans hk5)
              have HI5 := hide h5
              obtain ⟨Bo, bo, Br, br, Bh, bh, rfl, rfl, rfl⟩ := h5.slices
              clear h5 hk5 q1 q2 q3 q4 q5 q6 q7
              refine hK.out [] _ _ (t_nil _) (k_drop (by kernel_rfl) (k_drop (by kernel_rfl) (k_drop (by kernel_rfl) (k_drop (by kernel_rfl) k_nil)))) (fun hPT' => ?_)
              (clear hPT hK K; have hPT := hPT'; clear hPT'; try simp only [List.getElem_toArray, List.getElem_cons_zero, List.getElem_cons_succ, Act.put, List.setIfInBounds_toArray, List.set_cons_zero, List.set_cons_succ])
              refine plan_take (i := 11) (v := ?_) rfl (by kernel_rfl) (by kernel_rfl) (by kernel_rfl) (fun _ _ _ h => h) hPT (by rfl) ?_ ?_
              rotate_left
              · (intro w; go_simp; with_reducible rfl)
              (clear hPT; intro hPT; simp only [List.getElem_toArray, List.getElem_cons_zero, List.getElem_cons_succ, Act.put, List.setIfInBounds_toArray, List.set_cons_zero, List.set_cons_succ])
              refine plan_take (i := 12) (v := ?_) rfl (by kernel_rfl) (by kernel_rfl) (by kernel_rfl) (fun _ _ _ h => h) hPT (by rfl) ?_ ?_
              rotate_left
              · (intro w; go_simp; with_reducible rfl)
              (clear hPT; intro hPT; simp only [List.getElem_toArray, List.getElem_cons_zero, List.getElem_cons_succ, Act.put, List.setIfInBounds_toArray, List.set_cons_zero, List.set_cons_succ])
              refine plan_take (i := 13) (v := ?_) rfl (by kernel_rfl) (by kernel_rfl) (by kernel_rfl) (fun _ _ _ h => h) hPT (by rfl) ?_ ?_
              rotate_left
              · (intro w; go_simp; with_reducible rfl)
              (clear hPT; intro hPT; simp only [List.getElem_toArray, List.getElem_cons_zero, List.getElem_cons_succ, Act.put, List.setIfInBounds_toArray, List.set_cons_zero, List.set_cons_succ])
              refine plan_take (i := 14) (v := ?_) rfl (by kernel_rfl) (by kernel_rfl) (by kernel_rfl) (fun _ _ _ h => h) hPT (by rfl) ?_ ?_
              rotate_left
              · (intro w; go_simp; with_reducible rfl)
              (clear hPT; intro hPT; simp only [List.getElem_toArray, List.getElem_cons_zero, List.getElem_cons_succ, Act.put, List.setIfInBounds_toArray, List.set_cons_zero, List.set_cons_succ])
              refine plan_one (i := 15) (by kernel_rfl) rfl (by rfl) (fun K hK => ?_)
              (try simp only [List.getElem_toArray, List.getElem_cons_zero, List.getElem_cons_succ, Act.put, List.setIfInBounds_toArray, List.set_cons_zero, List.set_cons_succ])
              go_simp
              refine hK.out [] _ _ (t_nil _) k_nil (fun hPT' => ?_)
              (clear hPT hK K; have hPT := hPT'; clear hPT'; try simp only [List.getElem_toArray, List.getElem_cons_zero, List.getElem_cons_succ, Act.put, List.setIfInBounds_toArray, List.set_cons_zero, List.set_cons_succ])
              refine plan_one (i := 16) (by kernel_rfl) rfl (by rfl) (fun K hK => ?_)
              (try simp only [List.getElem_toArray, List.getElem_cons_zero, List.getElem_cons_succ, Act.put, List.setIfInBounds_toArray, List.set_cons_zero, List.set_cons_succ])
              go_simp
              refine hK.out [] _ _ (t_nil _) k_nil (fun hPT' => ?_)
              (clear hPT hK K; have hPT := hPT'; clear hPT'; try simp only [List.getElem_toArray, List.getElem_cons_zero, List.getElem_cons_succ, Act.put, List.setIfInBounds_toArray, List.set_cons_zero, List.set_cons_succ])
              refine plan_take (i := 17) (v := ?_) rfl (by kernel_rfl) (by kernel_rfl) (by kernel_rfl) (fun _ _ _ h => h) hPT (by rfl) ?_ ?_
              rotate_left
              · (intro w; go_simp; with_reducible rfl)
              (clear hPT; intro hPT; simp only [List.getElem_toArray, List.getElem_cons_zero, List.getElem_cons_succ, Act.put, List.setIfInBounds_toArray, List.set_cons_zero, List.set_cons_succ])
              refine plan_take (i := 18) (v := ?_) rfl (by kernel_rfl) (by kernel_rfl) (by kernel_rfl) (fun _ _ _ h => h) hPT (by rfl) ?_ ?_
              rotate_left
              · (intro w; go_simp; with_reducible rfl)
              (clear hPT; intro hPT; simp only [List.getElem_toArray, List.getElem_cons_zero, List.getElem_cons_succ, Act.put, List.setIfInBounds_toArray, List.set_cons_zero, List.set_cons_succ])
              refine plan_done (by kernel_rfl) ?_ _
              clear hPT
              have HEND := hide (show X < w5.heap.size from Nat.lt_of_lt_of_le HA.out.blk.lt HK5.out.size)
              go_wp2_with fail
              go_meet
              case rel => exact ⟨_, _, _, _, rfl, rfl, rfl, Blk.new w5 _ _, HI5.out.no ((Kp.refl No w5).alloc _), HK5.out.alloc _, HEND.out⟩
            case' ordB =>
              (try simp only [List.getElem_toArray, List.getElem_cons_zero, List.getElem_cons_succ, Act.put, List.setIfInBounds_toArray, List.set_cons_zero, List.set_cons_succ])
              go_simp
              obtain ⟨t, htt⟩ : ∃ t, wr.heap.size = t := ⟨_, rfl⟩
              have HQ0 := hide (show Blk (wr.alloc (.cells #[.slice none 0 0, .slice none 0 0, .slice none 0 0] 28)).drew t 28 #[.slice none 0 0, .slice none 0 0, .slice none 0 0] from (Blk.at_ _ _ htt).drew)
              have HKB := hide (show Kp No wr (wr.alloc (.cells #[.slice none 0 0, .slice none 0 0, .slice none 0 0] 28)).drew from ((Kp.refl No wr).alloc _).drew)
              have htx : X < t := by have := HA.out.blk.lt; omega
              have HGG := hide (show ∀ W' : World, t < W'.heap.size → ∀ b, W'.heap.size ≤ b → (¬ S b ∧ b ≠ X ∧ w.heap.size ≤ b) ∧ b ≠ t from fun W' h b hb => ⟨HNEW.out b (by omega), by omega⟩)
              have HRO := hide ((HA.out.rc.mono (F' := (fun b => (¬ S b ∧ b ≠ X ∧ w.heap.size ≤ b) ∧ b ≠ t)) fun b h1 h2 => ⟨h2, by omega⟩).no HKB.out)
              refine hK.out _ _ _ (t_cons (HC2.out _ (HA.out.kp.trans HKB.out)) (t_cons (HC1.out _ (HA.out.kp.trans HKB.out)) (t_cons (HC0.out _ (HA.out.kp.trans HKB.out)) (t_cons ⟨HKB.out.cell q1 id, HKB.out.cell q2 id, HKB.out.cell q3 id⟩ (t_nil _))))) k_same (fun hPT' => ?_)
              (clear hPT hK K; have hPT := hPT'; clear hPT'; try simp only [List.getElem_toArray, List.getElem_cons_zero, List.getElem_cons_succ, Act.put, List.setIfInBounds_toArray, List.set_cons_zero, List.set_cons_succ])
              refine plan_one (i := 10) (by kernel_rfl) rfl (by rfl) (fun K hK => ?_)
              (try simp only [List.getElem_toArray, List.getElem_cons_zero, List.getElem_cons_succ, Act.put, List.setIfInBounds_toArray, List.set_cons_zero, List.set_cons_succ])
              go_simp
              refine Calls.mono (rdo_any (F := (fun b => (¬ S b ∧ b ≠ X ∧ w.heap.size ≤ b) ∧ b ≠ t)) _ _ _ s x0 x1 x2 _ HRO.out HP.out (HGG.out _ HQ0.out.lt) HBT.out) ?_
              rintro e w5 ⟨uo, ur, uh, rfl, h5, hk5⟩
              have HK5 := hide (HKB.out.trans hk5)
              have HQ5 := hide (HQ0.out.kp hk5 id)
              have HI5 := hide h5
              obtain ⟨Bo, bo, Br, br, Bh, bh, rfl, rfl, rfl⟩ := h5.slices
              clear h5 hk5 q1 q2 q3 q4 q5 q6 q7
              obtain ⟨q1, q2, q3, q4, q5, q6, q7⟩ := HQ5.out.a3
              refine hK.out [] _ _ (t_nil _) (k_drop (by kernel_rfl) (k_drop (by kernel_rfl) (k_drop (by kernel_rfl) (k_drop (by kernel_rfl) k_nil)))) (fun hPT' => ?_)
              (clear hPT hK K; have hPT := hPT'; clear hPT'; try simp only [List.getElem_toArray, List.getElem_cons_zero, List.getElem_cons_succ, Act.put, List.setIfInBounds_toArray, List.set_cons_zero, List.set_cons_succ])
              refine plan_take (i := 11) (v := ?_) rfl (by kernel_rfl) (by kernel_rfl) (by kernel_rfl) (fun _ _ _ h => h) hPT (by rfl) ?_ ?_
              rotate_left
              · (intro w; go_simp; with_reducible rfl)
              (clear hPT; intro hPT; simp only [List.getElem_toArray, List.getElem_cons_zero, List.getElem_cons_succ, Act.put, List.setIfInBounds_toArray, List.set_cons_zero, List.set_cons_succ])
              refine plan_take (i := 12) (v := ?_) rfl (by kernel_rfl) (by kernel_rfl) (by kernel_rfl) (fun _ _ _ h => h) hPT (by rfl) ?_ ?_
              rotate_left
              · (intro w; go_simp; with_reducible rfl)
              (clear hPT; intro hPT; simp only [List.getElem_toArray, List.getElem_cons_zero, List.getElem_cons_succ, Act.put, List.setIfInBounds_toArray, List.set_cons_zero, List.set_cons_succ])
              refine plan_take (i := 13) (v := ?_) rfl (by kernel_rfl) (by kernel_rfl) (by kernel_rfl) (fun _ _ _ h => h) hPT (by rfl) ?_ ?_
              rotate_left
              · (intro w; go_simp; with_reducible rfl)
              (clear hPT; intro hPT; simp only [List.getElem_toArray, List.getElem_cons_zero, List.getElem_cons_succ, Act.put, List.setIfInBounds_toArray, List.set_cons_zero, List.set_cons_succ])
              refine plan_take (i := 14) (v := ?_) rfl (by kernel_rfl) (by kernel_rfl) (by kernel_rfl) (fun _ _ _ h => h) hPT (by rfl) ?_ ?_
              rotate_left
              · (intro w; go_simp; with_reducible rfl)
              (clear hPT; intro hPT; simp only [List.getElem_toArray, List.getElem_cons_zero, List.getElem_cons_succ, Act.put, List.setIfInBounds_toArray, List.set_cons_zero, List.set_cons_succ])
              refine plan_one (i := 16) (by kernel_rfl) rfl (by rfl) (fun K hK => ?_)
              (try simp only [List.getElem_toArray, List.getElem_cons_zero, List.getElem_cons_succ, Act.put, List.setIfInBounds_toArray, List.set_cons_zero, List.set_cons_succ])
              go_simp
              refine hK.out [] _ _ (t_nil _) k_nil (fun hPT' => ?_)
              (clear hPT hK K; have hPT := hPT'; clear hPT'; try simp only [List.getElem_toArray, List.getElem_cons_zero, List.getElem_cons_succ, Act.put, List.setIfInBounds_toArray, List.set_cons_zero, List.set_cons_succ])
              refine plan_take (i := 17) (v := ?_) rfl (by kernel_rfl) (by kernel_rfl) (by kernel_rfl) (fun _ _ _ h => h) hPT (by rfl) ?_ ?_
              rotate_left
              · (intro w; go_simp; with_reducible rfl)
              (clear hPT; intro hPT; simp only [List.getElem_toArray, List.getElem_cons_zero, List.getElem_cons_succ, Act.put, List.setIfInBounds_toArray, List.set_cons_zero, List.set_cons_succ])
              refine plan_take (i := 18) (v := ?_) rfl (by kernel_rfl) (by kernel_rfl) (by kernel_rfl) (fun _ _ _ h => h) hPT (by rfl) ?_ ?_
              rotate_left
              · (intro w; go_simp; with_reducible rfl)
              (clear hPT; intro hPT; simp only [List.getElem_toArray, List.getElem_cons_zero, List.getElem_cons_succ, Act.put, List.setIfInBounds_toArray, List.set_cons_zero, List.set_cons_succ])
              refine plan_done (by kernel_rfl) ?_ _
              clear hPT
              go_wp2_with fail
              go_meet
              case rel =>
                have hk3 := kp_res w5 t (.slice Bo (rcOf (doS s [x0, x1, x2])).outs.length bo) (.slice Br (rcOf (doS s [x0, x1, x2])).roots.length br) (.slice Bh (rcOf (doS s [x0, x1, x2])).here.length bh)
                exact ⟨t, _, _, _, rfl, rfl, rfl, ((HQ5.out.set_ 0 _).set_ 1 _).set_ 2 _, (HI5.out.kp hk3 fun b hb e => hb.2 e).mono fun b _ h => h.1, HK5.out.trans' hk3 fun b hb e => by unfold At at e; omega, htx⟩
          case rest =>
            obtain ⟨t, uo, ur, uh, rfl, rfl, rfl, hb8, hi8, hk8, htx⟩ := hcut
            obtain ⟨Bo, bo, Br, br, Bh, bh, rfl, rfl, rfl⟩ := hi8.out.slices
            have HAc := hide (HA.out.no hk8.out)
            obtain ⟨q1, q2, q3, q4, q5, q6, q7⟩ := hb8.out.a3
            obtain ⟨y1, y2, y3, y4, y5, y6, y7⟩ := HAc.out.blk.a3
            clear i0 i1 i2
            go_upto_region 10 with fail
            obtain ⟨W9, hW9⟩ : ∃ W9, ((wc.setCell ⟨X, 0, none⟩ (.slice Bo (rcOf (doS s [x0, x1, x2])).outs.length bo)).setCell ⟨X, 1, none⟩ (.slice Br (rcOf (doS s [x0, x1, x2])).roots.length br)).setCell ⟨X, 2, none⟩ (.slice Bh (rcOf (doS s [x0, x1, x2])).here.length bh) = W9 := ⟨_, rfl⟩
            have HA9 := hide (HAc.out.put hi8.out)
            rw [hW9] at HA9 ⊢
            have i0 := HC0.out _ HA9.out.kp
            have HG9 := hide (HH.out.no HA9.out.kp)
            clear hW9 q1 q2 q3 q4 q5 q6 q7 y1 y2 y3 y4 y5 y6 y7 hb8 hi8 hk8 HAc HA
            have HGC := hide HA9.out.grow
            go_upto_block 2 with fail
            go_cut [10, 11] from 16 to 148 (fun s10 s11 w' => s10 = .int .i64 (doN s x0 : Nat) ∧ s11 = errV (doE s x0 x1 x2) ∧ Hid (CnIs w' p (fun b => S b ∨ W9.heap.size ≤ b) (doS s [x0, x1, x2])) ∧ Hid (Kp (fun b => S b ∨ W9.heap.size ≤ b) W9 w'))
            case first => --keep
              have i1 := HC1.out _ HA9.out.kp
              have i2 := HC2.out _ HA9.out.kp
              by_cases e0 : x0 = 0
              · subst e0
                have HD := hide (show doS s [0, x1, x2] = makeS s ∧ doN s 0 = makeN s ∧ doE s 0 x1 x2 = makeE s from ⟨by rw [doS_three, if_pos rfl], by unfold doN; rw [if_pos rfl], by unfold doE; rw [if_pos rfl]⟩)
                go_wp2_with fail
                refine Calls.mono (cmake_any W9 HP.out (fun b hb => .inr hb) HGC.out) ?_
                rintro e w10 ⟨rfl, hc10, hk10⟩
                have HC10 := hide hc10
                have HK10 := hide hk10
                clear hc10 hk10
                rw [← makeN_int]
                go_wp2_with fail
                go_meet
                case rel => exact ⟨by rw [HD.out.2.1], by rw [HD.out.2.2], by rw [HD.out.1]; exact HC10, HK10⟩
              have h0 : (x0 == 0) = false := by rw [beq_eq_false_iff_ne]; exact e0
              by_cases e1 : x0 = 1
              · subst e1
                have HD := hide (show doS s [1, x1, x2] = rootS s x1 ∧ doN s 1 = 0 ∧ doE s 1 x1 x2 = rootE s x1 from ⟨by rw [doS_three, if_neg (by decide), if_pos rfl], by unfold doN; rw [if_neg (by decide)], by unfold doE; rw [if_neg (by decide), if_pos rfl]⟩)
                clear e0 h0
                go_wp2_with fail
                refine Calls.mono (croot_any x1 W9 HP.out (fun b hb => .inr hb) HGC.out) ?_
                rintro e w10 ⟨rfl, hc10, hk10⟩
                have HC10 := hide hc10
                have HK10 := hide hk10
                clear hc10 hk10
                go_wp2_with fail
                go_meet
                case rel => exact ⟨by rw [HD.out.2.1]; rfl, by rw [HD.out.2.2], by rw [HD.out.1]; exact HC10, HK10⟩
              have h1 : (x0 == 1) = false := by rw [beq_eq_false_iff_ne]; exact e1
              by_cases e2 : x0 = 2
              · subst e2
                have HD := hide (show doS s [2, x1, x2] = dropS s x1 ∧ doN s 2 = 0 ∧ doE s 2 x1 x2 = dropE s x1 from ⟨by rw [doS_three, if_neg (by decide), if_neg (by decide), if_pos rfl], by unfold doN; rw [if_neg (by decide)], by unfold doE; rw [if_neg (by decide), if_neg (by decide), if_pos rfl]⟩)
                clear e0 h0 e1 h1
                go_wp2_with fail
                refine Calls.mono (cdrop_any x1 W9 HP.out (fun b hb => .inr hb) HGC.out) ?_
                rintro e w10 ⟨rfl, hc10, hk10⟩
                have HC10 := hide hc10
                have HK10 := hide hk10
                clear hc10 hk10
                go_wp2_with fail
                go_meet
                case rel => exact ⟨by rw [HD.out.2.1]; rfl, by rw [HD.out.2.2], by rw [HD.out.1]; exact HC10, HK10⟩
              have h2 : (x0 == 2) = false := by rw [beq_eq_false_iff_ne]; exact e2
              by_cases e3 : x0 = 3
              · subst e3
                have HD := hide (show doS s [3, x1, x2] = linkS s x1 x2 ∧ doN s 3 = 0 ∧ doE s 3 x1 x2 = linkE s x1 x2 from ⟨by rw [doS_three, if_neg (by decide), if_neg (by decide), if_neg (by decide), if_pos rfl], by unfold doN; rw [if_neg (by decide)], by unfold doE; rw [if_neg (by decide), if_neg (by decide), if_neg (by decide), if_pos rfl]⟩)
                clear e0 h0 e1 h1 e2 h2
                go_wp2_with fail
                refine plan_start 9 (by kernel_rfl) rfl (fun hPT => ?_)
                refine plan_take (i := 0) (v := ?_) rfl (by kernel_rfl) (by kernel_rfl) (by kernel_rfl) (fun _ _ _ h => h) hPT (by rfl) ?_ ?_
                rotate_left
                · (intro w; go_simp; with_reducible rfl)
                (clear hPT; intro hPT; simp only [List.getElem_toArray, List.getElem_cons_zero, List.getElem_cons_succ, Act.put, List.setIfInBounds_toArray, List.set_cons_zero, List.set_cons_succ])
                refine plan_take (i := 1) (v := ?_) rfl (by kernel_rfl) (by kernel_rfl) (by kernel_rfl) (fun _ _ _ h => h) hPT (by rfl) ?_ ?_
                rotate_left
                · (intro w; go_simp; with_reducible rfl)
                (clear hPT; intro hPT; simp only [List.getElem_toArray, List.getElem_cons_zero, List.getElem_cons_succ, Act.put, List.setIfInBounds_toArray, List.set_cons_zero, List.set_cons_succ])
                refine plan_take (i := 2) (v := ?_) rfl (by kernel_rfl) (by kernel_rfl) (by kernel_rfl) (fun _ _ _ h => h) hPT (by rfl) ?_ ?_
                rotate_left
                · (intro w; go_simp; with_reducible rfl)
                (clear hPT; intro hPT; simp only [List.getElem_toArray, List.getElem_cons_zero, List.getElem_cons_succ, Act.put, List.setIfInBounds_toArray, List.set_cons_zero, List.set_cons_succ])
                refine plan_take (i := 4) (v := ?_) rfl (by kernel_rfl) (by kernel_rfl) (by kernel_rfl) (fun _ _ _ h => h) hPT (by rfl) ?_ ?_
                rotate_left
                · (intro w; go_simp; with_reducible rfl)
                (clear hPT; intro hPT; simp only [List.getElem_toArray, List.getElem_cons_zero, List.getElem_cons_succ, Act.put, List.setIfInBounds_toArray, List.set_cons_zero, List.set_cons_succ])
                refine plan_take (i := 5) (v := ?_) rfl (by kernel_rfl) (by kernel_rfl) (by kernel_rfl) (fun _ _ _ h => h) hPT (by rfl) ?_ ?_
                rotate_left
                · (intro w; go_simp; with_reducible rfl)
                (clear hPT; intro hPT; simp only [List.getElem_toArray, List.getElem_cons_zero, List.getElem_cons_succ, Act.put, List.setIfInBounds_toArray, List.set_cons_zero, List.set_cons_succ])
                refine plan_load (fun w' => w'.cell? ⟨b3', o3 + 1, none⟩ = some (.int .i64 x1)) (i := 3) (v := ?_) rfl (by kernel_rfl) (by kernel_rfl) (by kernel_rfl) (fun _ _ _ h => h) hPT (by rfl) ?_ ?_ ?_
                rotate_left
                · (first | assumption | (go_simp; done))
                · (intro w hSw; (try dsimp only at hSw); go_simp; with_reducible rfl)
                (clear hPT; intro hPT; simp only [List.getElem_toArray, List.getElem_cons_zero, List.getElem_cons_succ, Act.put, List.setIfInBounds_toArray, List.set_cons_zero, List.set_cons_succ])
                refine plan_load (fun w' => w'.cell? ⟨b3', o3 + 2, none⟩ = some (.int .i64 x2)) (i := 6) (v := ?_) rfl (by kernel_rfl) (by kernel_rfl) (by kernel_rfl) (fun _ _ _ h => h) hPT (by rfl) ?_ ?_ ?_
                rotate_left
                · (first | assumption | (go_simp; done))
                · (intro w hSw; (try dsimp only at hSw); go_simp; with_reducible rfl)
                (clear hPT; intro hPT; simp only [List.getElem_toArray, List.getElem_cons_zero, List.getElem_cons_succ, Act.put, List.setIfInBounds_toArray, List.set_cons_zero, List.set_cons_succ])
                refine plan_one (i := 7) (by kernel_rfl) rfl (by rfl) (fun K hK => ?_)
                (try simp only [List.getElem_toArray, List.getElem_cons_zero, List.getElem_cons_succ, Act.put, List.setIfInBounds_toArray, List.set_cons_zero, List.set_cons_succ])
                go_simp
                refine Calls.mono (clink_any x1 x2 _ HP.out (fun b hb => .inr hb) (HGC.out.no (Kp.refl No _).drew)) ?_
                rintro e w10 ⟨rfl, hc10, hk10⟩
                have HC10 := hide hc10
                have HK10 := hide ((Kp.refl _ W9).drew.trans hk10)
                clear hc10 hk10
                refine hK.out [] _ _ (t_nil _) (k_drop (by kernel_rfl) (k_drop (by kernel_rfl) k_nil)) (fun hPT' => ?_)
                (clear hPT hK K; have hPT := hPT'; clear hPT'; try simp only [List.getElem_toArray, List.getElem_cons_zero, List.getElem_cons_succ, Act.put, List.setIfInBounds_toArray, List.set_cons_zero, List.set_cons_succ])
                refine plan_take (i := 8) (v := ?_) rfl (by kernel_rfl) (by kernel_rfl) (by kernel_rfl) (fun _ _ _ h => h) hPT (by rfl) ?_ ?_
                rotate_left
                · (intro w; go_simp; with_reducible rfl)
                (clear hPT; intro hPT; simp only [List.getElem_toArray, List.getElem_cons_zero, List.getElem_cons_succ, Act.put, List.setIfInBounds_toArray, List.set_cons_zero, List.set_cons_succ])
                refine plan_done (by kernel_rfl) ?_ _
                clear hPT
                go_wp2_with fail
                go_meet
                case rel => exact ⟨by rw [HD.out.2.1]; rfl, by rw [HD.out.2.2], by rw [HD.out.1]; exact HC10, HK10⟩
              have h3 : (x0 == 3) = false := by rw [beq_eq_false_iff_ne]; exact e3
              by_cases e4 : x0 = 4
              · subst e4
                have HD := hide (show doS s [4, x1, x2] = cutS s x1 x2 ∧ doN s 4 = 0 ∧ doE s 4 x1 x2 = cutE s x1 x2 from ⟨by rw [doS_three, if_neg (by decide), if_neg (by decide), if_neg (by decide), if_neg (by decide), if_pos rfl], by unfold doN; rw [if_neg (by decide)], by unfold doE; rw [if_neg (by decide), if_neg (by decide), if_neg (by decide), if_neg (by decide)]⟩)
                clear e0 h0 e1 h1 e2 h2 e3 h3
                go_wp2_with fail
                refine plan_start 9 (by kernel_rfl) rfl (fun hPT => ?_)
                refine plan_take (i := 0) (v := ?_) rfl (by kernel_rfl) (by kernel_rfl) (by kernel_rfl) (fun _ _ _ h => h) hPT (by rfl) ?_ ?_
                rotate_left
                · (intro w; go_simp; with_reducible rfl)
                (clear hPT; intro hPT; simp only [List.getElem_toArray, List.getElem_cons_zero, List.getElem_cons_succ, Act.put, List.setIfInBounds_toArray, List.set_cons_zero, List.set_cons_succ])
                refine plan_take (i := 1) (v := ?_) rfl (by kernel_rfl) (by kernel_rfl) (by kernel_rfl) (fun _ _ _ h => h) hPT (by rfl) ?_ ?_
                rotate_left
                · (intro w; go_simp; with_reducible rfl)
                (clear hPT; intro hPT; simp only [List.getElem_toArray, List.getElem_cons_zero, List.getElem_cons_succ, Act.put, List.setIfInBounds_toArray, List.set_cons_zero, List.set_cons_succ])
                refine plan_take (i := 2) (v := ?_) rfl (by kernel_rfl) (by kernel_rfl) (by kernel_rfl) (fun _ _ _ h => h) hPT (by rfl) ?_ ?_
                rotate_left
                · (intro w; go_simp; with_reducible rfl)
                (clear hPT; intro hPT; simp only [List.getElem_toArray, List.getElem_cons_zero, List.getElem_cons_succ, Act.put, List.setIfInBounds_toArray, List.set_cons_zero, List.set_cons_succ])
                refine plan_take (i := 4) (v := ?_) rfl (by kernel_rfl) (by kernel_rfl) (by kernel_rfl) (fun _ _ _ h => h) hPT (by rfl) ?_ ?_
                rotate_left
                · (intro w; go_simp; with_reducible rfl)
                (clear hPT; intro hPT; simp only [List.getElem_toArray, List.getElem_cons_zero, List.getElem_cons_succ, Act.put, List.setIfInBounds_toArray, List.set_cons_zero, List.set_cons_succ])
                refine plan_take (i := 5) (v := ?_) rfl (by kernel_rfl) (by kernel_rfl) (by kernel_rfl) (fun _ _ _ h => h) hPT (by rfl) ?_ ?_
                rotate_left
                · (intro w; go_simp; with_reducible rfl)
                (clear hPT; intro hPT; simp only [List.getElem_toArray, List.getElem_cons_zero, List.getElem_cons_succ, Act.put, List.setIfInBounds_toArray, List.set_cons_zero, List.set_cons_succ])
                refine plan_load (fun w' => w'.cell? ⟨b3', o3 + 1, none⟩ = some (.int .i64 x1)) (i := 3) (v := ?_) rfl (by kernel_rfl) (by kernel_rfl) (by kernel_rfl) (fun _ _ _ h => h) hPT (by rfl) ?_ ?_ ?_
                rotate_left
                · (first | assumption | (go_simp; done))
                · (intro w hSw; (try dsimp only at hSw); go_simp; with_reducible rfl)
                (clear hPT; intro hPT; simp only [List.getElem_toArray, List.getElem_cons_zero, List.getElem_cons_succ, Act.put, List.setIfInBounds_toArray, List.set_cons_zero, List.set_cons_succ])
                refine plan_load (fun w' => w'.cell? ⟨b3', o3 + 2, none⟩ = some (.int .i64 x2)) (i := 6) (v := ?_) rfl (by kernel_rfl) (by kernel_rfl) (by kernel_rfl) (fun _ _ _ h => h) hPT (by rfl) ?_ ?_ ?_
                rotate_left
                · (first | assumption | (go_simp; done))
                · (intro w hSw; (try dsimp only at hSw); go_simp; with_reducible rfl)
                (clear hPT; intro hPT; simp only [List.getElem_toArray, List.getElem_cons_zero, List.getElem_cons_succ, Act.put, List.setIfInBounds_toArray, List.set_cons_zero, List.set_cons_succ])
                refine plan_one (i := 7) (by kernel_rfl) rfl (by rfl) (fun K hK => ?_)
                (try simp only [List.getElem_toArray, List.getElem_cons_zero, List.getElem_cons_succ, Act.put, List.setIfInBounds_toArray, List.set_cons_zero, List.set_cons_succ])
                go_simp
                refine Calls.mono (ccut_any x1 x2 _ HP.out (fun b hb => .inr hb) (HGC.out.no (Kp.refl No _).drew)) ?_
                rintro e w10 ⟨rfl, hc10, hk10⟩
                have HC10 := hide hc10
                have HK10 := hide ((Kp.refl _ W9).drew.trans hk10)
                clear hc10 hk10
                refine hK.out [] _ _ (t_nil _) (k_drop (by kernel_rfl) (k_drop (by kernel_rfl) k_nil)) (fun hPT' => ?_)
                (clear hPT hK K; have hPT := hPT'; clear hPT'; try simp only [List.getElem_toArray, List.getElem_cons_zero, List.getElem_cons_succ, Act.put, List.setIfInBounds_toArray, List.set_cons_zero, List.set_cons_succ])
                refine plan_take (i := 8) (v := ?_) rfl (by kernel_rfl) (by kernel_rfl) (by kernel_rfl) (fun _ _ _ h => h) hPT (by rfl) ?_ ?_
                rotate_left
                · (intro w; go_simp; with_reducible rfl)
                (clear hPT; intro hPT; simp only [List.getElem_toArray, List.getElem_cons_zero, List.getElem_cons_succ, Act.put, List.setIfInBounds_toArray, List.set_cons_zero, List.set_cons_succ])
                refine plan_done (by kernel_rfl) ?_ _
                clear hPT
                go_wp2_with fail
                go_meet
                case rel => exact ⟨by rw [HD.out.2.1]; rfl, by rw [HD.out.2.2], by rw [HD.out.1]; exact HC10, HK10⟩
              exact absurd (btw_iff.1 HBT.out) (by omega)
            case rest =>
              obtain ⟨rfl, rfl, hc10, hk10⟩ := hcut
              have HA10 := hide (HA9.out.step hc10.out hk10.out)
              have HE := hide (fun (W : World) (h : Handle W) => error_any (doE s x0 x1 x2) (doE s x0 x1 x2 : Nat) W h (doE_le _ _ _ _))
              obtain ⟨fe, hfe⟩ : ∃ fe, doE s x0 x1 x2 = fe := ⟨_, rfl⟩
              obtain ⟨fn, hfn⟩ : ∃ fn, doN s x0 = fn := ⟨_, rfl⟩
              obtain ⟨s', hs'⟩ : ∃ s', doS s [x0, x1, x2] = s' := ⟨_, rfl⟩
              rw [hs'] at HA10 HN
              rw [HN.out] at HP'
              rw [hfe] at HE ⊢
              rw [hfn]
              obtain ⟨er, her⟩ : ∃ er, errV fe = er := ⟨_, rfl⟩
              rw [her] at HE ⊢
              obtain ⟨S', hS'⟩ : ∃ S', (fun b => S b ∨ W9.heap.size ≤ b) = S' := ⟨_, rfl⟩
              rw [hS'] at HA10
              have HG10 := hide (HH.out.no HA10.out.kp)
              clear hc10 hk10 hfe hfn hs' her hS' HA9 HG9 HGC i0
              have HHL := hide (rc_here_len HP'.out)
              have HN12 := hide HP'.out.n12
              have HR12 := hide HP'.out.r12
              have HFEW := hide HP'.out.few
              go_wp2_with fail
              refine Calls.mono (HE.out _ HG10.out) ?_
              rintro e w11 ⟨rfl, hk11⟩
              have HA11 := hide (HA10.out.no hk11)
              clear hk11 HA10 HG10 HE
              go_wp2_with fail
              go_loopw [12, 13] (fun s12 s13 wr => ∃ i : Nat, s13 = .int .i64 i ∧ i ≤ (rcOf s').here.length ∧ Hid (wr.ownsRow w11.heap.size 3 1 s12 (hereI s' i).length (iv (hereI s' i))) ∧ Hid (Kp No w11 wr)) (fun _ s13 _ => (rcOf s').here.length - (intOf s13).toNat)
              case atStart => exact ⟨0, rfl, Nat.zero_le _, hide (World.ownsRow_nil _ _ _ _), Kp.refl _ _⟩
              case round =>
                obtain ⟨i, rfl, hi, ho, hki⟩ := hrel
                have HAR := hide (HA11.out.no hki.out)
                obtain ⟨y1, y2, y3, y4, y5, y6, y7⟩ := HAR.out.blk.a3
                have hin12 := HN12.out
                by_cases hil : i < (rcOf s').here.length
                · have hio : i < s'.outs.length := by rw [← HHL.out]; exact hil
                  obtain ⟨_, _, e, hle, hmx, hcell⟩ := HAR.out.rc.here.form
                  cases e
                  obtain ⟨bq, oq, rfl, _, hcx⟩ := hcell i hil
                  have hrl : (hereI s' i).length ≤ i := hereI_len s' i
                  have hsz : w11.heap.size ≤ wr.heap.size := hki.out.size
                  have hilt : i < 12 := Nat.lt_of_lt_of_le hio hin12
                  have hcnt := count_all HP'.out hio
                  cases hq : gAt s'.gone i with
                  | false =>
                    have hq2 : (rcOf s').here[i] = true := by rw [← hAt_eq hil]; exact hAt_not.2 ⟨by rw [HP'.out.glen]; exact hio, hq⟩
                    rw [hq2] at hcx
                    have HNX := hide (show hereI s' (i + 1) = hereI s' i ++ [(i : Int)] by show (if gAt s'.gone i = true then _ else _) = _; rw [hq, if_neg (by decide)])
                    have HCR := hide (rcount_any _ _ _ (rcOf s') (i : Int) wr HAR.out.rc HN12.out HR12.out HFEW.out)
                    have HCC := hide (fun (W : World) (hW : Kp No w11 W) => ccount_any (i : Int) W HP'.out (HA11.out.cn.no hW))
                    rw [hcnt] at HCC
                    rw [show refs s' (i : Int) = cntR (rcOf s') (i : Int) from rfl] at HCC
                    obtain ⟨r, hr⟩ : ∃ r, cntR (rcOf s') (i : Int) = r := ⟨_, rfl⟩
                    rw [hr] at HCC HCR
                    clear hr hq hq2 hcnt hcell hle hmx
                    go_wp2_with fail
                    refine Calls.mono HCR.out ?_
                    rintro e w12 ⟨rfl, hk12⟩
                    have HK12 := hide hk12
                    have HOO := hide (own_kp ho.out hk12 fun _ _ h => h)
                    have hsz2 : w11.heap.size ≤ w12.heap.size := Nat.le_trans hsz hk12.size
                    clear hk12 y1 y2 y3 y4 y5 y6 y7 hcx HCR
                    go_upto_region 33 with (at_builtin; refine wpList_push _ rfl (.tmp 124) (.tmp 126) _ rfl w11.heap.size 3 _ 8 Tryd.underlying25 Tryd.infoInt rfl u12 (hereI s' i).length (iv (hereI s' i)) rfl HOO.out (.int .i64 (i : Nat)) rfl 1 _ rfl (by simp) (by omega) (by decide) hsz2 ?_; intro g13 c13 w13 ho13 hgr13 hat13; have HO13 := hide ho13; have HK13 := hide (((hki.out.trans HK12.out).alloc _).grown hgr13 fun b e hb => by have := (own_lt HOO.out e).1; omega); clear ho13 hgr13 hat13)
                    go_wp2_with fail
                    refine Calls.mono (HCC.out w13 HK13.out) ?_
                    rintro e w14 ⟨rfl, rfl⟩
                    go_wp2_with fail
                    exact ⟨⟨i + 1, by go_num, hil, by rw [HNX.out, List.length_append, List.length_singleton]; exact hide (by simpa [iv] using HO13.out), HK13⟩, by simp [intOf]; omega⟩
                  | true =>
                    have hq2 : (rcOf s').here[i] = false := by
                      cases h : (rcOf s').here[i] with
                      | false => rfl
                      | true =>
                        have := hAt_not.1 (show hAt (s'.gone.map (!·)) i = true by rw [← h]; exact hAt_eq hil)
                        rw [hq] at this
                        cases this.2
                    rw [hq2] at hcx
                    have HNX := hide (show hereI s' (i + 1) = hereI s' i by show (if gAt s'.gone i = true then _ else _) = _; rw [hq, if_pos rfl])
                    have HCC := hide (ccount_any (i : Int) wr HP'.out HAR.out.cn)
                    rw [hcnt, gone_none HP'.out hio hq] at HCC
                    clear hq hq2 hcnt hcell hle hmx
                    go_wp2_with fail
                    refine Calls.mono HCC.out ?_
                    rintro e w14 ⟨rfl, rfl⟩
                    go_wp2_with fail
                    exact ⟨⟨i + 1, by go_num, hil, by rw [HNX.out]; exact ho, hki⟩, by simp [intOf]; omega⟩
                · obtain rfl : i = (rcOf s').here.length := by omega
                  have HSUM := hide (show sumP (hereI s' (rcOf s').here.length) = hereB s' by rw [HHL.out]; exact hereI_sum s' _ hin12)
                  obtain ⟨e12, A12, c12, hv12, _, _, _⟩ := own_form ho.out
                  have HIL := hide (IntsIn.of_own (F := fun _ => True) ho.out fun _ _ => trivial)
                  have HIN := hide (show ∀ x ∈ hereI s' (rcOf s').here.length, 0 ≤ x ∧ x < 12 from fun x hx => by have := hereI_in s' _ x hx; have := HHL.out; omega)
                  have HLL := hide (show (hereI s' (rcOf s').here.length).length ≤ 1000 from Nat.le_trans (hereI_len s' _) (by have := HHL.out; omega))
                  clear e12
                  subst hv12
                  have HST := hide (fun (W : World) (hW : Kp No wr W) => set_any _ _ W (HIL.out.no hW) HLL.out HIN.out)
                  rw [HSUM.out] at HST
                  obtain ⟨hb, hhb⟩ : ∃ hb, hereB s' = hb := ⟨_, rfl⟩
                  have HHE := hide (fun (W : World) (hW : Kp No wr W) => here_any W HP'.out (HAR.out.cn.no hW))
                  rw [hhb] at HHE HST
                  obtain ⟨L, hL⟩ : ∃ L, hereI s' (rcOf s').here.length = L := ⟨_, rfl⟩
                  rw [hL] at HST ⊢
                  clear hhb HSUM hL HIN HLL HIL ho
                  go_wp2_with fail
                  refine plan_start 16 (by kernel_rfl) rfl (fun hPT => ?_)
                  refine plan_take (i := 0) (v := ?_) rfl (by kernel_rfl) (by kernel_rfl) (by kernel_rfl) (fun _ _ _ h => h) hPT (by rfl) ?_ ?_
                  rotate_left
                  · (intro w; go_simp; with_reducible rfl)
                  (clear hPT; intro hPT; simp only [List.getElem_toArray, List.getElem_cons_zero, List.getElem_cons_succ, Act.put, List.setIfInBounds_toArray, List.set_cons_zero, List.set_cons_succ])
                  refine plan_take (i := 2) (v := ?_) rfl (by kernel_rfl) (by kernel_rfl) (by kernel_rfl) (fun _ _ _ h => h) hPT (by rfl) ?_ ?_
                  rotate_left
                  · (intro w; go_simp; with_reducible rfl)
                  (clear hPT; intro hPT; simp only [List.getElem_toArray, List.getElem_cons_zero, List.getElem_cons_succ, Act.put, List.setIfInBounds_toArray, List.set_cons_zero, List.set_cons_succ])
                  refine plan_one (i := 1) (by kernel_rfl) rfl (by rfl) (fun K hK => ?_)
                  (try simp only [List.getElem_toArray, List.getElem_cons_zero, List.getElem_cons_succ, Act.put, List.setIfInBounds_toArray, List.set_cons_zero, List.set_cons_succ])
                  go_simp
                  refine Calls.mono (HHE.out _ (by (repeat (first | exact Kp.refl _ _ | with_reducible refine Kp.drewN ?_ _ | with_reducible refine Kp.drew ?_ | with_reducible refine Kp.alloc ?_ _ | with_reducible refine Kp.setCell ?_ (fun _ => ?_) _)); all_goals (simp_all; omega))) ?_
                  rintro e w20 ⟨rfl, rfl⟩
                  refine hK.out [] _ _ (t_nil _) k_nil (fun hPT' => ?_)
                  (clear hPT hK K; have hPT := hPT'; clear hPT'; try simp only [List.getElem_toArray, List.getElem_cons_zero, List.getElem_cons_succ, Act.put, List.setIfInBounds_toArray, List.set_cons_zero, List.set_cons_succ])
                  refine plan_one (i := 3) (by kernel_rfl) rfl (by rfl) (fun K hK => ?_)
                  (try simp only [List.getElem_toArray, List.getElem_cons_zero, List.getElem_cons_succ, Act.put, List.setIfInBounds_toArray, List.set_cons_zero, List.set_cons_succ])
                  go_simp
                  refine Calls.mono (HST.out _ (by (repeat (first | exact Kp.refl _ _ | with_reducible refine Kp.drewN ?_ _ | with_reducible refine Kp.drew ?_ | with_reducible refine Kp.alloc ?_ _ | with_reducible refine Kp.setCell ?_ (fun _ => ?_) _)); all_goals (simp_all; omega))) ?_
                  rintro e w20 ⟨rfl, rfl⟩
                  refine hK.out [] _ _ (t_nil _) k_nil (fun hPT' => ?_)
                  (clear hPT hK K; have hPT := hPT'; clear hPT'; try simp only [List.getElem_toArray, List.getElem_cons_zero, List.getElem_cons_succ, Act.put, List.setIfInBounds_toArray, List.set_cons_zero, List.set_cons_succ])
                  refine plan_take (i := 4) (v := ?_) rfl (by kernel_rfl) (by kernel_rfl) (by kernel_rfl) (fun _ _ _ h => h) hPT (by rfl) ?_ ?_
                  rotate_left
                  · (intro w; go_simp; with_reducible rfl)
                  (clear hPT; intro hPT; simp only [List.getElem_toArray, List.getElem_cons_zero, List.getElem_cons_succ, Act.put, List.setIfInBounds_toArray, List.set_cons_zero, List.set_cons_succ])
                  refine plan_take (i := 5) (v := ?_) rfl (by kernel_rfl) (by kernel_rfl) (by kernel_rfl) (fun _ _ _ h => h) hPT (by rfl) ?_ ?_
                  rotate_left
                  · (intro w; go_simp; with_reducible rfl)
                  (clear hPT; intro hPT; simp only [List.getElem_toArray, List.getElem_cons_zero, List.getElem_cons_succ, Act.put, List.setIfInBounds_toArray, List.set_cons_zero, List.set_cons_succ])
                  refine plan_take (i := 6) (v := ?_) rfl (by kernel_rfl) (by kernel_rfl) (by kernel_rfl) (fun _ _ _ h => h) hPT (by rfl) ?_ ?_
                  rotate_left
                  · (intro w; go_simp; with_reducible rfl)
                  (clear hPT; intro hPT; simp only [List.getElem_toArray, List.getElem_cons_zero, List.getElem_cons_succ, Act.put, List.setIfInBounds_toArray, List.set_cons_zero, List.set_cons_succ])
                  refine plan_take (i := 8) (v := ?_) rfl (by kernel_rfl) (by kernel_rfl) (by kernel_rfl) (fun _ _ _ h => h) hPT (by rfl) ?_ ?_
                  rotate_left
                  · (intro w; go_simp; with_reducible rfl)
                  (clear hPT; intro hPT; simp only [List.getElem_toArray, List.getElem_cons_zero, List.getElem_cons_succ, Act.put, List.setIfInBounds_toArray, List.set_cons_zero, List.set_cons_succ])
                  refine plan_take (i := 10) (v := ?_) rfl (by kernel_rfl) (by kernel_rfl) (by kernel_rfl) (fun _ _ _ h => h) hPT (by rfl) ?_ ?_
                  rotate_left
                  · (intro w; go_simp; with_reducible rfl)
                  (clear hPT; intro hPT; simp only [List.getElem_toArray, List.getElem_cons_zero, List.getElem_cons_succ, Act.put, List.setIfInBounds_toArray, List.set_cons_zero, List.set_cons_succ])
                  refine plan_load (fun w' => w'.cell? ⟨X, 0, none⟩ = some (.slice Bo (rcOf s').outs.length bo)) (i := 9) (v := ?_) rfl (by kernel_rfl) (by kernel_rfl) (by kernel_rfl) (fun _ _ _ h => h) hPT (by rfl) ?_ ?_ ?_
                  rotate_left
                  · (first | assumption | (go_simp; done))
                  · (intro w hSw; (try dsimp only at hSw); go_simp; with_reducible rfl)
                  (clear hPT; intro hPT; simp only [List.getElem_toArray, List.getElem_cons_zero, List.getElem_cons_succ, Act.put, List.setIfInBounds_toArray, List.set_cons_zero, List.set_cons_succ])
                  refine plan_load (fun w' => w'.cell? ⟨X, 1, none⟩ = some (.slice Br (rcOf s').roots.length br)) (i := 11) (v := ?_) rfl (by kernel_rfl) (by kernel_rfl) (by kernel_rfl) (fun _ _ _ h => h) hPT (by rfl) ?_ ?_ ?_
                  rotate_left
                  · (first | assumption | (go_simp; done))
                  · (intro w hSw; (try dsimp only at hSw); go_simp; with_reducible rfl)
                  (clear hPT; intro hPT; simp only [List.getElem_toArray, List.getElem_cons_zero, List.getElem_cons_succ, Act.put, List.setIfInBounds_toArray, List.set_cons_zero, List.set_cons_succ])
                  refine plan_take (i := 12) (v := ?_) rfl (by kernel_rfl) (by kernel_rfl) (by kernel_rfl) (fun _ _ _ h => h) hPT (by rfl) ?_ ?_
                  rotate_left
                  · (intro w; go_simp; with_reducible rfl)
                  (clear hPT; intro hPT; simp only [List.getElem_toArray, List.getElem_cons_zero, List.getElem_cons_succ, Act.put, List.setIfInBounds_toArray, List.set_cons_zero, List.set_cons_succ])
                  refine plan_one (i := 7) (by kernel_rfl) rfl (by rfl) (fun K hK => ?_)
                  (try simp only [List.getElem_toArray, List.getElem_cons_zero, List.getElem_cons_succ, Act.put, List.setIfInBounds_toArray, List.set_cons_zero, List.set_cons_succ])
                  go_simp
                  refine Calls.mono (cheap_any _ HP'.out (HAR.out.cn.no (by (repeat (first | exact Kp.refl _ _ | with_reducible refine Kp.drewN ?_ _ | with_reducible refine Kp.drew ?_ | with_reducible refine Kp.alloc ?_ _ | with_reducible refine Kp.setCell ?_ (fun _ => ?_) _)); all_goals (simp_all; omega)))) ?_
                  rintro e w21 ⟨zo, zr, rfl, ho21, hr21, hk21⟩
                  have HK21 := hide (show Kp No wr w21 from (show Kp No wr _ from (by (repeat (first | exact Kp.refl _ _ | with_reducible refine Kp.drewN ?_ _ | with_reducible refine Kp.drew ?_ | with_reducible refine Kp.alloc ?_ _ | with_reducible refine Kp.setCell ?_ (fun _ => ?_) _)); all_goals (simp_all; omega))).trans hk21)
                  have HHP := hide (heaps_any _ _ _ _ s'.outs (rcOf s').outs s'.roots (rcOf s').roots w21 ho21 hr21 (HAR.out.rc.out.no HK21.out) (HAR.out.rc.root.no HK21.out))
                  rw [show eqHB s'.outs (rcOf s').outs s'.roots (rcOf s').roots = true from eqHB_same _ _] at HHP
                  clear ho21 hr21 hk21
                  refine hK.out _ _ _ (t_cons (HK21.out.cell y2 id) (t_cons (HK21.out.cell y1 id) (t_nil _))) k_same (fun hPT' => ?_)
                  (clear hPT hK K; have hPT := hPT'; clear hPT'; try simp only [List.getElem_toArray, List.getElem_cons_zero, List.getElem_cons_succ, Act.put, List.setIfInBounds_toArray, List.set_cons_zero, List.set_cons_succ])
                  refine plan_one (i := 13) (by kernel_rfl) rfl (by rfl) (fun K hK => ?_)
                  (try simp only [List.getElem_toArray, List.getElem_cons_zero, List.getElem_cons_succ, Act.put, List.setIfInBounds_toArray, List.set_cons_zero, List.set_cons_succ])
                  go_simp
                  refine Calls.mono HHP.out ?_
                  rintro e w22 ⟨rfl, hk22⟩
                  have HK22 := hide (HK21.out.trans hk22)
                  clear hk22
                  refine hK.out _ _ _ (t_cons (HK22.out.cell y2 id) (t_cons (HK22.out.cell y1 id) (t_nil _))) k_same (fun hPT' => ?_)
                  (clear hPT hK K; have hPT := hPT'; clear hPT'; try simp only [List.getElem_toArray, List.getElem_cons_zero, List.getElem_cons_succ, Act.put, List.setIfInBounds_toArray, List.set_cons_zero, List.set_cons_succ])
                  refine plan_take (i := 14) (v := ?_) rfl (by kernel_rfl) (by kernel_rfl) (by kernel_rfl) (fun _ _ _ h => h) hPT (by rfl) ?_ ?_
                  rotate_left
                  · (intro w; go_simp; with_reducible rfl)
                  (clear hPT; intro hPT; simp only [List.getElem_toArray, List.getElem_cons_zero, List.getElem_cons_succ, Act.put, List.setIfInBounds_toArray, List.set_cons_zero, List.set_cons_succ])
                  refine plan_take (i := 15) (v := ?_) rfl (by kernel_rfl) (by kernel_rfl) (by kernel_rfl) (fun _ _ _ h => h) hPT (by rfl) ?_ ?_
                  rotate_left
                  · (intro w; go_simp; with_reducible rfl)
                  (clear hPT; intro hPT; simp only [List.getElem_toArray, List.getElem_cons_zero, List.getElem_cons_succ, Act.put, List.setIfInBounds_toArray, List.set_cons_zero, List.set_cons_succ])
                  refine plan_done (by kernel_rfl) ?_ _
                  clear hPT
                  have HZ := hide (show CAl w p X (.slice Bo (rcOf s').outs.length bo) (.slice Br (rcOf s').roots.length br) (.slice Bh (rcOf s').here.length bh) (runS steps (k + 1)) (rcOf (runS steps (k + 1))) S' w22 by rw [HN.out]; exact HAR.out.no HK22.out)
                  clear y1 y2 y3 y4 y5 y6 y7
                  go_wp2_with fail
                  exact ⟨⟨k + 1, _, _, _, _, by go_num, hlt, hlt60, HZ⟩, by simp [intOf]; omega⟩
      · have h3f : ((steps[k].length : Int) != 3) = true := by rw [bne_iff_ne]; omega
        have HD := hide (doS_far (s := s) h3)
        have HA' := hide (show CAl w p X vo vr vh (runS steps (k + 1)) (rcOf (runS steps (k + 1))) S wr by rw [HN.out, HD.out]; exact HA.out)
        clear h3 hri
        go_wp2_with fail
        exact ⟨⟨k + 1, _, _, _, _, by go_num, hlt, hlt60, HA'⟩, by simp [intOf]; omega⟩
    · have hf : (decide ((k : Int) < (steps.length : Int)) && decide ((k : Int) < 60)) = false := by
        rw [Bool.and_eq_false_iff]
        by_cases h1 : k < steps.length
        · right; exact decide_eq_false (by omega)
        · left; exact decide_eq_false (by omega)
      have HKW := hide HA.out.kp
      have HF1 := hide (ccount_any (-1) wr HP.out HA.out.cn)
      have HF2 := hide (ccount_any 12 wr HP.out HA.out.cn)
      rw [count_far HP.out (x := -1) (by omega)] at HF1
      rw [count_far HP.out (x := 12) (by omega)] at HF2
      rcases Nat.lt_or_ge k steps.length with h1 | h1
      · have h2 : ¬ (k : Int) < 60 := by omega
        have h1' : (k : Int) < (steps.length : Int) := by omega
        clear hlt
        go_wp2_with fail
        refine Calls.mono HF1.out ?_
        rintro e w8 ⟨rfl, rfl⟩
        go_wp2_with fail
        refine Calls.mono HF2.out ?_
        rintro e w8 ⟨rfl, rfl⟩
        go_wp2_with fail
        go_ret
        exact ⟨rfl, HKW.out⟩
      · have h1' : ¬ (k : Int) < (steps.length : Int) := by omega
        clear hlt
        go_wp2_with fail
        refine Calls.mono HF1.out ?_
        rintro e w8 ⟨rfl, rfl⟩
        go_wp2_with fail
        refine Calls.mono HF2.out ?_
        rintro e w8 ⟨rfl, rfl⟩
        go_wp2_with fail
        go_ret
        exact ⟨rfl, HKW.out⟩
end Go.Proofs.YtiibadganlincaaDoor
