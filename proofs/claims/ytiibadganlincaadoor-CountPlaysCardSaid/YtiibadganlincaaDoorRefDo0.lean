/- The document's heap that counts, while one of its changes is on its way: in a box, with the place for what is told behind it. -/
import Derived.Test.YtiibadganlincaaDoorRefSwept
import Derived.Test.YtiibadganlincaaDoorRefPut
import Derived.Test.YtiibadganlincaaDoorCountDo
namespace Go.Proofs.YtiibadganlincaaDoor
open Go.RowKit
set_option linter.unusedSimpArgs false

structure DoSt (w : World) (F : Nat → Prop) (X : Nat) (vo vr vh : Value) (c : Rc) (W : World) : Prop where
  rc : RcIs W (fun b => F b ∧ b ≠ X ∧ b ≠ X + 1) vo vr vh c
  box : Blk W X 28 #[vo, vr, vh]
  res : Blk W (X + 1) 28 #[.slice none 0 0, .slice none 0 0, .slice none 0 0]
  kp : Kp No w W
  hX : w.heap.size = X
section
variable {w W W' : World} {F : Nat → Prop} {X : Nat} {vo vr vh : Value} {c : Rc}
theorem DoSt.start (h : RcIs w F vo vr vh c) : DoSt w F w.heap.size vo vr vh c ((w.alloc (.cells #[vo, vr, vh] 28)).alloc (.cells #[.slice none 0 0, .slice none 0 0, .slice none 0 0] 28)) := by
  have hk : Kp No w ((w.alloc (.cells #[vo, vr, vh] 28)).alloc (.cells #[.slice none 0 0, .slice none 0 0, .slice none 0 0] 28)) := ((Kp.refl No w).alloc _).alloc _
  refine ⟨(h.mono fun b h1 h2 => ⟨h2, by omega, by omega⟩).no hk, (Blk.new w _ _).alloc _, ?_, hk, rfl⟩
  exact Blk.at_ _ _ (by simp)
theorem DoSt.no (h : DoSt w F X vo vr vh c W) (hk : Kp No W W') : DoSt w F X vo vr vh c W' := ⟨h.rc.no hk, h.box.kp hk id, h.res.kp hk id, h.kp.trans hk, h.hX⟩
theorem DoSt.new (h : DoSt w F X vo vr vh c W) (hF : ∀ b, w.heap.size ≤ b → F b) : ∀ b, W.heap.size ≤ b → F b ∧ b ≠ X ∧ b ≠ X + 1 := fun b hb => by
  have := h.res.lt
  have := h.kp.size
  exact ⟨hF b (by omega), by omega, by omega⟩
theorem DoSt.size (h : DoSt w F X vo vr vh c W) : X + 1 < W.heap.size := h.res.lt
theorem kp_res (W : World) (R : Nat) (a b c : Value) : Kp (At R) W (((W.setCell ⟨R, 0, none⟩ a).setCell ⟨R, 1, none⟩ b).setCell ⟨R, 2, none⟩ c) := ((kp_set _ _ _ _).trans (kp_set _ _ _ _)).trans (kp_set _ _ _ _)
/-- it is told -/
theorem DoSt.tell (h : DoSt w F X vo vr vh c W) : RcIs (((W.setCell ⟨X + 1, 0, none⟩ vo).setCell ⟨X + 1, 1, none⟩ vr).setCell ⟨X + 1, 2, none⟩ vh) F vo vr vh c ∧
    (((W.setCell ⟨X + 1, 0, none⟩ vo).setCell ⟨X + 1, 1, none⟩ vr).setCell ⟨X + 1, 2, none⟩ vh).cell? ⟨X + 1, 0, none⟩ = some vo ∧
    (((W.setCell ⟨X + 1, 0, none⟩ vo).setCell ⟨X + 1, 1, none⟩ vr).setCell ⟨X + 1, 2, none⟩ vh).cell? ⟨X + 1, 1, none⟩ = some vr ∧
    (((W.setCell ⟨X + 1, 0, none⟩ vo).setCell ⟨X + 1, 1, none⟩ vr).setCell ⟨X + 1, 2, none⟩ vh).cell? ⟨X + 1, 2, none⟩ = some vh ∧
    Kp No w (((W.setCell ⟨X + 1, 0, none⟩ vo).setCell ⟨X + 1, 1, none⟩ vr).setCell ⟨X + 1, 2, none⟩ vh) := by
  have hk := kp_res W (X + 1) vo vr vh
  have hb := ((h.res.set_ 0 vo).set_ 1 vr).set_ 2 vh
  have hX := h.hX
  exact ⟨(h.rc.kp hk fun b hb e => hb.2.2 e).mono fun b _ h => h.1, hb.cell 0, hb.cell 1, hb.cell 2, h.kp.trans' hk fun b hb e => by unfold At at e; omega⟩
/-- another heap is told -/
theorem DoSt.tell' (h : DoSt w F X vo vr vh c W) {uo ur uh : Value} {d : Rc} (hd : RcIs W (fun b => F b ∧ b ≠ X ∧ b ≠ X + 1) uo ur uh d) : RcIs (((W.setCell ⟨X + 1, 0, none⟩ uo).setCell ⟨X + 1, 1, none⟩ ur).setCell ⟨X + 1, 2, none⟩ uh) F uo ur uh d ∧
    (((W.setCell ⟨X + 1, 0, none⟩ uo).setCell ⟨X + 1, 1, none⟩ ur).setCell ⟨X + 1, 2, none⟩ uh).cell? ⟨X + 1, 0, none⟩ = some uo ∧
    (((W.setCell ⟨X + 1, 0, none⟩ uo).setCell ⟨X + 1, 1, none⟩ ur).setCell ⟨X + 1, 2, none⟩ uh).cell? ⟨X + 1, 1, none⟩ = some ur ∧
    (((W.setCell ⟨X + 1, 0, none⟩ uo).setCell ⟨X + 1, 1, none⟩ ur).setCell ⟨X + 1, 2, none⟩ uh).cell? ⟨X + 1, 2, none⟩ = some uh ∧
    Kp No w (((W.setCell ⟨X + 1, 0, none⟩ uo).setCell ⟨X + 1, 1, none⟩ ur).setCell ⟨X + 1, 2, none⟩ uh) := by
  have hk := kp_res W (X + 1) uo ur uh
  have hb := ((h.res.set_ 0 uo).set_ 1 ur).set_ 2 uh
  have hX := h.hX
  exact ⟨(hd.kp hk fun b hb e => hb.2.2 e).mono fun b _ h => h.1, hb.cell 0, hb.cell 1, hb.cell 2, h.kp.trans' hk fun b hb e => by unfold At at e; omega⟩
theorem DoSt.put {k : Nat} {u : Value} {uo ur uh : Value} {d : Rc} (h : DoSt w F X vo vr vh c W) (hs : (#[vo, vr, vh] : Array Value).setIfInBounds k u = #[uo, ur, uh]) (hd : RcIs W (fun b => F b ∧ b ≠ X ∧ b ≠ X + 1) uo ur uh d) :
    DoSt w F X uo ur uh d (W.setCell ⟨X, k, none⟩ u) := by
  have hk : Kp (At X) W (W.setCell ⟨X, k, none⟩ u) := kp_set _ _ _ _
  have hX := h.hX
  refine ⟨hd.kp hk fun b hb e => hb.2.1 e, ?_, h.res.far (by simp) _, h.kp.trans' hk fun b hb e => by unfold At at e; omega, h.hX⟩
  rw [← hs]
  exact h.box.set_ k u
theorem DoSt.roots {u : Value} {r : List Int} (h : DoSt w F X vo vr vh c W) (hu : IntsIn W (fun b => F b ∧ b ≠ X ∧ b ≠ X + 1) u r) : DoSt w F X vo u vh { c with roots := r } (W.setCell ⟨X, 1, none⟩ u) :=
  h.put rfl ⟨h.rc.out, hu, h.rc.here⟩
theorem DoSt.outs {u : Value} {o : List (List Int)} (h : DoSt w F X vo vr vh c W) (hu : RowsIn W (fun b => F b ∧ b ≠ X ∧ b ≠ X + 1) u o) : DoSt w F X u vr vh { c with outs := o } (W.setCell ⟨X, 0, none⟩ u) :=
  h.put rfl ⟨hu, h.rc.root, h.rc.here⟩
theorem DoSt.here {u : Value} {b : List Bool} (h : DoSt w F X vo vr vh c W) (hu : BoolsIn W (fun b => F b ∧ b ≠ X ∧ b ≠ X + 1) u b) : DoSt w F X vo vr u { c with here := b } (W.setCell ⟨X, 2, none⟩ u) :=
  h.put rfl ⟨h.rc.out, h.rc.root, hu⟩
end

def RDoPost (F : Nat → Prop) (w : World) (s : Cn) (n e : Nat) (en : Ending) (w' : World) : Prop :=
  ∃ vo vr vh, en = .returned (.tuple #[.agg #[vo, vr, vh], .int .i64 (n : Nat), .int .i64 (e : Nat)]) ∧ RcIs w' F vo vr vh (rcOf s) ∧ Kp No w w'

theorem rc_here_len {s : Cn} {P : List Int} (h : PInv s P) : (rcOf s).here.length = s.outs.length := by unfold rcOf; rw [List.length_map]; exact h.glen
theorem isR_isB {s : Cn} {P : List Int} (h : PInv s P) (x : Int) : isR (rcOf s) x = isB s x := by
  unfold isR isB
  rw [rc_here_len h]
  cases hb : btw x 0 ((s.outs.length : Int) - 1) with
  | false => rfl
  | true =>
    rw [Bool.true_and, Bool.true_and]
    have := btw_iff.1 hb
    rw [Bool.eq_iff_iff, Bool.not_eq_true']
    rw [show (rcOf s).here = s.gone.map (!·) from rfl, hAt_not]
    have := h.glen
    exact ⟨fun h => h.2, fun h => ⟨by omega, h⟩⟩

set_option maxRecDepth 100000 in
set_option maxHeartbeats 4000000 in
/-- what is not here can't be changed -/
theorem rdo_away {F : Nat → Prop} (vo vr vh : Value) (s : Cn) (kind i j : Int) (w : World) (h : RcIs w F vo vr vh (rcOf s)) (hP : PInv s []) (hk : kind ≠ 0) (hb : isB s i = false ∨ (2 < kind ∧ isB s j = false)) :
    Calls Tryd.prog 6 #[.agg #[vo, vr, vh], .int .i64 kind, .int .i64 i, .int .i64 j] w (RDoPost F w s 0 1) := by
  obtain ⟨Ao, co, Ar, cr, Ah, ch, rfl, rfl, rfl⟩ := h.slices
  have HS := hide (DoSt.start h)
  have HI := hide (fun x (W : World) hW => ris_any _ _ _ (rcOf s) x W (HS.out.rc.no hW))
  have HIB := hide (isR_isB hP)
  have HKN := hide hk
  have hk' : (kind == 0) = false := by rw [beq_eq_false_iff_ne]; exact hk
  obtain ⟨W, hW⟩ : ∃ W, (w.alloc (.cells #[.slice Ao (rcOf s).outs.length co, .slice Ar (rcOf s).roots.length cr, .slice Ah (rcOf s).here.length ch] 28)).alloc (.cells #[.slice none 0 0, .slice none 0 0, .slice none 0 0] 28) = W := ⟨_, rfl⟩
  rw [hW] at HS HI
  have HW := hide hW
  obtain ⟨x1, x2, x3, x4, x5, x6, x7⟩ := HS.out.box.a3
  obtain ⟨y1, y2, y3, y4, y5, y6, y7⟩ := HS.out.res.a3
  clear h hP hk hW
  go_enter Tryd.func6, Tryd.ntmps6
  go_upto_region 1 with fail
  rw [HW.out]
  go_wp2_with fail
  refine Calls.mono (HI.out i W (Kp.refl _ _)) ?_
  rw [HIB.out]
  cases hb1 : isB s i with
  | false =>
    clear hb hb1
    rintro e w5 ⟨rfl, hk5⟩
    have HS5 := hide (HS.out.no hk5)
    clear hk5 x1 x2 x3 x4 x5 x6 x7 y1 y2 y3 y4 y5 y6 y7
    obtain ⟨x1, x2, x3, x4, x5, x6, x7⟩ := HS5.out.box.a3
    obtain ⟨y1, y2, y3, y4, y5, y6, y7⟩ := HS5.out.res.a3
    go_wp2_with fail
    obtain ⟨t1, t2, t3, t4, t5⟩ := HS5.out.tell
    refine bodyPost_ret (v := .tuple #[.agg #[.slice Ao (rcOf s).outs.length co, .slice Ar (rcOf s).roots.length cr, .slice Ah (rcOf s).here.length ch], .int .i64 0, .int .i64 1]) (by simp [results, Tryd.results6, go_sem, t2, t3, t4]) rfl ?_
    exact ⟨_, _, _, rfl, t1, t5⟩
  | true =>
    obtain ⟨hk2, hb2⟩ : 2 < kind ∧ isB s j = false := by
      rcases hb with h | h
      · rw [hb1] at h; cases h
      · exact h
    clear hb hb1
    rintro e w5 ⟨rfl, hk5⟩
    have HS5 := hide (HS.out.no hk5)
    have HK5 := hide hk5
    clear hk5 x1 x2 x3 x4 x5 x6 x7 y1 y2 y3 y4 y5 y6 y7
    obtain ⟨x1, x2, x3, x4, x5, x6, x7⟩ := HS5.out.box.a3
    go_wp2_with fail
    refine Calls.mono (HI.out j _ HK5.out) ?_
    rw [HIB.out, hb2]
    rintro e w6 ⟨rfl, hk6⟩
    have HS5 := hide (HS5.out.no hk6)
    clear hk6 x1 x2 x3 x4 x5 x6 x7
    obtain ⟨x1, x2, x3, x4, x5, x6, x7⟩ := HS5.out.box.a3
    obtain ⟨y1, y2, y3, y4, y5, y6, y7⟩ := HS5.out.res.a3
    go_wp2_with fail
    obtain ⟨t1, t2, t3, t4, t5⟩ := HS5.out.tell
    refine bodyPost_ret (v := .tuple #[.agg #[.slice Ao (rcOf s).outs.length co, .slice Ar (rcOf s).roots.length cr, .slice Ah (rcOf s).here.length ch], .int .i64 0, .int .i64 1]) (by simp [results, Tryd.results6, go_sem, t2, t3, t4]) rfl ?_
    exact ⟨_, _, _, rfl, t1, t5⟩
end Go.Proofs.YtiibadganlincaaDoor
