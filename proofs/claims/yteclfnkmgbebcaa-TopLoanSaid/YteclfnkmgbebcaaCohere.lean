/- cohere, with one cache, walked: a line is written, and read. -/
import Derived.Test.YteclfnkmgbebcaaBase
import Derived.Test.YteclfnkmgbebcaaSmall
import Derived.Laws.MakeOwn
namespace Go.Proofs.Yteclfnkmgbebcaa
open Go.RowKit
set_option linter.unusedSimpArgs false

/-- one cache: the memory, the line's state and value, the moves -/
structure ChAt (w : World) (p g : Nat) (m st v mv : Int) : Prop where
  blk : Blk w p 63 #[.int .i64 m, .int .i64 0, .int .i64 0, .int .i64 0, .slice (some ⟨g, 0, none⟩) 1 1, .int .i64 mv]
  row : Blk w g 66 #[.int .i64 st, .int .i64 v, .int .i64 0, .int .i64 0, .int .i64 0, .int .i64 0, .int .i64 0, .int .i64 0]
/-- its blocks -/
def ChF (p g : Nat) (b : Nat) : Prop := b = p ∨ b = g
section
variable {w w' : World} {p g : Nat} {m st v mv : Int} {S : Nat → Prop}
theorem ChAt.kp (h : ChAt w p g m st v mv) (hk : Kp S w w') (hs : ∀ b, ChF p g b → ¬ S b) : ChAt w' p g m st v mv := ⟨h.blk.kp hk (hs p (.inl rfl)), h.row.kp hk (hs g (.inr rfl))⟩
theorem ChAt.no (h : ChAt w p g m st v mv) (hk : Kp No w w') : ChAt w' p g m st v mv := h.kp hk fun _ _ h => h
theorem ChAt.cells (h : ChAt w p g m st v mv) : w.cell? ⟨p, 0, none⟩ = some (.int .i64 m) ∧ w.cell? ⟨p, 4, none⟩ = some (.slice (some ⟨g, 0, none⟩) 1 1) ∧ w.cell? ⟨p, 5, none⟩ = some (.int .i64 mv) ∧
    w.cell? ⟨g, 0, none⟩ = some (.int .i64 st) ∧ w.cell? ⟨g, 1, none⟩ = some (.int .i64 v) ∧ w.frozen? ⟨p, 5, none⟩ = false ∧ w.frozen? ⟨g, 0, none⟩ = false ∧ w.frozen? ⟨g, 1, none⟩ = false ∧ p < w.heap.size ∧ g < w.heap.size ∧ p ≠ g ∧ g ≠ p :=
  have hne := Blk.ne_ h.blk h.row (by decide)
  ⟨h.blk.cell 0, h.blk.cell 4, h.blk.cell 5, h.row.cell 0, h.row.cell 1, h.blk.free 5, h.row.free 0, h.row.free 1, h.blk.lt, h.row.lt, hne, hne.symm⟩
end

theorem kp_st (w : World) (g k : Nat) (u : Value) : Kp (At g) w (w.setCell ⟨g, k, none⟩ u) := Kp.setCell (S := At g) (p := ⟨g, k, none⟩) (Kp.refl _ w) (fun _ => rfl) u
theorem Blk.up {w : World} {g : Nat} {t : TypeId} {cs : Array Value} (h : w.heap.size = g) : Blk (w.alloc (.cells cs t)) g t cs := by subst h; exact Blk.new w t cs
theorem ChAt.put {w : World} {p g : Nat} {m st v mv : Int} (h : ChAt w p g m st v mv) (a b : Int) : ChAt ((w.setCell ⟨g, 0, none⟩ (.int .i64 a)).setCell ⟨g, 1, none⟩ (.int .i64 b)) p g m a b mv ∧ Kp (ChF p g) w ((w.setCell ⟨g, 0, none⟩ (.int .i64 a)).setCell ⟨g, 1, none⟩ (.int .i64 b)) :=
  have hne := Blk.ne_ h.blk h.row (by decide)
  ⟨⟨(h.blk.far hne _).far hne _, (h.row.set_ 0 _).set_ 1 _⟩, ((kp_st _ _ _ _).trans (kp_st _ _ _ _)).mono fun b _ e => .inr e⟩
theorem ChAt.move {w : World} {p g : Nat} {m st v mv : Int} (h : ChAt w p g m st v mv) (a : Int) : ChAt (w.setCell ⟨p, 5, none⟩ (.int .i64 a)) p g m st v a ∧ Kp (ChF p g) w (w.setCell ⟨p, 5, none⟩ (.int .i64 a)) :=
  have hne := Blk.ne_ h.blk h.row (by decide)
  ⟨⟨h.blk.set_ 5 _, h.row.far hne.symm _⟩, (kp_st _ _ _ _).mono fun b _ e => .inl e⟩

set_option maxRecDepth 100000 in
theorem cohNew_any (w : World) : Calls Try.prog 6 #[.int .i64 1] w fun e w' => ∃ p g, e = .returned (.tuple #[.pointer (some ⟨p, 0, none⟩), .nilIface]) ∧ ChAt w' p g 0 0 0 0 ∧ w.heap.size ≤ p ∧ w.heap.size ≤ g ∧ Kp No w w' := by
  have hmk : ∀ w, (Instr.makeSlice 60 (.int .i64 1) (.int .i64 1)).run Try.prog w = .ok (.slice (some ⟨w.heap.size, 0, none⟩) 1 1) (w.alloc (.cells #[.int .i64 0, .int .i64 0, .int .i64 0, .int .i64 0, .int .i64 0, .int .i64 0, .int .i64 0, .int .i64 0] 66)) := fun _ => by kernel_rfl
  go_enter Try.func6, Try.ntmps6
  go_wp2_with fail
  refine Calls.mono (within_any _ _ _ _) ?_
  rintro e w1 ⟨rfl, rfl⟩
  rw [show btw 1 1 4 = true from rfl]
  go_wp2
  go_ret2
  exact ⟨_, _, rfl, ⟨Blk.up (by simp), (Blk.new _ _ _).alloc _⟩, by omega, Nat.le_refl _, ((Kp.refl No w).alloc _).alloc _⟩

theorem cohCheck_any {p g : Nat} {m st v mv : Int} (w : World) (h : ChAt w p g m st v mv) : Calls Try.prog 24 #[.pointer (some ⟨p, 0, none⟩), .int .i64 0, .int .i64 0] w fun e w' => e = .returned .nilIface ∧ w = w' := by
  obtain ⟨a1, a2, a3, a4, a5, f1, f2, f3, l1, l2, n1, n2⟩ := h.cells
  go_enter Try.func24, Try.ntmps24
  go_wp2_with fail
  refine Calls.mono (within_any _ _ _ _) ?_
  rintro e w1 ⟨rfl, rfl⟩
  rw [show btw 0 0 0 = true from rfl]
  go_wp2_with fail
  refine Calls.mono (within_any _ _ _ _) ?_
  rintro e w1 ⟨rfl, rfl⟩
  rw [show btw 0 0 3 = true from rfl]
  go_wp2
  go_ret
  exact ⟨rfl, rfl⟩

set_option maxRecDepth 100000 in
set_option maxHeartbeats 1000000 in
theorem cohCalm_any {p g : Nat} {m v mv : Int} (w : World) (h : ChAt w p g m 0 v mv) : Calls Try.prog 25 #[.pointer (some ⟨p, 0, none⟩), .int .i64 0] w fun e w' => e = .returned (.tuple #[]) ∧ w = w' := by
  obtain ⟨a1, a2, a3, a4, a5, f1, f2, f3, l1, l2, n1, n2⟩ := h.cells
  clear h
  go_enter Try.func25, Try.ntmps25
  go_wp2
  go_loop [11] (fun q => ∃ k : Nat, q = .int .i64 k ∧ k ≤ 1) (fun q => 1 - (intOf q).toNat)
  case atStart => exact ⟨0, rfl, Nat.zero_le _⟩
  case round =>
    obtain ⟨k, rfl, hk⟩ := hrel
    by_cases h0 : k = 0
    · subst h0
      go_wp2
      go_round
      case rel => exact ⟨1, by go_num, Nat.le_refl _⟩
      case measure => simp [intOf]
    · obtain rfl : k = 1 := by omega
      go_wp2
      go_end0
      exact ⟨rfl, rfl⟩

set_option maxRecDepth 100000 in
set_option maxHeartbeats 1000000 in
theorem cohRead_any {p g : Nat} {m v mv : Int} (w : World) (h : ChAt w p g m 2 v mv) : Calls Try.prog 8 #[.pointer (some ⟨p, 0, none⟩), .int .i64 0, .int .i64 0] w fun e w' => e = .returned (.tuple #[.int .i64 v, .nilIface]) ∧ w = w' := by
  have H := hide h
  obtain ⟨a1, a2, a3, a4, a5, f1, f2, f3, l1, l2, n1, n2⟩ := h.cells
  clear h
  go_enter Try.func8, Try.ntmps8
  go_wp2_with fail
  refine Calls.mono (cohCheck_any _ H.out) ?_
  rintro e w1 ⟨rfl, rfl⟩
  go_wp2
  go_ret2
  exact ⟨rfl, rfl⟩

set_option maxRecDepth 100000 in
set_option maxHeartbeats 1000000 in
theorem cohWrite_again {p g : Nat} {m v0 mv : Int} (v : Int) (hv : 0 ≤ v ∧ v ≤ 1000) (w : World) (h : ChAt w p g m 2 v0 mv) : Calls Try.prog 7 #[.pointer (some ⟨p, 0, none⟩), .int .i64 0, .int .i64 0, .int .i64 v] w fun e w' => e = .returned .nilIface ∧ ChAt w' p g m 2 v mv ∧ Kp (ChF p g) w w' := by
  have H := hide h
  have hb : btw v 0 1000 = true := btw_iff.2 hv
  have HB := hide hb
  obtain ⟨a1, a2, a3, a4, a5, f1, f2, f3, l1, l2, n1, n2⟩ := h.cells
  clear h hb hv
  go_enter Try.func7, Try.ntmps7
  go_wp2_with fail
  refine Calls.mono (cohCheck_any _ H.out) ?_
  rintro e w1 ⟨rfl, rfl⟩
  go_wp2_with fail
  refine Calls.mono (within_any _ _ _ _) ?_
  rw [HB.out]
  rintro e w1 ⟨rfl, rfl⟩
  go_wp2
  go_ret
  exact ⟨rfl, (H.out.put 2 v).1, (H.out.put 2 v).2⟩

set_option maxRecDepth 100000 in
set_option maxHeartbeats 1000000 in
theorem cohWrite_first {p g : Nat} {m v0 : Int} (v : Int) (hv : 0 ≤ v ∧ v ≤ 1000) (w : World) (h : ChAt w p g m 0 v0 0) : Calls Try.prog 7 #[.pointer (some ⟨p, 0, none⟩), .int .i64 0, .int .i64 0, .int .i64 v] w fun e w' => e = .returned .nilIface ∧ ChAt w' p g m 2 v 1 ∧ Kp (ChF p g) w w' := by
  have H := hide h
  have hb : btw v 0 1000 = true := btw_iff.2 hv
  have HB := hide hb
  obtain ⟨a1, a2, a3, a4, a5, f1, f2, f3, l1, l2, n1, n2⟩ := h.cells
  clear h hb hv
  go_enter Try.func7, Try.ntmps7
  go_wp2_with fail
  refine Calls.mono (cohCheck_any _ H.out) ?_
  rintro e w1 ⟨rfl, rfl⟩
  go_wp2_with fail
  refine Calls.mono (within_any _ _ _ _) ?_
  rw [HB.out]
  rintro e w1 ⟨rfl, rfl⟩
  go_wp2_with fail
  refine Calls.mono (cohCalm_any _ H.out) ?_
  rintro e w1 ⟨rfl, rfl⟩
  go_wp2_with fail
  clear a1 a2 a3 a4 a5 f1 f2 f3 l1 l2 n1 n2
  go_loopw [41] (fun q wr => ∃ k : Nat, q = .int .i64 k ∧ k ≤ 1 ∧ (∃ u, ChAt wr p g m 0 u 0) ∧ Kp (ChF p g) w wr) (fun q _ => 1 - (intOf q).toNat)
  case atStart => exact ⟨0, rfl, Nat.zero_le _, ⟨v0, H.out⟩, Kp.refl _ _⟩
  case round =>
    obtain ⟨k, rfl, hk, ⟨u, hu⟩, hkr⟩ := hrel
    have HU := hide hu
    have HK := hide hkr
    obtain ⟨a1, a2, a3, a4, a5, f1, f2, f3, l1, l2, n1, n2⟩ := hu.cells
    clear hu hkr
    by_cases h0 : k = 0
    · subst h0
      go_wp2
      go_roundw
      case rel => exact ⟨1, by go_num, Nat.le_refl _, ⟨0, (HU.out.put 0 0).1⟩, HK.out.trans (HU.out.put 0 0).2⟩
      case measure => simp [intOf]
    · obtain rfl : k = 1 := by omega
      have HM := hide (HU.out.move 1)
      go_wp2
      go_ret
      exact ⟨rfl, (HM.out.1.put 2 v).1, (HK.out.trans HM.out.2).trans (HM.out.1.put 2 v).2⟩
end Go.Proofs.Yteclfnkmgbebcaa
