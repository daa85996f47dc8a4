/- A heap that counts, in memory: what it reads as, and what its methods 'is' and 'less' do. -/
import Derived.Test.YtiibadganlincaaDoorCountPlain
import Derived.Test.YtiibadganlincaaDoorHeapOut
namespace Go.Proofs.YtiibadganlincaaDoor
open Go.RowKit

/-- bools as values -/
def bv (bs : List Bool) : List Value := bs.map Value.bool
theorem bv_length (bs : List Bool) : (bv bs).length = bs.length := by simp [bv]
theorem bv_set (bs : List Bool) (k : Nat) (b : Bool) : bv (bs.set k b) = (bv bs).set k (.bool b) := by simp [bv, List.map_set]
theorem bv_get {bs : List Bool} {k : Nat} (h : k < bs.length) : (bv bs)[k]'(by rw [bv_length]; exact h) = .bool bs[k] := by simp [bv]

/-- a heap that counts, at block p -/
structure CnAt (w : World) (p : Nat) (vo vr vc vg : Value) (vs : List Value) (s : Cn) : Prop where
  blk : Blk w p 49 #[vo, vr, vc, vg]
  out : w.ownsRow 0 25 1 vo s.outs.length vs
  row : ∀ i (h : i < vs.length) (h' : i < s.outs.length), w.ownsRow 0 3 1 vs[i] (s.outs[i]).length (iv s.outs[i])
  root : w.ownsRow 0 3 1 vr s.roots.length (iv s.roots)
  cnt : w.ownsRow 0 3 1 vc s.count.length (iv s.count)
  gn : w.ownsRow 0 4 1 vg s.gone.length (bv s.gone)
  ap : Apart (vr :: vc :: vs)

/-- its blocks -/
def CnF (p : Nat) (vo vr vc vg : Value) (vs : List Value) (b : Nat) : Prop :=
  b = p ∨ vo.ownBlock = some b ∨ vg.ownBlock = some b ∨ ∃ u ∈ vr :: vc :: vs, u.ownBlock = some b
/-- it lies within S -/
def CnIs (w : World) (p : Nat) (S : Nat → Prop) (s : Cn) : Prop := ∃ vo vr vc vg vs, CnAt w p vo vr vc vg vs s ∧ ∀ b, CnF p vo vr vc vg vs b → S b

section
variable {w w' : World} {p : Nat} {vo vr vc vg : Value} {vs : List Value} {s : Cn} {S S' : Nat → Prop}
theorem CnAt.len (h : CnAt w p vo vr vc vg vs s) : vs.length = s.outs.length := by have := h.out.1; omega
theorem CnAt.kp (h : CnAt w p vo vr vc vg vs s) (hk : Kp S w w') (hs : ∀ b, CnF p vo vr vc vg vs b → ¬ S b) : CnAt w' p vo vr vc vg vs s :=
  ⟨h.blk.kp hk (hs p (.inl rfl)), own_kp h.out hk fun b hb => hs b (.inr (.inl hb)), fun i h1 h2 => own_kp (h.row i h1 h2) hk fun b hb => hs b (.inr (.inr (.inr ⟨_, List.mem_cons_of_mem _ (List.mem_cons_of_mem _ (List.getElem_mem h1)), hb⟩))),
    own_kp h.root hk fun b hb => hs b (.inr (.inr (.inr ⟨_, List.mem_cons_self .., hb⟩))), own_kp h.cnt hk fun b hb => hs b (.inr (.inr (.inr ⟨_, List.mem_cons_of_mem _ (List.mem_cons_self ..), hb⟩))), own_kp h.gn hk fun b hb => hs b (.inr (.inr (.inl hb))), h.ap⟩
theorem CnAt.no (h : CnAt w p vo vr vc vg vs s) (hk : Kp No w w') : CnAt w' p vo vr vc vg vs s := h.kp hk fun _ _ h => h
theorem CnIs.no (h : CnIs w p S s) (hk : Kp No w w') : CnIs w' p S s := by
  obtain ⟨vo, vr, vc, vg, vs, h1, h2⟩ := h
  exact ⟨vo, vr, vc, vg, vs, h1.no hk, h2⟩
theorem CnIs.mono (h : CnIs w p S s) (hs : ∀ b, S b → S' b) : CnIs w p S' s := by
  obtain ⟨vo, vr, vc, vg, vs, h1, h2⟩ := h
  exact ⟨vo, vr, vc, vg, vs, h1, fun b hb => hs b (h2 b hb)⟩
theorem CnAt.lt (h : CnAt w p vo vr vc vg vs s) {b : Nat} (hb : CnF p vo vr vc vg vs b) : b < w.heap.size := by
  rcases hb with rfl | hb | hb | ⟨u, hu, hb⟩
  · exact h.blk.lt
  · exact (own_lt h.out hb).2
  · exact (own_lt h.gn hb).2
  · rcases List.mem_cons.1 hu with rfl | hu
    · exact (own_lt h.root hb).2
    · rcases List.mem_cons.1 hu with rfl | hu
      · exact (own_lt h.cnt hb).2
      · obtain ⟨i, hi, rfl⟩ := List.getElem_of_mem hu
        exact (own_lt (h.row i hi (by rw [← h.len]; exact hi)) hb).2
/-- it lies within what there is -/
theorem CnIs.tight (h : CnIs w p S s) : CnIs w p (fun b => S b ∧ b < w.heap.size) s := by
  obtain ⟨vo, vr, vc, vg, vs, h1, h2⟩ := h
  exact ⟨vo, vr, vc, vg, vs, h1, fun b hb => ⟨h2 b hb, h1.lt hb⟩⟩

/-- a count is set -/
theorem CnAt.cset (h : CnAt w p vo vr vc vg vs s) {g : Nat} (hg : vc.ownBlock = some g) {k : Nat} (hk : k < s.count.length) (x : Int) :
    CnAt (w.setCell ⟨g, k, none⟩ (.int .i64 x)) p vo vr vc vg vs { s with count := s.count.set k x } := by
  have k1 := kp_set w g k (.int .i64 x)
  refine ⟨h.blk.kp k1 fun e => ?_, own_kp h.out k1 fun b hb e => ?_, fun i h1 h2 => own_kp (h.row i h1 h2) k1 fun b hb e => ?_, own_kp h.root k1 fun b hb e => ?_, ?_, own_kp h.gn k1 fun b hb e => ?_, h.ap⟩
  · unfold At at e; subst e; exact own_ne_blk h.cnt h.blk (by decide) hg
  · unfold At at e; subst e; exact own_ne_own h.cnt h.out (by decide) hg hb
  · unfold At at e; subst e; exact h.ap.tail.head (List.getElem_mem h1) hg hb
  · unfold At at e; subst e; exact h.ap.head' (List.mem_cons_self ..) hg hb
  · show (w.setCell _ _).ownsRow 0 3 1 vc (s.count.set k x).length (iv (s.count.set k x))
    rw [List.length_set, iv_set]
    exact own_set h.cnt hg k hk _
  · unfold At at e; subst e; exact own_ne_own h.cnt h.gn (by decide) hg hb
/-- a node is gone -/
theorem CnAt.gset (h : CnAt w p vo vr vc vg vs s) {g : Nat} (hg : vg.ownBlock = some g) {k : Nat} (hk : k < s.gone.length) (x : Bool) :
    CnAt (w.setCell ⟨g, k, none⟩ (.bool x)) p vo vr vc vg vs { s with gone := s.gone.set k x } := by
  have k1 := kp_set w g k (.bool x)
  refine ⟨h.blk.kp k1 fun e => ?_, own_kp h.out k1 fun b hb e => ?_, fun i h1 h2 => own_kp (h.row i h1 h2) k1 fun b hb e => ?_, own_kp h.root k1 fun b hb e => ?_, own_kp h.cnt k1 fun b hb e => ?_, ?_, h.ap⟩
  · unfold At at e; subst e; exact own_ne_blk h.gn h.blk (by decide) hg
  · unfold At at e; subst e; exact own_ne_own h.gn h.out (by decide) hg hb
  · unfold At at e; subst e; exact own_ne_own h.gn (h.row i h1 h2) (by decide) hg hb
  · unfold At at e; subst e; exact own_ne_own h.gn h.root (by decide) hg hb
  · unfold At at e; subst e; exact own_ne_own h.gn h.cnt (by decide) hg hb
  · show (w.setCell _ _).ownsRow 0 4 1 vg (s.gone.set k x).length (bv (s.gone.set k x))
    rw [List.length_set, bv_set]
    exact own_set h.gn hg k hk _

theorem Apart.set_nil (h : Apart vs) (k : Nat) : Apart (vs.set k (.slice none 0 0)) := by
  unfold Apart at h ⊢
  rw [List.pairwise_iff_getElem] at h ⊢
  intro i j hi hj hij g hg hg'
  rw [List.getElem_set] at hg hg'
  split at hg
  · simp [Value.ownBlock] at hg
  · split at hg'
    · simp [Value.ownBlock] at hg'
    · exact h i j (by simpa using hi) (by simpa using hj) hij g hg hg'
/-- a node's row is no more -/
theorem CnAt.nset (h : CnAt w p vo vr vc vg vs s) {g : Nat} (hg : vo.ownBlock = some g) {k : Nat} (hk : k < s.outs.length) :
    CnAt (w.setCell ⟨g, k, none⟩ (.slice none 0 0)) p vo vr vc vg (vs.set k (.slice none 0 0)) { s with outs := s.outs.set k [] } := by
  have k1 := kp_set w g k (.slice none 0 0)
  refine ⟨h.blk.kp k1 fun e => ?_, ?_, fun i h1 h2 => ?_, own_kp h.root k1 fun b hb e => ?_, own_kp h.cnt k1 fun b hb e => ?_, own_kp h.gn k1 fun b hb e => ?_, h.ap.set_nil (k + 2)⟩
  · unfold At at e; subst e; exact own_ne_blk h.out h.blk (by decide) hg
  · show (w.setCell _ _).ownsRow 0 25 1 vo (s.outs.set k []).length (vs.set k (.slice none 0 0))
    rw [List.length_set]
    exact own_set h.out hg k hk _
  · show (w.setCell _ _).ownsRow 0 3 1 _ ((s.outs.set k [])[i]'h2).length (iv ((s.outs.set k [])[i]'h2))
    simp only [List.getElem_set]
    by_cases e : k = i
    · rw [if_pos e, if_pos e]
      exact World.ownsRow_nil _ _ _ _
    · rw [if_neg e, if_neg e]
      exact own_kp (h.row i (by simpa using h1) (by simpa using h2)) k1 fun b hb e' => by unfold At at e'; subst e'; exact own_ne_own h.out (h.row i (by simpa using h1) (by simpa using h2)) (by decide) hg hb
  · unfold At at e; subst e; exact own_ne_own h.out h.root (by decide) hg hb
  · unfold At at e; subst e; exact own_ne_own h.out h.cnt (by decide) hg hb
  · unfold At at e; subst e; exact own_ne_own h.out h.gn (by decide) hg hb
end
end Go.Proofs.YtiibadganlincaaDoor
