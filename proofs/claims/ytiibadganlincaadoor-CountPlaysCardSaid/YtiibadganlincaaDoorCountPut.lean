/- counts, in memory: the roots, or a node's row, become another row. -/
import Derived.Test.YtiibadganlincaaDoorCountLess
namespace Go.Proofs.YtiibadganlincaaDoor
open Go.RowKit

section
variable {w w' : World} {p : Nat} {vo vr vc vg : Value} {vs : List Value} {s : Cn}
/-- the roots become another row -/
theorem CnAt.rput (h : CnAt w p vo vr vc vg vs s) {v' : Value} {r' : List Int} (hk : Kp (fun b => vr.ownBlock = some b) w w') (hr : w'.ownsRow 0 3 1 v' r'.length (iv r')) (hb : ∀ b, v'.ownBlock = some b → vr.ownBlock = some b ∨ w.heap.size ≤ b) :
    CnAt (w'.setCell ⟨p, 1, none⟩ v') p vo v' vc vg vs { s with roots := r' } := by
  have k1 := kp_set w' p 1 v'
  have bk : Blk w' p 49 #[vo, vr, vc, vg] := h.blk.kp hk (own_ne_blk h.root h.blk (by decide))
  have ho := own_kp h.out hk fun b hb => own_ne_own h.root h.out (by decide) |> fun f e => f e hb
  have hc := own_kp h.cnt hk fun b hb e => h.ap.head (List.mem_cons_self ..) e hb
  have hg := own_kp h.gn hk fun b hb e => own_ne_own h.root h.gn (by decide) e hb
  have hrow := fun i (h1 : i < vs.length) (h2 : i < s.outs.length) => own_kp (h.row i h1 h2) hk fun b hb e => h.ap.head (List.mem_cons_of_mem _ (List.getElem_mem h1)) e hb
  refine ⟨bk.set_ 1 _, own_kp ho k1 fun b hb e => ?_, fun i h1 h2 => own_kp (hrow i h1 h2) k1 fun b hb e => ?_, own_kp hr k1 fun b hb e => ?_, own_kp hc k1 fun b hb e => ?_, own_kp hg k1 fun b hb e => ?_, ?_⟩
  · unfold At at e; subst e; exact own_ne_blk ho bk (by decide) hb
  · unfold At at e; subst e; exact own_ne_blk (hrow i h1 h2) bk (by decide) hb
  · unfold At at e; subst e; exact own_ne_blk hr bk (by decide) hb
  · unfold At at e; subst e; exact own_ne_blk hc bk (by decide) hb
  · unfold At at e; subst e; exact own_ne_blk hg bk (by decide) hb
  · refine Apart.cons h.ap.tail fun u hu g hg hg' => ?_
    rcases hb g hg with e | e
    · exact h.ap.head hu e hg'
    · have : g < w.heap.size := h.lt (.inr (.inr (.inr ⟨u, List.mem_cons_of_mem _ hu, hg'⟩)))
      omega

theorem Apart.put (h : Apart vs) {k : Nat} {v' : Value} (hk : k < vs.length) (hv : ∀ i (hi : i < vs.length), i ≠ k → ∀ g, v'.ownBlock = some g → vs[i].ownBlock ≠ some g) : Apart (vs.set k v') := by
  unfold Apart at h ⊢
  rw [List.pairwise_iff_getElem] at h ⊢
  intro i j hi hj hij g hg hg'
  rw [List.getElem_set] at hg hg'
  have hi' : i < vs.length := by simpa using hi
  have hj' : j < vs.length := by simpa using hj
  split at hg
  · split at hg'
    · omega
    · rename_i h1 h2
      exact hv j hj' (fun e => h2 e.symm) g hg hg'
  · split at hg'
    · rename_i h1 h2
      exact hv i hi' (fun e => h1 e.symm) g hg' hg
    · exact h i j hi' hj' hij g hg hg'

/-- a node's row becomes another row -/
theorem CnAt.oput (h : CnAt w p vo vr vc vg vs s) {i : Nat} (hi : i < vs.length) {v' : Value} {r' : List Int} {g : Nat} (hgo : vo.ownBlock = some g) (hk : Kp (fun b => vs[i].ownBlock = some b) w w') (hr : w'.ownsRow 0 3 1 v' r'.length (iv r')) (hb : ∀ b, v'.ownBlock = some b → vs[i].ownBlock = some b ∨ w.heap.size ≤ b) :
    CnAt (w'.setCell ⟨g, i, none⟩ v') p vo vr vc vg (vs.set i v') { s with outs := s.outs.set i r' } := by
  have hio : i < s.outs.length := by rw [← h.len]; exact hi
  have k1 := kp_set w' g i v'
  have hri := h.row i hi hio
  have bk : Blk w' p 49 #[vo, vr, vc, vg] := h.blk.kp hk (own_ne_blk hri h.blk (by decide))
  have ho := own_kp h.out hk fun b hb e => own_ne_own hri h.out (by decide) e hb
  have hrt := own_kp h.root hk fun b hb e => h.ap.head (List.mem_cons_of_mem _ (List.getElem_mem hi)) hb e
  have hc := own_kp h.cnt hk fun b hb e => h.ap.tail.head (List.getElem_mem hi) hb e
  have hg := own_kp h.gn hk fun b hb e => own_ne_own hri h.gn (by decide) e hb
  refine ⟨bk.kp k1 fun e => ?_, ?_, fun j h1 h2 => ?_, own_kp hrt k1 fun b hb e => ?_, own_kp hc k1 fun b hb e => ?_, own_kp hg k1 fun b hb e => ?_, ?_⟩
  · unfold At at e; subst e; exact own_ne_blk ho bk (by decide) hgo
  · show (w'.setCell _ _).ownsRow 0 25 1 vo (s.outs.set i r').length (vs.set i v')
    rw [List.length_set]
    exact own_set ho hgo i hio _
  · show (w'.setCell _ _).ownsRow 0 3 1 _ ((s.outs.set i r')[j]'h2).length (iv ((s.outs.set i r')[j]'h2))
    simp only [List.getElem_set]
    have h1' : j < vs.length := by simpa using h1
    have h2' : j < s.outs.length := by simpa using h2
    by_cases e : i = j
    · rw [if_pos e, if_pos e]
      exact own_kp hr k1 fun b hb e' => by unfold At at e'; subst e'; exact own_ne_own ho hr (by decide) hgo hb
    · rw [if_neg e, if_neg e]
      have hrj := own_kp (h.row j h1' h2') hk fun b hb e' => h.ap.tail.tail.at_ h1' hi (fun e2 => e e2.symm) hb e'
      exact own_kp hrj k1 fun b hb e' => by unfold At at e'; subst e'; exact own_ne_own ho hrj (by decide) hgo hb
  · unfold At at e; subst e; exact own_ne_own ho hrt (by decide) hgo hb
  · unfold At at e; subst e; exact own_ne_own ho hc (by decide) hgo hb
  · unfold At at e; subst e; exact own_ne_own ho hg (by decide) hgo hb
  · refine Apart.put (k := i + 2) h.ap (by simpa using hi) fun j hj hne q hq hq' => ?_
    rcases hb q hq with e | e
    · exact h.ap.at_ hj (show i + 2 < (vr :: vc :: vs).length by simpa using hi) hne hq' e
    · have : q < w.heap.size := h.lt (.inr (.inr (.inr ⟨_, List.getElem_mem hj, hq'⟩)))
      omega
end
end Go.Proofs.YtiibadganlincaaDoor
