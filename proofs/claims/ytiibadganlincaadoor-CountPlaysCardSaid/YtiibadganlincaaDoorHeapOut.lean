/- A heap that is being made, in memory: its rows are its own. -/
import Derived.Test.YtiibadganlincaaDoorClone
import Derived.Test.YtiibadganlincaaDoorRead
namespace Go.Proofs.YtiibadganlincaaDoor
open Go.RowKit

theorem kp_set (w : World) (g k : Nat) (u : Value) : Kp (At g) w (w.setCell ⟨g, k, none⟩ u) := Kp.setCell (S := At g) (p := ⟨g, k, none⟩) (Kp.refl _ w) (fun _ => rfl) u

/-- a heap at block p -/
structure HeapAt (w : World) (p base : Nat) (vo vr : Value) (vs : List Value) (O : List (List Int)) (roots : List Int) : Prop where
  blk : Blk w p 45 #[vo, vr]
  out : w.ownsRow base 25 1 vo O.length vs
  row : ∀ i (h : i < vs.length) (h' : i < O.length), w.ownsRow base 3 1 vs[i] (O[i]).length (iv O[i])
  root : w.ownsRow base 3 1 vr roots.length (iv roots)

section
variable {w w2 w3 : World} {p base : Nat} {vo vr v : Value} {vs : List Value} {O : List (List Int)} {roots xs : List Int}
theorem HeapAt.len (h : HeapAt w p base vo vr vs O roots) : vs.length = O.length := by have := h.out.1; omega
theorem HeapAt.no (h : HeapAt w p base vo vr vs O roots) (hk : Kp No w w2) : HeapAt w2 p base vo vr vs O roots :=
  ⟨h.blk.kp hk id, own_kp h.out hk fun _ _ h => h, fun i h1 h2 => own_kp (h.row i h1 h2) hk fun _ _ h => h, own_kp h.root hk fun _ _ h => h⟩

/-- a row more -/
theorem HeapAt.more (h : HeapAt w p base vo vr vs O roots) (hk2 : Kp No w w2) (hv : w2.ownsRow w.heap.size 3 1 v xs.length (iv xs)) {g' c' : Nat}
    (ha : w3.ownsRow base 25 1 (.slice (some ⟨g', 0, none⟩) (O.length + 1) c') (O.length + 1) (vs ++ [v])) (hgr : (w2.alloc (.cells #[v] 25)).grownBy w3 vo.ownBlock) (hbase : base ≤ w.heap.size) :
    HeapAt (w3.setCell ⟨p, 0, none⟩ (.slice (some ⟨g', 0, none⟩) (O.length + 1) c')) p base (.slice (some ⟨g', 0, none⟩) (O.length + 1) c') vr (vs ++ [v]) (O ++ [xs]) roots := by
  have h2 := h.no hk2
  have k3 : Kp (fun b => vo.ownBlock = some b) w2 w3 := ((Kp.refl _ w2).alloc _).grown hgr fun b h _ => h
  have k4 := kp_set w3 p 0 (.slice (some ⟨g', 0, none⟩) (O.length + 1) c')
  have b3 : Blk w3 p 45 #[vo, vr] := h2.blk.kp k3 (own_ne_blk h2.out h2.blk (by decide))
  have step : ∀ {u : Value} {ys : List Int}, w2.ownsRow base 3 1 u ys.length (iv ys) → (w3.setCell ⟨p, 0, none⟩ (.slice (some ⟨g', 0, none⟩) (O.length + 1) c')).ownsRow base 3 1 u ys.length (iv ys) := by
    intro u ys hu
    have hu3 := own_kp hu k3 fun b hb e => own_ne_own hu h2.out (by decide) hb e
    exact own_kp hu3 k4 fun b hb e => by unfold At at e; subst e; exact own_ne_blk hu3 b3 (by decide) hb
  have hvb := own_base hv (base' := base) fun b hb => by have := (own_lt hv hb).1; omega
  have hsz := h.len
  refine ⟨b3.set_ 0 _, ?_, fun i h1 h3 => ?_, step h2.root⟩
  · rw [List.length_append, List.length_singleton]
    exact own_kp ha k4 fun b hb e => by unfold At at e; subst e; exact own_ne_blk ha b3 (by decide) hb
  · rw [List.getElem_append]
    simp only [List.getElem_append]
    by_cases hi : i < vs.length
    · rw [dif_pos hi, dif_pos (by omega)]
      exact step (h2.row i hi (by omega))
    · rw [dif_neg hi, dif_neg (by omega)]
      simp only [List.getElem_singleton]
      exact step hvb

/-- what a heap of one's own reads as -/
theorem own_rows_in {vo : Value} {vs : List Value} {O : List (List Int)} (h1 : w.ownsRow base 25 1 vo O.length vs) (h2 : ∀ i (h : i < vs.length) (h' : i < O.length), w.ownsRow base 3 1 vs[i] (O[i]).length (iv O[i])) : RowsIn w (Hi base) vo O :=
  ⟨vs, .of_own h1 fun b hb => (own_lt h1 hb).1, by have := h1.1; omega, fun i a b => .of_own (h2 i a b) fun g hg => (own_lt (h2 i a b) hg).1⟩
theorem HeapAt.rows (h : HeapAt w p base vo vr vs O roots) : RowsIn w (Hi base) vo O := own_rows_in h.out h.row
theorem HeapAt.roots_ (h : HeapAt w p base vo vr vs O roots) : IntsIn w (Hi base) vr roots := .of_own h.root fun g hg => (own_lt h.root hg).1
end
end Go.Proofs.YtiibadganlincaaDoor
