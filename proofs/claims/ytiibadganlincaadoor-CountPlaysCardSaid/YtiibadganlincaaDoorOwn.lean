/- Rows of the call's own that are written in place: a cell is set, the others stay; rows that lie apart. No condition. -/
import Derived.Test.YtiibadganlincaaDoorCopy
import Derived.Deep.OwnRows
import Derived.Laws.OwnMore
namespace Go.Proofs.YtiibadganlincaaDoor
open Go.RowKit

/-- rows that share no block -/
def Apart (vs : List Value) : Prop := vs.Pairwise fun a b => ∀ g, a.ownBlock = some g → b.ownBlock ≠ some g

theorem own_cap {w : World} {base : Nat} {e : TypeId} {v : Value} {n : Nat} {us : List Value} (h : w.ownsRow base e 1 v n us) {k : Nat} (hk : k < us.length) :
    ∃ g c, v = .slice (some ⟨g, 0, none⟩) us.length c ∧ us.length ≤ c ∧ c ≤ 9223372036854775807 ∧ w.cell? ⟨g, k, none⟩ = some us[k] ∧ w.frozen? ⟨g, k, none⟩ = false ∧ base ≤ g ∧ g < w.heap.size := by
  obtain ⟨e1, A, c, hv, h1, h2, h3⟩ := own_form h
  obtain ⟨g, hA, hc⟩ := h3 k hk
  subst hA
  refine ⟨g, c, hv, h1, h2, hc, ?_, (own_lt h (g := g) (by rw [hv]; rfl)).1, (own_lt h (g := g) (by rw [hv]; rfl)).2⟩
  rcases h.2 with ⟨h4, _⟩ | ⟨g', cap, cur, h4, _, hh, _⟩
  · rw [hv] at h4; cases h4
  · rw [hv] at h4
    injection h4 with h4
    injection h4 with h4
    injection h4 with h4
    subst h4
    exact Blk.free hh k

theorem own_set {w : World} {base : Nat} {e : TypeId} {v : Value} {n : Nat} {us : List Value} (h : w.ownsRow base e 1 v n us) {g : Nat} (hg : v.ownBlock = some g) (k : Nat) (hk : k < n) (u : Value) :
    (w.setCell ⟨g, k, none⟩ u).ownsRow base e 1 v n (us.set k u) := by
  obtain ⟨h1, h2⟩ := h
  refine ⟨by rw [List.length_set]; exact h1, ?_⟩
  rcases h2 with ⟨rfl, _⟩ | ⟨g', cap, cur, rfl, hb, hh, hn, hm, hs, ht⟩
  · simp [Value.ownBlock] at hg
  · have : g' = g := by simpa [Value.ownBlock] using hg
    subst this
    refine .inr ⟨g', cap, cur.setIfInBounds k u, rfl, hb, Blk.set_ hh k u, hn, hm, by simpa using hs, ?_⟩
    rw [Array.toList_setIfInBounds, List.take_set, ht]

theorem iv_set (xs : List Int) (k : Nat) (x : Int) : iv (xs.set k x) = (iv xs).set k (.int .i64 x) := by simp [iv, List.map_set]
theorem iv_get {xs : List Int} {k : Nat} (h : k < xs.length) : (iv xs)[k]'(by rw [iv_length]; exact h) = .int .i64 xs[k] := by simp [iv]

/-- ints of one's own: one is set -/
theorem own_int {w : World} {base : Nat} {v : Value} {n : Nat} {xs : List Int} (h : w.ownsRow base 3 1 v n (iv xs)) {k : Nat} (hk : k < xs.length) :
    ∃ g c, v = .slice (some ⟨g, 0, none⟩) xs.length c ∧ xs.length ≤ c ∧ c ≤ 9223372036854775807 ∧ w.cell? ⟨g, k, none⟩ = some (.int .i64 xs[k]) ∧ w.frozen? ⟨g, k, none⟩ = false ∧ base ≤ g ∧ g < w.heap.size ∧
      ∀ x, (w.setCell ⟨g, k, none⟩ (.int .i64 x)).ownsRow base 3 1 v n (iv (xs.set k x)) := by
  have hk' : k < (iv xs).length := by rw [iv_length]; exact hk
  obtain ⟨g, c, hv, h1, h2, h3, h4, h5, h6⟩ := own_cap h hk'
  have hn : n = xs.length := by have := h.1; rw [iv_length] at this; omega
  rw [iv_length] at hv h1
  rw [iv_get hk] at h3
  refine ⟨g, c, hv, h1, h2, h3, h4, h5, h6, fun x => ?_⟩
  rw [iv_set]
  exact own_set h (by rw [hv]; rfl) k (by omega) _

theorem own_len {w : World} {base : Nat} {v : Value} {n : Nat} {xs : List Int} (h : w.ownsRow base 3 1 v n (iv xs)) : n = xs.length := by have := h.1; rw [iv_length] at this; omega
theorem own_ints {w : World} {base : Nat} {v : Value} {n : Nat} {xs : List Int} (h : w.ownsRow base 3 1 v n (iv xs)) : IntsIn w (fun b => v.ownBlock = some b) v xs := .of_own h fun _ h => h

/-- a block that is laid whole is a row of one's own -/
theorem own_new (w : World) (us : List Value) (cs : Array Value) (e : TypeId) (base : Nat) (hb : base ≤ w.heap.size) (hl : us.length ≤ 9223372036854775807) (hcs : cs.toList = us) :
    (w.alloc (.cells cs e)).ownsRow base e 1 (.slice (some ⟨w.heap.size, 0, none⟩) us.length us.length) us.length us := by
  have hsz : cs.size = us.length := by rw [← hcs]; simp
  exact ⟨by simp, .inr ⟨_, _, cs, rfl, hb, heap_alloc_new w _, Nat.le_refl _, hl, by simpa using hsz, by rw [hcs]; simp⟩⟩
theorem own_made (w : World) (n : Nat) (base : Nat) (hb : base ≤ w.heap.size) (hl : n ≤ 9223372036854775807) :
    (w.alloc (.cells (madeCells #[.int .i64 0] n) 3)).ownsRow base 3 1 (.slice (some ⟨w.heap.size, 0, none⟩) n n) n (iv (List.replicate n 0)) := by
  have := own_new w (iv (List.replicate n 0)) (madeCells #[.int .i64 0] n) 3 base hb (by simpa [iv] using hl) (by rw [toList_madeCells_one]; simp [iv])
  simpa [iv_length] using this

section
variable {vs : List Value} {u v : Value}
theorem Apart.tail (h : Apart (v :: vs)) : Apart vs := (List.pairwise_cons.1 h).2
theorem Apart.head (h : Apart (v :: vs)) (hu : u ∈ vs) {g : Nat} (hg : v.ownBlock = some g) : u.ownBlock ≠ some g := (List.pairwise_cons.1 h).1 u hu g hg
theorem Apart.head' (h : Apart (v :: vs)) (hu : u ∈ vs) {g : Nat} (hg : u.ownBlock = some g) : v.ownBlock ≠ some g := fun e => h.head hu e hg
theorem Apart.at_ (h : Apart vs) {i j : Nat} (hi : i < vs.length) (hj : j < vs.length) (hne : i ≠ j) {g : Nat} (hg : vs[i].ownBlock = some g) : vs[j].ownBlock ≠ some g := by
  rcases Nat.lt_or_ge i j with h' | h'
  · exact List.pairwise_iff_getElem.1 h i j hi hj h' g hg
  · intro e
    exact List.pairwise_iff_getElem.1 h j i hj hi (by omega) g e hg
theorem Apart.cons (h : Apart vs) (hv : ∀ u ∈ vs, ∀ g, v.ownBlock = some g → u.ownBlock ≠ some g) : Apart (v :: vs) := List.pairwise_cons.2 ⟨hv, h⟩
theorem Apart.snoc (h : Apart vs) (hv : ∀ u ∈ vs, ∀ g, v.ownBlock = some g → u.ownBlock ≠ some g) : Apart (vs ++ [v]) :=
  List.pairwise_append.2 ⟨h, by simp, fun a ha b hb g hg e => by simp at hb; subst hb; exact hv a ha g e hg⟩
theorem Apart.nil_ : Apart [] := List.Pairwise.nil
end
end Go.Proofs.YtiibadganlincaaDoor
