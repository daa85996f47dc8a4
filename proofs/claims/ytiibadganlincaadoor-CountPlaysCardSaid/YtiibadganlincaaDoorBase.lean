/- Words on memory for all walks of this seat: what changes between two worlds, what a slice reads as, a block that is known whole, an append of one element. No condition. -/
import Derived.Test.YtiibadganlincaaDoorProg
import Derived.WalkKit
import Derived.WalkSpells
import Derived.WalkLawsBesides
import Derived.Maps.AppendAt
import Derived.Deep.AppendLies
import Derived.Deep.Draws
import Derived.OneCell
import Derived.Deep.DeepMust
namespace Go.Proofs.YtiibadganlincaaDoor
open Go.RowKit

theorem hide {p : Prop} (h : p) : Hid p := h
theorem ret_int {k : IntKind} {a b : Int} (h : a = b) : Ending.returned (.int k a) = .returned (.int k b) := by rw [h]
theorem ret_bool {a b : Bool} (h : a = b) : Ending.returned (.bool a) = .returned (.bool b) := by rw [h]

/-! ### What changes -/

/-- Of the blocks of w only those of S may have changed. -/
structure Kp (S : Nat → Prop) (w w' : World) : Prop where
  os : w'.os = w.os
  tape : w'.tape = w.tape
  output : w'.output = w.output
  size : w.heap.size ≤ w'.heap.size
  block : ∀ k, k < w.heap.size → ¬ S k → w'.heap[k]? = w.heap[k]?

/-- nothing old changes -/
def No (_ : Nat) : Prop := False
/-- block g alone -/
def At (g : Nat) (k : Nat) : Prop := k = g
/-- all below B -/
def Lo (B : Nat) (k : Nat) : Prop := k < B
/-- all from B on -/
def Hi (B : Nat) (k : Nat) : Prop := B ≤ k

section
variable {S S' : Nat → Prop} {a b c w w' : World}
theorem Kp.refl (S : Nat → Prop) (w : World) : Kp S w w := ⟨rfl, rfl, rfl, Nat.le_refl _, fun _ _ _ => rfl⟩
theorem Kp.mono (h : Kp S a b) (hs : ∀ k, k < a.heap.size → S k → S' k) : Kp S' a b :=
  ⟨h.os, h.tape, h.output, h.size, fun k hk hn => h.block k hk fun hS => hn (hs k hk hS)⟩
theorem Kp.trans' (h : Kp S a b) (k : Kp S' b c) (hs : ∀ i, i < a.heap.size → S' i → S i) : Kp S a c :=
  ⟨k.os.trans h.os, k.tape.trans h.tape, k.output.trans h.output, Nat.le_trans h.size k.size, fun i hi hn =>
    (k.block i (Nat.lt_of_lt_of_le hi h.size) fun hS => hn (hs i hi hS)).trans (h.block i hi hn)⟩
theorem Kp.trans (h : Kp S a b) (k : Kp S b c) : Kp S a c := h.trans' k fun _ _ h => h
theorem Kp.drew (h : Kp S a w) : Kp S a w.drew := ⟨h.os, h.tape, h.output, h.size, h.block⟩
theorem Kp.drewN (h : Kp S a w) (n : Nat) : Kp S a (w.drewN n) := ⟨h.os, h.tape, h.output, h.size, h.block⟩
theorem Kp.alloc (h : Kp S a w) (o : Obj) : Kp S a (w.alloc o) :=
  ⟨h.os, h.tape, h.output, by have := h.size; simp; omega, fun k hk hn => (Below.heap_alloc w o k (Nat.lt_of_lt_of_le hk h.size)).trans (h.block k hk hn)⟩
theorem Kp.setCell (h : Kp S a w) {p : Addr} (hp : p.block < a.heap.size → S p.block) (u : Value) : Kp S a (w.setCell p u) :=
  ⟨h.os, h.tape, h.output, by simpa [World.setCell] using h.size, fun k hk hn =>
    (Below.heap_setCell w p u k (by rintro rfl; exact hn (hp hk))).trans (h.block k hk hn)⟩
theorem Kp.grown {row : Option Nat} (h : Kp S a w) (hg : w.grownBy w' row) (hr : ∀ k, row = some k → k < a.heap.size → S k) : Kp S a w' :=
  ⟨hg.os.trans h.os, hg.tape.trans h.tape, hg.output.trans h.output, Nat.le_trans h.size hg.size, fun k hk hn =>
    (hg.block k (Nat.lt_of_lt_of_le hk h.size) (fun e => hn (hr k e.symm hk))).trans (h.block k hk hn)⟩
theorem Kp.below (h : Kp S a b) {B : Nat} (hB : B ≤ a.heap.size) (hs : ∀ k, k < B → ¬ S k) : Below B a b :=
  ⟨h.os, h.tape, h.output, h.size, fun k hk => h.block k (by omega) (hs k hk)⟩
theorem Kp.of_below {B : Nat} (h : Below B a b) : Kp (Hi B) a b :=
  ⟨h.os, h.tape, h.output, h.size, fun k _ hn => h.block k (by unfold Hi at hn; omega)⟩
theorem Kp.of_below_self (h : Below a.heap.size a b) : Kp No a b := ⟨h.os, h.tape, h.output, h.size, fun k hk _ => h.block k hk⟩
theorem Kp.no (h : Kp No a b) : Below a.heap.size a b := ⟨h.os, h.tape, h.output, h.size, fun k hk => h.block k hk (fun h => h)⟩
theorem Kp.of_no (h : Kp No a b) : Kp S a b := h.mono fun _ _ h => h.elim
theorem Kp.cell (h : Kp S a b) {p : Addr} {u : Value} (hc : a.cell? p = some u) (hs : ¬ S p.block) : b.cell? p = some u :=
  (World.cell?_of_block (h.block p.block (World.block_lt_of_cell? a p hc) hs)).trans hc
end

/-! ### A block that is known whole -/

def Blk (w : World) (g : Nat) (t : TypeId) (cs : Array Value) : Prop := w.heap[g]? = some (.cells cs t (0, 0))

section
variable {w w' : World} {g : Nat} {t : TypeId} {cs : Array Value} {S : Nat → Prop}
theorem Blk.lt (h : Blk w g t cs) : g < w.heap.size := by
  rcases Nat.lt_or_ge g w.heap.size with hlt | hge
  · exact hlt
  · unfold Blk at h; rw [Array.getElem?_eq_none hge] at h; cases h
theorem Blk.cell (h : Blk w g t cs) (i : Nat) : w.cell? ⟨g, i, none⟩ = cs[i]? := cell_of_row w g i cs t (0, 0) h
theorem Blk.free (h : Blk w g t cs) (i : Nat) : w.frozen? ⟨g, i, none⟩ = false := by
  unfold Blk at h
  simp [World.frozen?, h]
theorem Blk.new (w : World) (t : TypeId) (cs : Array Value) : Blk (w.alloc (.cells cs t)) w.heap.size t cs := heap_alloc_new w _
theorem Blk.drew (h : Blk w g t cs) : Blk w.drew g t cs := h
theorem Blk.drewN (h : Blk w g t cs) (n : Nat) : Blk (w.drewN n) g t cs := h
theorem Blk.alloc (h : Blk w g t cs) (o : Obj) : Blk (w.alloc o) g t cs := (Below.heap_alloc w o g h.lt).trans h
theorem Blk.set_ (h : Blk w g t cs) (i : Nat) (u : Value) : Blk (w.setCell ⟨g, i, none⟩ u) g t (cs.setIfInBounds i u) := by
  unfold Blk at h ⊢
  simp [World.setCell, Array.getElem?_modify, h]
theorem Blk.far (h : Blk w g t cs) {p : Addr} (hp : g ≠ p.block) (u : Value) : Blk (w.setCell p u) g t cs := (Below.heap_setCell w p u g hp).trans h
theorem Blk.kp (h : Blk w g t cs) (hk : Kp S w w') (hs : ¬ S g) : Blk w' g t cs := (hk.block g h.lt hs).trans h
theorem Blk.grown {row : Option Nat} (h : Blk w g t cs) (hb : w.grownBy w' row) (hg : some g ≠ row) : Blk w' g t cs := (hb.block g h.lt hg).trans h
theorem Blk.ne_ {g' : Nat} {t' : TypeId} {cs' : Array Value} (h : Blk w g t cs) (h' : Blk w g' t' cs') (hne : t ≠ t') : g ≠ g' := by
  rintro rfl
  unfold Blk at h h'
  rw [h] at h'
  injection h' with h'
  injection h' with _ ht
  exact hne ht
theorem Blk.c1 {x : Value} (h : Blk w g t #[x]) : w.cell? ⟨g, 0, none⟩ = some x ∧ w.frozen? ⟨g, 0, none⟩ = false := ⟨h.cell 0, h.free 0⟩
theorem Blk.a1 {x : Value} (h : Blk w g t #[x]) : w.cell? ⟨g, 0, none⟩ = some x ∧ w.frozen? ⟨g, 0, none⟩ = false ∧ g < w.heap.size := ⟨h.cell 0, h.free 0, h.lt⟩
theorem Blk.a2 {x y : Value} (h : Blk w g t #[x, y]) : w.cell? ⟨g, 0, none⟩ = some x ∧ w.cell? ⟨g, 1, none⟩ = some y ∧ w.frozen? ⟨g, 0, none⟩ = false ∧ w.frozen? ⟨g, 1, none⟩ = false ∧ g < w.heap.size := ⟨h.cell 0, h.cell 1, h.free 0, h.free 1, h.lt⟩
theorem Blk.a3 {x y z : Value} (h : Blk w g t #[x, y, z]) : w.cell? ⟨g, 0, none⟩ = some x ∧ w.cell? ⟨g, 1, none⟩ = some y ∧ w.cell? ⟨g, 2, none⟩ = some z ∧ w.frozen? ⟨g, 0, none⟩ = false ∧ w.frozen? ⟨g, 1, none⟩ = false ∧ w.frozen? ⟨g, 2, none⟩ = false ∧ g < w.heap.size := ⟨h.cell 0, h.cell 1, h.cell 2, h.free 0, h.free 1, h.free 2, h.lt⟩
theorem Blk.c2 {x y : Value} (h : Blk w g t #[x, y]) : w.cell? ⟨g, 0, none⟩ = some x ∧ w.cell? ⟨g, 1, none⟩ = some y := ⟨h.cell 0, h.cell 1⟩
end

/-! ### What a slice reads as -/

/-- v is a slice value whose cells, in w, hold vs; each block that is met is one of F. -/
def CellsIn (w : World) (F : Nat → Prop) (v : Value) (vs : List Value) : Prop :=
  ∃ A c, v = .slice A vs.length c ∧ vs.length ≤ c ∧ c ≤ 9223372036854775807 ∧ ∀ k (h : k < vs.length), ∃ b o, A = some ⟨b, o, none⟩ ∧ F b ∧ w.cell? ⟨b, o + k, none⟩ = some vs[k]

/-- likewise, ints -/
def IntsIn (w : World) (F : Nat → Prop) (v : Value) (xs : List Int) : Prop :=
  ∃ A c, v = .slice A xs.length c ∧ xs.length ≤ c ∧ c ≤ 9223372036854775807 ∧ ∀ k (h : k < xs.length), ∃ b o, A = some ⟨b, o, none⟩ ∧ F b ∧ w.cell? ⟨b, o + k, none⟩ = some (.int .i64 xs[k])

/-- likewise, slices of ints -/
def RowsIn (w : World) (F : Nat → Prop) (v : Value) (xss : List (List Int)) : Prop :=
  ∃ vs, CellsIn w F v vs ∧ vs.length = xss.length ∧ ∀ i (h : i < vs.length) (h' : i < xss.length), IntsIn w F vs[i] xss[i]

section
variable {w w' : World} {F F' S : Nat → Prop} {v : Value} {vs : List Value} {xs : List Int} {xss : List (List Int)}
theorem cellsIn_ints : CellsIn w F v (xs.map (Value.int .i64)) ↔ IntsIn w F v xs := by
  unfold CellsIn IntsIn
  simp only [List.length_map, List.getElem_map]

theorem IntsIn.lit {A : Option Addr} {n c : Nat} (h : IntsIn w F (.slice A n c) xs) :
    n = xs.length ∧ xs.length ≤ c ∧ c ≤ 9223372036854775807 ∧ ∀ k (h : k < xs.length), ∃ b o, A = some ⟨b, o, none⟩ ∧ F b ∧ w.cell? ⟨b, o + k, none⟩ = some (.int .i64 xs[k]) := by
  obtain ⟨A', c', e, h1, h2, h3⟩ := h
  injection e with e1 e2 e3
  subst e1; subst e3
  exact ⟨e2, h1, h2, h3⟩
theorem IntsIn.nil_ (w : World) (F : Nat → Prop) : IntsIn w F (.slice none 0 0) [] := ⟨none, 0, rfl, by simp, by simp, fun k h => by simp at h⟩
theorem CellsIn.nil_ (w : World) (F : Nat → Prop) : CellsIn w F (.slice none 0 0) [] := ⟨none, 0, rfl, by simp, by simp, fun k h => by simp at h⟩
theorem RowsIn.nil_ (w : World) (F : Nat → Prop) : RowsIn w F (.slice none 0 0) [] := ⟨[], .nil_ w F, rfl, fun k h => by simp at h⟩

theorem CellsIn.keep (h : CellsIn w F v vs) (hk : ∀ p u, F p.block → w.cell? p = some u → w'.cell? p = some u) : CellsIn w' F v vs := by
  obtain ⟨A, c, rfl, h1, h2, h3⟩ := h
  refine ⟨A, c, rfl, h1, h2, fun k hk' => ?_⟩
  obtain ⟨b, o, e, hF, hc⟩ := h3 k hk'
  exact ⟨b, o, e, hF, hk _ _ hF hc⟩
theorem IntsIn.keep (h : IntsIn w F v xs) (hk : ∀ p u, F p.block → w.cell? p = some u → w'.cell? p = some u) : IntsIn w' F v xs :=
  cellsIn_ints.1 ((cellsIn_ints.2 h).keep hk)
theorem RowsIn.keep (h : RowsIn w F v xss) (hk : ∀ p u, F p.block → w.cell? p = some u → w'.cell? p = some u) : RowsIn w' F v xss := by
  obtain ⟨vs, h1, h2, h3⟩ := h
  exact ⟨vs, h1.keep hk, h2, fun i a b => (h3 i a b).keep hk⟩

theorem CellsIn.mono (h : CellsIn w F v vs) (hF : ∀ k, k < w.heap.size → F k → F' k) : CellsIn w F' v vs := by
  obtain ⟨A, c, rfl, h1, h2, h3⟩ := h
  refine ⟨A, c, rfl, h1, h2, fun k hk' => ?_⟩
  obtain ⟨b, o, e, hb, hc⟩ := h3 k hk'
  exact ⟨b, o, e, hF b (World.block_lt_of_cell? w _ hc) hb, hc⟩
theorem IntsIn.mono (h : IntsIn w F v xs) (hF : ∀ k, k < w.heap.size → F k → F' k) : IntsIn w F' v xs := cellsIn_ints.1 ((cellsIn_ints.2 h).mono hF)
theorem RowsIn.mono (h : RowsIn w F v xss) (hF : ∀ k, k < w.heap.size → F k → F' k) : RowsIn w F' v xss := by
  obtain ⟨vs, h1, h2, h3⟩ := h
  exact ⟨vs, h1.mono hF, h2, fun i a b => (h3 i a b).mono hF⟩

theorem CellsIn.kp (h : CellsIn w F v vs) (hk : Kp S w w') (hs : ∀ k, F k → ¬ S k) : CellsIn w' F v vs := h.keep fun p _ hp hc => hk.cell hc (hs p.block hp)
theorem IntsIn.kp (h : IntsIn w F v xs) (hk : Kp S w w') (hs : ∀ k, F k → ¬ S k) : IntsIn w' F v xs := h.keep fun p _ hp hc => hk.cell hc (hs p.block hp)
theorem RowsIn.kp (h : RowsIn w F v xss) (hk : Kp S w w') (hs : ∀ k, F k → ¬ S k) : RowsIn w' F v xss := h.keep fun p _ hp hc => hk.cell hc (hs p.block hp)
theorem CellsIn.no (h : CellsIn w F v vs) (hk : Kp No w w') : CellsIn w' F v vs := h.kp hk fun _ _ h => h
theorem IntsIn.no (h : IntsIn w F v xs) (hk : Kp No w w') : IntsIn w' F v xs := h.kp hk fun _ _ h => h
theorem RowsIn.no (h : RowsIn w F v xss) (hk : Kp No w w') : RowsIn w' F v xss := h.kp hk fun _ _ h => h

theorem RowsIn.row (h : RowsIn w F v xss) : ∃ (A : Option Addr) (c : Nat) (vs : List Value), v = .slice A xss.length c ∧ vs.length = xss.length ∧ xss.length ≤ c ∧ c ≤ 9223372036854775807 ∧
    (∀ k (h : k < vs.length), ∃ b o, A = some ⟨b, o, none⟩ ∧ F b ∧ w.cell? ⟨b, o + k, none⟩ = some vs[k]) ∧ ∀ i (h : i < vs.length) (h' : i < xss.length), IntsIn w F vs[i] xss[i] := by
  obtain ⟨vs, ⟨A, c, rfl, h1, h2, h3⟩, h4, h5⟩ := h
  exact ⟨A, c, vs, by rw [h4], h4, by omega, h2, h3, h5⟩

/-- a row of the call's own reads as what it holds -/
theorem CellsIn.of_own {base : Nat} {e : TypeId} {n : Nat} (h : w.ownsRow base e 1 v n vs) (hF : ∀ g, v.ownBlock = some g → F g) : CellsIn w F v vs := by
  have hn : n = vs.length := by have := h.1; omega
  subst hn
  obtain ⟨h0, h | ⟨g, cap, cur, rfl, hg, hh, h1, h2, h3, h4⟩⟩ := h
  · obtain ⟨rfl, h⟩ := h
    have : vs = [] := List.eq_nil_of_length_eq_zero h
    subst this
    exact .nil_ w F
  · have hown : w.ownsRow base e 1 (.slice (some ⟨g, 0, none⟩) vs.length cap) vs.length vs := ⟨h0, .inr ⟨g, cap, cur, rfl, hg, hh, h1, h2, h3, h4⟩⟩
    refine ⟨_, cap, rfl, h1, h2, fun k hk => ⟨g, 0, rfl, hF g rfl, ?_⟩⟩
    have := hown.cellAt k (by omega)
    simp only [Nat.zero_add]
    rw [this, List.getElem?_eq_getElem hk]
theorem IntsIn.of_own {base : Nat} {e : TypeId} {n : Nat} (h : w.ownsRow base e 1 v n (xs.map (Value.int .i64))) (hF : ∀ g, v.ownBlock = some g → F g) : IntsIn w F v xs :=
  cellsIn_ints.1 (.of_own h hF)
end

/-- a value of one cell -/
theorem one_int (k : IntKind) (x : Int) : (Value.int k x).oneCell' = true := rfl

/-- ownsRow keeps -/
theorem own_kp {w w' : World} {S : Nat → Prop} {base : Nat} {e : TypeId} {size n : Nat} {v : Value} {xs : List Value} (h : w.ownsRow base e size v n xs) (hk : Kp S w w') (hs : ∀ g, v.ownBlock = some g → ¬ S g) : w'.ownsRow base e size v n xs := by
  obtain ⟨h1, h2⟩ := h
  refine ⟨h1, ?_⟩
  rcases h2 with h2 | ⟨g, cap, cur, rfl, hg, hh, r⟩
  · exact .inl h2
  · have hlt : g < w.heap.size := by
      rcases Nat.lt_or_ge g w.heap.size with hlt | hge
      · exact hlt
      · rw [Array.getElem?_eq_none hge] at hh; cases hh
    exact .inr ⟨g, cap, cur, rfl, hg, (hk.block g hlt (hs g rfl)).trans hh, r⟩

theorem own_base {w : World} {base base' : Nat} {e : TypeId} {size n : Nat} {v : Value} {xs : List Value} (h : w.ownsRow base e size v n xs) (hb : ∀ g, v.ownBlock = some g → base' ≤ g) : w.ownsRow base' e size v n xs := by
  obtain ⟨h1, h2⟩ := h
  refine ⟨h1, ?_⟩
  rcases h2 with h2 | ⟨g, cap, cur, rfl, hg, r⟩
  · exact .inl h2
  · exact .inr ⟨g, cap, cur, rfl, hb g rfl, r⟩

theorem own_lt {w : World} {base : Nat} {e : TypeId} {size n : Nat} {v : Value} {xs : List Value} (h : w.ownsRow base e size v n xs) {g : Nat} (hg : v.ownBlock = some g) : base ≤ g ∧ g < w.heap.size := h.lt g hg

theorem own_ne_blk {w : World} {base : Nat} {e : TypeId} {size n : Nat} {v : Value} {xs : List Value} {g : Nat} {t : TypeId} {cs : Array Value} (h : w.ownsRow base e size v n xs) (hg : Blk w g t cs) (hne : e ≠ t) : v.ownBlock ≠ some g := by
  rcases h.2 with ⟨rfl, _⟩ | ⟨g', cap, cur, rfl, _, hh, _⟩
  · simp [Value.ownBlock]
  · intro he
    have : g' = g := by simpa [Value.ownBlock] using he
    subst this
    exact Blk.ne_ (t := e) hh hg hne rfl

theorem own_ne_own {w : World} {base base' : Nat} {e e' : TypeId} {size size' n n' : Nat} {v v' : Value} {xs xs' : List Value} (h : w.ownsRow base e size v n xs) (h' : w.ownsRow base' e' size' v' n' xs') (hne : e ≠ e') {g : Nat} (hg : v.ownBlock = some g) : v'.ownBlock ≠ some g := by
  rcases h.2 with ⟨rfl, _⟩ | ⟨g', cap, cur, rfl, _, hh, _⟩
  · simp [Value.ownBlock] at hg
  · have : g' = g := by simpa [Value.ownBlock] using hg
    subst this
    exact own_ne_blk h' hh (Ne.symm hne)

/-- the shape of an owned row -/
theorem own_form {w : World} {base : Nat} {e : TypeId} {n : Nat} {v : Value} {xs : List Value} (h : w.ownsRow base e 1 v n xs) :
    n = xs.length ∧ ∃ A c, v = .slice A xs.length c ∧ xs.length ≤ c ∧ c ≤ 9223372036854775807 ∧ ∀ k (_ : k < xs.length), ∃ g, A = some ⟨g, 0, none⟩ ∧ w.cell? ⟨g, k, none⟩ = some xs[k] := by
  have hn : n = xs.length := by have := h.1; omega
  refine ⟨hn, ?_⟩
  obtain ⟨A, c, e1, h1, h2, h3⟩ := CellsIn.of_own (F := fun _ => True) h fun _ _ => trivial
  refine ⟨A, c, e1, h1, h2, fun k hk => ?_⟩
  rcases h.2 with ⟨_, h0⟩ | ⟨g, cap, cur, hv, _⟩
  · omega
  · rw [e1] at hv
    injection hv with hA
    obtain ⟨b, o, hb, _, hc⟩ := h3 k hk
    rw [hA] at hb
    injection hb with hb
    injection hb with hb ho
    subst hb; subst ho
    exact ⟨g, hA, by simpa using hc⟩

/-! ### append of one element, of whatever type of one cell -/

theorem wpList_push {P : Program} (w : World) {ops : Array Oper} {rest : List Oper} {o : Oper} {a : Act} {Q : Exit → Act → World → Prop} (hgd : o.guard = none) (s x : Operand) (t : TypeId)
    (ho : o.op = .call { callee := .builtin .append, args := #[s, x], argTypes := #[t, t] })
    (base : Nat) (e : TypeId) (z : Value) (bytes : Nat) (ht : P.underlying t = some (.slice e)) (hinfo : (P.info? e).map (fun i => (i.zero, i.size, i.bytes)) = some (some z, 1, bytes)) (hzs : z.cells.size = 1)
    (v : Value) (n : Nat) (xs : List Value) (hs : a.eval s = v) (hown : w.ownsRow base e 1 v n xs)
    (u : Value) (h1 : u.oneCell' = true) (c N : Nat) (hx : a.eval x = .slice (some ⟨N, 0, none⟩) 1 c) (hN : w.heap.size = N)
    (h63 : n + 1 ≤ 1073741824) (hb : bytes ≤ 1024) (hbase : base ≤ w.heap.size)
    (h : ∀ g' c' w', w'.ownsRow base e 1 (.slice (some ⟨g', 0, none⟩) (n + 1) c') (n + 1) (xs ++ [u]) → (w.alloc (.cells #[u] e)).grownBy w' v.ownBlock → (v.ownBlock = some g' ∨ g' = N + 1) → wpList P ops Q rest (a.put o.dst (.slice (some ⟨g', 0, none⟩) (n + 1) c')) w') :
    wpList P ops Q (o :: rest) a (w.alloc (.cells #[u] e)) := by
  obtain ⟨i, hi, hz, hsize, hby⟩ := info_parts hinfo
  subst hN
  refine wpList_append_own_at _ hgd s x t ho base e i z 1 bytes ht hi hz hsize hby hzs (by omega) v n xs hs (hown.alloc _) ⟨w.heap.size, 0, none⟩ 1 c [u] hx rfl (cell_one_new _ _ _) ?_ ?_ ?_ ?_ ?_
  · intro u' hu'
    simp only [List.mem_singleton] at hu'
    subst hu'
    exact h1
  · simp only [maxLen]; omega
  · calc (n + 1) * bytes ≤ 1073741824 * 1024 := Nat.mul_le_mul h63 hb
      _ ≤ 140737488355328 := by decide
  · simp; omega
  · intro v' w' h2 h3 _ h5
    rcases h2.2 with ⟨_, h0⟩ | ⟨g, cap, cur, rfl, _⟩
    · omega
    · refine h g cap w' h2 h3 ?_
      rcases h5 with h5 | h5
      · exact .inl h5.symm
      · exact .inr (by simpa [Value.ownBlock] using h5)

theorem run_push {P : Program} (w : World) (t ty : TypeId) (base : Nat) (e : TypeId) (z : Value) (bytes : Nat) (ht : P.underlying t = some (.slice e)) (hinfo : (P.info? e).map (fun i => (i.zero, i.size, i.bytes)) = some (some z, 1, bytes)) (hzs : z.cells.size = 1)
    (v : Value) (n : Nat) (xs : List Value) (hown : w.ownsRow base e 1 v n xs) (u : Value) (h1 : u.oneCell' = true) (c N : Nat) (hc : w.cell? ⟨N, 0, none⟩ = some u)
    (h63 : n + 1 ≤ 1073741824) (hb : bytes ≤ 1024) (hbase : base ≤ w.heap.size) :
    ∃ g' c' w', (Builtin.append_ #[t, t] ty #[v, .slice (some ⟨N, 0, none⟩) 1 c]).run P w = .ok (.slice (some ⟨g', 0, none⟩) (n + 1) c') w' ∧
      w'.ownsRow base e 1 (.slice (some ⟨g', 0, none⟩) (n + 1) c') (n + 1) (xs ++ [u]) ∧ w.grownBy w' v.ownBlock ∧ (v.ownBlock = some g' ∨ g' = w.heap.size) := by
  obtain ⟨i, hi, hz, hsize, hby⟩ := info_parts hinfo
  obtain ⟨v', w', hr, h2, h3, _, h5⟩ := run_append_own_at (P := P) w base t ty e i z 1 bytes ht hi hz hsize hby hzs (by omega) v n xs hown ⟨N, 0, none⟩ 1 c [u] rfl
    (by
      intro j u' hj
      match j, hj with
      | 0, hj => simp at hj; subst hj; simpa [Addr.add] using hc)
    (by
      intro u' hu'
      simp only [List.mem_singleton] at hu'
      subst hu'
      exact h1) (by simp only [maxLen]; omega)
    (by
      calc (n + 1) * bytes ≤ 1073741824 * 1024 := Nat.mul_le_mul h63 hb
        _ ≤ 140737488355328 := by decide) hbase
  rcases h2.2 with ⟨_, h0⟩ | ⟨g, cap, cur, rfl, _⟩
  · omega
  · refine ⟨g, cap, w', hr, h2, h3, ?_⟩
    rcases h5 with h5 | h5
    · exact .inl h5.symm
    · exact .inr (by simpa [Value.ownBlock] using h5)

/-- at a step of a region that draws its order -/
theorem step_push {P : Program} (w : World) {ops : Array Oper} {o : Oper} {a : Act} {K : Act → World → Prop} {Q : Exit → Act → World → Prop} {E : Prop} (hgd : o.guard = none) (s x : Operand) (t : TypeId)
    (ho : o.op = .call { callee := .builtin .append, args := #[s, x], argTypes := #[t, t] })
    (base : Nat) (e : TypeId) (z : Value) (bytes : Nat) (ht : P.underlying t = some (.slice e)) (hinfo : (P.info? e).map (fun i => (i.zero, i.size, i.bytes)) = some (some z, 1, bytes)) (hzs : z.cells.size = 1)
    (v : Value) (n : Nat) (xs : List Value) (hs : a.eval s = v) (hown : w.ownsRow base e 1 v n xs) (u : Value) (h1 : u.oneCell' = true) (c N : Nat) (hx : a.eval x = .slice (some ⟨N, 0, none⟩) 1 c) (hc : w.cell? ⟨N, 0, none⟩ = some u)
    (h63 : n + 1 ≤ 1073741824) (hb : bytes ≤ 1024) (hbase : base ≤ w.heap.size)
    (h : ∀ g' c' w', w'.ownsRow base e 1 (.slice (some ⟨g', 0, none⟩) (n + 1) c') (n + 1) (xs ++ [u]) → w.grownBy w' v.ownBlock → (v.ownBlock = some g' ∨ g' = w.heap.size) → K (a.put o.dst (.slice (some ⟨g', 0, none⟩) (n + 1) c')) w') :
    if Region.wanted o (yielded ops a.tmps) = true then Oper.wp P o a w K Q else E := by
  have hw : Region.wanted o (yielded ops a.tmps) = true := by simp [Region.wanted, hgd]
  rw [if_pos hw]
  obtain ⟨g', c', w', hr, h2, h3, h4⟩ := run_push (P := P) w t o.type base e z bytes ht hinfo hzs v n xs hown u h1 c N hc h63 hb hbase
  unfold Oper.wp execOp
  simp only [ho, resolve, invoke, builtin, Sem.run_bind, Sem.run_pure, Result.andThen_ok, List.map_toArray, List.map_cons, List.map_nil, hs, hx, hr]
  exact h g' c' w' h2 h3 h4

theorem Tryd.infoRow : (Tryd.prog.info? 25).map (fun i => (i.zero, i.size, i.bytes)) = some (some (.slice none 0 0), 1, 24) := by kernel_rfl
theorem Tryd.infoInt : (Tryd.prog.info? 3).map (fun i => (i.zero, i.size, i.bytes)) = some (some (.int .i64 0), 1, 8) := by kernel_rfl

end Go.Proofs.YtiibadganlincaaDoor
