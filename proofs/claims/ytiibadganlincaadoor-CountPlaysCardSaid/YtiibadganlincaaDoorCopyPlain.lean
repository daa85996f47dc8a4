/- Plain facts on heaps and their breadth-first order; no program in sight. -/
import Derived.Test.YtiibadganlincaaDoorCopy
namespace Go.Proofs.YtiibadganlincaaDoor

/-- the pointers of a node -/
def adj (outs : List (List Int)) (x : Int) : List Int := outs.getD x.toNat []

/-- a heap that is no more than it may be -/
structure Ok (outs : List (List Int)) (roots : List Int) : Prop where
  n12 : outs.length ≤ 12
  r12 : roots.length ≤ 12
  root : ∀ x ∈ roots, 0 ≤ x ∧ x < outs.length
  few : ∀ l ∈ outs, l.length ≤ 4
  out : ∀ l ∈ outs, ∀ x ∈ l, 0 ≤ x ∧ x < outs.length

theorem allB_iff {xs : List Int} {lo hi : Int} : allB xs lo hi = true ↔ ∀ x ∈ xs, lo ≤ x ∧ x ≤ hi := by
  unfold allB
  rw [List.all_eq_true]
  simp only [btw_iff]

theorem chkRow_zero {n : Nat} {l : List Int} : chkRow n l = 0 ↔ l.length ≤ 4 ∧ ∀ x ∈ l, 0 ≤ x ∧ x < n := by
  unfold chkRow
  split
  · rename_i h; exact ⟨fun h' => absurd h' (by decide), fun h' => absurd h'.1 (by omega)⟩
  · rename_i h
    split
    · rename_i h2
      refine ⟨fun h' => absurd h' (by decide), fun h' => ?_⟩
      have : allB l 0 ((n : Int) - 1) = true := allB_iff.2 fun x hx => ⟨(h'.2 x hx).1, by have := (h'.2 x hx).2; omega⟩
      rw [this] at h2; cases h2
    · rename_i h2
      have h3 : allB l 0 ((n : Int) - 1) = true := by cases e : allB l 0 ((n : Int) - 1) <;> simp_all
      refine ⟨fun _ => ⟨by omega, fun x hx => ?_⟩, fun _ => rfl⟩
      have := allB_iff.1 h3 x hx
      omega

theorem chkRows_zero {n : Nat} {ls : List (List Int)} : chkRows n ls = 0 ↔ ∀ l ∈ ls, l.length ≤ 4 ∧ ∀ x ∈ l, 0 ≤ x ∧ x < n := by
  induction ls with
  | nil => simp [chkRows]
  | cons l r ih =>
    unfold chkRows
    rw [List.forall_mem_cons, ← chkRow_zero, ← ih]
    split
    · rename_i h; simp [h]
    · rename_i h; exact ⟨fun h' => absurd h' h, fun h' => absurd h'.1 h⟩

theorem ok_of_chk {outs : List (List Int)} {roots : List Int} (h : chk outs roots = 0) : Ok outs roots := by
  unfold chk at h
  split at h
  · cases h
  · rename_i h1
    split at h
    · cases h
    · rename_i h2
      have h3 : allB roots 0 ((outs.length : Int) - 1) = true := by cases e : allB roots 0 ((outs.length : Int) - 1) <;> simp_all
      have h4 := chkRows_zero.1 h
      refine ⟨by omega, by omega, fun x hx => ?_, fun l hl => (h4 l hl).1, fun l hl => (h4 l hl).2⟩
      have := allB_iff.1 h3 x hx
      omega

theorem chk_of_ok {outs : List (List Int)} {roots : List Int} (h : Ok outs roots) : chk outs roots = 0 := by
  unfold chk
  rw [if_neg (by have := h.n12; have := h.r12; omega)]
  have h3 : allB roots 0 ((outs.length : Int) - 1) = true := allB_iff.2 fun x hx => ⟨(h.root x hx).1, by have := (h.root x hx).2; omega⟩
  rw [h3]
  simp only [Bool.true_eq_false, if_false]
  exact chkRows_zero.2 fun l hl => ⟨h.few l hl, h.out l hl⟩

theorem Ok.adjIn {outs : List (List Int)} {roots : List Int} (h : Ok outs roots) {x : Int} : ∀ y ∈ adj outs x, 0 ≤ y ∧ y < outs.length := by
  intro y hy
  unfold adj at hy
  rw [List.getD_eq_getElem?_getD] at hy
  by_cases hx : x.toNat < outs.length
  · rw [List.getElem?_eq_getElem hx] at hy
    exact h.out _ (List.getElem_mem hx) y hy
  · rw [List.getElem?_eq_none (by omega)] at hy
    simp at hy

theorem Ok.adjFew {outs : List (List Int)} {roots : List Int} (h : Ok outs roots) {x : Int} : (adj outs x).length ≤ 4 := by
  unfold adj
  rw [List.getD_eq_getElem?_getD]
  by_cases hx : x.toNat < outs.length
  · rw [List.getElem?_eq_getElem hx]
    exact h.few _ (List.getElem_mem hx)
  · rw [List.getElem?_eq_none (by omega)]
    simp

theorem adj_eq {outs : List (List Int)} {x : Int} (h : x.toNat < outs.length) : adj outs x = outs[x.toNat] := by
  unfold adj
  rw [List.getD_eq_getElem?_getD, List.getElem?_eq_getElem h]
  rfl

theorem nodup_le {n : Nat} : ∀ {l : List Int}, l.Nodup → (∀ x ∈ l, 0 ≤ x ∧ x < (n : Int)) → l.length ≤ n := by
  induction n with
  | zero =>
    intro l _ h
    cases l with
    | nil => simp
    | cons a l => have := h a (by simp); omega
  | succ n ih =>
    intro l hl h
    by_cases hm : (n : Int) ∈ l
    · have h1 := ih (hl.erase (n : Int)) fun x hx => by
        rw [hl.mem_erase_iff] at hx
        have := h x hx.2
        omega
      rw [List.length_erase_of_mem hm] at h1
      omega
    · have h1 := ih hl fun x hx => by
        have := h x hx
        have : x ≠ (n : Int) := fun e => hm (e ▸ hx)
        omega
      omega

/-- the order in which nodes are found, breadth first: f rounds more, the next to be scanned is k -/
def cpOrd (outs : List (List Int)) : Nat → Nat → List Int → List Int
  | 0, _, o => o
  | f + 1, k, o => if h : k < o.length then cpOrd outs f (k + 1) (fwd o (adj outs o[k])) else o

/-- the order of a heap -/
def order (outs : List (List Int)) (roots : List Int) : List Int := cpOrd outs outs.length 0 (fwd [] roots)

/-- what a row of pointers is, numbered by an order -/
def renum (o xs : List Int) : List Int := xs.map fun y => (o.idxOf y : Int)
/-- rows of the first k nodes of an order -/
def rowsOf (outs : List (List Int)) (o : List Int) (k : Nat) : List (List Int) := (o.take k).map fun x => renum o (adj outs x)

/-- rows of the copy -/
def copyRows (outs : List (List Int)) (roots : List Int) : List (List Int) := rowsOf outs (order outs roots) (order outs roots).length

theorem nums_eq (o xs : List Int) : nums o xs = renum (fwd o xs) xs := rfl
theorem renum_prefix {o p : List Int} (h : o <+: p) {xs : List Int} (hx : ∀ x ∈ xs, x ∈ o) : renum p xs = renum o xs := by
  unfold renum
  apply List.map_congr_left
  intro y hy
  rw [idxOf_prefix h (hx y hy)]
theorem renum_length (o xs : List Int) : (renum o xs).length = xs.length := by simp [renum]
theorem rowsOf_length {outs : List (List Int)} {o : List Int} {k : Nat} (h : k ≤ o.length) : (rowsOf outs o k).length = k := by simp [rowsOf]; omega

/-- what holds of an order while it is made, at the scan of the k-th -/
structure Scan (outs : List (List Int)) (roots : List Int) (k : Nat) (o : List Int) : Prop where
  nodup : o.Nodup
  range : ∀ x ∈ o, 0 ≤ x ∧ x < outs.length
  root : ∀ x ∈ roots, x ∈ o
  done : ∀ x ∈ o.take k, ∀ y ∈ adj outs x, y ∈ o
  le : k ≤ o.length
  rest : cpOrd outs (outs.length - k) k o = order outs roots

theorem Scan.length {outs : List (List Int)} {roots : List Int} {k : Nat} {o : List Int} (h : Scan outs roots k o) : o.length ≤ outs.length := nodup_le h.nodup h.range

theorem Scan.start {outs : List (List Int)} {roots : List Int} (h : Ok outs roots) : Scan outs roots 0 (fwd [] roots) :=
  ⟨nodup_fwd List.nodup_nil _, fun x hx => by
    rcases mem_fwd.1 hx with hx | hx
    · cases hx
    · exact h.root x hx, fun x hx => mem_fwd.2 (.inr hx), fun x hx => by simp at hx, by omega, rfl⟩

theorem Scan.step {outs : List (List Int)} {roots : List Int} {k : Nat} {o : List Int} (hok : Ok outs roots) (h : Scan outs roots k o) (hk : k < o.length) : Scan outs roots (k + 1) (fwd o (adj outs o[k])) := by
  have hp := fwd_prefix o (adj outs o[k])
  refine ⟨nodup_fwd h.nodup _, fun x hx => ?_, fun x hx => hp.subset (h.root x hx), fun x hx y hy => ?_, ?_, ?_⟩
  · rcases mem_fwd.1 hx with hx | hx
    · exact h.range x hx
    · exact hok.adjIn x hx
  · obtain ⟨t, ht⟩ := hp
    rw [← ht, List.take_append_of_le_length (by omega), take_snoc_ o k hk, List.mem_append] at hx
    rcases hx with hx | hx
    · exact (fwd_prefix o _).subset (h.done x hx y hy)
    · simp only [List.mem_singleton] at hx
      subst hx
      exact mem_fwd.2 (.inr hy)
  · have := hp.length_le; omega
  · have hl := h.length
    rw [← h.rest]
    have : outs.length - k = (outs.length - (k + 1)) + 1 := by omega
    rw [this, cpOrd, dif_pos hk]

theorem Scan.fin {outs : List (List Int)} {roots : List Int} {k : Nat} {o : List Int} (h : Scan outs roots k o) (hk : ¬ k < o.length) : o = order outs roots := by
  rw [← h.rest]
  cases outs.length - k with
  | zero => rfl
  | succ f => rw [cpOrd, dif_neg hk]

/-- the rows behind one scan more -/
theorem Scan.rows {outs : List (List Int)} {roots : List Int} {k : Nat} {o : List Int} (h : Scan outs roots k o) (hk : k < o.length) :
    rowsOf outs (fwd o (adj outs o[k])) (k + 1) = rowsOf outs o k ++ [nums o (adj outs o[k])] := by
  have hp := fwd_prefix o (adj outs o[k])
  unfold rowsOf
  have ht : (fwd o (adj outs o[k])).take (k + 1) = o.take k ++ [o[k]] := by
    obtain ⟨t, ht⟩ := hp
    rw [← ht, List.take_append_of_le_length (by omega), take_snoc_ o k hk]
  rw [ht, List.map_append, List.map_cons, List.map_nil, nums_eq]
  congr 1
  apply List.map_congr_left
  intro x hx
  exact renum_prefix hp (h.done x hx)

end Go.Proofs.YtiibadganlincaaDoor
