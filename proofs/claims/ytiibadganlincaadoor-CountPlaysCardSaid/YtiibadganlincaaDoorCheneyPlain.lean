/- What Copy's numbers are, plainly: the copy is a heap, its order is 0, 1, 2 and so on, and it is its own copy. No program in sight. -/
import Derived.Test.YtiibadganlincaaDoorCopyPlain
import Derived.Test.YtiibadganlincaaDoorSame
namespace Go.Proofs.YtiibadganlincaaDoor

theorem cpOrd_prefix (outs : List (List Int)) : ∀ (f k : Nat) (o : List Int), o <+: cpOrd outs f k o
  | 0, _, o => List.prefix_refl o
  | f + 1, k, o => by
    unfold cpOrd
    split
    · exact (fwd_prefix _ _).trans (cpOrd_prefix outs f (k + 1) _)
    · exact List.prefix_refl o

theorem Scan.prefix_ {outs : List (List Int)} {roots : List Int} {k : Nat} {o : List Int} (h : Scan outs roots k o) : o <+: order outs roots := by
  rw [← h.rest]; exact cpOrd_prefix _ _ _ _

/-- the state at the end -/
theorem scan_end {outs : List (List Int)} {roots : List Int} (hok : Ok outs roots) : Scan outs roots (order outs roots).length (order outs roots) := by
  have key : ∀ n k o, n = outs.length - k → Scan outs roots k o → Scan outs roots (order outs roots).length (order outs roots) := by
    intro n
    induction n with
    | zero =>
      intro k o hn h
      have hl := h.length
      have hle := h.le
      have hk : k = o.length := by omega
      have ho := h.fin (by omega)
      rw [ho] at hk h
      rw [← hk]
      exact h
    | succ n ih =>
      intro k o hn h
      by_cases hk : k < o.length
      · exact ih (k + 1) _ (by omega) (h.step hok hk)
      · have hle := h.le
        have hk' : k = o.length := by omega
        have ho := h.fin hk
        rw [ho] at hk' h
        rw [← hk']
        exact h
  exact key _ 0 _ rfl (Scan.start hok)

theorem upTo_getElem {n i : Nat} (h : i < (upTo n).length) : (upTo n)[i] = i := by simp [upTo]
theorem mem_upTo {n : Nat} {x : Int} : x ∈ upTo n ↔ 0 ≤ x ∧ x < n := by
  unfold upTo
  rw [List.mem_map]
  constructor
  · rintro ⟨i, hi, rfl⟩
    rw [List.mem_range] at hi
    omega
  · rintro ⟨h0, h1⟩
    exact ⟨x.toNat, by rw [List.mem_range]; omega, by omega⟩
theorem nodup_upTo (n : Nat) : (upTo n).Nodup := by
  induction n with
  | zero => simp [upTo]
  | succ n ih =>
    rw [upTo_succ, List.nodup_append]
    refine ⟨ih, by simp, fun a ha b hb => ?_⟩
    rw [mem_upTo] at ha
    simp only [List.mem_singleton] at hb
    omega

theorem idxOf_nodup {l : List Int} (h : l.Nodup) {i : Nat} (hi : i < l.length) : l.idxOf l[i] = i := by
  induction l generalizing i with
  | nil => simp at hi
  | cons a l ih =>
    rw [List.nodup_cons] at h
    cases i with
    | zero => simp
    | succ i =>
      simp only [List.getElem_cons_succ]
      rw [List.idxOf_cons]
      have hi' : i < l.length := by simpa using hi
      have hne : (a == l[i]) = false := by
        rw [beq_eq_false_iff_ne]
        intro e
        exact h.1 (e ▸ List.getElem_mem hi')
      rw [hne]
      simp [ih h.2 hi']
theorem idxOf_upTo {n : Nat} {x : Int} (h0 : 0 ≤ x) (h1 : x < n) : ((upTo n).idxOf x : Int) = x := by
  have hi : x.toNat < (upTo n).length := by rw [upTo_length]; omega
  have := idxOf_nodup (nodup_upTo n) hi
  rw [upTo_getElem hi] at this
  have e : ((x.toNat : Nat) : Int) = x := by omega
  rw [e] at this
  omega

theorem renum_upTo {n : Nat} {xs : List Int} (h : ∀ x ∈ xs, 0 ≤ x ∧ x < n) : renum (upTo n) xs = xs := by
  unfold renum
  conv => rhs; rw [← List.map_id xs]
  apply List.map_congr_left
  intro x hx
  exact idxOf_upTo (h x hx).1 (h x hx).2

theorem mem_renum {o xs : List Int} (h : ∀ x ∈ xs, x ∈ o) : ∀ y ∈ renum o xs, 0 ≤ y ∧ y < o.length := by
  intro y hy
  unfold renum at hy
  rw [List.mem_map] at hy
  obtain ⟨x, hx, rfl⟩ := hy
  have := List.idxOf_lt_length_iff.2 (h x hx)
  omega

/-- nodes are found in the copy as they were -/
theorem fwd_up {L : List Int} (hL : L.Nodup) : ∀ (xs o : List Int), o <+: L → fwd o xs <+: L → fwd (upTo o.length) (renum L xs) = upTo (fwd o xs).length := by
  intro xs
  induction xs with
  | nil => intro o _ _; rfl
  | cons x xs ih =>
    intro o ho hx
    have e1 : fwd o (x :: xs) = fwd (fwdStep o x) xs := rfl
    have e2 : fwd (upTo o.length) (renum L (x :: xs)) = fwd (fwdStep (upTo o.length) (L.idxOf x : Int)) (renum L xs) := rfl
    rw [e1] at hx ⊢
    rw [e2]
    have hs : fwdStep o x <+: L := (fwd_prefix _ _).trans hx
    have e3 : fwdStep (upTo o.length) (L.idxOf x : Int) = upTo (fwdStep o x).length := by
      by_cases hm : x ∈ o
      · have h1 : fwdStep o x = o := by unfold fwdStep; rw [if_pos hm]
        rw [h1]
        unfold fwdStep
        rw [if_pos]
        rw [mem_upTo, idxOf_prefix ho hm]
        have := List.idxOf_lt_length_iff.2 hm
        omega
      · have h1 : fwdStep o x = o ++ [x] := by unfold fwdStep; rw [if_neg hm]
        rw [h1] at hs ⊢
        have h2 : L.idxOf x = o.length := by
          rw [idxOf_prefix hs (by simp), List.idxOf_append, if_neg hm]
          simp
        rw [h2, List.length_append, List.length_singleton, upTo_succ]
        unfold fwdStep
        rw [if_neg]
        rw [mem_upTo]
        omega
    rw [e3]
    exact ih _ hs hx

section
variable {outs : List (List Int)} {roots : List Int} (hok : Ok outs roots)
include hok

omit hok in
theorem copyRows_length : (copyRows outs roots).length = (order outs roots).length := rowsOf_length (Nat.le_refl _)
theorem order_length : (order outs roots).length ≤ outs.length := (scan_end hok).length
theorem order_nodup : (order outs roots).Nodup := (scan_end hok).nodup
theorem order_range : ∀ x ∈ order outs roots, 0 ≤ x ∧ x < outs.length := (scan_end hok).range
theorem order_root : ∀ x ∈ roots, x ∈ order outs roots := (scan_end hok).root
theorem order_closed : ∀ x ∈ order outs roots, ∀ y ∈ adj outs x, y ∈ order outs roots := fun x hx => (scan_end hok).done x (by rw [List.take_length]; exact hx)

omit hok in
theorem adj_copy {k : Nat} (hk : k < (order outs roots).length) : adj (copyRows outs roots) (k : Int) = renum (order outs roots) (adj outs (order outs roots)[k]) := by
  have hk' : ((k : Int)).toNat < (copyRows outs roots).length := by rw [copyRows_length]; omega
  rw [adj_eq hk']
  simp only [copyRows, rowsOf, List.getElem_map, List.take_length, Int.toNat_natCast]

theorem copy_is_ok : Ok (copyRows outs roots) (renum (order outs roots) roots) := by
  refine ⟨?_, ?_, ?_, ?_, ?_⟩
  · rw [copyRows_length]; exact Nat.le_trans (order_length hok) hok.n12
  · rw [renum_length]; exact hok.r12
  · rw [copyRows_length]; exact mem_renum (order_root hok)
  · intro l hl
    unfold copyRows rowsOf at hl
    rw [List.mem_map] at hl
    obtain ⟨x, _, rfl⟩ := hl
    rw [renum_length]
    exact hok.adjFew
  · intro l hl
    rw [copyRows_length]
    unfold copyRows rowsOf at hl
    rw [List.mem_map] at hl
    obtain ⟨x, hx, rfl⟩ := hl
    rw [List.take_length] at hx
    exact mem_renum (order_closed hok x hx)

theorem scan_both : ∀ k, k ≤ (order outs roots).length → ∃ o, Scan outs roots k o ∧ Scan (copyRows outs roots) (renum (order outs roots) roots) k (upTo o.length) := by
  intro k
  induction k with
  | zero =>
    intro _
    refine ⟨_, Scan.start hok, ?_⟩
    have h := Scan.start (copy_is_ok hok)
    have e := fwd_up (order_nodup hok) roots [] List.nil_prefix (Scan.start hok).prefix_
    have e0 : upTo ([] : List Int).length = [] := rfl
    rw [e0] at e
    rw [e] at h
    exact h
  | succ k ih =>
    intro hk
    obtain ⟨o, h1, h2⟩ := ih (by omega)
    have hko : k < o.length := by
      by_cases h : k < o.length
      · exact h
      · have := h1.fin h
        have hle := h1.le
        rw [this] at h
        omega
    have s1 := h1.step hok hko
    have s2 := h2.step (copy_is_ok hok) (by rw [upTo_length]; exact hko)
    refine ⟨_, s1, ?_⟩
    rw [upTo_getElem, adj_copy (by omega)] at s2
    have e := fwd_up (order_nodup hok) (adj outs o[k]) o h1.prefix_ s1.prefix_
    have e1 : (order outs roots)[k]'(by omega) = o[k] := by
      obtain ⟨t, ht⟩ := h1.prefix_
      have : (order outs roots)[k]? = o[k]? := by rw [← ht, List.getElem?_append_left hko]
      rw [List.getElem?_eq_getElem (by omega), List.getElem?_eq_getElem hko] at this
      injection this
    rw [e1, e] at s2
    exact s2

theorem order_copy : order (copyRows outs roots) (renum (order outs roots) roots) = upTo (order outs roots).length := by
  obtain ⟨o, h1, h2⟩ := scan_both hok _ (Nat.le_refl _)
  have hl := h1.prefix_.length_le
  have hle := h1.le
  have e : o.length = (order outs roots).length := by omega
  rw [e] at h2
  exact (h2.fin (by rw [upTo_length]; omega)).symm

theorem rows_copy : rowsOf (copyRows outs roots) (upTo (order outs roots).length) (order outs roots).length = copyRows outs roots := by
  apply List.ext_getElem
  · rw [rowsOf_length (by rw [upTo_length]; exact Nat.le_refl _), copyRows_length]
  · intro i h1 h2
    have hi : i < (order outs roots).length := by rw [copyRows_length] at h2; exact h2
    simp only [rowsOf, List.getElem_map, List.getElem_take]
    rw [upTo_getElem, adj_copy hi, renum_upTo (mem_renum (order_closed hok _ (List.getElem_mem hi)))]
    simp only [copyRows, rowsOf, List.getElem_map, List.getElem_take]

theorem rows_copy' : copyRows (copyRows outs roots) (renum (order outs roots) roots) = copyRows outs roots := by
  unfold copyRows
  have h := rows_copy hok
  unfold copyRows at h
  have e := order_copy hok
  unfold copyRows at e
  rw [e, upTo_length]
  exact h

theorem roots_copy : renum (upTo (order outs roots).length) (renum (order outs roots) roots) = renum (order outs roots) roots := renum_upTo (mem_renum (order_root hok))
end

end Go.Proofs.YtiibadganlincaaDoor
