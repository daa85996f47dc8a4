/- To copy what was swept is to copy, plainly; and how many nodes are left. No program in sight. -/
import Derived.Test.YtlddofdiddeccaaAnewPlain
import Derived.Test.YtlddofdiddeccaaSet
namespace Go.Proofs.Ytlddofdiddeccaa

theorem idx_inj {L : List Int} {x y : Int} (hx : x ∈ L) (hy : y ∈ L) (h : L.idxOf x = L.idxOf y) : x = y := by
  have h1 := List.getElem_idxOf (List.idxOf_lt_length_iff.2 hx)
  have h2 := List.getElem_idxOf (List.idxOf_lt_length_iff.2 hy)
  rw [← h1, ← h2]
  exact getElem_congr_idx h
theorem mem_renum_iff {L o : List Int} {x : Int} (ho : ∀ y ∈ o, y ∈ L) (hx : x ∈ L) : (L.idxOf x : Int) ∈ renum L o ↔ x ∈ o := by
  constructor
  · intro h
    obtain ⟨y, hy, e⟩ := List.mem_map.1 h
    have := idx_inj (ho y hy) hx (by omega)
    exact this ▸ hy
  · exact fun h => List.mem_map.2 ⟨x, h, rfl⟩
theorem renum_snoc (L o : List Int) (x : Int) : renum L (o ++ [x]) = renum L o ++ [(L.idxOf x : Int)] := by simp [renum]
theorem fwdStep_map {L o : List Int} {x : Int} (ho : ∀ y ∈ o, y ∈ L) (hx : x ∈ L) : fwdStep (renum L o) (L.idxOf x : Int) = renum L (fwdStep o x) := by
  unfold fwdStep
  by_cases h : x ∈ o
  · rw [if_pos h, if_pos ((mem_renum_iff ho hx).2 h)]
  · rw [if_neg h, if_neg (fun h' => h ((mem_renum_iff ho hx).1 h')), renum_snoc]
theorem fwdStep_sub {L o : List Int} {x : Int} (ho : ∀ y ∈ o, y ∈ L) (hx : x ∈ L) : ∀ y ∈ fwdStep o x, y ∈ L := by
  intro y hy
  unfold fwdStep at hy
  split at hy
  · exact ho y hy
  · rcases List.mem_append.1 hy with hy | hy
    · exact ho y hy
    · simp at hy; exact hy ▸ hx
theorem fwd_map {L : List Int} : ∀ (xs o : List Int), (∀ y ∈ o, y ∈ L) → (∀ y ∈ xs, y ∈ L) → fwd (renum L o) (renum L xs) = renum L (fwd o xs)
  | [], _, _, _ => rfl
  | x :: xs, o, ho, hx => by
    show fwd (fwdStep (renum L o) (L.idxOf x : Int)) (renum L xs) = renum L (fwd (fwdStep o x) xs)
    rw [fwdStep_map ho (hx x (by simp))]
    exact fwd_map xs _ (fwdStep_sub ho (hx x (by simp))) fun y hy => hx y (by simp [hy])
theorem idx_renum {L : List Int} : ∀ {o : List Int} {x : Int}, (∀ y ∈ o, y ∈ L) → x ∈ L → (renum L o).idxOf (L.idxOf x : Int) = o.idxOf x
  | [], _, _, _ => rfl
  | a :: o, x, ho, hx => by
    show ((L.idxOf a : Int) :: renum L o).idxOf (L.idxOf x : Int) = _
    rw [List.idxOf_cons, List.idxOf_cons, idx_renum (fun y hy => ho y (by simp [hy])) hx]
    have e : ((L.idxOf a : Int) == (L.idxOf x : Int)) = (a == x) := by
      rw [Bool.eq_iff_iff, beq_iff_eq, beq_iff_eq]
      exact ⟨fun h => idx_inj (ho a (by simp)) hx (by omega), fun h => by rw [h]⟩
    rw [e]
theorem renum_renum {L o xs : List Int} (ho : ∀ y ∈ o, y ∈ L) (hx : ∀ y ∈ xs, y ∈ L) : renum (renum L o) (renum L xs) = renum o xs := by
  unfold renum
  rw [List.map_map]
  apply List.map_congr_left
  intro x h
  exact congrArg Nat.cast (idx_renum ho (hx x h))
theorem renum_nodup {L : List Int} : ∀ {o : List Int}, o.Nodup → (∀ y ∈ o, y ∈ L) → (renum L o).Nodup
  | [], _, _ => List.nodup_nil
  | a :: o, h, ho => by
    obtain ⟨h1, h2⟩ := List.nodup_cons.1 h
    have ho' : ∀ y ∈ o, y ∈ L := fun y hy => ho y (by simp [hy])
    exact List.nodup_cons.2 ⟨fun h' => h1 ((mem_renum_iff ho' (ho a (by simp))).1 h'), renum_nodup h2 ho'⟩
theorem nodup_sub_len {o L : List Int} (h : o.Nodup) (ho : ∀ y ∈ o, y ∈ L) : o.length ≤ L.length := by
  have := nodup_le (renum_nodup h ho) (mem_renum ho)
  rwa [renum_length] at this

section
variable {outs : List (List Int)} {roots L : List Int}
theorem Part.order_sub (h : Part outs roots L) : ∀ x ∈ order outs roots, x ∈ L := fun _ hx => (h.comes ((mem_order h.ok).1 hx)).1
theorem part_both (h : Part outs roots L) : ∀ k, k ≤ (order outs roots).length → ∃ o, Scan outs roots k o ∧ Scan (anewO outs L) (renum L roots) k (renum L o) := by
  intro k
  induction k with
  | zero =>
    intro _
    refine ⟨_, Scan.start h.ok, ?_⟩
    have := Scan.start h.ok_
    have e := fwd_map (L := L) roots [] (fun y hy => by cases hy) h.root
    rw [show renum L [] = [] from rfl] at e
    rwa [e] at this
  | succ k ih =>
    intro hk
    obtain ⟨o, h1, h2⟩ := ih (by omega)
    have hko : k < o.length := by
      by_cases h : k < o.length
      · exact h
      · have := h1.fin h
        have hle := h1.le
        rw [this] at h
        omega
    have hol : ∀ y ∈ o, y ∈ L := fun y hy => h.order_sub y (h1.prefix_.subset hy)
    have s1 := h1.step h.ok hko
    have s2 := h2.step h.ok_ (by rw [renum_length]; exact hko)
    refine ⟨_, s1, ?_⟩
    have hm : o[k] ∈ L := hol _ (List.getElem_mem hko)
    have e0 : (renum L o)[k]'(by rw [renum_length]; exact hko) = (L.idxOf o[k] : Int) := by simp [renum]
    rw [e0, adj_anew (List.idxOf_lt_length_iff.2 hm), List.getElem_idxOf, fwd_map _ _ hol (h.closed _ hm)] at s2
    exact s2
theorem order_part (h : Part outs roots L) : order (anewO outs L) (renum L roots) = renum L (order outs roots) := by
  obtain ⟨o, h1, h2⟩ := part_both h _ (Nat.le_refl _)
  have hle := h1.le
  have e := h1.prefix_.eq_of_length_le hle
  subst e
  exact (h2.fin (by rw [renum_length]; omega)).symm
theorem rows_part (h : Part outs roots L) : copyRows (anewO outs L) (renum L roots) = copyRows outs roots := by
  apply List.ext_getElem
  · rw [copyRows_length, copyRows_length, order_part h, renum_length]
  · intro i h1 h2
    have hi : i < (order outs roots).length := by rw [copyRows_length] at h2; exact h2
    have hi' : i < (order (anewO outs L) (renum L roots)).length := by rw [copyRows_length] at h1; exact h1
    simp only [copyRows, rowsOf, List.getElem_map, List.getElem_take]
    have hm := h.order_sub _ (List.getElem_mem hi)
    have e0 : (order (anewO outs L) (renum L roots))[i] = (L.idxOf (order outs roots)[i] : Int) := by
      have : (order (anewO outs L) (renum L roots))[i]? = (renum L (order outs roots))[i]? := by rw [order_part h]
      rw [List.getElem?_eq_getElem hi', List.getElem?_eq_getElem (by rw [renum_length]; exact hi)] at this
      rw [Option.some.inj this]
      simp [renum]
    rw [e0, adj_anew (List.idxOf_lt_length_iff.2 hm), List.getElem_idxOf, order_part h]
    exact renum_renum h.order_sub (h.closed _ hm)
theorem roots_part (h : Part outs roots L) : renum (order (anewO outs L) (renum L roots)) (renum L roots) = renum (order outs roots) roots := by
  rw [order_part h]
  exact renum_renum h.order_sub h.root
theorem left_len (hok : Ok outs roots) : (leftL (reachN outs roots)).length = (order outs roots).length := by
  have h1 := nodup_sub_len (left_vd hok).nodup fun x hx => (mem_order hok).2 ((mem_left hok).1 hx)
  have h2 := nodup_sub_len (order_nodup hok) fun x hx => (mem_left hok).2 ((mem_order hok).1 hx)
  omega
theorem left_set (hok : Ok outs roots) : sumP (leftL (reachN outs roots)) = reachN outs roots := by
  have hv := left_vd hok
  have hr : ∀ x ∈ leftL (reachN outs roots), 0 ≤ x ∧ x < 12 := fun x hx => by have := hv.range x hx; have := hok.n12; omega
  rw [sumP_or hv.nodup hr]
  apply Nat.eq_of_testBit_eq
  intro i
  rw [Bool.eq_iff_iff, testBit_orIn, reachN_bit hok]
  constructor
  · rintro (h | ⟨x, hx, rfl⟩)
    · simp at h
    · have := (hv.range x hx).1
      rw [Int.toNat_of_nonneg this]
      exact (mem_left hok).1 hx
  · exact fun h => .inr ⟨_, (mem_left hok).2 h, by simp⟩
end
end Go.Proofs.Ytlddofdiddeccaa
