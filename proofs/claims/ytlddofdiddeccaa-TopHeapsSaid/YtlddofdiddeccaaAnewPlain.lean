/- A heap whose nodes are numbered anew, plainly: it is one; all of it can be come to; copied it is the copy. No program in sight. -/
import Derived.Test.YtlddofdiddeccaaAnew
namespace Go.Proofs.Ytlddofdiddeccaa

section
variable {outs : List (List Int)} {roots L : List Int}
/-- a list of nodes that is closed, with the roots -/
structure Part (outs : List (List Int)) (roots L : List Int) : Prop where
  ok : Ok outs roots
  vd : Vd outs.length L
  root : ∀ x ∈ roots, x ∈ L
  closed : ∀ x ∈ L, ∀ y ∈ adj outs x, y ∈ L
theorem left_part (hok : Ok outs roots) : Part outs roots (leftL (reachN outs roots)) :=
  ⟨hok, left_vd hok, fun x hx => (mem_left hok).2 (.root hx), fun x hx y hy => (mem_left hok).2 (.next ((mem_left hok).1 hx) hy)⟩
/-- the rows, numbered anew -/
def anewO (outs : List (List Int)) (L : List Int) : List (List Int) := rowsOf outs L L.length
theorem anewO_length : (anewO outs L).length = L.length := rowsOf_length (Nat.le_refl _)
theorem anewO_at {k : Nat} (hk : k < L.length) : (anewO outs L)[k]'(by rw [anewO_length]; exact hk) = renum L (adj outs L[k]) := by
  simp only [anewO, rowsOf, List.getElem_map, List.getElem_take]
theorem adj_anew {k : Nat} (hk : k < L.length) : adj (anewO outs L) (k : Int) = renum L (adj outs L[k]) := by
  rw [adj_eq (by rw [anewO_length]; simpa using hk)]
  exact anewO_at hk
theorem Part.ok_ (h : Part outs roots L) : Ok (anewO outs L) (renum L roots) := by
  refine ⟨?_, ?_, ?_, ?_, ?_⟩
  · rw [anewO_length]; exact Nat.le_trans h.vd.len h.ok.n12
  · rw [renum_length]; exact h.ok.r12
  · rw [anewO_length]; exact mem_renum h.root
  · intro l hl
    unfold anewO rowsOf at hl
    obtain ⟨x, _, rfl⟩ := List.mem_map.1 hl
    rw [renum_length]
    exact h.ok.adjFew
  · intro l hl
    rw [anewO_length]
    unfold anewO rowsOf at hl
    obtain ⟨x, hx, rfl⟩ := List.mem_map.1 hl
    rw [List.take_length] at hx
    exact mem_renum (h.closed x hx)
theorem renum_mem {x : Int} {xs : List Int} (hx : x ∈ xs) : (L.idxOf x : Int) ∈ renum L xs := List.mem_map.2 ⟨x, hx, rfl⟩
theorem Part.comes (h : Part outs roots L) {x : Int} (hx : Comes outs roots x) : x ∈ L ∧ Comes (anewO outs L) (renum L roots) (L.idxOf x : Int) :=
  hx.sub (P := fun x => x ∈ L ∧ Comes (anewO outs L) (renum L roots) (L.idxOf x : Int)) (fun r hr => ⟨h.root r hr, .root (renum_mem hr)⟩) fun z hz y hy => by
    have hm := h.closed z hz.1 y hy
    have hlt := List.idxOf_lt_length_iff.2 hz.1
    refine ⟨hm, .next hz.2 ?_⟩
    rw [adj_anew hlt, List.getElem_idxOf]
    exact renum_mem hy
theorem bits_full {s n : Nat} (h : ∀ i, s.testBit i = true ↔ i < n) : ∀ m, n ≤ m → bitsTo s m = List.range n := by
  have h0 : ∀ m, m ≤ n → bitsTo s m = List.range m := by
    intro m
    induction m with
    | zero => intro _; rfl
    | succ m ih => intro hm; rw [bitsTo_yes ((h m).2 hm), ih (by omega), List.range_succ]
  intro m
  induction m with
  | zero => intro hm; obtain rfl : n = 0 := by omega
            rfl
  | succ m ih =>
    intro hm
    rcases Nat.lt_or_ge m n with h1 | h1
    · obtain rfl : n = m + 1 := by omega
      exact h0 _ (Nat.le_refl _)
    · rw [bitsTo_no (by cases e : s.testBit m with
        | false => rfl
        | true => have := (h m).1 e; omega), ih h1]
/-- all of it can be come to -/
theorem left_again (hok : Ok outs roots) : leftL (reachN (leftO outs roots) (leftR outs roots)) = upTo (leftL (reachN outs roots)).length := by
  have hp := left_part hok
  have hk := hp.ok_
  have hb : ∀ i, (reachN (leftO outs roots) (leftR outs roots)).testBit i = true ↔ i < (leftL (reachN outs roots)).length := by
    intro i
    have := reachN_bit hk (i := i)
    rw [show reachN (anewO outs (leftL (reachN outs roots))) (renum (leftL (reachN outs roots)) roots) = reachN (leftO outs roots) (leftR outs roots) from rfl] at this
    rw [this]
    constructor
    · intro h
      have := h.range hk
      rw [anewO_length] at this
      omega
    · intro h
      have hm := (mem_left hok).1 (List.getElem_mem h)
      have := (hp.comes hm).2
      rwa [idxOf_nodup hp.vd.nodup h] at this
  unfold leftL
  rw [bits_full hb 12 (Nat.le_trans hp.vd.len hok.n12)]
  rfl
theorem anew_up {O : List (List Int)} {R : List Int} (hk : Ok O R) : anewO O (upTo O.length) = O ∧ renum (upTo O.length) R = R := by
  refine ⟨?_, renum_upTo hk.root⟩
  apply List.ext_getElem
  · rw [anewO_length, upTo_length]
  · intro i h1 h2
    have hi : i < (upTo O.length).length := by rw [upTo_length]; exact h2
    rw [anewO_at hi, upTo_getElem, adj_eq (by simpa using h2)]
    simp only [Int.toNat_natCast]
    exact renum_upTo (hk.out _ (List.getElem_mem h2))
theorem left_twice (hok : Ok outs roots) : leftO (leftO outs roots) (leftR outs roots) = leftO outs roots ∧ leftR (leftO outs roots) (leftR outs roots) = leftR outs roots := by
  have hp := left_part hok
  have hk : Ok (leftO outs roots) (leftR outs roots) := hp.ok_
  have hl : (leftO outs roots).length = (leftL (reachN outs roots)).length := anewO_length
  have := anew_up hk
  rw [hl, ← left_again hok] at this
  exact this
end
end Go.Proofs.Ytlddofdiddeccaa
