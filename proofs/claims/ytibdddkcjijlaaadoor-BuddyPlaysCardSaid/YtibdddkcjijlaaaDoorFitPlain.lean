/- Places that are lent where they fit first, plainly. No program in sight. -/
import Derived.KernelRfl
namespace Go.Proofs.YtibdddkcjijlaaaDoor

/-- blocks lie apart, from p on, rising; a block: where, and of how many places -/
def Lie : Nat → List (Nat × Nat) → Prop
  | p, [] => p ≤ 64
  | p, b :: r => p ≤ b.1 ∧ 1 ≤ b.2 ∧ Lie (b.1 + b.2) r
/-- what is free ahead of each block -/
def holesF : Nat → List (Nat × Nat) → List (Nat × Nat)
  | _, [] => []
  | p, b :: r => if p < b.1 then (p, b.1 - p) :: holesF (b.1 + b.2) r else holesF (b.1 + b.2) r
def holesOf (bs : List (Nat × Nat)) : List (Nat × Nat) := holesF 0 (bs ++ [(64, 0)])
/-- where it fits first: ahead of which block, and at which place -/
def lendIx (size : Nat) : Nat → List (Nat × Nat) → Option (Nat × Nat)
  | p, [] => if p + size ≤ 64 then some (0, p) else none
  | p, b :: r => if p + size ≤ b.1 then some (0, p) else (lendIx size (b.1 + b.2) r).map fun x => (x.1 + 1, x.2)
def packF : Nat → List (Nat × Nat) → List (Nat × Nat)
  | _, [] => []
  | p, b :: r => (p, b.2) :: packF (p + b.2) r
def insAt {α : Type} (l : List α) (i : Nat) (x : α) : List α := l.take i ++ x :: l.drop i
theorem insAt_succ {α : Type} (y : α) (l : List α) (i : Nat) (x : α) : insAt (y :: l) (i + 1) x = y :: insAt l i x := rfl
theorem insAt_zero {α : Type} (l : List α) (x : α) : insAt l 0 x = x :: l := rfl
theorem insAt_length {α : Type} (l : List α) {i : Nat} (x : α) (h : i ≤ l.length) : (insAt l i x).length = l.length + 1 := by
  unfold insAt; simp only [List.length_append, List.length_take, List.length_cons, List.length_drop]; omega
def sizesSum (bs : List (Nat × Nat)) : Nat := (bs.map (·.2)).sum

theorem Lie.mono : ∀ {bs : List (Nat × Nat)} {p q : Nat}, Lie p bs → q ≤ p → Lie q bs
  | [], _, _, h, hq => Nat.le_trans hq h
  | _ :: _, _, _, h, hq => ⟨Nat.le_trans hq h.1, h.2⟩
theorem Lie.le : ∀ {bs : List (Nat × Nat)} {p : Nat}, Lie p bs → p ≤ 64
  | [], _, h => h
  | b :: r, p, h => by have := h.1; have := h.2.2.le; omega
theorem Lie.all : ∀ {bs : List (Nat × Nat)} {p : Nat}, Lie p bs → ∀ b ∈ bs, p ≤ b.1 ∧ 1 ≤ b.2 ∧ b.1 + b.2 ≤ 64
  | [], _, _, _, hb => by cases hb
  | c :: r, p, h, b, hb => by
    rcases List.mem_cons.1 hb with rfl | hb
    · exact ⟨h.1, h.2.1, h.2.2.le⟩
    · have := h.2.2.all b hb; have := h.1; omega
theorem Lie.len : ∀ {bs : List (Nat × Nat)} {p : Nat}, Lie p bs → p + bs.length ≤ 64
  | [], _, h => by simpa [Lie] using h
  | b :: r, p, h => by have := h.1; have := h.2.1; have := h.2.2.len; simp only [List.length_cons]; omega
theorem Lie.erase : ∀ {bs : List (Nat × Nat)} {p : Nat} (i : Nat), Lie p bs → Lie p (bs.eraseIdx i)
  | [], _, _, h => h
  | b :: r, p, 0, h => h.2.2.mono (by have := h.1; omega)
  | b :: r, p, i + 1, h => ⟨h.1, h.2.1, h.2.2.erase i⟩
theorem Lie.ins {size : Nat} (hs : 1 ≤ size) : ∀ {bs : List (Nat × Nat)} {p i x : Nat}, Lie p bs → lendIx size p bs = some (i, x) → Lie p (insAt bs i (x, size)) ∧ i ≤ bs.length ∧ p ≤ x ∧ x + size ≤ 64
  | [], p, i, x, h, e => by
    unfold lendIx at e
    split at e
    · cases e; exact ⟨⟨Nat.le_refl _, hs, by assumption⟩, Nat.le_refl _, Nat.le_refl _, by assumption⟩
    · cases e
  | b :: r, p, i, x, h, e => by
    unfold lendIx at e
    split at e
    · rename_i hle
      cases e
      refine ⟨⟨Nat.le_refl _, hs, hle, h.2⟩, Nat.zero_le _, Nat.le_refl _, ?_⟩
      have := h.2.2.le
      omega
    · rw [Option.map_eq_some_iff] at e
      obtain ⟨⟨i', x'⟩, e1, e2⟩ := e
      cases e2
      have := Lie.ins hs h.2.2 e1
      refine ⟨⟨h.1, h.2.1, this.1⟩, by simp only [List.length_cons]; omega, ?_, this.2.2.2⟩
      have := h.1
      omega
theorem Lie.pack : ∀ {bs : List (Nat × Nat)} {p q : Nat}, Lie p bs → q ≤ p → Lie q (packF q bs)
  | [], _, _, h, hq => Nat.le_trans hq h
  | b :: r, p, q, h, hq => ⟨Nat.le_refl _, h.2.1, h.2.2.pack (by have := h.1; omega)⟩
theorem pack_length : ∀ (bs : List (Nat × Nat)) (p : Nat), (packF p bs).length = bs.length
  | [], _ => rfl
  | b :: r, p => by simp [packF, pack_length r]
theorem pack_sizes : ∀ (bs : List (Nat × Nat)) (p : Nat), (packF p bs).map (·.2) = bs.map (·.2)
  | [], _ => rfl
  | b :: r, p => by simp [packF, pack_sizes r]
/-- the end of the first k -/
def endOf (p : Nat) (bs : List (Nat × Nat)) (k : Nat) : Nat := p + sizesSum (bs.take k)
theorem sizes_cons (b : Nat × Nat) (r : List (Nat × Nat)) : sizesSum (b :: r) = b.2 + sizesSum r := by simp [sizesSum]
theorem endOf_zero (p : Nat) (bs : List (Nat × Nat)) : endOf p bs 0 = p := by simp [endOf, sizesSum]
theorem endOf_succ (p : Nat) {bs : List (Nat × Nat)} {k : Nat} (h : k < bs.length) : endOf p bs (k + 1) = endOf p bs k + (bs[k]).2 := by
  unfold endOf sizesSum
  rw [List.take_succ_eq_append_getElem h, List.map_append, List.sum_append]
  simp [Nat.add_assoc]
theorem pack_at : ∀ (bs : List (Nat × Nat)) (p k : Nat) (h : k < bs.length), (packF p bs)[k]'(by rw [pack_length]; exact h) = (endOf p bs k, (bs[k]).2)
  | b :: r, p, 0, h => by simp [packF, endOf_zero]
  | b :: r, p, k + 1, h => by
    have := pack_at r (p + b.2) k (by simpa using h)
    simp only [packF, List.getElem_cons_succ, this]
    congr 1
    unfold endOf
    rw [List.take_succ_cons, sizes_cons, Nat.add_assoc]
theorem Lie.sum : ∀ {bs : List (Nat × Nat)} {p : Nat}, Lie p bs → p + sizesSum bs ≤ 64
  | [], _, h => by simpa [sizesSum, Lie] using h
  | b :: r, p, h => by have := h.1; have := h.2.2.sum; rw [sizes_cons]; omega
/-- packed there is one hole at most, at the end -/
theorem pack_holes : ∀ (bs : List (Nat × Nat)) (p : Nat), p + sizesSum bs ≤ 64 → holesF p (packF p bs ++ [(64, 0)]) = if p + sizesSum bs < 64 then [(p + sizesSum bs, 64 - (p + sizesSum bs))] else []
  | [], p, h => by
    simp only [sizesSum, packF, List.map_nil, List.sum_nil, Nat.add_zero, List.nil_append, holesF]
  | b :: r, p, h => by
    rw [sizes_cons] at h ⊢
    have := pack_holes r (p + b.2) (by omega)
    simp only [packF, List.cons_append, holesF, Nat.lt_irrefl, if_false, this, Nat.add_assoc]
theorem pack_lend : ∀ (bs : List (Nat × Nat)) (p size : Nat), 1 ≤ size → p + sizesSum bs + size = 64 → lendIx size p (packF p bs) = some (bs.length, p + sizesSum bs)
  | [], p, size, h1, h => by
    simp only [sizesSum, packF, List.map_nil, List.sum_nil, Nat.add_zero, lendIx, List.length_nil] at h ⊢
    rw [if_pos (by omega)]
  | b :: r, p, size, h1, h => by
    rw [sizes_cons] at h ⊢
    have := pack_lend r (p + b.2) size h1 (by omega)
    simp only [packF, lendIx]
    rw [if_neg (by omega), this]
    simp [Nat.add_assoc]
/-- it is lent where it fits first -/
theorem lend_hole {size : Nat} (hs : 1 ≤ size) : ∀ {bs : List (Nat × Nat)} {p : Nat}, Lie p bs → (lendIx size p bs).map (·.2) = ((holesF p (bs ++ [(64, 0)])).find? fun x => decide (size ≤ x.2)).map (·.1)
  | [], p, h => by
    simp only [lendIx, List.nil_append, holesF]
    have : p ≤ 64 := h
    by_cases h1 : p + size ≤ 64
    · rw [if_pos h1, if_pos (by omega), List.find?_cons_of_pos (by simp; omega)]
      rfl
    · rw [if_neg h1]
      by_cases h2 : p < 64
      · rw [if_pos h2, List.find?_cons_of_neg (by simp; omega)]
        rfl
      · rw [if_neg h2]
        rfl
  | b :: r, p, h => by
    simp only [lendIx, List.cons_append, holesF]
    have ih := lend_hole hs h.2.2
    have := h.1
    by_cases h1 : p + size ≤ b.1
    · rw [if_pos h1, if_pos (by omega), List.find?_cons_of_pos (by simp; omega)]
      rfl
    · rw [if_neg h1, Option.map_map]
      have e : ((fun x : Nat × Nat => x.2) ∘ fun x : Nat × Nat => (x.1 + 1, x.2)) = fun x => x.2 := rfl
      rw [e, ih]
      by_cases h2 : p < b.1
      · rw [if_pos h2, List.find?_cons_of_neg (by simp; omega)]
      · rw [if_neg h2]

/-! ### Step by step -/
theorem lendIx_drop {size : Nat} {bs : List (Nat × Nat)} {p k q : Nat} (h : lendIx size p bs = (lendIx size q (bs.drop k)).map fun x => (x.1 + k, x.2)) (hk : k < bs.length) (hn : ¬ q + size ≤ (bs[k]).1) :
    lendIx size p bs = (lendIx size ((bs[k]).1 + (bs[k]).2) (bs.drop (k + 1))).map fun x => (x.1 + (k + 1), x.2) := by
  rw [h, List.drop_eq_getElem_cons hk]
  simp only [lendIx]
  rw [if_neg hn, Option.map_map]
  congr 1
  funext x
  simp only [Function.comp_def]
  congr 1
  omega
theorem Lie.at_ {bs : List (Nat × Nat)} {p k : Nat} (h : Lie p (bs.drop k)) (hk : k < bs.length) : p ≤ (bs[k]).1 ∧ 1 ≤ (bs[k]).2 ∧ Lie ((bs[k]).1 + (bs[k]).2) (bs.drop (k + 1)) := by
  rw [List.drop_eq_getElem_cons hk] at h
  exact h
theorem holes_at {bs : List (Nat × Nat)} {p k : Nat} (hk : k < bs.length) : holesF p (bs.drop k) = if p < (bs[k]).1 then (p, (bs[k]).1 - p) :: holesF ((bs[k]).1 + (bs[k]).2) (bs.drop (k + 1)) else holesF ((bs[k]).1 + (bs[k]).2) (bs.drop (k + 1)) := by
  rw [List.drop_eq_getElem_cons hk]
  rfl
theorem holes_le : ∀ (bs : List (Nat × Nat)) (p : Nat), (holesF p bs).length ≤ bs.length
  | [], _ => Nat.le_refl _
  | b :: r, p => by
    unfold holesF
    have := holes_le r (b.1 + b.2)
    split <;> simp only [List.length_cons] <;> omega
theorem holes_all : ∀ {bs : List (Nat × Nat)} {p : Nat}, Lie p bs → ∀ x ∈ holesF p (bs ++ [(64, 0)]), 1 ≤ x.2 ∧ x.1 + x.2 ≤ 64
  | [], p, h, x, hx => by
    have hp : p ≤ 64 := h
    simp only [List.nil_append, holesF] at hx
    split at hx
    · simp only [List.mem_singleton] at hx; subst hx; constructor <;> simp only <;> omega
    · cases hx
  | b :: r, p, h, x, hx => by
    simp only [List.cons_append, holesF] at hx
    have h1 := h.1
    have h2 := h.2.1
    have h3 := h.2.2.le
    split at hx
    · rcases List.mem_cons.1 hx with rfl | hx
      · constructor <;> simp only <;> omega
      · exact holes_all h.2.2 x hx
    · exact holes_all h.2.2 x hx
end Go.Proofs.YtibdddkcjijlaaaDoor
