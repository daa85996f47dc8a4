/- Four ways to count, plainly. No program in sight. -/
import Derived.Test.YtjapcoonaabdnaaBloom
import Derived.Test.YtjapcoonaabdnaaSketch
import Derived.Test.YtjapcoonaabdnaaCntPlain
namespace Go.Proofs.Ytjapcoonaabdnaa
open Go.RowKit

/-- the filter, the counters, after some keys -/
def bitsRun (ks : List Nat) : List Bool := ks.foldl addBits (List.replicate 64 false)
def rowsRun (ks : List Nat) : Nat → List Int := ks.foldl (fun R k => addTo R k 3) (fun _ => List.replicate 8 0)
theorem bitsRun_snoc (ks : List Nat) (x : Nat) : bitsRun (ks ++ [x]) = addBits (bitsRun ks) x := by unfold bitsRun; rw [List.foldl_append]; rfl
theorem rowsRun_snoc (ks : List Nat) (x : Nat) : rowsRun (ks ++ [x]) = addTo (rowsRun ks) x 3 := by unfold rowsRun; rw [List.foldl_append]; rfl

theorem getD_set {α : Type} (l : List α) (i j : Nat) (x d : α) : (l.set i x).getD j d = if i = j ∧ j < l.length then x else l.getD j d := by
  rw [List.getD_eq_getElem?_getD, List.getD_eq_getElem?_getD, List.getElem?_set]
  by_cases e : i = j
  · subst e
    by_cases h : i < l.length
    · simp [h]
    · simp [h]
  · simp [e]

theorem addBits_length (bits : List Bool) (k : Nat) : (addBits bits k).length = bits.length := by unfold addBits; rw [List.length_set, List.length_set]
theorem bitsRun_length : ∀ (ks : List Nat) (b : List Bool), (ks.foldl addBits b).length = b.length
  | [], b => rfl
  | k :: ks, b => by rw [List.foldl_cons, bitsRun_length ks, addBits_length]
theorem addBits_mono {bits : List Bool} (k j : Nat) (h : bits.getD j false = true) : (addBits bits k).getD j false = true := by
  unfold addBits
  rw [getD_set, getD_set]
  split
  · rfl
  · split
    · rfl
    · exact h
theorem addBits_has {bits : List Bool} (hl : bits.length = 64) (k : Nat) : hasBits (addBits bits k) k = true := by
  have h0 := hashN_lt k 0 (below := 64) (by decide)
  have h1 := hashN_lt k 1 (below := 64) (by decide)
  unfold hasBits addBits
  rw [getD_set, getD_set, getD_set, getD_set, List.length_set, hl]
  simp only [h0, h1, and_self, if_true, and_true, Bool.and_true]
  split
  · rfl
  · rfl
theorem hasBits_mono {bits : List Bool} {a : Nat} (k : Nat) (h : hasBits bits a = true) : hasBits (addBits bits k) a = true := by
  unfold hasBits at h ⊢
  simp only [Bool.and_eq_true] at h ⊢
  exact ⟨addBits_mono k _ h.1, addBits_mono k _ h.2⟩
theorem hasRun_mono : ∀ (ks : List Nat) (b : List Bool) (a : Nat), hasBits b a = true → hasBits (ks.foldl addBits b) a = true
  | [], b, a, h => h
  | k :: ks, b, a, h => hasRun_mono ks _ a (hasBits_mono k h)
theorem hasRun : ∀ (ks : List Nat) (b : List Bool) (a : Nat), b.length = 64 → a ∈ ks → hasBits (ks.foldl addBits b) a = true
  | k :: ks, b, a, hl, h => by
    rw [List.foldl_cons]
    rcases List.mem_cons.1 h with rfl | h
    · exact hasRun_mono ks _ _ (addBits_has hl _)
    · exact hasRun ks _ a (by rw [addBits_length]; exact hl) h
theorem has_run {ks : List Nat} {a : Nat} (h : 0 < ks.count a) : hasBits (bitsRun ks) a = true := hasRun ks _ a (by rw [List.length_replicate]) (List.count_pos_iff.1 h)

/-- no counter is too few -/
structure SkOk (R : Nat → List Int) (ks : List Nat) : Prop where
  len : ∀ i, (R i).length = 8
  rng : ∀ i m, 0 ≤ (R i).getD m 0 ∧ (R i).getD m 0 ≤ ks.length
  few : ∀ a i, i < 3 → (ks.count a : Int) ≤ (R i).getD (hashN a i 8) 0
theorem skOk_nil : SkOk (fun _ => List.replicate 8 0) [] where
  len i := by simp
  rng i m := by
    have : (List.replicate 8 (0 : Int)).getD m 0 = 0 := by
      rw [List.getD_eq_getElem?_getD, List.getElem?_replicate]
      split <;> rfl
    rw [this]
    exact ⟨Int.le_refl _, by simp⟩
  few a i hi := by
    have : (List.replicate 8 (0 : Int)).getD (hashN a i 8) 0 = 0 := by
      rw [List.getD_eq_getElem?_getD, List.getElem?_replicate]
      split <;> rfl
    rw [this]
    simp
theorem SkOk.snoc {R : Nat → List Int} {ks : List Nat} (h : SkOk R ks) (x : Nat) : SkOk (addTo R x 3) (ks ++ [x]) where
  len i := by
    unfold addTo
    split
    · unfold addR; rw [List.length_set]; exact h.len i
    · exact h.len i
  rng i m := by
    have hr := h.rng i m
    have hr2 := h.rng i (hashN x i 8)
    have hl : ((ks ++ [x]).length : Int) = ks.length + 1 := by simp
    rw [hl]
    unfold addTo
    split
    · unfold addR
      rw [getD_set]
      split
      · omega
      · omega
    · omega
  few a i hi := by
    have hf := h.few a i hi
    have hx := hashN_lt x i (below := 8) (by decide)
    unfold addTo
    rw [if_pos hi]
    unfold addR
    rw [getD_set, h.len, List.count_append]
    by_cases e : x = a
    · subst e
      rw [if_pos ⟨rfl, hx⟩]
      simp
      exact hf
    · rw [show List.count a [x] = 0 by simp [e]]
      split
      · rename_i h1
        rw [h1.1]
        push_cast
        omega
      · exact hf
theorem skOk_run (ks : List Nat) : SkOk (rowsRun ks) ks := by
  suffices h : ∀ (ys xs : List Nat) (R : Nat → List Int), SkOk R xs → SkOk (ys.foldl (fun R k => addTo R k 3) R) (xs ++ ys) by
    have := h ks [] _ skOk_nil
    rwa [List.nil_append] at this
  intro ys
  induction ys with
  | nil => intro xs R h; rw [List.append_nil]; exact h
  | cons y ys ih =>
    intro xs R h
    have := ih (xs ++ [y]) _ (h.snoc y)
    rwa [List.append_assoc] at this
theorem least_run {ks : List Nat} (a : Nat) (h : ks.length ≤ 40) : (ks.count a : Int) ≤ leastR (rowsRun ks) a 3 := by
  have hc : ks.count a ≤ ks.length := List.count_le_length
  have h0 := (skOk_run ks).few a 0 (by decide)
  have h1 := (skOk_run ks).few a 1 (by decide)
  have h2 := (skOk_run ks).few a 2 (by decide)
  rw [show leastR (rowsRun ks) a 3 = min (min (min 1000000 ((rowsRun ks 0).getD (hashN a 0 8) 0)) ((rowsRun ks 1).getD (hashN a 1 8) 0)) ((rowsRun ks 2).getD (hashN a 2 8) 0) from rfl]
  omega
theorem count_snoc (ks : List Nat) (x a : Nat) : (ks ++ [x]).count a = ks.count a + if x = a then 1 else 0 := by
  rw [List.count_append]
  by_cases e : x = a
  · subst e; simp
  · simp [e]
theorem keep_four : keepRun 1 [4] = [(4, 1)] := by decide
end Go.Proofs.Ytjapcoonaabdnaa
