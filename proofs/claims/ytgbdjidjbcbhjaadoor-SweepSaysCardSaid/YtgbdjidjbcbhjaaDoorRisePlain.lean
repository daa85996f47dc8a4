/- Numbers in rising order, plainly. No program in sight. -/
import Derived.Test.YtgbdjidjbcbhjaaDoorBits
namespace Go.Proofs.YtgbdjidjbcbhjaaDoor

/-- the least of a number and a list -/
def lst (x : Int) (l : List Int) : Int := l.foldl (fun m y => if y < m then y else m) x
theorem lst_snoc (x : Int) (l : List Int) (y : Int) : lst x (l ++ [y]) = if y < lst x l then y else lst x l := by unfold lst; rw [List.foldl_append]; rfl
theorem lst_le : ∀ (l : List Int) (x : Int), lst x l ≤ x ∧ (∀ y ∈ l, lst x l ≤ y) ∧ (lst x l = x ∨ lst x l ∈ l)
  | [], x => ⟨Int.le_refl _, (fun _ h => by cases h), .inl rfl⟩
  | y :: l, x => by
    have h := lst_le l (if y < x then y else x)
    show lst (if y < x then y else x) l ≤ x ∧ (∀ z ∈ y :: l, lst (if y < x then y else x) l ≤ z) ∧ (lst (if y < x then y else x) l = x ∨ lst (if y < x then y else x) l ∈ y :: l)
    obtain ⟨h1, h2, h3⟩ := h
    generalize lst (if y < x then y else x) l = m at *
    refine ⟨by split at h1 <;> omega, fun z hz => ?_, ?_⟩
    · rcases List.mem_cons.1 hz with rfl | hz
      · split at h1 <;> omega
      · exact h2 z hz
    · rcases h3 with h3 | h3
      · split at h3
        · exact .inr (by simp [h3])
        · exact .inl h3
      · exact .inr (by simp [h3])
theorem lst_mem (x : Int) (r : List Int) : lst x (x :: r) ∈ x :: r := by
  rcases (lst_le (x :: r) x).2.2 with h | h
  · rw [h]; simp
  · exact h

def risF : Nat → List Int → List Int
  | 0, _ => []
  | _ + 1, [] => []
  | f + 1, x :: r => lst x (x :: r) :: risF f ((x :: r).erase (lst x (x :: r)))
def risN (l : List Int) : List Int := risF l.length l
theorem risN_nil : risN [] = [] := rfl
theorem risN_cons (x : Int) (r : List Int) : risN (x :: r) = lst x (x :: r) :: risN ((x :: r).erase (lst x (x :: r))) := by
  unfold risN
  rw [List.length_erase_of_mem (lst_mem x r)]
  rfl
theorem risF_perm : ∀ (f : Nat) (l : List Int), l.length ≤ f → (risF f l).Perm l
  | 0, l, h => by
    have : l = [] := List.eq_nil_of_length_eq_zero (by omega)
    subst this
    exact List.Perm.nil
  | f + 1, [], _ => List.Perm.nil
  | f + 1, x :: r, h => by
    have hm := lst_mem x r
    have ih := risF_perm f ((x :: r).erase (lst x (x :: r))) (by rw [List.length_erase_of_mem hm]; simp at h ⊢; omega)
    exact (List.Perm.cons _ ih).trans (List.perm_cons_erase hm).symm
theorem risF_asc : ∀ (f : Nat) (l : List Int), l.length ≤ f → l.Nodup → (risF f l).Pairwise (· < ·)
  | 0, _, _, _ => List.Pairwise.nil
  | f + 1, [], _, _ => List.Pairwise.nil
  | f + 1, x :: r, h, hn => by
    have hm := lst_mem x r
    have hl : ((x :: r).erase (lst x (x :: r))).length ≤ f := by rw [List.length_erase_of_mem hm]; simp at h ⊢; omega
    refine List.pairwise_cons.2 ⟨fun y hy => ?_, risF_asc f _ hl (hn.erase _)⟩
    have hy' := (risF_perm f _ hl).mem_iff.1 hy
    have h1 := (lst_le (x :: r) x).2.1 y (List.mem_of_mem_erase hy')
    have h2 : y ≠ lst x (x :: r) := fun e => (hn.not_mem_erase) (by rwa [e] at hy')
    omega
theorem asc_eq : ∀ {a b : List Int}, a.Pairwise (· < ·) → b.Pairwise (· < ·) → (∀ x, x ∈ a ↔ x ∈ b) → a = b
  | [], [], _, _, _ => rfl
  | [], y :: b, _, _, h => by have := (h y).2 (by simp); cases this
  | x :: a, [], _, _, h => by have := (h x).1 (by simp); cases this
  | x :: a, y :: b, ha, hb, h => by
    obtain ⟨ha1, ha2⟩ := List.pairwise_cons.1 ha
    obtain ⟨hb1, hb2⟩ := List.pairwise_cons.1 hb
    have e : x = y := by
      rcases List.mem_cons.1 ((h x).1 (by simp)) with e | e
      · exact e
      · rcases List.mem_cons.1 ((h y).2 (by simp)) with e2 | e2
        · exact e2.symm
        · have := hb1 x e; have := ha1 y e2; omega
    subst e
    congr 1
    refine asc_eq ha2 hb2 fun z => ⟨fun hz => ?_, fun hz => ?_⟩
    · rcases List.mem_cons.1 ((h z).1 (by simp [hz])) with e | e
      · subst e; have := ha1 z hz; omega
      · exact e
    · rcases List.mem_cons.1 ((h z).2 (by simp [hz])) with e | e
      · subst e; have := hb1 z hz; omega
      · exact e
theorem ris_asc {l : List Int} (h : l.Nodup) : (risN l).Pairwise (· < ·) := risF_asc _ _ (Nat.le_refl _) h
theorem mem_ris {l : List Int} {x : Int} : x ∈ risN l ↔ x ∈ l := (risF_perm _ _ (Nat.le_refl _)).mem_iff
theorem bits_asc (s k : Nat) : ((bitsTo s k).map fun i : Nat => (i : Int)).Pairwise (· < ·) := by
  rw [List.pairwise_map]
  exact ((List.pairwise_lt_range (n := k)).filter _).imp fun h => by omega
end Go.Proofs.YtgbdjidjbcbhjaaDoor
