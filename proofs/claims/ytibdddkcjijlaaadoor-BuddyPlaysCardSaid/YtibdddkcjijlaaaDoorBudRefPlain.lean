/- What the reference calls free is what the arena keeps as free, plainly. No program in sight. -/
import Derived.Test.YtibdddkcjijlaaaDoorBuddyPlain
namespace Go.Proofs.YtibdddkcjijlaaaDoor

/-- is a block free of what is lent? -/
def apartB (b : Nat × Nat) (x k : Nat) : Bool := !(decide (b.1 < x + 2 ^ k) && decide (x < b.1 + 2 ^ b.2))
def freeB (L : List (Nat × Nat)) (x k : Nat) : Bool := L.all fun b => apartB b x k
/-- is it one of the free blocks of an order? -/
def isF (L : List (Nat × Nat)) (k x : Nat) : Bool := freeB L x k && (decide (k = 6) || !freeB L (x - x % 2 ^ (k + 1)) (k + 1))
/-- the first n of an order that are -/
def refTo (L : List (Nat × Nat)) (k n : Nat) : List Nat := ((List.range n).map fun i => i * 2 ^ k).filter fun x => isF L k x
theorem refTo_succ (L : List (Nat × Nat)) (k n : Nat) : refTo L k (n + 1) = if isF L k (n * 2 ^ k) = true then refTo L k n ++ [n * 2 ^ k] else refTo L k n := by
  unfold refTo
  rw [List.range_succ, List.map_append, List.filter_append]
  simp only [List.map_cons, List.map_nil, List.filter_cons, List.filter_nil]
  split <;> simp
theorem rising_ext : ∀ {l1 l2 : List Nat}, l1.Pairwise (· < ·) → l2.Pairwise (· < ·) → (∀ x, x ∈ l1 ↔ x ∈ l2) → l1 = l2
  | [], [], _, _, _ => rfl
  | [], b :: s, _, _, h => by have := (h b).2 (List.mem_cons_self ..); cases this
  | a :: r, [], _, _, h => by have := (h a).1 (List.mem_cons_self ..); cases this
  | a :: r, b :: s, h1, h2, h => by
    rw [List.pairwise_cons] at h1 h2
    have e : a = b := by
      rcases List.mem_cons.1 ((h a).1 (List.mem_cons_self ..)) with e | e
      · exact e
      · rcases List.mem_cons.1 ((h b).2 (List.mem_cons_self ..)) with e' | e'
        · exact e'.symm
        · have := h1.1 b e'; have := h2.1 a e; omega
    subst e
    rw [rising_ext h1.2 h2.2 fun x => ⟨fun hx => by
      rcases List.mem_cons.1 ((h x).1 (List.mem_cons_of_mem _ hx)) with e | e
      · have := h1.1 x hx; omega
      · exact e, fun hx => by
      rcases List.mem_cons.1 ((h x).2 (List.mem_cons_of_mem _ hx)) with e | e
      · have := h2.1 x hx; omega
      · exact e⟩]
theorem apartB_iff {b : Nat × Nat} {x k : Nat} : apartB b x k = true ↔ ¬ (b.1 < x + 2 ^ k ∧ x < b.1 + 2 ^ b.2) := by simp [apartB]; omega
theorem freeB_iff {L : List (Nat × Nat)} {ln : Nat → Option Nat} (hL : ∀ b, b ∈ L ↔ b.1 < 64 ∧ ln b.1 = some b.2) {x k : Nat} : freeB L x k = true ↔ ∀ p, x ≤ p → p < x + 2 ^ k → cL ln p = 0 := by
  unfold freeB
  rw [List.all_eq_true]
  constructor
  · intro h p h1 h2
    rcases Nat.eq_zero_or_pos (cL ln p) with e | e
    · exact e
    · unfold cL at e
      obtain ⟨a, ha, hc⟩ := List.countP_pos_iff.1 e
      rw [List.mem_range] at ha
      unfold lnc at hc
      cases e2 : ln a with
      | none => rw [e2] at hc; cases hc
      | some o =>
        rw [e2] at hc
        have hc : a ≤ p ∧ p < a + 2 ^ o := by simpa [cov] using hc
        have := apartB_iff.1 (h (a, o) ((hL (a, o)).2 ⟨ha, e2⟩))
        exact absurd ⟨by show a < x + 2 ^ k; omega, by show x < a + 2 ^ o; omega⟩ this
  · intro h b hb
    obtain ⟨h1, h2⟩ := (hL b).1 hb
    refine apartB_iff.2 fun ⟨h3, h4⟩ => ?_
    have hp := Nat.two_pow_pos k
    have hq := Nat.two_pow_pos b.2
    have h5 := h (max b.1 x) (by omega) (by omega)
    have h6 : 1 ≤ cL ln (max b.1 x) := cL_of h1 h2 (by unfold cov; rw [decide_eq_true_eq]; omega)
    omega
theorem al_up : ∀ k, k < 6 → ∀ a, a < 64 → a % 2 ^ k = 0 → (a - a % 2 ^ (k + 1)) % 2 ^ (k + 1) = 0 ∧ a - a % 2 ^ (k + 1) ≤ a ∧ a + 2 ^ k ≤ (a - a % 2 ^ (k + 1)) + 2 ^ (k + 1) := by decide +kernel
theorem al_in {j k b a : Nat} (hkj : k < j) (hb : b % 2 ^ j = 0) (h1 : b ≤ a) (h2 : a < b + 2 ^ j) : b ≤ a - a % 2 ^ (k + 1) ∧ (a - a % 2 ^ (k + 1)) + 2 ^ (k + 1) ≤ b + 2 ^ j := by
  have hpos := Nat.two_pow_pos (k + 1)
  have hd0 : 2 ^ (k + 1) ∣ 2 ^ j := Nat.pow_dvd_pow 2 hkj
  obtain ⟨m, hm⟩ : ∃ m, 2 ^ (k + 1) = m := ⟨_, rfl⟩
  rw [hm] at hd0 hpos ⊢
  have hdb : m ∣ b := Nat.dvd_trans hd0 (Nat.dvd_of_mod_eq_zero hb)
  obtain ⟨d, hd⟩ : m ∣ b + 2 ^ j := Nat.dvd_add hdb hd0
  obtain ⟨c, hc⟩ := hdb
  have e : a - a % m = m * (a / m) := by have := Nat.div_add_mod a m; omega
  rw [e, hd]
  rw [hd] at h2
  rw [hc] at h1 ⊢
  constructor
  · exact Nat.mul_le_mul_left m ((Nat.le_div_iff_mul_le hpos).2 (by rw [Nat.mul_comm]; exact h1))
  · have h3 : a / m < d := (Nat.div_lt_iff_lt_mul hpos).2 (by rw [Nat.mul_comm]; exact h2)
    calc m * (a / m) + m = m * (a / m + 1) := by rw [Nat.mul_succ]
      _ ≤ m * d := Nat.mul_le_mul_left m h3
theorem al_same : ∀ k, k ≤ 6 → ∀ b, b < 64 → b % 2 ^ k = 0 → ∀ a, a < 64 → a % 2 ^ k = 0 → b ≤ a → a + 2 ^ k ≤ b + 2 ^ k → b = a := by intro k _ b _ _ a _ _ h1 h2; omega
section
variable {fr : Nat → List Nat} {ln : Nat → Option Nat}
/-- nothing is lent where a free block is -/
theorem Bud.clear_ (H : Bud fr ln []) {k a p : Nat} (hk : k ≤ 6) (ha : a ∈ fr k) (h1 : a ≤ p) (h2 : p < a + 2 ^ k) : cL ln p = 0 := by
  obtain ⟨h3, h4⟩ := H.fal k hk a ha
  have h5 := al_top k hk a h4 h3
  have h6 := H.cover p (by omega)
  have h7 : 1 ≤ cF fr p := cF_of hk ha (by unfold cov; rw [decide_eq_true_eq]; exact ⟨h1, h2⟩)
  omega
theorem Bud.isF (H : Bud fr ln []) {L : List (Nat × Nat)} (hL : ∀ b, b ∈ L ↔ b.1 < 64 ∧ ln b.1 = some b.2) {k : Nat} (hk : k ≤ 6) {a : Nat} (h64 : a < 64) (hal : a % 2 ^ k = 0) : Go.Proofs.YtibdddkcjijlaaaDoor.isF L k a = true ↔ a ∈ fr k := by
  unfold Go.Proofs.YtibdddkcjijlaaaDoor.isF
  simp only [Bool.and_eq_true, Bool.or_eq_true, Bool.not_eq_true', decide_eq_true_eq]
  constructor
  · rintro ⟨h1, h2⟩
    obtain ⟨j, b, hj1, hj2, hb, hb1, hb2⟩ := H.whole k hk a h64 hal ((freeB_iff hL).1 h1)
    obtain ⟨g1, g2⟩ := H.fal j hj2 b hb
    rcases Nat.lt_or_ge k j with hlt | hge
    · exfalso
      obtain ⟨i1, i2⟩ := al_in hlt g1 hb1 (by have := Nat.two_pow_pos k; omega)
      rcases h2 with h2 | h2
      · omega
      · have : freeB L (a - a % 2 ^ (k + 1)) (k + 1) = true := (freeB_iff hL).2 fun p p1 p2 => H.clear_ hj2 hb (by omega) (by omega)
        rw [this] at h2
        cases h2
    · obtain rfl : j = k := by omega
      rw [← al_same j hj2 b g2 g1 a h64 hal hb1 hb2]
      exact hb
  · intro ha
    refine ⟨(freeB_iff hL).2 fun p p1 p2 => H.clear_ hk ha p1 p2, ?_⟩
    rcases Nat.lt_or_ge k 6 with hlt | hge
    · right
      rw [← Bool.not_eq_true]
      intro h
      obtain ⟨u1, u2, u3⟩ := al_up k hlt a h64 hal
      obtain ⟨j, b, hj1, hj2, hb, hb1, hb2⟩ := H.whole (k + 1) (by omega) _ (by omega) u1 ((freeB_iff hL).1 h)
      have hp := Nat.two_pow_pos k
      have h1 : 2 ≤ cF fr a := cF_two hk ha (cov_self a k) hj2 hb (by unfold cov; rw [decide_eq_true_eq]; omega) (by omega)
      have h2 := H.cover a h64
      omega
    · left; omega
theorem pow_div : ∀ k, k ≤ 6 → ∀ a, a < 64 → a % 2 ^ k = 0 → a / 2 ^ k < 64 / 2 ^ k ∧ a / 2 ^ k * 2 ^ k = a := by decide +kernel
theorem pow_mul : ∀ k, k ≤ 6 → ∀ i, i < 64 → i < 64 / 2 ^ k → i * 2 ^ k < 64 ∧ i * 2 ^ k % 2 ^ k = 0 := by decide +kernel
/-- the reference's free blocks are the arena's -/
theorem Bud.ref (H : Bud fr ln []) {L : List (Nat × Nat)} (hL : ∀ b, b ∈ L ↔ b.1 < 64 ∧ ln b.1 = some b.2) {k : Nat} (hk : k ≤ 6) : refTo L k (64 / 2 ^ k) = fr k := by
  refine rising_ext ?_ (H.rising k) fun x => ?_
  · unfold refTo
    refine List.Pairwise.filter _ ?_
    rw [List.pairwise_map]
    exact List.pairwise_lt_range.imp fun h => Nat.mul_lt_mul_of_pos_right h (Nat.two_pow_pos k)
  · unfold refTo
    rw [List.mem_filter, List.mem_map]
    constructor
    · rintro ⟨⟨i, hi, rfl⟩, h⟩
      have hi := List.mem_range.1 hi
      obtain ⟨h1, h2⟩ := pow_mul k hk i (by have := Nat.div_le_self 64 (2 ^ k); omega) hi
      exact (H.isF hL hk h1 h2).1 h
    · intro hx
      obtain ⟨h1, h2⟩ := H.fal k hk x hx
      obtain ⟨h3, h4⟩ := pow_div k hk x h2 h1
      exact ⟨⟨x / 2 ^ k, List.mem_range.2 h3, h4⟩, (H.isF hL hk h2 h1).2 hx⟩
end
end Go.Proofs.YtibdddkcjijlaaaDoor
