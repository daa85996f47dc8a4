/- What the reference does with an arena that lends where it fits first, plainly. No program in sight. -/
import Derived.Test.YtibdddkcjijlaaaDoorFitPlain
namespace Go.Proofs.YtibdddkcjijlaaaDoor

/-- are so many places free from one on? -/
def apartF (b : Nat × Nat) (x size : Nat) : Bool := !(decide (b.1 < x + size) && decide (x < b.1 + b.2))
def fitsF (bs : List (Nat × Nat)) (x size : Nat) : Bool := bs.all (fun b => apartF b x size) && decide (x + size ≤ 64)
theorem fits_nil (x size : Nat) : fitsF [] x size = decide (x + size ≤ 64) := by simp [fitsF]
theorem fits_cons (b : Nat × Nat) (r : List (Nat × Nat)) (x size : Nat) : fitsF (b :: r) x size = (apartF b x size && fitsF r x size) := by simp [fitsF, Bool.and_assoc]
theorem apart_iff {b : Nat × Nat} {x size : Nat} : apartF b x size = true ↔ ¬ (b.1 < x + size ∧ x < b.1 + b.2) := by simp [apartF]; omega
theorem fits_far {bs : List (Nat × Nat)} {p x size : Nat} (h : Lie p bs) (hx : x + size ≤ p) : fitsF bs x size = true := by
  have hp := h.le
  unfold fitsF
  simp only [Bool.and_eq_true, List.all_eq_true, decide_eq_true_eq]
  exact ⟨fun b hb => apart_iff.2 (by have := (h.all b hb).1; omega), by omega⟩
/-- how many lie ahead -/
def headN : List (Nat × Nat) → Nat → Nat
  | [], _ => 0
  | b :: r, x => if b.1 < x then headN r x + 1 else 0
/-- it is lent at the first place where it fits -/
theorem fits_lend {size : Nat} (hs : 1 ≤ size) : ∀ {bs : List (Nat × Nat)} {p : Nat}, Lie p bs → match lendIx size p bs with
    | some (i, q) => fitsF bs q size = true ∧ (∀ x, p ≤ x → x < q → fitsF bs x size = false) ∧ headN bs q = i
    | none => ∀ x, p ≤ x → fitsF bs x size = false
  | [], p, h => by
    simp only [lendIx]
    by_cases h1 : p + size ≤ 64
    · rw [if_pos h1]
      exact ⟨by rw [fits_nil]; exact decide_eq_true h1, fun x h2 h3 => by omega, rfl⟩
    · rw [if_neg h1]
      exact fun x hx => by rw [fits_nil]; exact decide_eq_false (by omega)
  | b :: r, p, h => by
    have hp := h.1
    have hb := h.2.1
    simp only [lendIx]
    by_cases h1 : p + size ≤ b.1
    · rw [if_pos h1]
      refine ⟨?_, fun x h2 h3 => by omega, ?_⟩
      · rw [fits_cons, apart_iff.2 (by omega), fits_far h.2.2 (by omega)]; rfl
      · show (if b.1 < p then headN r p + 1 else 0) = 0
        rw [if_neg (by omega)]
    · rw [if_neg h1]
      have ih := fits_lend hs h.2.2
      have hlo : ∀ x, p ≤ x → x < b.1 + b.2 → fitsF (b :: r) x size = false := fun x h2 h3 => by
        rw [fits_cons, show apartF b x size = false by
          rw [← Bool.not_eq_true]; exact fun e => apart_iff.1 e (by omega)]
        rfl
      cases e : lendIx size (b.1 + b.2) r with
      | none =>
        rw [e] at ih
        intro x hx
        by_cases h3 : x < b.1 + b.2
        · exact hlo x hx h3
        · rw [fits_cons, ih x (by omega), Bool.and_false]
      | some y =>
        obtain ⟨i, q⟩ := y
        rw [e] at ih
        obtain ⟨j1, j2, j3⟩ := ih
        have hq := (Lie.ins hs h.2.2 e).2.2.1
        refine ⟨?_, fun x h2 h3 => ?_, ?_⟩
        · show fitsF (b :: r) q size = true
          rw [fits_cons, apart_iff.2 (by omega), j1]; rfl
        · by_cases h4 : x < b.1 + b.2
          · exact hlo x h2 h4
          · have : fitsF r x size = false := j2 x (by omega) h3
            rw [fits_cons, this, Bool.and_false]
        · show (if b.1 < q then headN r q + 1 else 0) = i + 1
          rw [if_pos (by omega), j3]

/-! ### Holes -/
/-- runs so far: where, how long; the run that is under way -/
structure Run where
  ats : List Nat
  szs : List Nat
  n : Nat
def Run.step (s : Run) (free : Bool) (x : Nat) : Run :=
  if free = false then { s with n := 0 }
  else if s.n = 0 then ⟨s.ats ++ [x], s.szs ++ [1], 1⟩
  else ⟨s.ats, s.szs.set (s.szs.length - 1) (s.n + 1), s.n + 1⟩
def runF (fr : Nat → Bool) : Nat → Nat → Run → Run
  | 0, _, s => s
  | k + 1, a, s => runF fr k (a + 1) (s.step (fr a) a)
theorem rho_add (fr : Nat → Bool) : ∀ (m k a : Nat) (s : Run), runF fr (m + k) a s = runF fr k (a + m) (runF fr m a s)
  | 0, k, a, s => by rw [Nat.zero_add]; rfl
  | m + 1, k, a, s => by
    rw [show m + 1 + k = (m + k) + 1 by omega]
    show runF fr (m + k) (a + 1) _ = _
    rw [rho_add fr m k (a + 1)]
    show _ = runF fr k (a + (m + 1)) (runF fr m (a + 1) _)
    rw [show a + 1 + m = a + (m + 1) by omega]
theorem rho_succ (fr : Nat → Bool) (k : Nat) (s : Run) : runF fr (k + 1) 0 s = (runF fr k 0 s).step (fr k) k := by
  rw [rho_add fr k 1 0 s, Nat.zero_add]
  rfl
theorem rho_busy {fr : Nat → Bool} : ∀ (k a : Nat) (s : Run), (∀ x, a ≤ x → x < a + k → fr x = false) → (1 ≤ k ∨ s.n = 0) → runF fr k a s = ⟨s.ats, s.szs, 0⟩
  | 0, a, s, _, h => by
    have h0 : s.n = 0 := by omega
    show s = _
    cases s
    simp only at h0
    subst h0
    rfl
  | k + 1, a, s, h, _ => by
    show runF fr k (a + 1) (s.step (fr a) a) = _
    rw [h a (Nat.le_refl _) (by omega)]
    rw [show s.step false a = ⟨s.ats, s.szs, 0⟩ from rfl]
    exact rho_busy k (a + 1) _ (fun x h1 h2 => h x (by omega) (by omega)) (.inr rfl)
theorem rho_on {fr : Nat → Bool} : ∀ (k a : Nat) (A Z : List Nat) (n : Nat), (∀ x, a ≤ x → x < a + k → fr x = true) → 1 ≤ n → runF fr k a ⟨A, Z ++ [n], n⟩ = ⟨A, Z ++ [n + k], n + k⟩
  | 0, a, A, Z, n, _, _ => rfl
  | k + 1, a, A, Z, n, h, hn => by
    show runF fr k (a + 1) (Run.step ⟨A, Z ++ [n], n⟩ (fr a) a) = _
    rw [h a (Nat.le_refl _) (by omega)]
    have e : Run.step ⟨A, Z ++ [n], n⟩ true a = ⟨A, Z ++ [n + 1], n + 1⟩ := by
      unfold Run.step
      rw [if_neg (by decide), if_neg (show ¬ n = 0 by omega)]
      simp
    rw [e, rho_on k (a + 1) A Z (n + 1) (fun x h1 h2 => h x (by omega) (by omega)) (by omega)]
    rw [show n + 1 + k = n + (k + 1) by omega]
theorem rho_free {fr : Nat → Bool} (k a : Nat) (A Z : List Nat) (h : ∀ x, a ≤ x → x < a + (k + 1) → fr x = true) : runF fr (k + 1) a ⟨A, Z, 0⟩ = ⟨A ++ [a], Z ++ [k + 1], k + 1⟩ := by
  show runF fr k (a + 1) (Run.step ⟨A, Z, 0⟩ (fr a) a) = _
  rw [h a (Nat.le_refl _) (by omega)]
  show runF fr k (a + 1) ⟨A ++ [a], Z ++ [1], 1⟩ = _
  rw [rho_on k (a + 1) _ Z 1 (fun x h1 h2 => h x (by omega) (by omega)) (Nat.le_refl _), Nat.add_comm 1 k]
theorem rho_congr {fr fr' : Nat → Bool} : ∀ (k a : Nat) (s : Run), (∀ x, a ≤ x → x < a + k → fr x = fr' x) → runF fr k a s = runF fr' k a s
  | 0, _, _, _ => rfl
  | k + 1, a, s, h => by
    show runF fr k (a + 1) _ = runF fr' k (a + 1) _
    rw [h a (Nat.le_refl _) (by omega)]
    exact rho_congr k (a + 1) _ fun x h1 h2 => h x (by omega) (by omega)
theorem fits_one {bs : List (Nat × Nat)} {p x : Nat} (h : Lie p bs) (hx : x < p) : fitsF bs x 1 = true := fits_far h (by omega)
/-- the holes are the runs -/
theorem rho_holes : ∀ {bs : List (Nat × Nat)} {p : Nat} (A Z : List Nat), Lie p bs → ∃ n, runF (fun x => fitsF bs x 1) (64 - p) p ⟨A, Z, 0⟩ = ⟨A ++ (holesF p (bs ++ [(64, 0)])).map (·.1), Z ++ (holesF p (bs ++ [(64, 0)])).map (·.2), n⟩
  | [], p, A, Z, h => by
    have hp : p ≤ 64 := h
    simp only [List.nil_append, holesF]
    by_cases h1 : p < 64
    · rw [if_pos h1]
      obtain ⟨k, hk⟩ : ∃ k, 64 - p = k + 1 := ⟨64 - p - 1, by omega⟩
      rw [hk, rho_free k p A Z fun x h2 h3 => by rw [fits_nil]; exact decide_eq_true (by omega)]
      exact ⟨_, rfl⟩
    · rw [if_neg h1, show 64 - p = 0 by omega]
      exact ⟨0, by simp [runF]⟩
  | b :: r, p, A, Z, h => by
    have hp := h.1
    have hb := h.2.1
    have he := h.2.2.le
    simp only [List.cons_append, holesF]
    rw [show 64 - p = (b.1 - p) + (b.2 + (64 - (b.1 + b.2))) by omega, rho_add, rho_add]
    have hbusy : ∀ x, p + (b.1 - p) ≤ x → x < p + (b.1 - p) + b.2 → fitsF (b :: r) x 1 = false := fun x h2 h3 => by
      rw [fits_cons, show apartF b x 1 = false by
        rw [← Bool.not_eq_true]; exact fun e => apart_iff.1 e (by omega)]
      rfl
    have hrest : ∀ s : Run, runF (fun x => fitsF (b :: r) x 1) (64 - (b.1 + b.2)) (p + (b.1 - p) + b.2) s = runF (fun x => fitsF r x 1) (64 - (b.1 + b.2)) (b.1 + b.2) s := fun s => by
      rw [show p + (b.1 - p) + b.2 = b.1 + b.2 by omega]
      refine rho_congr _ _ _ fun x h2 h3 => ?_
      show fitsF (b :: r) x 1 = fitsF r x 1
      rw [fits_cons, apart_iff.2 (by omega), Bool.true_and]
    by_cases h1 : p < b.1
    · rw [if_pos h1]
      obtain ⟨k, hk⟩ : ∃ k, b.1 - p = k + 1 := ⟨b.1 - p - 1, by omega⟩
      have hfree : runF (fun x => fitsF (b :: r) x 1) (b.1 - p) p ⟨A, Z, 0⟩ = ⟨A ++ [p], Z ++ [b.1 - p], b.1 - p⟩ := by
        rw [hk]
        refine rho_free k p A Z fun x h2 h3 => ?_
        show fitsF (b :: r) x 1 = true
        rw [fits_cons, apart_iff.2 (by omega), fits_one h.2.2 (by omega)]; rfl
      rw [hfree, rho_busy b.2 _ _ hbusy (.inl hb), hrest]
      obtain ⟨n, hn⟩ := rho_holes (A ++ [p]) (Z ++ [b.1 - p]) h.2.2
      exact ⟨n, by rw [hn]; simp⟩
    · rw [if_neg h1, show b.1 - p = 0 by omega]
      show ∃ n, runF _ _ _ (runF _ b.2 (p + 0) ⟨A, Z, 0⟩) = _
      rw [show b.1 - p = 0 by omega] at hbusy hrest
      rw [rho_busy b.2 _ _ hbusy (.inl hb), hrest]
      exact rho_holes A Z h.2.2
theorem rho_all {bs : List (Nat × Nat)} (h : Lie 0 bs) : ∃ n, runF (fun x => fitsF bs x 1) 64 0 ⟨[], [], 0⟩ = ⟨(holesOf bs).map (·.1), (holesOf bs).map (·.2), n⟩ := by
  obtain ⟨n, hn⟩ := rho_holes [] [] h
  exact ⟨n, by rw [show 64 = 64 - 0 from rfl, hn]; simp [holesOf]⟩
/-- what holds on the way -/
theorem rho_inv (fr : Nat → Bool) : ∀ k, (runF fr k 0 ⟨[], [], 0⟩).ats.length = (runF fr k 0 ⟨[], [], 0⟩).szs.length ∧ (runF fr k 0 ⟨[], [], 0⟩).ats.length ≤ k ∧ (runF fr k 0 ⟨[], [], 0⟩).n ≤ k ∧ ((runF fr k 0 ⟨[], [], 0⟩).n ≠ 0 → 1 ≤ (runF fr k 0 ⟨[], [], 0⟩).szs.length)
  | 0 => by simp [runF]
  | k + 1 => by
    rw [rho_succ]
    obtain ⟨h1, h2, h3, h4⟩ := rho_inv fr k
    obtain ⟨s, hs⟩ : ∃ s, runF fr k 0 ⟨[], [], 0⟩ = s := ⟨_, rfl⟩
    rw [hs] at h1 h2 h3 h4 ⊢
    unfold Run.step
    split
    · exact ⟨h1, by simp only; omega, by simp, by simp⟩
    · split
      · exact ⟨by simp [h1], by simp; omega, by simp, by simp⟩
      · rename_i hn
        exact ⟨by simp [h1], by simp only; omega, by simp only; omega, fun _ => by rw [List.length_set]; exact h4 hn⟩
end Go.Proofs.YtibdddkcjijlaaaDoor
