/- Places that are lent by halves, plainly. No program in sight. -/
import Derived.Test.YtibdddkcjijlaaaDoorFitPlain
namespace Go.Proofs.YtibdddkcjijlaaaDoor

/-- is place p in the block of order k that begins at a? -/
def cov (p a k : Nat) : Bool := decide (a ≤ p ∧ p < a + 2 ^ k)
def n1 (b : Bool) : Nat := if b = true then 1 else 0
def upd {α : Type} (f : Nat → α) (k : Nat) (x : α) (j : Nat) : α := if j = k then x else f j
theorem upd_same {α : Type} (f : Nat → α) (k : Nat) (x : α) : upd f k x k = x := by simp [upd]
theorem upd_other {α : Type} (f : Nat → α) {k j : Nat} (x : α) (h : j ≠ k) : upd f k x j = f j := by simp [upd, h]
theorem upd_upd {α : Type} (f : Nat → α) (k : Nat) (x y : α) : upd (upd f k x) k y = upd f k y := by funext j; unfold upd; split <;> rfl
theorem upd_self {α : Type} (f : Nat → α) (k : Nat) : upd f k (f k) = f := by funext j; unfold upd; split <;> simp_all
/-- how often place p is in a free block; in one that is lent; in one of a list -/
def cF (fr : Nat → List Nat) (p : Nat) : Nat := ((List.range 7).map fun k => (fr k).countP fun a => cov p a k).sum
def lnc (ln : Nat → Option Nat) (p a : Nat) : Bool := match ln a with
  | some k => cov p a k
  | none => false
def cL (ln : Nat → Option Nat) (p : Nat) : Nat := (List.range 64).countP (lnc ln p)
def cH (h : List (Nat × Nat)) (p : Nat) : Nat := h.countP fun b => cov p b.1 b.2
/-- a number is put into a rising list -/
def putN (l : List Nat) (a : Nat) : List Nat := insAt l (l.countP fun x => decide (x < a)) a

theorem countP_insAt {α : Type} (q : α → Bool) (l : List α) (i : Nat) (x : α) : (insAt l i x).countP q = l.countP q + n1 (q x) := by
  unfold insAt n1
  rw [List.countP_append, List.countP_cons]
  have := congrArg (List.countP q) (List.take_append_drop i l)
  rw [List.countP_append] at this
  omega
theorem mem_insAt {α : Type} {l : List α} {i : Nat} {x y : α} : y ∈ insAt l i x ↔ y = x ∨ y ∈ l := by
  unfold insAt
  rw [List.mem_append, List.mem_cons]
  constructor
  · rintro (h | h | h)
    · exact .inr (List.mem_of_mem_take h)
    · exact .inl h
    · exact .inr (List.mem_of_mem_drop h)
  · rintro (h | h)
    · exact .inr (.inl h)
    · rw [← List.take_append_drop i l, List.mem_append] at h
      rcases h with h | h
      · exact .inl h
      · exact .inr (.inr h)
theorem mem_putN {l : List Nat} {x y : Nat} : y ∈ putN l x ↔ y = x ∨ y ∈ l := mem_insAt
/-- in a rising list just the first so many are less -/
theorem rising_lt : ∀ {l : List Nat} (a : Nat), l.Pairwise (· < ·) → ∀ j (h : j < l.length), l[j] < a ↔ j < l.countP fun x => decide (x < a)
  | [], _, _, j, h => by cases h
  | x :: l, a, hp, j, h => by
    have h1 := (List.pairwise_cons.1 hp).1
    have h2 := (List.pairwise_cons.1 hp).2
    rw [List.countP_cons]
    by_cases hx : x < a
    · simp only [hx, decide_true, if_true]
      match j, h with
      | 0, _ => simpa using hx
      | j + 1, h =>
        have := rising_lt a h2 j (by simpa using h)
        simp only [List.getElem_cons_succ]
        omega
    · have h0 : l.countP (fun x => decide (x < a)) = 0 := by
        rw [List.countP_eq_zero]
        intro y hy
        have := h1 y hy
        simp only [decide_eq_true_eq]
        omega
      simp only [hx, decide_false, h0]
      constructor
      · intro h3
        exfalso
        match j, h with
        | 0, _ => exact hx (by simpa using h3)
        | j + 1, h =>
          simp only [List.getElem_cons_succ] at h3
          have := h1 _ (List.getElem_mem (show j < l.length by simpa using h))
          omega
      · intro h3; simp at h3
theorem putN_rising {l : List Nat} {a : Nat} (h : l.Pairwise (· < ·)) (ha : a ∉ l) : (putN l a).Pairwise (· < ·) := by
  unfold putN insAt
  rw [List.pairwise_append]
  refine ⟨h.sublist (List.take_sublist _ _), ?_, ?_⟩
  · rw [List.pairwise_cons]
    refine ⟨fun y hy => ?_, h.sublist (List.drop_sublist _ _)⟩
    obtain ⟨j, hj, rfl⟩ := List.getElem_of_mem hy
    rw [List.length_drop] at hj
    rw [List.getElem_drop]
    have := (rising_lt a h (l.countP (fun x => decide (x < a)) + j) (by omega))
    rcases Nat.lt_trichotomy a (l[l.countP (fun x => decide (x < a)) + j]'(by omega)) with h' | h' | h'
    · exact h'
    · exact absurd (h' ▸ List.getElem_mem _) ha
    · have := this.1 h'; omega
  · intro x hx y hy
    obtain ⟨i, hi, rfl⟩ := List.getElem_of_mem hx
    rw [List.length_take] at hi
    rw [List.getElem_take]
    have hxa := (rising_lt a h i (by omega)).2 (by omega)
    rcases List.mem_cons.1 hy with rfl | hy
    · exact hxa
    · obtain ⟨j, hj, rfl⟩ := List.getElem_of_mem hy
      rw [List.length_drop] at hj
      rw [List.getElem_drop]
      exact List.pairwise_iff_getElem.1 h i _ (by omega) (by omega) (by omega)
theorem putN_first {l : List Nat} {a : Nat} (h : ∀ x ∈ l, a < x) : putN l a = a :: l := by
  unfold putN
  rw [show l.countP (fun x => decide (x < a)) = 0 by rw [List.countP_eq_zero]; intro y hy; have := h y hy; simp only [decide_eq_true_eq]; omega]
  rfl

theorem cF_upd (fr : Nat → List Nat) (p : Nat) {k : Nat} (hk : k ≤ 6) (l : List Nat) : cF (upd fr k l) p + (fr k).countP (fun a => cov p a k) = cF fr p + l.countP fun a => cov p a k := by
  unfold cF
  have : k = 0 ∨ k = 1 ∨ k = 2 ∨ k = 3 ∨ k = 4 ∨ k = 5 ∨ k = 6 := by omega
  simp only [List.range_succ, List.range_zero, List.nil_append, List.map_append, List.map_cons, List.map_nil, List.sum_append, List.sum_cons, List.sum_nil]
  rcases this with rfl | rfl | rfl | rfl | rfl | rfl | rfl <;> simp [upd] <;> omega
theorem countP_one {l : List Nat} {a : Nat} (hn : l.Nodup) (ha : a ∈ l) {q r : Nat → Bool} (hq : ∀ i, i ≠ a → r i = q i) : l.countP r + n1 (q a) = l.countP q + n1 (r a) := by
  induction l with
  | nil => cases ha
  | cons x l ih =>
    rw [List.countP_cons, List.countP_cons]
    have hx := (List.nodup_cons.1 hn).1
    rcases List.mem_cons.1 ha with rfl | ha
    · have : l.countP r = l.countP q := List.countP_congr fun i hi => by rw [hq i (by rintro rfl; exact hx hi)]
      unfold n1
      omega
    · have := ih (List.nodup_cons.1 hn).2 ha
      rw [hq x (by rintro rfl; exact hx ha)]
      omega
theorem cL_upd (ln : Nat → Option Nat) (p : Nat) {a : Nat} (ha : a < 64) (x : Option Nat) : cL (upd ln a x) p + n1 (lnc ln p a) = cL ln p + n1 (lnc (upd ln a x) p a) :=
  countP_one List.nodup_range (List.mem_range.2 ha) fun i hi => by unfold lnc; rw [upd_other _ _ hi]
theorem one_of_count {α : Type} {q : α → Bool} {l : List α} {x : α} (hx : x ∈ l) (hq : q x = true) : 1 ≤ l.countP q := List.countP_pos_iff.2 ⟨x, hx, hq⟩
theorem cF_of {fr : Nat → List Nat} {p k a : Nat} (hk : k ≤ 6) (ha : a ∈ fr k) (hc : cov p a k = true) : 1 ≤ cF fr p := by
  have h1 := cF_upd fr p hk []
  have h2 := one_of_count (q := fun a => cov p a k) ha hc
  simp only [List.countP_nil] at h1
  omega
theorem cF_two {fr : Nat → List Nat} {p k a j b : Nat} (hk : k ≤ 6) (ha : a ∈ fr k) (hc : cov p a k = true) (hj : j ≤ 6) (hb : b ∈ fr j) (hd : cov p b j = true) (hne : ¬ (k = j ∧ a = b)) : 2 ≤ cF fr p := by
  have h1 := cF_upd fr p hk []
  simp only [List.countP_nil] at h1
  by_cases e : j = k
  · subst e
    have hab : a ≠ b := fun h => hne ⟨rfl, h⟩
    have h2 : (fr j).countP (fun a => cov p a j) = ((fr j).erase a).countP (fun a => cov p a j) + 1 := by
      rw [(List.perm_cons_erase ha).countP_eq, List.countP_cons, hc]; simp
    have h3 := one_of_count (q := fun a => cov p a j) ((List.mem_erase_of_ne (Ne.symm hab)).2 hb) hd
    omega
  · have h2 := one_of_count (q := fun a => cov p a k) ha hc
    have h3 : 1 ≤ cF (upd fr k []) p := cF_of hj (by rw [upd_other _ _ e]; exact hb) hd
    omega
theorem cL_of {ln : Nat → Option Nat} {p a k : Nat} (ha : a < 64) (h : ln a = some k) (hc : cov p a k = true) : 1 ≤ cL ln p := one_of_count (List.mem_range.2 ha) (by unfold lnc; rw [h]; exact hc)
theorem cL_two {ln : Nat → Option Nat} {p a k b j : Nat} (ha : a < 64) (h : ln a = some k) (hc : cov p a k = true) (hb : b < 64) (g : ln b = some j) (hd : cov p b j = true) (hne : a ≠ b) : 2 ≤ cL ln p := by
  have h1 := cL_upd ln p ha none
  have e1 : lnc ln p a = true := by unfold lnc; rw [h]; exact hc
  have e2 : lnc (upd ln a none) p a = false := by unfold lnc; rw [upd_same]
  have h3 : 1 ≤ cL (upd ln a none) p := cL_of hb (by rw [upd_other _ _ (Ne.symm hne)]; exact g) hd
  rw [e1, e2] at h1
  simp only [n1] at h1
  simp at h1
  omega

/-! ### The arena -/
/-- blocks that are free, that are lent, and one in hand: each place is in just one -/
structure Bud (fr : Nat → List Nat) (ln : Nat → Option Nat) (h : List (Nat × Nat)) : Prop where
  cover : ∀ p, p < 64 → cF fr p + cL ln p + cH h p = 1
  rising : ∀ k, (fr k).Pairwise (· < ·)
  fal : ∀ k, k ≤ 6 → ∀ a ∈ fr k, a % 2 ^ k = 0 ∧ a < 64
  lal : ∀ a k, ln a = some k → k ≤ 6 ∧ a % 2 ^ k = 0 ∧ a < 64
  hal : ∀ b ∈ h, b.2 ≤ 6 ∧ b.1 % 2 ^ b.2 = 0 ∧ b.1 < 64
  apart : ∀ k, k < 6 → ∀ a ∈ fr k, a ^^^ 2 ^ k ∉ fr k

theorem xor_cases : ∀ k, k < 6 → ∀ a, a < 64 → a % 2 ^ k = 0 → (a % 2 ^ (k + 1) = 0 ∧ a ^^^ 2 ^ k = a + 2 ^ k ∧ (a + 2 ^ k) ^^^ 2 ^ k = a ∧ a + 2 ^ k < 64) ∨ (a % 2 ^ (k + 1) = 2 ^ k ∧ (a ^^^ 2 ^ k) + 2 ^ k = a ∧ (a ^^^ 2 ^ k) % 2 ^ (k + 1) = 0) := by decide +kernel
theorem al_top : ∀ k, k ≤ 6 → ∀ a, a < 64 → a % 2 ^ k = 0 → a + 2 ^ k ≤ 64 := by decide +kernel
theorem al_half : ∀ k, k < 6 → ∀ a, a < 64 → a % 2 ^ (k + 1) = 0 → a % 2 ^ k = 0 ∧ (a + 2 ^ k) % 2 ^ k = 0 ∧ a + 2 ^ k < 64 ∧ (a + 2 ^ k) ^^^ 2 ^ k = a ∧ a ^^^ 2 ^ k = a + 2 ^ k := by decide +kernel
theorem cov_self (a k : Nat) : cov a a k = true := by unfold cov; have := Nat.two_pow_pos k; simp; omega
theorem cov_half (p a k : Nat) : n1 (cov p a (k + 1)) = n1 (cov p a k) + n1 (cov p (a + 2 ^ k) k) := by
  unfold cov n1
  rw [Nat.pow_succ]
  generalize 2 ^ k = q
  simp only [decide_eq_true_eq]
  by_cases h1 : a ≤ p ∧ p < a + q
  · rw [if_pos h1, if_pos (by omega), if_neg (by omega)]
  · rw [if_neg h1]
    by_cases h2 : a + q ≤ p ∧ p < a + q + q
    · rw [if_pos h2, if_pos (by omega)]
    · rw [if_neg h2, if_neg (by omega)]
theorem cH_one (a k p : Nat) : cH [(a, k)] p = n1 (cov p a k) := by unfold cH n1; simp [List.countP_cons]
theorem cH_nil (p : Nat) : cH [] p = 0 := rfl

section
variable {fr : Nat → List Nat} {ln : Nat → Option Nat} {h : List (Nat × Nat)}
theorem Bud.new : Bud (upd (fun _ => []) 6 [0]) (fun _ => none) [] := by
  refine ⟨fun p hp => ?_, fun k => ?_, fun k hk a ha => ?_, fun a k e => (by cases e), fun b hb => (by cases hb), fun k hk a ha => ?_⟩
  · have h1 := cF_upd (fun _ => ([] : List Nat)) p (Nat.le_refl 6) [0]
    have h2 : cF (fun _ => ([] : List Nat)) p = 0 := by simp [cF, List.range_succ]
    have h3 : cL (fun _ => none) p = 0 := by unfold cL lnc; simp
    have h4 : [0].countP (fun a => cov p a 6) = 1 := by simp [cov, hp]
    rw [h2, h4] at h1
    rw [h3, cH_nil]
    simp at h1
    omega
  · unfold upd; split <;> simp
  · unfold upd at ha
    split at ha
    · simp at ha; subst ha; simp
    · cases ha
  · rw [upd_other _ _ (by omega)] at ha; cases ha
/-- the first free block of an order is taken -/
theorem Bud.take (H : Bud fr ln []) {k a : Nat} {r : List Nat} (hk : k ≤ 6) (e : fr k = a :: r) : Bud (upd fr k r) ln [(a, k)] := by
  have hal := H.fal k hk a (by rw [e]; simp)
  refine ⟨fun p hp => ?_, fun j => ?_, fun j hj x hx => ?_, H.lal, fun b hb => ?_, fun j hj x hx => ?_⟩
  · have h1 := cF_upd fr p hk r
    have h2 := H.cover p hp
    rw [e, List.countP_cons] at h1
    rw [cH_nil] at h2
    rw [cH_one]
    unfold n1
    omega
  · by_cases ej : j = k
    · subst ej; rw [upd_same]; have := H.rising j; rw [e] at this; exact (List.pairwise_cons.1 this).2
    · rw [upd_other _ _ ej]; exact H.rising j
  · by_cases ej : j = k
    · subst ej; rw [upd_same] at hx; exact H.fal j hj x (by rw [e]; simp [hx])
    · rw [upd_other _ _ ej] at hx; exact H.fal j hj x hx
  · simp at hb; subst hb; exact ⟨hk, hal⟩
  · by_cases ej : j = k
    · subst ej; rw [upd_same] at hx ⊢; intro hm; exact H.apart j hj x (by rw [e]; simp [hx]) (by rw [e]; simp [hm])
    · rw [upd_other _ _ ej] at hx ⊢; exact H.apart j hj x hx
/-- what is in hand is nowhere else -/
theorem Bud.hand {a k : Nat} (H : Bud fr ln [(a, k)]) {p : Nat} (hp : p < 64) (hc : cov p a k = true) : cF fr p = 0 ∧ cL ln p = 0 := by
  have h1 := H.cover p hp
  rw [cH_one, hc] at h1
  simp only [n1, if_true] at h1
  omega
/-- what is in hand is halved -/
theorem Bud.split {a k : Nat} (H : Bud fr ln [(a, k + 1)]) : Bud (upd fr k (putN (fr k) (a + 2 ^ k))) ln [(a, k)] := by
  obtain ⟨hk, ha, h64⟩ := H.hal _ (List.mem_singleton.2 rfl)
  simp only at hk ha h64
  obtain ⟨g1, g2, g3, g4, g5⟩ := al_half k (by omega) a h64 ha
  have hq := Nat.two_pow_pos k
  have hx : a + 2 ^ k ∉ fr k := fun hm => by
    have h1 := (H.hand (p := a + 2 ^ k) g3 (by unfold cov; rw [Nat.pow_succ]; simp; omega)).1
    have h2 := cF_of (p := a + 2 ^ k) (by omega) hm (cov_self _ _)
    omega
  have hax : a ∉ fr k := fun hm => by
    have h1 := (H.hand (p := a) h64 (cov_self _ _)).1
    have h2 := cF_of (p := a) (by omega) hm (cov_self _ _)
    omega
  refine ⟨fun p hp => ?_, fun j => ?_, fun j hj x hx' => ?_, H.lal, fun b hb => ?_, fun j hj x hx' => ?_⟩
  · have h1 := cF_upd fr p (show k ≤ 6 by omega) (putN (fr k) (a + 2 ^ k))
    have h2 := H.cover p hp
    unfold putN at h1 ⊢
    rw [countP_insAt] at h1
    rw [cH_one, cov_half] at h2
    rw [cH_one]
    omega
  · by_cases ej : j = k
    · subst ej; rw [upd_same]; exact putN_rising (H.rising j) hx
    · rw [upd_other _ _ ej]; exact H.rising j
  · by_cases ej : j = k
    · subst ej
      rw [upd_same, mem_putN] at hx'
      rcases hx' with rfl | hx'
      · exact ⟨g2, g3⟩
      · exact H.fal j hj x hx'
    · rw [upd_other _ _ ej] at hx'; exact H.fal j hj x hx'
  · simp at hb; subst hb; exact ⟨by simp only; omega, g1, h64⟩
  · by_cases ej : j = k
    · subst ej
      rw [upd_same] at hx' ⊢
      rw [mem_putN] at hx' ⊢
      rcases hx' with rfl | hx'
      · rw [g4]
        rintro (h1 | h1)
        · omega
        · exact hax h1
      · rintro (h1 | h1)
        · have h2 := congrArg (· ^^^ 2 ^ j) h1
          simp only [Nat.xor_assoc, Nat.xor_self, Nat.xor_zero, g4] at h2
          exact hax (h2 ▸ hx')
        · exact H.apart j hj x hx' h1
    · rw [upd_other _ _ ej] at hx' ⊢; exact H.apart j hj x hx'
/-- what is in hand is lent -/
theorem Bud.lend {a k : Nat} (H : Bud fr ln [(a, k)]) : ln a = none ∧ Bud fr (upd ln a (some k)) [] := by
  obtain ⟨hk, ha, h64⟩ := H.hal _ (List.mem_singleton.2 rfl)
  simp only at hk ha h64
  have hn : ln a = none := by
    rcases e : ln a with _ | j
    · rfl
    · have h1 := (H.hand (p := a) h64 (cov_self _ _)).2
      have h2 := cL_of (p := a) h64 e (cov_self _ _)
      omega
  refine ⟨hn, fun p hp => ?_, H.rising, H.fal, fun b j e => ?_, fun b hb => (by cases hb), H.apart⟩
  · have h1 := cL_upd ln p h64 (some k)
    have h2 := H.cover p hp
    have e1 : lnc ln p a = false := by unfold lnc; rw [hn]
    have e2 : lnc (upd ln a (some k)) p a = cov p a k := by unfold lnc; rw [upd_same]
    rw [e1, e2] at h1
    rw [cH_one] at h2
    rw [cH_nil]
    simp only [n1, Bool.false_eq_true, if_false] at h1 h2
    omega
  · by_cases eb : b = a
    · subst eb; rw [upd_same] at e; cases e; exact ⟨hk, ha, h64⟩
    · rw [upd_other _ _ eb] at e; exact H.lal b j e
/-- a block is given back: it is in hand -/
theorem Bud.back {a k : Nat} (H : Bud fr ln []) (e : ln a = some k) : Bud fr (upd ln a none) [(a, k)] := by
  obtain ⟨hk, ha, h64⟩ := H.lal a k e
  refine ⟨fun p hp => ?_, H.rising, H.fal, fun b j e' => ?_, fun b hb => ?_, H.apart⟩
  · have h1 := cL_upd ln p h64 none
    have h2 := H.cover p hp
    have e1 : lnc ln p a = cov p a k := by unfold lnc; rw [e]
    have e2 : lnc (upd ln a none) p a = false := by unfold lnc; rw [upd_same]
    rw [e1, e2] at h1
    rw [cH_nil] at h2
    rw [cH_one]
    simp only [n1, Bool.false_eq_true, if_false] at h1 ⊢
    omega
  · by_cases eb : b = a
    · subst eb; rw [upd_same] at e'; cases e'
    · rw [upd_other _ _ eb] at e'; exact H.lal b j e'
  · simp at hb; subst hb; exact ⟨hk, ha, h64⟩
/-- and one with its other half -/
theorem Bud.merge {a k : Nat} (H : Bud fr ln [(a, k)]) (hk6 : k < 6) (hm : a ^^^ 2 ^ k ∈ fr k) : Bud (upd fr k ((fr k).erase (a ^^^ 2 ^ k))) ln [(a - a % 2 ^ (k + 1), k + 1)] := by
  obtain ⟨hk, ha, h64⟩ := H.hal _ (List.mem_singleton.2 rfl)
  simp only at hk ha h64
  have hb := H.fal k (by omega) _ hm
  have hbase : (a - a % 2 ^ (k + 1)) % 2 ^ (k + 1) = 0 ∧ a - a % 2 ^ (k + 1) < 64 := ⟨by
    have := Nat.mod_add_div a (2 ^ (k + 1))
    rw [show a - a % 2 ^ (k + 1) = 2 ^ (k + 1) * (a / 2 ^ (k + 1)) by omega]
    exact Nat.mul_mod_right _ _, by omega⟩
  have hcov : ∀ p, n1 (cov p a k) + n1 (cov p (a ^^^ 2 ^ k) k) = n1 (cov p (a - a % 2 ^ (k + 1)) (k + 1)) := by
    intro p
    rw [cov_half]
    rcases xor_cases k hk6 a h64 ha with ⟨h1, h2, _⟩ | ⟨h1, h2, _⟩
    · rw [h1, h2, Nat.sub_zero]
    · rw [h1, show a - 2 ^ k = a ^^^ 2 ^ k by omega, h2]; omega
  refine ⟨fun p hp => ?_, fun j => ?_, fun j hj x hx => ?_, H.lal, fun b hb => ?_, fun j hj x hx => ?_⟩
  · have h1 := cF_upd fr p (show k ≤ 6 by omega) ((fr k).erase (a ^^^ 2 ^ k))
    have h2 := H.cover p hp
    have h3 := hcov p
    rw [(List.perm_cons_erase hm).countP_eq, List.countP_cons] at h1
    rw [cH_one] at h2 ⊢
    rw [← h3]
    simp only [n1] at h2 ⊢
    omega
  · by_cases ej : j = k
    · subst ej; rw [upd_same]; exact (H.rising j).sublist List.erase_sublist
    · rw [upd_other _ _ ej]; exact H.rising j
  · by_cases ej : j = k
    · subst ej; rw [upd_same] at hx; exact H.fal j hj x (List.mem_of_mem_erase hx)
    · rw [upd_other _ _ ej] at hx; exact H.fal j hj x hx
  · simp at hb; subst hb; exact ⟨by simp only; omega, hbase⟩
  · by_cases ej : j = k
    · subst ej; rw [upd_same] at hx ⊢; intro hm'; exact H.apart j hj x (List.mem_of_mem_erase hx) (List.mem_of_mem_erase hm')
    · rw [upd_other _ _ ej] at hx ⊢; exact H.apart j hj x hx
/-- or is free as it is -/
theorem Bud.put {a k : Nat} (H : Bud fr ln [(a, k)]) (hm : k < 6 → a ^^^ 2 ^ k ∉ fr k) : a ∉ fr k ∧ Bud (upd fr k (putN (fr k) a)) ln [] := by
  obtain ⟨hk, ha, h64⟩ := H.hal _ (List.mem_singleton.2 rfl)
  simp only at hk ha h64
  have hax : a ∉ fr k := fun hm => by
    have h1 := (H.hand (p := a) h64 (cov_self _ _)).1
    have h2 := cF_of (p := a) (by omega) hm (cov_self _ _)
    omega
  refine ⟨hax, fun p hp => ?_, fun j => ?_, fun j hj x hx => ?_, H.lal, fun b hb => (by cases hb), fun j hj x hx => ?_⟩
  · have h1 := cF_upd fr p (show k ≤ 6 by omega) (putN (fr k) a)
    have h2 := H.cover p hp
    unfold putN at h1 ⊢
    rw [countP_insAt] at h1
    rw [cH_one] at h2
    rw [cH_nil]
    omega
  · by_cases ej : j = k
    · subst ej; rw [upd_same]; exact putN_rising (H.rising j) hax
    · rw [upd_other _ _ ej]; exact H.rising j
  · by_cases ej : j = k
    · subst ej
      rw [upd_same, mem_putN] at hx
      rcases hx with rfl | hx
      · exact ⟨ha, h64⟩
      · exact H.fal j hj x hx
    · rw [upd_other _ _ ej] at hx; exact H.fal j hj x hx
  · by_cases ej : j = k
    · subst ej
      rw [upd_same] at hx ⊢
      rw [mem_putN] at hx ⊢
      rcases hx with rfl | hx
      · rintro (h1 | h1)
        · have h2 := congrArg (x ^^^ ·) h1
          simp only [← Nat.xor_assoc, Nat.xor_self, Nat.zero_xor] at h2
          have := Nat.two_pow_pos j
          omega
        · exact hm hj h1
      · rintro (h1 | h1)
        · have h2 := congrArg (· ^^^ 2 ^ j) h1
          simp only [Nat.xor_assoc, Nat.xor_self, Nat.xor_zero] at h2
          exact hm hj (h2 ▸ hx)
        · exact H.apart j hj x hx h1
    · rw [upd_other _ _ ej] at hx ⊢; exact H.apart j hj x hx

/-- a part of the places in which nothing is lent is in one free block -/
theorem Bud.whole (H : Bud fr ln []) : ∀ k, k ≤ 6 → ∀ a, a < 64 → a % 2 ^ k = 0 → (∀ p, a ≤ p → p < a + 2 ^ k → cL ln p = 0) → ∃ j b, k ≤ j ∧ j ≤ 6 ∧ b ∈ fr j ∧ b ≤ a ∧ a + 2 ^ k ≤ b + 2 ^ j := by
  intro k
  induction k with
  | zero =>
    intro _ a h64 _ hl
    have h1 := H.cover a h64
    rw [cH_nil, hl a (Nat.le_refl _) (by simp)] at h1
    unfold cF at h1
    have : ∃ k ∈ List.range 7, 0 < (fr k).countP fun b => cov a b k := by
      apply Classical.byContradiction
      intro hn
      have h0 : ((List.range 7).map fun k => (fr k).countP fun b => cov a b k).sum = 0 := by
        rw [List.sum_eq_zero_iff_forall_eq_nat]
        intro x hx
        obtain ⟨k, hk, rfl⟩ := List.mem_map.1 hx
        exact Nat.eq_zero_of_not_pos fun h => hn ⟨k, hk, h⟩
      omega
    obtain ⟨k, hk, hc⟩ := this
    obtain ⟨b, hb, hcb⟩ := List.countP_pos_iff.1 hc
    unfold cov at hcb
    simp only [decide_eq_true_eq] at hcb
    refine ⟨k, b, Nat.zero_le _, by have := List.mem_range.1 hk; omega, hb, hcb.1, by omega⟩
  | succ k ih =>
    intro hk a h64 ha hl
    obtain ⟨g1, g2, g3, g4, g5⟩ := al_half k (by omega) a h64 ha
    have hq := Nat.pow_succ 2 k
    obtain ⟨j, b, hj, hj6, hb, hba, hbe⟩ := ih (by omega) a h64 g1 fun p h1 h2 => hl p h1 (by omega)
    obtain ⟨j', b', hj', hj6', hb', hba', hbe'⟩ := ih (by omega) (a + 2 ^ k) g3 g2 fun p h1 h2 => hl p (by omega) (by omega)
    -- a block of a greater order that has one place of it has all
    have big : ∀ {j b : Nat}, k + 1 ≤ j → j ≤ 6 → b ∈ fr j → ∀ p, a ≤ p → p < a + 2 ^ (k + 1) → b ≤ p → p < b + 2 ^ j → b ≤ a ∧ a + 2 ^ (k + 1) ≤ b + 2 ^ j := by
      intro j b h1 h2 h3 p p1 p2 p3 p4
      obtain ⟨hb1, hb2⟩ := H.fal j h2 b h3
      obtain ⟨d, hd⟩ := Nat.exists_eq_add_of_le h1
      have e1 : 2 ^ j = 2 ^ (k + 1) * 2 ^ d := by rw [hd, Nat.pow_add]
      obtain ⟨x, hx⟩ := Nat.dvd_of_mod_eq_zero hb1
      obtain ⟨y, hy⟩ := Nat.dvd_of_mod_eq_zero ha
      rw [e1] at hx p4 ⊢
      generalize 2 ^ (k + 1) = q at *
      generalize 2 ^ d = r at *
      have hq0 : 0 < q := by
        rcases Nat.eq_zero_or_pos q with h | h
        · subst h; simp at p2; omega
        · exact h
      subst hx
      subst hy
      have e2 : q * r * x = q * (r * x) := Nat.mul_assoc ..
      rw [e2] at p3 p4 ⊢
      have u1 : r * x < y + 1 := Nat.lt_of_mul_lt_mul_left (a := q) (by rw [Nat.mul_add]; omega)
      have u2 : y < r * x + r := Nat.lt_of_mul_lt_mul_left (a := q) (by rw [Nat.mul_add]; omega)
      constructor
      · exact Nat.mul_le_mul_left q (by omega)
      · rw [← Nat.mul_add]
        have := Nat.mul_le_mul_left q (show y + 1 ≤ r * x + r by omega)
        rw [Nat.mul_add q y 1] at this
        omega
    have hq0 := Nat.two_pow_pos k
    rcases Nat.eq_or_lt_of_le hj with e | hlt
    · rcases Nat.eq_or_lt_of_le hj' with e' | hlt'
      · subst e
        subst e'
        have e1 : b = a := by omega
        have e2 : b' = a + 2 ^ k := by omega
        subst e1; subst e2
        exact absurd (g5 ▸ hb') (H.apart k (by omega) b hb)
      · have := big (by omega) hj6' hb' (a + 2 ^ k) (by omega) (by omega) hba' (by omega)
        exact ⟨j', b', by omega, hj6', hb', this⟩
    · have := big (by omega) hj6 hb a (by omega) (by omega) hba (by omega)
      exact ⟨j, b, by omega, hj6, hb, this⟩
/-- nothing is lent: all is one block -/
theorem Bud.one (H : Bud fr ln []) (hn : ∀ a, ln a = none) : fr 6 = [0] ∧ ∀ k, k < 6 → fr k = [] := by
  have hl : ∀ p, cL ln p = 0 := fun p => by unfold cL lnc; simp [hn]
  obtain ⟨j, b, h1, h2, h3, h4, h5⟩ := H.whole 6 (Nat.le_refl _) 0 (by omega) (by simp) fun p _ _ => hl p
  obtain rfl : j = 6 := by omega
  obtain rfl : b = 0 := by omega
  have none_else : ∀ k, k ≤ 6 → ∀ x ∈ fr k, k = 6 ∧ x = 0 := by
    intro k hk x hx
    apply Classical.byContradiction
    intro hne
    have hx64 := (H.fal k hk x hx).2
    have := cF_two (p := x) (by omega) h3 (by unfold cov; simp; omega) hk hx (cov_self _ _) (fun e => hne ⟨e.1.symm, e.2.symm⟩)
    have h0 := H.cover x hx64
    omega
  constructor
  · have hr := H.rising 6
    rcases e : fr 6 with _ | ⟨y, l⟩
    · rw [e] at h3; cases h3
    · have hy := (none_else 6 (by omega) y (by rw [e]; simp)).2
      subst hy
      rcases l with _ | ⟨z, l⟩
      · rfl
      · have hz := (none_else 6 (by omega) z (by rw [e]; simp)).2
        rw [e] at hr
        have := (List.pairwise_cons.1 hr).1 z (by simp)
        omega
  · intro k hk
    rcases e : fr k with _ | ⟨y, l⟩
    · rfl
    · have := (none_else k (by omega) y (by rw [e]; simp)).1
      omega
end
end Go.Proofs.YtibdddkcjijlaaaDoor
