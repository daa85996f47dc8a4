/- Taking nodes away that are pointed to by none that is left: what stays holds all that can be come to from itself; and nothing stays where nothing can. No program in sight. -/
import Derived.Test.YtiibadganlincaaDoorReachPlain
namespace Go.Proofs.YtiibadganlincaaDoor

def pt (outs : List (List Int)) (left : List Int) (i : Int) : Bool := !(hasB left i) || left.any fun x => hasB (adj outs x) i
def sStep (outs : List (List Int)) (left : List Int) (i : Int) : List Int := if pt outs left i = true then left else left.erase i
def sPass (outs : List (List Int)) (left : List Int) (k : Nat) : List Int := (upTo k).foldl (sStep outs) left
def sAll (outs : List (List Int)) (left : List Int) : Nat → List Int
  | 0 => left
  | k + 1 => sPass outs (sAll outs left k) outs.length

section
variable {outs : List (List Int)} {roots : List Int}

theorem sPass_succ (left : List Int) (k : Nat) : sPass outs left (k + 1) = sStep outs (sPass outs left k) k := by simp [sPass, upTo_succ]
theorem sStep_sub (left : List Int) (i : Int) : (sStep outs left i).Sublist left := by
  unfold sStep
  split
  · exact List.Sublist.refl _
  · exact List.erase_sublist
theorem fold_sub (l : List Int) : ∀ left : List Int, (l.foldl (sStep outs) left).Sublist left := by
  induction l with
  | nil => intro left; exact List.Sublist.refl _
  | cons i l ih => intro left; exact (ih _).trans (sStep_sub left i)
theorem fold_same (l : List Int) : ∀ left : List Int, l.foldl (sStep outs) left = left → ∀ i ∈ l, sStep outs left i = left := by
  induction l with
  | nil => intro left _ i h; cases h
  | cons j l ih =>
    intro left h i hi
    have h1 : (l.foldl (sStep outs) (sStep outs left j)).Sublist (sStep outs left j) := fold_sub l _
    have h' : l.foldl (sStep outs) (sStep outs left j) = left := h
    rw [h'] at h1
    have hj : sStep outs left j = left := (sStep_sub left j).eq_of_length_le h1.length_le
    rcases List.mem_cons.1 hi with rfl | hi
    · exact hj
    · rw [hj] at h'
      exact ih left h' i hi
theorem sAll_sub (left : List Int) : ∀ k, (sAll outs left k).Sublist left
  | 0 => List.Sublist.refl _
  | k + 1 => (fold_sub _ _).trans (sAll_sub left k)

theorem Comes.trans {R : List Int} {i p : Int} (h : Comes outs R i) (k : Comes outs (adj outs i) p) : Comes outs R p :=
  k.sub (fun _ hx => .next h hx) fun _ hx _ hy => .next hx hy

/-- can be come to from itself -/
def Cyc (outs : List (List Int)) (x : Int) : Prop := Comes outs (adj outs x) x
theorem Cyc.pred {x : Int} (h : Cyc outs x) : ∃ p, x ∈ adj outs p ∧ Cyc outs p := by
  cases h with
  | root h => exact ⟨x, h, .root h⟩
  | @next p _ hp hx => exact ⟨p, hx, Comes.trans (.root hx) hp⟩
theorem Cyc.range (hok : Ok outs roots) {x : Int} (h : Cyc outs x) : 0 ≤ x ∧ x < outs.length := by
  refine h.sub (P := fun y => 0 ≤ y ∧ y < outs.length) (fun y hy => hok.adjIn y hy) fun _ _ y hy => hok.adjIn y hy

theorem cyc_step {left : List Int} (h : ∀ x, Cyc outs x → x ∈ left) (i : Int) : ∀ x, Cyc outs x → x ∈ sStep outs left i := by
  intro x hx
  unfold sStep
  split
  · exact h x hx
  · rename_i hp
    by_cases e : x = i
    · subst e
      exfalso
      obtain ⟨p, hp1, hp2⟩ := hx.pred
      apply hp
      unfold pt
      rw [Bool.or_eq_true]
      exact .inr (List.any_eq_true.2 ⟨p, h p hp2, by simpa [hasB] using hp1⟩)
    · exact (List.mem_erase_of_ne e).2 (h x hx)
theorem cyc_fold (l : List Int) : ∀ left : List Int, (∀ x, Cyc outs x → x ∈ left) → ∀ x, Cyc outs x → x ∈ l.foldl (sStep outs) left := by
  induction l with
  | nil => intro left h; exact h
  | cons i l ih => intro left h; exact ih _ (cyc_step h i)
theorem cyc_all {left : List Int} (h : ∀ x, Cyc outs x → x ∈ left) : ∀ k x, Cyc outs x → x ∈ sAll outs left k
  | 0 => h
  | k + 1 => cyc_fold _ _ (cyc_all h k)

theorem all_stays (left : List Int) (hl : left.length ≤ outs.length) (k : Nat) : sPass outs (sAll outs left k) outs.length = sAll outs left k ∨ (sAll outs left k).length + k ≤ outs.length := by
  induction k with
  | zero => exact .inr (by simpa [sAll] using hl)
  | succ k ih =>
    by_cases hs : sPass outs (sAll outs left k) outs.length = sAll outs left k
    · left
      show sPass outs (sPass outs (sAll outs left k) outs.length) outs.length = sPass outs (sAll outs left k) outs.length
      rw [hs, hs]
    · rcases ih with ih | ih
      · exact absurd ih hs
      · right
        have h1 : (sPass outs (sAll outs left k) outs.length).Sublist (sAll outs left k) := fold_sub _ _
        have h2 : (sPass outs (sAll outs left k) outs.length).length < (sAll outs left k).length := by
          rcases Nat.lt_or_ge (sPass outs (sAll outs left k) outs.length).length (sAll outs left k).length with h | h
          · exact h
          · exact absurd (h1.eq_of_length_le h) hs
        show (sPass outs (sAll outs left k) outs.length).length + (k + 1) ≤ _
        omega

theorem all_pointed (left : List Int) (hl : left.length ≤ outs.length) : ∀ i : Int, 0 ≤ i → i < outs.length → i ∈ sAll outs left outs.length → ∃ p ∈ sAll outs left outs.length, i ∈ adj outs p := by
  intro i h0 h1 hi
  have hs : sPass outs (sAll outs left outs.length) outs.length = sAll outs left outs.length := by
    rcases all_stays left hl outs.length with h | h
    · exact h
    · have : sAll outs left outs.length = [] := List.eq_nil_of_length_eq_zero (by omega)
      rw [this] at hi
      cases hi
  have h2 := fold_same _ _ hs i (mem_upTo.2 ⟨h0, h1⟩)
  unfold sStep at h2
  split at h2
  · rename_i hp
    unfold pt at hp
    rw [Bool.or_eq_true] at hp
    rcases hp with hp | hp
    · simp [hasB, hi] at hp
    · obtain ⟨p, hp1, hp2⟩ := List.any_eq_true.1 hp
      exact ⟨p, hp1, by simpa [hasB] using hp2⟩
  · have := List.length_erase_of_mem hi
    rw [h2] at this
    have hpos : 0 < (sAll outs left outs.length).length := List.length_pos_of_mem hi
    omega

theorem countP_lt {α : Type} {p q : α → Bool} {l : List α} (h : ∀ x ∈ l, p x = true → q x = true) {a : α} (ha : a ∈ l) (hq : q a = true) (hp : p a = false) : l.countP p < l.countP q := by
  induction l with
  | nil => cases ha
  | cons b l ih =>
    rw [List.countP_cons, List.countP_cons]
    have hm : l.countP p ≤ l.countP q := List.countP_mono_left fun x hx => h x (by simp [hx])
    rcases List.mem_cons.1 ha with rfl | ha
    · rw [hq, hp]; simp; omega
    · have := ih (fun x hx => h x (by simp [hx])) ha
      have hb := h b (by simp)
      cases hpb : p b <;> cases hqb : q b <;> simp_all <;> omega

theorem none_left (hok : Ok outs roots) (hn : ∀ x, ¬ Cyc outs x) {L : List Int} (hr : ∀ x ∈ L, 0 ≤ x ∧ x < outs.length) (hp : ∀ i ∈ L, ∃ p ∈ L, i ∈ adj outs p) : L = [] := by
  have key : ∀ m (x : Int), x ∈ L → (List.range outs.length).countP (fun y : Nat => (reachN outs (adj outs (y : Int))).testBit x.toNat) ≤ m → False := by
    intro m
    induction m with
    | zero =>
      intro x hx hm
      obtain ⟨p, hpL, hpx⟩ := hp x hx
      have hr' := hr p hpL
      have : 0 < (List.range outs.length).countP (fun y : Nat => (reachN outs (adj outs (y : Int))).testBit x.toNat) := by
        rw [List.countP_pos_iff]
        refine ⟨p.toNat, List.mem_range.2 (by omega), ?_⟩
        rw [reachN_bit hok.at, Int.toNat_of_nonneg hr'.1, Int.toNat_of_nonneg (hr x hx).1]
        exact .root hpx
      omega
    | succ m ih =>
      intro x hx hm
      obtain ⟨p, hpL, hpx⟩ := hp x hx
      have hr' := hr p hpL
      refine ih p hpL ?_
      have := countP_lt (l := List.range outs.length) (p := fun y : Nat => (reachN outs (adj outs (y : Int))).testBit p.toNat) (q := fun y : Nat => (reachN outs (adj outs (y : Int))).testBit x.toNat) (fun y _ h => ?_) (a := p.toNat) (List.mem_range.2 (by omega)) ?_ ?_
      · omega
      · rw [reachN_bit hok.at, Int.toNat_of_nonneg (hr x hx).1]
        rw [reachN_bit hok.at, Int.toNat_of_nonneg hr'.1] at h
        exact .next h hpx
      · show (reachN outs (adj outs (p.toNat : Int))).testBit x.toNat = true
        rw [reachN_bit hok.at, Int.toNat_of_nonneg hr'.1, Int.toNat_of_nonneg (hr x hx).1]
        exact .root hpx
      · show (reachN outs (adj outs (p.toNat : Int))).testBit p.toNat = false
        cases e : (reachN outs (adj outs (p.toNat : Int))).testBit p.toNat with
        | false => rfl
        | true =>
          exfalso
          rw [reachN_bit hok.at, Int.toNat_of_nonneg hr'.1] at e
          exact hn p e
  rcases L with _ | ⟨x, L⟩
  · rfl
  · exact (key _ x (by simp) (Nat.le_refl _)).elim

/-- what is left of all -/
def leftN (outs : List (List Int)) : List Int := sAll outs (upTo outs.length) outs.length
theorem leftN_range : ∀ x ∈ leftN outs, 0 ≤ x ∧ x < outs.length := fun x hx => mem_upTo.1 ((sAll_sub _ _).subset hx)
theorem cyc_bit (hok : Ok outs roots) {i : Nat} : (roundsN outs).testBit i = true ↔ Cyc outs (i : Int) := by
  rw [roundsN_bit hok]
  exact ⟨fun h => h.2, fun h => ⟨by have := Cyc.range hok h; omega, h⟩⟩
theorem left_cyc (hok : Ok outs roots) {i : Nat} (h : bt (roundsN outs) i = true) : hasB (leftN outs) (i : Int) = true := by
  unfold bt at h
  rw [cyc_bit hok] at h
  have : (i : Int) ∈ leftN outs := cyc_all (left := upTo outs.length) (fun x hx => mem_upTo.2 (Cyc.range hok hx)) outs.length _ h
  simpa [hasB] using this
theorem left_none (hok : Ok outs roots) : (roundsN outs = 0) ↔ (leftN outs).length = 0 := by
  constructor
  · intro h
    have hn : ∀ x, ¬ Cyc outs x := fun x hx => by
      have hr := Cyc.range hok hx
      have := (cyc_bit (i := x.toNat) hok).2 (by rw [Int.toNat_of_nonneg hr.1]; exact hx)
      rw [h] at this
      simp at this
    have := none_left (L := leftN outs) hok hn leftN_range fun i hi => all_pointed _ (by rw [upTo_length]; exact Nat.le_refl _) i (leftN_range i hi).1 (leftN_range i hi).2 hi
    rw [this]
    rfl
  · intro h
    apply Nat.eq_of_testBit_eq
    intro i
    rw [Nat.zero_testBit]
    cases e : (roundsN outs).testBit i with
    | false => rfl
    | true =>
      have := left_cyc hok (i := i) e
      rw [List.eq_nil_of_length_eq_zero h] at this
      simp [hasB] at this
end
end Go.Proofs.YtiibadganlincaaDoor
