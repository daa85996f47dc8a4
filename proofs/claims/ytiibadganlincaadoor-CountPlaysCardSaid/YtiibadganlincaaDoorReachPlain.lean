/- What can be come to: as a set, as bits, and as an order; no program in sight. -/
import Derived.Test.YtiibadganlincaaDoorCheneyPlain
import Derived.Test.YtiibadganlincaaDoorBits
namespace Go.Proofs.YtiibadganlincaaDoor

/-- what can be come to from some -/
inductive Comes (outs : List (List Int)) (roots : List Int) : Int → Prop
  | root {x : Int} : x ∈ roots → Comes outs roots x
  | next {x y : Int} : Comes outs roots x → y ∈ adj outs x → Comes outs roots y

/-- the numbers of a list, as bits -/
def orIn (s : Nat) (xs : List Int) : Nat := xs.foldl (fun s x => s ||| 2 ^ x.toNat) s
/-- what is pointed to from some nodes, beside -/
def flow (outs : List (List Int)) (s : Nat) (pre : List Nat) : Nat := pre.foldl (fun (t : Nat) (i : Nat) => orIn t (adj outs (i : Int))) s

/-- what can be come to, as bits -/
def reachN (outs : List (List Int)) (roots : List Int) : Nat := orIn 0 (order outs roots)

section
variable {outs : List (List Int)} {roots : List Int}

theorem orIn_snoc (s : Nat) (xs : List Int) (x : Int) : orIn s (xs ++ [x]) = orIn s xs ||| 2 ^ x.toNat := by simp [orIn]
theorem flow_snoc (s : Nat) (pre : List Nat) (i : Nat) : flow outs s (pre ++ [i]) = orIn (flow outs s pre) (adj outs (i : Int)) := by simp [flow]

theorem testBit_orIn (xs : List Int) : ∀ (s i : Nat), (orIn s xs).testBit i = true ↔ s.testBit i = true ∨ ∃ x ∈ xs, x.toNat = i := by
  induction xs with
  | nil => intro s i; simp [orIn]
  | cons x xs ih =>
    intro s i
    show (orIn (s ||| 2 ^ x.toNat) xs).testBit i = true ↔ _
    rw [ih, Nat.testBit_or, Nat.testBit_two_pow]
    simp only [Bool.or_eq_true, decide_eq_true_eq, List.mem_cons, exists_eq_or_imp]
    exact or_assoc

theorem testBit_flow (pre : List Nat) : ∀ (s i : Nat), (flow outs s pre).testBit i = true ↔ s.testBit i = true ∨ ∃ k ∈ pre, ∃ x ∈ adj outs (k : Int), x.toNat = i := by
  induction pre with
  | nil => intro s i; simp [flow]
  | cons k pre ih =>
    intro s i
    show (flow outs (orIn s (adj outs (k : Int))) pre).testBit i = true ↔ _
    rw [ih, testBit_orIn]
    simp only [List.mem_cons, exists_eq_or_imp]
    exact or_assoc

theorem le_orIn (xs : List Int) : ∀ s : Nat, s ≤ orIn s xs := by
  induction xs with
  | nil => intro s; exact Nat.le_refl _
  | cons x xs ih => intro s; exact Nat.le_trans Nat.left_le_or (ih _)
theorem le_flow (pre : List Nat) : ∀ s : Nat, s ≤ flow outs s pre := by
  induction pre with
  | nil => intro s; exact Nat.le_refl _
  | cons x xs ih => intro s; exact Nat.le_trans (le_orIn _ _) (ih _)

theorem orIn_lt {xs : List Int} : ∀ {s : Nat}, s < 4096 → (∀ x ∈ xs, x < 12) → orIn s xs < 4096 := by
  induction xs with
  | nil => intro s h _; exact h
  | cons x xs ih =>
    intro s h hx
    refine ih ?_ fun y hy => hx y (by simp [hy])
    have h1 : 2 ^ x.toNat < 2 ^ 12 := Nat.pow_lt_pow_right (by decide) (by have := hx x (by simp); omega)
    exact Nat.or_lt_two_pow (n := 12) h h1
theorem flow_lt (hok : Ok outs roots) {pre : List Nat} : ∀ {s : Nat}, s < 4096 → flow outs s pre < 4096 := by
  induction pre with
  | nil => intro s h; exact h
  | cons k pre ih => intro s h; exact ih (orIn_lt h fun x hx => by have := hok.adjIn x hx; have := hok.n12; omega)

theorem Comes.sub {P : Int → Prop} (hr : ∀ x ∈ roots, P x) (hn : ∀ x, P x → ∀ y ∈ adj outs x, P y) {x : Int} (h : Comes outs roots x) : P x := by
  induction h with
  | root h => exact hr _ h
  | next _ h ih => exact hn _ ih _ h

theorem Comes.range (hok : Ok outs roots) {x : Int} (h : Comes outs roots x) : 0 ≤ x ∧ x < outs.length := h.sub hok.root fun _ _ => hok.adjIn

theorem cpOrd_sound : ∀ (f k : Nat) (o : List Int), (∀ x ∈ o, Comes outs roots x) → ∀ x ∈ cpOrd outs f k o, Comes outs roots x := by
  intro f
  induction f with
  | zero => intro k o h; exact h
  | succ f ih =>
    intro k o h
    unfold cpOrd
    split
    · rename_i hk
      refine ih _ _ fun x hx => ?_
      rcases mem_fwd.1 hx with h' | h'
      · exact h x h'
      · exact .next (h _ (List.getElem_mem hk)) h'
    · exact h

theorem mem_order (hok : Ok outs roots) {x : Int} : x ∈ order outs roots ↔ Comes outs roots x := by
  constructor
  · refine cpOrd_sound _ _ _ (fun x hx => ?_) x
    rcases mem_fwd.1 hx with h | h
    · cases h
    · exact .root h
  · exact fun h => h.sub (order_root hok) (order_closed hok)

theorem reachN_bit (hok : Ok outs roots) {i : Nat} : (reachN outs roots).testBit i = true ↔ Comes outs roots (i : Int) := by
  unfold reachN
  rw [testBit_orIn, ← mem_order hok]
  simp only [Nat.zero_testBit, Bool.false_eq_true, false_or]
  constructor
  · rintro ⟨x, hx, rfl⟩
    have := (order_range hok x hx).1
    rw [Int.toNat_of_nonneg this]
    exact hx
  · intro h
    exact ⟨_, h, rfl⟩
theorem reachN_lt (hok : Ok outs roots) : reachN outs roots < 4096 := orIn_lt (by decide) fun x hx => by have := order_range hok x hx; have := hok.n12; omega

/-- what holds of a set on its way -/
structure RInv (outs : List (List Int)) (roots : List Int) (s : Nat) : Prop where
  lt : s < 4096
  root : ∀ x ∈ roots, s.testBit x.toNat = true
  sound : ∀ i : Nat, s.testBit i = true → Comes outs roots (i : Int)

theorem RInv.start (hok : Ok outs roots) : RInv outs roots (orIn 0 roots) :=
  ⟨orIn_lt (by decide) fun x hx => by have := hok.root x hx; have := hok.n12; omega, fun x hx => (testBit_orIn _ _ _).2 (.inr ⟨x, hx, rfl⟩), fun i hi => by
    rcases (testBit_orIn _ _ _).1 hi with h | ⟨x, hx, rfl⟩
    · simp at h
    · rw [Int.toNat_of_nonneg (hok.root x hx).1]
      exact .root hx⟩
theorem RInv.flow (hok : Ok outs roots) {s : Nat} (h : RInv outs roots s) : RInv outs roots (flow outs s (bitsTo s 12)) :=
  ⟨flow_lt hok h.lt, fun x hx => (testBit_flow _ _ _).2 (.inl (h.root x hx)), fun i hi => by
    rcases (testBit_flow _ _ _).1 hi with h1 | ⟨k, hk, x, hx, rfl⟩
    · exact h.sound i h1
    · rw [Int.toNat_of_nonneg (hok.adjIn x hx).1]
      exact .next (h.sound k (mem_bitsTo.1 hk).2) hx⟩
theorem RInv.done (hok : Ok outs roots) {s : Nat} (h : RInv outs roots s) (hf : Go.Proofs.YtiibadganlincaaDoor.flow outs s (bitsTo s 12) = s) : s = reachN outs roots := by
  apply Nat.eq_of_testBit_eq
  intro i
  rw [Bool.eq_iff_iff, reachN_bit hok]
  refine ⟨h.sound i, fun hc => ?_⟩
  have := hc.sub (P := fun x => 0 ≤ x ∧ s.testBit x.toNat = true) (fun x hx => ⟨(hok.root x hx).1, h.root x hx⟩) (fun x hx y hy => ⟨(hok.adjIn y hy).1, by
    rw [← hf]
    refine (testBit_flow _ _ _).2 (.inr ⟨x.toNat, mem_bitsTo.2 ⟨?_, hx.2⟩, y, ?_, rfl⟩)
    · rcases Nat.lt_or_ge x.toNat 12 with h' | h'
      · exact h'
      · have : s.testBit x.toNat = false := Nat.testBit_lt_two_pow (Nat.lt_of_lt_of_le h.lt (Nat.pow_le_pow_right (n := 2) (by decide) h'))
        rw [this] at hx
        cases hx.2
    · rw [Int.toNat_of_nonneg hx.1]; exact hy⟩)
  exact this.2

/-- the nodes below k that can be come to from themselves, as bits -/
def roundsTo (outs : List (List Int)) : Nat → Nat
  | 0 => 0
  | k + 1 => if (reachN outs (adj outs (k : Int))).testBit k then roundsTo outs k ||| 2 ^ k else roundsTo outs k
def roundsN (outs : List (List Int)) : Nat := roundsTo outs outs.length

theorem roundsTo_bit (k : Nat) (i : Nat) : (roundsTo outs k).testBit i = true ↔ i < k ∧ (reachN outs (adj outs (i : Int))).testBit i = true := by
  induction k with
  | zero => simp [roundsTo]
  | succ k ih =>
    unfold roundsTo
    split
    · rename_i h
      rw [Nat.testBit_or, Nat.testBit_two_pow, Bool.or_eq_true, ih]
      simp only [decide_eq_true_eq]
      constructor
      · rintro (⟨h1, h2⟩ | rfl)
        · exact ⟨by omega, h2⟩
        · exact ⟨by omega, h⟩
      · rintro ⟨h1, h2⟩
        by_cases e : k = i
        · exact .inr e
        · exact .inl ⟨by omega, h2⟩
    · rename_i h
      rw [ih]
      constructor
      · rintro ⟨h1, h2⟩; exact ⟨by omega, h2⟩
      · rintro ⟨h1, h2⟩
        refine ⟨?_, h2⟩
        rcases Nat.lt_or_ge i k with h' | h'
        · exact h'
        · obtain rfl : i = k := by omega
          exact absurd h2 h
theorem roundsTo_lt (k : Nat) (hk : k ≤ 12) : roundsTo outs k < 4096 := by
  induction k with
  | zero => simp [roundsTo]
  | succ k ih =>
    unfold roundsTo
    split
    · exact Nat.or_lt_two_pow (n := 12) (ih (by omega)) (Nat.pow_lt_pow_right (by decide) (by omega))
    · exact ih (by omega)
theorem Ok.at (hok : Ok outs roots) {i : Nat} : Ok outs (adj outs (i : Int)) :=
  ⟨hok.n12, by have := hok.adjFew (x := (i : Int)); omega, fun _ hx => hok.adjIn _ hx, hok.few, hok.out⟩
theorem roundsN_bit (hok : Ok outs roots) {i : Nat} : (roundsN outs).testBit i = true ↔ i < outs.length ∧ Comes outs (adj outs (i : Int)) (i : Int) := by
  unfold roundsN
  rw [roundsTo_bit, reachN_bit hok.at]
theorem roundsN_lt (hok : Ok outs roots) : roundsN outs < 4096 := roundsTo_lt _ hok.n12
end
end Go.Proofs.YtiibadganlincaaDoor
