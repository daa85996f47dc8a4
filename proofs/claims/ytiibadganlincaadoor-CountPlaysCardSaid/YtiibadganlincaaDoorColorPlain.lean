/- Colors of nodes, plainly: what a step and a change do, what stays true, and when no node is grey. No program in sight. -/
import Derived.Test.YtiibadganlincaaDoorReachPlain
namespace Go.Proofs.YtiibadganlincaaDoor

/-- the color of a node -/
def cAt (c : List Int) (i : Nat) : Int := c.getD i 0
/-- a node is grey at least -/
def shade (c : List Int) (x : Int) : List Int := c.set x.toNat (max (cAt c x.toNat) 1)
def shades (c xs : List Int) : List Int := xs.foldl shade c
def newC (outs : List (List Int)) (roots : List Int) : List Int := shades (List.replicate outs.length 0) roots
/-- the least grey node is black, and what it points to is grey at least -/
def stepC (outs : List (List Int)) (c : List Int) : List Int := if (1 : Int) ∈ c then shades (c.set (c.idxOf 1) 2) (adj outs (c.idxOf 1 : Int)) else c
def stepsC (outs : List (List Int)) : Nat → List Int → List Int
  | 0, c => c
  | k + 1, c => stepC outs (stepsC outs k c)

/-- what is wrong with a change -/
def pointE (outs : List (List Int)) (roots : List Int) (i k j : Int) : Nat :=
  if btw i 0 ((outs.length : Int) - 1) && btw j 0 ((outs.length : Int) - 1) && btw k 0 (((adj outs i).length : Int) - 1) then
    if bt (reachN outs roots) i.toNat && bt (reachN outs roots) j.toNat then 0 else 7
  else 1
def pointO (outs : List (List Int)) (roots : List Int) (i k j : Int) : List (List Int) := if pointE outs roots i k j = 0 then outs.set i.toNat ((adj outs i).set k.toNat j) else outs
def pointC (outs : List (List Int)) (roots : List Int) (i k j : Int) (c : List Int) : List Int := if pointE outs roots i k j = 0 then shade c j else c

theorem shades_snoc (c xs : List Int) (x : Int) : shades c (xs ++ [x]) = shade (shades c xs) x := by simp [shades]
theorem shade_length (c : List Int) (x : Int) : (shade c x).length = c.length := by simp [shade]
theorem shades_length (xs : List Int) : ∀ c : List Int, (shades c xs).length = c.length := by
  induction xs with
  | nil => intro c; rfl
  | cons x xs ih => intro c; exact (ih _).trans (shade_length _ _)
theorem newC_length (outs : List (List Int)) (roots : List Int) : (newC outs roots).length = outs.length := by simp [newC, shades_length]
theorem stepC_length (outs : List (List Int)) (c : List Int) : (stepC outs c).length = c.length := by
  unfold stepC; split
  · simp [shades_length]
  · rfl
theorem stepsC_length (outs : List (List Int)) (c : List Int) : ∀ k, (stepsC outs k c).length = c.length
  | 0 => rfl
  | k + 1 => (stepC_length _ _).trans (stepsC_length outs c k)
theorem pointO_length (outs : List (List Int)) (roots : List Int) (i k j : Int) : (pointO outs roots i k j).length = outs.length := by unfold pointO; split <;> simp
theorem pointC_length (outs : List (List Int)) (roots : List Int) (i k j : Int) (c : List Int) : (pointC outs roots i k j c).length = c.length := by
  unfold pointC; split
  · exact shade_length _ _
  · rfl

theorem cAt_eq {c : List Int} {i : Nat} (h : i < c.length) : cAt c i = c[i] := by
  unfold cAt
  rw [List.getD_eq_getElem?_getD, List.getElem?_eq_getElem h]
  rfl
theorem cAt_far {c : List Int} {i : Nat} (h : c.length ≤ i) : cAt c i = 0 := by
  unfold cAt
  rw [List.getD_eq_getElem?_getD, List.getElem?_eq_none h]
  rfl
theorem cAt_set {c : List Int} {n i : Nat} {v : Int} : cAt (c.set n v) i = if n = i ∧ n < c.length then v else cAt c i := by
  unfold cAt
  rw [List.getD_eq_getElem?_getD, List.getD_eq_getElem?_getD, List.getElem?_set]
  by_cases e : n = i
  · subst e
    by_cases h : n < c.length
    · simp [h]
    · simp [h, List.getElem?_eq_none (by omega : c.length ≤ n)]
  · simp [e]
theorem cAt_mem {c : List Int} {i : Nat} (h : i < c.length) : cAt c i ∈ c := by rw [cAt_eq h]; exact List.getElem_mem h

/-- a shade darkens, and no further than to grey -/
theorem shade_le (c : List Int) (x : Int) (i : Nat) : cAt c i ≤ cAt (shade c x) i := by
  unfold shade
  rw [cAt_set]
  split
  · rename_i h; rw [← h.1]; omega
  · exact Int.le_refl _
theorem shade_self {c : List Int} {x : Int} (h : x.toNat < c.length) : 1 ≤ cAt (shade c x) x.toNat := by
  unfold shade
  rw [cAt_set, if_pos ⟨rfl, h⟩]
  omega
theorem shade_two {c : List Int} {x : Int} {i : Nat} : cAt (shade c x) i = 2 ↔ cAt c i = 2 := by
  unfold shade
  rw [cAt_set]
  split
  · rename_i h; rw [← h.1]; omega
  · exact Iff.rfl
theorem shade_one {c : List Int} {x : Int} {i : Nat} (h : 1 ≤ cAt (shade c x) i) : 1 ≤ cAt c i ∨ i = x.toNat := by
  unfold shade at h
  rw [cAt_set] at h
  split at h
  · rename_i h'; exact .inr h'.1.symm
  · exact .inl h
theorem shades_le (xs : List Int) (i : Nat) : ∀ c : List Int, cAt c i ≤ cAt (shades c xs) i := by
  induction xs with
  | nil => intro c; exact Int.le_refl _
  | cons x xs ih => intro c; exact Int.le_trans (shade_le c x i) (ih _)
theorem shades_mem {xs : List Int} {x : Int} (hx : x ∈ xs) : ∀ {c : List Int}, x.toNat < c.length → 1 ≤ cAt (shades c xs) x.toNat := by
  induction xs with
  | nil => cases hx
  | cons y xs ih =>
    intro c h
    rcases List.mem_cons.1 hx with rfl | hx
    · exact Int.le_trans (shade_self h) (shades_le _ _ _)
    · exact ih hx (by rw [shade_length]; exact h)
theorem shades_two {xs : List Int} {i : Nat} : ∀ {c : List Int}, cAt (shades c xs) i = 2 ↔ cAt c i = 2 := by
  induction xs with
  | nil => intro c; exact Iff.rfl
  | cons x xs ih => intro c; exact ih.trans shade_two
theorem shades_one {xs : List Int} {i : Nat} : ∀ {c : List Int}, 1 ≤ cAt (shades c xs) i → 1 ≤ cAt c i ∨ ∃ x ∈ xs, i = x.toNat := by
  induction xs with
  | nil => intro c h; exact .inl h
  | cons x xs ih =>
    intro c h
    rcases ih h with h | ⟨y, hy, e⟩
    · rcases shade_one h with h | h
      · exact .inl h
      · exact .inr ⟨x, by simp, h⟩
    · exact .inr ⟨y, by simp [hy], e⟩

/-- colors are 0, 1, 2 -/
def Cols (c : List Int) : Prop := ∀ i, 0 ≤ cAt c i ∧ cAt c i ≤ 2
theorem Cols.shade {c : List Int} (h : Cols c) (x : Int) : Cols (shade c x) := by
  intro i
  unfold Go.Proofs.YtiibadganlincaaDoor.shade
  rw [cAt_set]
  have h1 := h i
  split
  · rename_i h'; rw [h'.1]; omega
  · exact h1
theorem Cols.shades {xs : List Int} : ∀ {c : List Int}, Cols c → Cols (shades c xs) := by
  induction xs with
  | nil => intro c h; exact h
  | cons x xs ih => intro c h; exact ih (h.shade x)
theorem Cols.set {c : List Int} (h : Cols c) {n : Nat} {v : Int} (h0 : 0 ≤ v) (h1 : v ≤ 2) : Cols (c.set n v) := by
  intro i
  rw [cAt_set]
  have := h i
  split <;> omega

/-- what stays true, whatever is changed -/
structure Col (outs : List (List Int)) (roots c : List Int) : Prop where
  len : c.length = outs.length
  cols : Cols c
  root : ∀ r ∈ roots, 1 ≤ cAt c r.toNat
  black : ∀ i, cAt c i = 2 → ∀ y ∈ adj outs (i : Int), 1 ≤ cAt c y.toNat

section
variable {outs : List (List Int)} {roots c : List Int}

theorem cols_zero (n : Nat) (i : Nat) : cAt (List.replicate n 0) i = 0 := by
  unfold cAt
  rw [List.getD_eq_getElem?_getD, List.getElem?_replicate]
  split <;> rfl
theorem Col.new_ (hok : Ok outs roots) : Col outs roots (newC outs roots) :=
  ⟨newC_length _ _, Cols.shades fun i => by rw [cols_zero]; decide, fun r hr => shades_mem hr (by have := hok.root r hr; simp; omega), fun i hi => by
    unfold newC at hi
    rw [shades_two, cols_zero] at hi
    cases hi⟩

theorem idx_one (h : (1 : Int) ∈ c) : cAt c (c.idxOf 1) = 1 ∧ c.idxOf 1 < c.length := by
  have h1 := List.idxOf_lt_length_iff.2 h
  exact ⟨by rw [cAt_eq h1]; exact List.getElem_idxOf _, h1⟩

theorem Col.step (hok : Ok outs roots) (h : Col outs roots c) : Col outs roots (stepC outs c) := by
  unfold stepC
  split
  · rename_i hm
    obtain ⟨h1, h2⟩ := idx_one hm
    refine ⟨by rw [shades_length, List.length_set]; exact h.len, (h.cols.set (by decide) (by decide)).shades, fun r hr => ?_, fun i hi y hy => ?_⟩
    · refine Int.le_trans ?_ (shades_le _ _ _)
      rw [cAt_set]
      have := h.root r hr
      split <;> omega
    · rw [shades_two, cAt_set] at hi
      have hyl := hok.adjIn y hy
      split at hi
      · rename_i e
        rw [← e.1] at hy
        exact shades_mem hy (by rw [List.length_set, h.len]; omega)
      · refine Int.le_trans ?_ (shades_le _ _ _)
        rw [cAt_set]
        have := h.black i hi y hy
        split <;> omega
  · exact h
theorem step_le (outs : List (List Int)) (c : List Int) (h : Cols c) (i : Nat) : cAt c i ≤ cAt (stepC outs c) i := by
  unfold stepC
  split
  · refine Int.le_trans ?_ (shades_le _ _ _)
    rw [cAt_set]
    split
    · exact (h i).2
    · exact Int.le_refl _
  · exact Int.le_refl _
theorem Col.steps (hok : Ok outs roots) (h : Col outs roots c) : ∀ k, Col outs roots (stepsC outs k c)
  | 0 => h
  | k + 1 => (h.steps hok k).step hok

/-- how many are black -/
def blacks (c : List Int) : Nat := c.count 2
theorem blacks_shade (c : List Int) (x : Int) : blacks (shade c x) = blacks c := by
  unfold blacks shade
  by_cases h : x.toNat < c.length
  · rw [List.count_set h, cAt_eq h]
    by_cases e : c[x.toNat] = 2
    · have hp : 0 < c.count 2 := by rw [List.count_pos_iff, ← e]; exact List.getElem_mem h
      rw [e]
      have e3 : (max (2 : Int) 1 == 2) = true := rfl
      rw [e3]
      simp
      omega
    · have e1 : (c[x.toNat] == 2) = false := by simpa using e
      have e2 : (max c[x.toNat] 1 == 2) = false := by rw [beq_eq_false_iff_ne]; omega
      rw [e1, e2]
      simp
  · rw [List.set_eq_of_length_le (by omega)]
theorem blacks_shades (xs : List Int) : ∀ c : List Int, blacks (shades c xs) = blacks c := by
  induction xs with
  | nil => intro c; rfl
  | cons x xs ih => intro c; exact (ih _).trans (blacks_shade c x)
theorem blacks_new (outs : List (List Int)) (roots : List Int) : blacks (newC outs roots) = 0 := by
  unfold newC
  rw [blacks_shades]
  unfold blacks
  rw [List.count_eq_zero]
  intro h
  have := List.eq_of_mem_replicate h
  cases this
theorem blacks_step (h : (1 : Int) ∈ c) : blacks (stepC outs c) = blacks c + 1 := by
  obtain ⟨h1, h2⟩ := idx_one h
  unfold stepC
  rw [if_pos h, blacks_shades]
  unfold blacks
  rw [List.count_set h2]
  rw [cAt_eq h2] at h1
  rw [h1]
  simp
theorem blacks_lt (h : (1 : Int) ∈ c) : blacks c < c.length := by
  unfold blacks
  rcases Nat.lt_or_ge (c.count 2) c.length with h1 | h1
  · exact h1
  · have := List.count_eq_length.1 (Nat.le_antisymm List.count_le_length h1) 1 h
    cases this

/-- as often as there were steps with something grey -/
def done (outs : List (List Int)) : Nat → List Int → Nat
  | 0, _ => 0
  | k + 1, c => done outs k c + if (1 : Int) ∈ stepsC outs k c then 1 else 0
theorem done_eq (outs : List (List Int)) (c : List Int) : ∀ k, blacks (stepsC outs k c) = blacks c + done outs k c
  | 0 => rfl
  | k + 1 => by
    unfold stepsC done
    have ih := done_eq outs c k
    split
    · rename_i h; rw [blacks_step h, ih]; omega
    · rename_i h; unfold stepC; rw [if_neg h, ih]; rfl
theorem done_grey (outs : List (List Int)) (c : List Int) : ∀ k, (1 : Int) ∈ stepsC outs k c → done outs k c = k
  | 0, _ => rfl
  | k + 1, h => by
    have h' : (1 : Int) ∈ stepsC outs k c := by
      by_cases h' : (1 : Int) ∈ stepsC outs k c
      · exact h'
      · unfold stepsC stepC at h; rw [if_neg h'] at h; exact absurd h h'
    unfold done
    rw [if_pos h', done_grey outs c k h']
/-- by as many steps as there are nodes nothing is grey -/
theorem no_grey (outs : List (List Int)) (c : List Int) {k : Nat} (hk : c.length ≤ k) : (1 : Int) ∉ stepsC outs k c := by
  intro h
  have h1 := done_grey outs c k h
  have h2 := done_eq outs c k
  have h3 := blacks_lt h
  rw [stepsC_length] at h3
  omega

theorem Col.nogrey (hok : Ok outs roots) (h : Col outs roots c) (hg : (1 : Int) ∉ c) {x : Int} (hx : Comes outs roots x) : cAt c x.toNat = 2 := by
  have two : ∀ i, 1 ≤ cAt c i → cAt c i = 2 := by
    intro i hi
    have h1 := h.cols i
    have h2 : cAt c i ≠ 1 := by
      intro e
      rcases Nat.lt_or_ge i c.length with hl | hl
      · exact hg (e ▸ cAt_mem hl)
      · rw [cAt_far hl] at e; cases e
    omega
  refine (hx.sub (P := fun x => 0 ≤ x ∧ cAt c x.toNat = 2) (fun r hr => ⟨(hok.root r hr).1, two _ (h.root r hr)⟩) (fun x hx y hy => ⟨(hok.adjIn y hy).1, two _ (h.black x.toNat hx.2 y ?_)⟩)).2
  have e : ((x.toNat : Nat) : Int) = x := by omega
  rw [e]
  exact hy

/-- where nothing is changed: what is not white can be come to -/
def Sound (outs : List (List Int)) (roots c : List Int) : Prop := ∀ i : Nat, 1 ≤ cAt c i → Comes outs roots (i : Int)
theorem Sound.new_ (hok : Ok outs roots) : Sound outs roots (newC outs roots) := by
  intro i hi
  rcases shades_one hi with h | ⟨x, hx, rfl⟩
  · rw [cols_zero] at h; omega
  · rw [Int.toNat_of_nonneg (hok.root x hx).1]; exact .root hx
theorem Sound.step (hok : Ok outs roots) (h : Sound outs roots c) : Sound outs roots (stepC outs c) := by
  intro i hi
  unfold stepC at hi
  split at hi
  · rename_i hm
    obtain ⟨h1, h2⟩ := idx_one hm
    rcases shades_one hi with hi | ⟨x, hx, rfl⟩
    · rw [cAt_set] at hi
      split at hi
      · rename_i e; rw [← e.1]; exact h _ (by omega)
      · exact h i hi
    · rw [Int.toNat_of_nonneg (hok.adjIn x hx).1]
      exact .next (h _ (by omega)) hx
  · exact h i hi
theorem Sound.steps (hok : Ok outs roots) (h : Sound outs roots c) : ∀ k, Sound outs roots (stepsC outs k c)
  | 0 => h
  | k + 1 => (h.steps hok k).step hok

/-- black is just what can be come to -/
theorem black_bit (hok : Ok outs roots) (h : Col outs roots c) (hs : Sound outs roots c) (hg : (1 : Int) ∉ c) (i : Nat) : (cAt c i = 2) ↔ bt (reachN outs roots) i = true := by
  unfold bt
  rw [reachN_bit hok]
  constructor
  · intro e; exact hs i (by omega)
  · intro hc
    have := h.nogrey hok hg hc
    rwa [Int.toNat_natCast] at this

/-- how many bits there are below k -/
def ones (s : Nat) : Nat → Nat
  | 0 => 0
  | k + 1 => ones s k + if bt s k = true then 1 else 0
theorem ones_le (s : Nat) : ∀ k, ones s k ≤ k
  | 0 => Nat.le_refl _
  | k + 1 => by unfold ones; have := ones_le s k; split <;> omega
theorem ones_blacks {s : Nat} (h : ∀ i, (cAt c i = 2) ↔ bt s i = true) : ones s c.length = blacks c := by
  have key : ∀ k, k ≤ c.length → ones s k = (c.take k).count 2 := by
    intro k
    induction k with
    | zero => intro _; rfl
    | succ k ih =>
      intro hk
      have hlt : k < c.length := by omega
      unfold ones
      rw [ih (by omega), List.take_succ_eq_append_getElem hlt, List.count_append, List.count_singleton, ← cAt_eq hlt]
      by_cases e : cAt c k = 2
      · rw [if_pos ((h k).1 e), e]; rfl
      · rw [if_neg fun e' => e ((h k).2 e')]
        have : (cAt c k == 2) = false := by simpa using e
        rw [this]
        rfl
  have := key c.length (Nat.le_refl _)
  rwa [List.take_length] at this

/-- a pointer is changed -/
theorem pointE_zero {i k j : Int} (h : pointE outs roots i k j = 0) : (0 ≤ i ∧ i < outs.length) ∧ (0 ≤ j ∧ j < outs.length) ∧ (0 ≤ k ∧ k < (adj outs i).length) ∧ bt (reachN outs roots) i.toNat = true ∧ bt (reachN outs roots) j.toNat = true := by
  unfold pointE at h
  split at h
  · rename_i h1
    split at h
    · rename_i h2
      simp only [Bool.and_eq_true, btw_iff] at h1 h2
      exact ⟨⟨h1.1.1.1, by omega⟩, ⟨h1.1.2.1, by omega⟩, ⟨h1.2.1, by omega⟩, h2.1, h2.2⟩
    · cases h
  · cases h
theorem adj_set {l : List Int} {n i : Nat} : adj (outs.set n l) (i : Int) = if n = i ∧ n < outs.length then l else adj outs (i : Int) := by
  unfold adj
  rw [Int.toNat_natCast, List.getD_eq_getElem?_getD, List.getD_eq_getElem?_getD, List.getElem?_set]
  by_cases e : n = i
  · subst e
    by_cases h : n < outs.length
    · simp [h]
    · simp [h, List.getElem?_eq_none (by omega : outs.length ≤ n)]
  · simp [e]
theorem mem_set_of {l : List Int} {n : Nat} {v y : Int} (h : y ∈ l.set n v) : y ∈ l ∨ y = v := List.mem_or_eq_of_mem_set h
theorem Ok.set_ (hok : Ok outs roots) {n : Nat} {l : List Int} (hl : l.length ≤ 4) (hin : ∀ x ∈ l, 0 ≤ x ∧ x < outs.length) : Ok (outs.set n l) roots :=
  ⟨by rw [List.length_set]; exact hok.n12, hok.r12, by rw [List.length_set]; exact hok.root, fun l' h => by
    rcases List.mem_or_eq_of_mem_set h with h | rfl
    · exact hok.few l' h
    · exact hl, fun l' h => by
    rw [List.length_set]
    rcases List.mem_or_eq_of_mem_set h with h | rfl
    · exact hok.out l' h
    · exact hin⟩
theorem Ok.point (hok : Ok outs roots) (i k j : Int) : Ok (pointO outs roots i k j) roots := by
  unfold pointO
  split
  · rename_i h
    obtain ⟨_, hj, _⟩ := pointE_zero h
    refine hok.set_ (by rw [List.length_set]; exact hok.adjFew) fun x hx => ?_
    rcases mem_set_of hx with hx | rfl
    · exact hok.adjIn x hx
    · exact hj
  · exact hok
theorem Col.point (h : Col outs roots c) (i k j : Int) : Col (pointO outs roots i k j) roots (pointC outs roots i k j c) := by
  unfold pointO pointC
  split
  · rename_i he
    obtain ⟨hi, hj, _⟩ := pointE_zero he
    refine ⟨by rw [shade_length, List.length_set]; exact h.len, h.cols.shade j, fun r hr => Int.le_trans (h.root r hr) (shade_le _ _ _), fun n hn y hy => ?_⟩
    rw [shade_two] at hn
    rw [adj_set] at hy
    split at hy
    · rename_i e
      rcases mem_set_of hy with hy | rfl
      · refine Int.le_trans (h.black n hn y ?_) (shade_le _ _ _)
        have e' : (i : Int) = ((i.toNat : Nat) : Int) := by omega
        rw [← e.1, ← e']
        exact hy
      · exact shade_self (by rw [h.len]; omega)
    · exact Int.le_trans (h.black n hn y hy) (shade_le _ _ _)
  · exact h
theorem point_le (i k j : Int) (n : Nat) : cAt c n ≤ cAt (pointC outs roots i k j c) n := by
  unfold pointC
  split
  · exact shade_le _ _ _
  · exact Int.le_refl _
end
end Go.Proofs.YtiibadganlincaaDoor
