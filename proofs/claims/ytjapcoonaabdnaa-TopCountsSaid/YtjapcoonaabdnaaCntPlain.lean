/- Counts that are kept, plainly: by taking away, and by taking over. No program in sight. -/
import Derived.KernelRfl
namespace Go.Proofs.Ytjapcoonaabdnaa

/-- which entry has a key; -1: none -/
def ixK (l : List (Nat × Nat)) (x : Nat) : Int := match l.findIdx? fun b => decide (b.1 = x) with
  | some i => (i : Int)
  | none => -1
theorem ixK_at {l : List (Nat × Nat)} {x k : Nat} (hk : k < l.length) (hx : (l[k]).1 = x) (hb : ∀ j (hj : j < k), ¬ (l[j]'(by omega)).1 = x) : ixK l x = k := by
  unfold ixK
  rw [(List.findIdx?_eq_some_iff_getElem).2 ⟨hk, by simpa using hx, fun j hj => by simpa using hb j hj⟩]
theorem ixK_none {l : List (Nat × Nat)} {x : Nat} (hb : ∀ j (hj : j < l.length), ¬ (l[j]).1 = x) : ixK l x = -1 := by
  unfold ixK
  rw [List.findIdx?_eq_none_iff.2 fun b hm => by
    obtain ⟨j, hj, rfl⟩ := List.getElem_of_mem hm
    simpa using hb j hj]
theorem ixK_lt (l : List (Nat × Nat)) (x : Nat) : (ixK l x = -1 ∧ ∀ b ∈ l, b.1 ≠ x) ∨ ∃ k, ∃ h : k < l.length, ixK l x = k ∧ (l[k]).1 = x := by
  unfold ixK
  cases e : l.findIdx? fun b => decide (b.1 = x) with
  | none => exact .inl ⟨rfl, fun b hb => by simpa using List.findIdx?_eq_none_iff.1 e b hb⟩
  | some i =>
    obtain ⟨h1, h2, _⟩ := List.findIdx?_eq_some_iff_getElem.1 e
    exact .inr ⟨i, h1, rfl, by simpa using h2⟩

/-- one more -/
def upK (l : List (Nat × Nat)) (k : Nat) : List (Nat × Nat) := match l[k]? with
  | some b => l.set k (b.1, b.2 + 1)
  | none => l
theorem upK_eq {l : List (Nat × Nat)} {k : Nat} (h : k < l.length) : upK l k = l.set k ((l[k]).1, (l[k]).2 + 1) := by unfold upK; rw [List.getElem?_eq_getElem h]
def downK (l : List (Nat × Nat)) : List (Nat × Nat) := l.map fun b => (b.1, b.2 - 1)
def someK (l : List (Nat × Nat)) : List (Nat × Nat) := l.filter fun b => decide (b.2 ≠ 0)
/-- by taking away -/
def keepStep (keep : Nat) (l : List (Nat × Nat)) (x : Nat) : List (Nat × Nat) :=
  if 0 ≤ ixK l x then upK l (ixK l x).toNat else if l.length < keep then l ++ [(x, 1)] else someK (downK l)
def keepRun (keep : Nat) (xs : List Nat) : List (Nat × Nat) := xs.foldl (keepStep keep) []
/-- the first of the least -/
def leastK : Nat → List (Nat × Nat) → Nat
  | 0, _ => 0
  | n + 1, l => if (l.getD n (0, 0)).2 < (l.getD (leastK n l) (0, 0)).2 then n else leastK n l
/-- by taking over -/
def spaceStep (keep : Nat) (l : List (Nat × Nat)) (x : Nat) : List (Nat × Nat) :=
  if 0 ≤ ixK l x then upK l (ixK l x).toNat else if l.length < keep then l ++ [(x, 1)] else l.set (leastK l.length l) (x, (l.getD (leastK l.length l) (0, 0)).2 + 1)
def spaceRun (keep : Nat) (xs : List Nat) : List (Nat × Nat) := xs.foldl (spaceStep keep) []

/-- none is kept too often -/
def LowK (keep : Nat) (l : List (Nat × Nat)) (xs : List Nat) : Prop := l.length ≤ keep ∧ ∀ b ∈ l, 1 ≤ b.2 ∧ b.2 ≤ xs.count b.1
theorem LowK.step {keep : Nat} {l : List (Nat × Nat)} {xs : List Nat} (h : LowK keep l xs) (x : Nat) : LowK keep (keepStep keep l x) (xs ++ [x]) := by
  have hc : ∀ y, xs.count y ≤ (xs ++ [x]).count y := fun y => by rw [List.count_append]; omega
  have hx : (xs ++ [x]).count x = xs.count x + 1 := by rw [List.count_append]; simp
  unfold keepStep
  rcases ixK_lt l x with ⟨e, hn⟩ | ⟨k, hk, e, hkx⟩
  · rw [e, if_neg (by decide)]
    split
    · refine ⟨by simp; omega, fun b hb => ?_⟩
      rcases List.mem_append.1 hb with hb | hb
      · exact ⟨(h.2 b hb).1, Nat.le_trans (h.2 b hb).2 (hc _)⟩
      · simp only [List.mem_singleton] at hb
        subst hb
        exact ⟨Nat.le_refl _, by show 1 ≤ (xs ++ [x]).count x; omega⟩
    · refine ⟨Nat.le_trans (List.length_filter_le _ _) (by unfold downK; rw [List.length_map]; exact h.1), fun b hb => ?_⟩
      obtain ⟨hb1, hb2⟩ := List.mem_filter.1 hb
      obtain ⟨c, hc1, rfl⟩ := List.mem_map.1 hb1
      have := h.2 c hc1
      have h3 := hc c.1
      simp only [decide_eq_true_eq] at hb2
      exact ⟨by show 1 ≤ c.2 - 1; omega, by show c.2 - 1 ≤ (xs ++ [x]).count c.1; omega⟩
  · rw [e, if_pos (by omega), Int.toNat_natCast, upK_eq hk]
    refine ⟨by rw [List.length_set]; exact h.1, fun b hb => ?_⟩
    rcases List.mem_or_eq_of_mem_set hb with hb | rfl
    · exact ⟨(h.2 b hb).1, Nat.le_trans (h.2 b hb).2 (hc _)⟩
    · have := h.2 _ (List.getElem_mem hk)
      rw [hkx] at this
      refine ⟨by show 1 ≤ (l[k]).2 + 1; omega, ?_⟩
      show (l[k]).2 + 1 ≤ (xs ++ [x]).count (l[k]).1
      rw [hkx, hx]
      omega
theorem low_run (keep : Nat) : ∀ (ys : List Nat) (xs : List Nat) (l : List (Nat × Nat)), LowK keep l xs → LowK keep (ys.foldl (keepStep keep) l) (xs ++ ys)
  | [], xs, l, h => by simpa using h
  | y :: ys, xs, l, h => by
    have := low_run keep ys (xs ++ [y]) _ (h.step y)
    simpa using this
theorem low_all (keep : Nat) (xs : List Nat) : LowK keep (keepRun keep xs) xs := by
  have := low_run keep xs [] [] ⟨Nat.zero_le _, fun b hb => by cases hb⟩
  rwa [List.nil_append] at this

theorem leastK_spec : ∀ (n : Nat) (l : List (Nat × Nat)), 0 < n → n ≤ l.length → leastK n l < n ∧ ∀ j, j < n → (l.getD (leastK n l) (0, 0)).2 ≤ (l.getD j (0, 0)).2
  | 1, l, _, hn => by
    have e : leastK 1 l = 0 := by unfold leastK leastK; split <;> rfl
    rw [e]
    exact ⟨by omega, fun j hj => by obtain rfl : j = 0 := by omega
                                    exact Nat.le_refl _⟩
  | n + 2, l, _, hn => by
    obtain ⟨h1, h2⟩ := leastK_spec (n + 1) l (by omega) (by omega)
    show (if (l.getD (n + 1) (0, 0)).2 < (l.getD (leastK (n + 1) l) (0, 0)).2 then n + 1 else leastK (n + 1) l) < n + 2 ∧ ∀ j, j < n + 2 → (l.getD (if (l.getD (n + 1) (0, 0)).2 < (l.getD (leastK (n + 1) l) (0, 0)).2 then n + 1 else leastK (n + 1) l) (0, 0)).2 ≤ (l.getD j (0, 0)).2
    split
    · rename_i hlt
      refine ⟨by omega, fun j hj => ?_⟩
      by_cases e : j = n + 1
      · subst e; exact Nat.le_refl _
      · have := h2 j (by omega); omega
    · rename_i hlt
      refine ⟨by omega, fun j hj => ?_⟩
      by_cases e : j = n + 1
      · subst e; omega
      · exact h2 j (by omega)
theorem leastK_succ (n : Nat) (l : List (Nat × Nat)) : leastK (n + 1) l = if (l.getD n (0, 0)).2 < (l.getD (leastK n l) (0, 0)).2 then n else leastK n l := rfl

theorem mem_set_ix {l : List (Nat × Nat)} {k : Nat} {v b : Nat × Nat} (h : b ∈ l.set k v) : b = v ∨ ∃ j, ∃ hj : j < l.length, j ≠ k ∧ b = l[j] := by
  obtain ⟨j, hj, rfl⟩ := List.getElem_of_mem h
  rw [List.getElem_set]
  split
  · exact .inl rfl
  · rename_i hne
    exact .inr ⟨j, by simpa using hj, fun e => hne e.symm, rfl⟩
/-- no key stands twice -/
def Keys (l : List (Nat × Nat)) : Prop := ∀ i j (hi : i < l.length) (hj : j < l.length), i ≠ j → (l[i]).1 ≠ (l[j]).1
theorem Keys.snoc {l : List (Nat × Nat)} (h : Keys l) {b : Nat × Nat} (hb : ∀ c ∈ l, c.1 ≠ b.1) : Keys (l ++ [b]) := by
  intro i j hi hj hne
  simp only [List.length_append, List.length_singleton] at hi hj
  simp only [List.getElem_append]
  split
  · split
    · exact h i j _ _ hne
    · rw [List.getElem_singleton]; exact hb _ (List.getElem_mem _)
  · split
    · rw [List.getElem_singleton]; exact fun e => hb _ (List.getElem_mem _) e.symm
    · omega
theorem Keys.set {l : List (Nat × Nat)} (h : Keys l) {k : Nat} {b : Nat × Nat} (hb : ∀ j (hj : j < l.length), j ≠ k → (l[j]).1 ≠ b.1) : Keys (l.set k b) := by
  intro i j hi hj hne
  rw [List.length_set] at hi hj
  rw [List.getElem_set, List.getElem_set]
  split
  · split
    · omega
    · rename_i h1 h2; exact fun e => hb j hj (fun e => h2 e.symm) e.symm
  · split
    · rename_i h1 h2; exact hb i hi fun e => h1 e.symm
    · exact h i j hi hj hne

/-- none is kept too few -/
def HighK (keep : Nat) (l : List (Nat × Nat)) (xs : List Nat) : Prop := Keys l ∧ l.length ≤ keep ∧ (∀ b ∈ l, xs.count b.1 ≤ b.2 ∧ b.2 ≤ xs.length) ∧ ∀ y, (∀ b ∈ l, b.1 ≠ y) → xs.count y = 0 ∨ (l.length = keep ∧ ∀ b ∈ l, xs.count y ≤ b.2)
theorem HighK.step {keep : Nat} (hkp : 1 ≤ keep) {l : List (Nat × Nat)} {xs : List Nat} (h0 : HighK keep l xs) (x : Nat) : HighK keep (spaceStep keep l x) (xs ++ [x]) := by
  obtain ⟨hK, h⟩ := h0
  have hx : (xs ++ [x]).count x = xs.count x + 1 := by rw [List.count_append]; simp
  have hne : ∀ {y}, y ≠ x → (xs ++ [x]).count y = xs.count y := fun {y} hy => by rw [List.count_append]; simp [List.count_cons, hy.symm]
  have hc1 : ∀ y, (xs ++ [x]).count y ≤ xs.count y + 1 := fun y => by rw [List.count_append]; have := List.count_le_length (a := y) (l := [x]); simp at this; omega
  have hlen : (xs ++ [x]).length = xs.length + 1 := by simp
  unfold spaceStep
  rcases ixK_lt l x with ⟨e, hn⟩ | ⟨k, hk, e, hkx⟩
  · rw [e, if_neg (by decide)]
    split
    · rename_i hlt
      have h0 : xs.count x = 0 := by
        rcases h.2.2 x hn with h0 | ⟨h1, _⟩
        · exact h0
        · omega
      refine ⟨hK.snoc fun c hc => hn c hc, by simp; omega, fun b hb => ?_, fun y hy => ?_⟩
      · rcases List.mem_append.1 hb with hb | hb
        · rw [hne (hn b hb)]; have := h.2.1 b hb; omega
        · simp only [List.mem_singleton] at hb
          subst hb
          show (xs ++ [x]).count x ≤ 1 ∧ 1 ≤ (xs ++ [x]).length
          omega
      · left
        have hyx : y ≠ x := fun e' => hy (x, 1) (by simp) e'.symm
        rw [hne hyx]
        rcases h.2.2 y (fun b hb => hy b (by simp [hb])) with h0 | ⟨h1, _⟩
        · exact h0
        · omega
    · rename_i hge
      have hfull : l.length = keep := by have := h.1; omega
      obtain ⟨hm1, hm2⟩ := leastK_spec l.length l (by omega) (Nat.le_refl _)
      generalize leastK l.length l = i at *
      have hgi : l.getD i (0, 0) = l[i] := by rw [List.getD_eq_getElem?_getD, List.getElem?_eq_getElem hm1]; rfl
      have hle : ∀ b ∈ l, (l[i]).2 ≤ b.2 := fun b hb => by
        obtain ⟨j, hj, rfl⟩ := List.getElem_of_mem hb
        have := hm2 j hj
        rw [hgi, show l.getD j (0, 0) = l[j] by rw [List.getD_eq_getElem?_getD, List.getElem?_eq_getElem hj]; rfl] at this
        exact this
      rw [hgi]
      have hcx : xs.count x ≤ (l[i]).2 := by
        rcases h.2.2 x hn with h0 | ⟨_, h1⟩
        · omega
        · exact h1 _ (List.getElem_mem hm1)
      have hil := h.2.1 _ (List.getElem_mem hm1)
      refine ⟨hK.set fun j hj _ => hn _ (List.getElem_mem hj), by rw [List.length_set]; exact h.1, fun b hb => ?_, fun y hy => ?_⟩
      · rcases List.mem_or_eq_of_mem_set hb with hb | rfl
        · rw [hne (hn b hb)]; have := h.2.1 b hb; omega
        · show (xs ++ [x]).count x ≤ (l[i]).2 + 1 ∧ (l[i]).2 + 1 ≤ (xs ++ [x]).length
          omega
      · right
        refine ⟨by rw [List.length_set]; exact hfull, fun b hb => ?_⟩
        have hyx : y ≠ x := fun e' => hy (x, (l[i]).2 + 1) (List.mem_set hm1 _) e'.symm
        rw [hne hyx]
        have hcy : xs.count y ≤ (l[i]).2 := by
          by_cases hall : ∀ b ∈ l, b.1 ≠ y
          · rcases h.2.2 y hall with h0 | ⟨_, h1⟩
            · omega
            · exact h1 _ (List.getElem_mem hm1)
          · have : ∃ b ∈ l, b.1 = y := Classical.byContradiction fun hh => hall fun b hb e' => hh ⟨b, hb, e'⟩
            obtain ⟨b0, hb0, rfl⟩ := this
            obtain ⟨j, hj, rfl⟩ := List.getElem_of_mem hb0
            by_cases e' : j = i
            · subst e'; exact hil.1
            · exact absurd rfl (hy (l[j]) (by rw [← List.getElem_set_ne (i := i) (j := j) (by omega) (a := (x, (l[i]).2 + 1)) (by simpa using hj)]; exact List.getElem_mem _))
        rcases List.mem_or_eq_of_mem_set hb with hb | rfl
        · exact Nat.le_trans hcy (hle b hb)
        · show xs.count y ≤ (l[i]).2 + 1; omega
  · rw [e, if_pos (by omega), Int.toNat_natCast, upK_eq hk]
    refine ⟨hK.set fun j hj hjk => hK j k hj hk hjk, by rw [List.length_set]; exact h.1, fun b hb => ?_, fun y hy => ?_⟩
    · rcases mem_set_ix hb with rfl | ⟨j, hj, hjk, rfl⟩
      rotate_left
      · rw [hne (by have := hK j k hj hk hjk; rwa [hkx] at this)]; have := h.2.1 _ (List.getElem_mem hj); omega
      · have := h.2.1 _ (List.getElem_mem hk)
        rw [hkx] at this
        show (xs ++ [x]).count (l[k]).1 ≤ (l[k]).2 + 1 ∧ (l[k]).2 + 1 ≤ (xs ++ [x]).length
        rw [hkx, hx]
        omega
    · have hyx : y ≠ x := fun e' => hy ((l[k]).1, (l[k]).2 + 1) (List.mem_set hk _) (by show (l[k]).1 = y; rw [hkx, e'])
      rw [hne hyx]
      rcases h.2.2 y (fun b hb e' => by
        obtain ⟨j, hj, rfl⟩ := List.getElem_of_mem hb
        by_cases ej : j = k
        · subst ej; exact hyx (by rw [← e', hkx])
        · exact hy (l[j]) (by rw [← List.getElem_set_ne (i := k) (j := j) (by omega) (a := ((l[k]).1, (l[k]).2 + 1)) (by simpa using hj)]; exact List.getElem_mem _) e') with h0 | ⟨h1, h2⟩
      · exact .inl h0
      · refine .inr ⟨by rw [List.length_set]; exact h1, fun b hb => ?_⟩
        rcases List.mem_or_eq_of_mem_set hb with hb | rfl
        · exact h2 b hb
        · have := h2 _ (List.getElem_mem hk); show xs.count y ≤ (l[k]).2 + 1; omega
theorem high_run (keep : Nat) (hk : 1 ≤ keep) : ∀ (ys : List Nat) (xs : List Nat) (l : List (Nat × Nat)), HighK keep l xs → HighK keep (ys.foldl (spaceStep keep) l) (xs ++ ys)
  | [], xs, l, h => by simpa using h
  | y :: ys, xs, l, h => by
    have := high_run keep hk ys (xs ++ [y]) _ (h.step hk y)
    simpa using this
theorem high_all (keep : Nat) (hk : 1 ≤ keep) (xs : List Nat) : HighK keep (spaceRun keep xs) xs := by
  have := high_run keep hk xs [] [] ⟨(fun i j hi => by simp at hi), Nat.zero_le _, (fun b hb => by cases hb), fun y _ => .inl rfl⟩
  rwa [List.nil_append] at this
end Go.Proofs.Ytjapcoonaabdnaa
