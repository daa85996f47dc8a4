/- trial.Counts and trial.Free, plainly: what is free is what can be come to from one node, and not from without. No program in sight. -/
import Derived.Test.YtiibadganlincaaDoorReachPlain
namespace Go.Proofs.YtiibadganlincaaDoor

/-- how often each of the first n numbers is in one list, less how often in another -/
def dif (n : Nat) (xs ys : List Int) : List Int := (List.range n).map fun i : Nat => (xs.count (i : Int) : Int) - (ys.count (i : Int) : Int)
theorem dif_length (n : Nat) (xs ys : List Int) : (dif n xs ys).length = n := by simp [dif]
theorem dif_at {n : Nat} (xs ys : List Int) {i : Nat} (h : i < n) : (dif n xs ys)[i]'(by rw [dif_length]; exact h) = (xs.count (i : Int) : Int) - (ys.count (i : Int) : Int) := by simp [dif]
theorem dif_zero (n : Nat) : dif n [] [] = List.replicate n 0 := by
  apply List.ext_getElem
  · simp [dif]
  · intro i h1 h2
    rw [dif_length] at h1
    rw [dif_at _ _ h1]
    simp
theorem dif_add {n : Nat} (xs ys : List Int) {x : Int} (h0 : 0 ≤ x) (h1 : x < n) : dif n (xs ++ [x]) ys = (dif n xs ys).set x.toNat ((dif n xs ys)[x.toNat]'(by rw [dif_length]; omega) + 1) := by
  apply List.ext_getElem
  · simp [dif_length]
  · intro i h2 h3
    rw [dif_length] at h2
    rw [List.getElem_set, dif_at _ _ h2, List.count_append, List.count_singleton]
    have hx := dif_at xs ys (show x.toNat < n by omega)
    by_cases e : x.toNat = i
    · have e' : x = (i : Int) := by omega
      rw [if_pos e, hx, e']
      simp
      omega
    · have e' : (x == (i : Int)) = false := by simp; omega
      rw [if_neg e, dif_at _ _ h2, e']
      simp
theorem dif_sub {n : Nat} (xs ys : List Int) {x : Int} (h0 : 0 ≤ x) (h1 : x < n) : dif n xs (ys ++ [x]) = (dif n xs ys).set x.toNat ((dif n xs ys)[x.toNat]'(by rw [dif_length]; omega) - 1) := by
  apply List.ext_getElem
  · simp [dif_length]
  · intro i h2 h3
    rw [dif_length] at h2
    rw [List.getElem_set, dif_at _ _ h2, List.count_append, List.count_singleton]
    have hx := dif_at xs ys (show x.toNat < n by omega)
    by_cases e : x.toNat = i
    · have e' : x = (i : Int) := by omega
      rw [if_pos e, hx, e']
      simp
      omega
    · have e' : (x == (i : Int)) = false := by simp; omega
      rw [if_neg e, dif_at _ _ h2, e']
      simp

/-- what the bits of a set point to, one behind the other -/
def outOf (outs : List (List Int)) (is : List Nat) : List Int := is.flatMap fun i : Nat => adj outs (i : Int)
theorem outOf_snoc (outs : List (List Int)) (is : List Nat) (i : Nat) : outOf outs (is ++ [i]) = outOf outs is ++ adj outs (i : Int) := by simp [outOf]
/-- how often nodes are pointed to from without -/
def cntsN (outs : List (List Int)) (roots : List Int) (part : Nat) : List Int := dif outs.length (roots ++ outs.flatten) (outOf outs (bitsTo part 12))
/-- what is held from without -/
def heldTo (cnts : List Int) (is : List Nat) : List Int := (is.filter fun i => decide (0 < cnts.getD i 0)).map fun i : Nat => (i : Int)
def heldN (outs : List (List Int)) (roots : List Int) (part : Nat) : List Int := heldTo (cntsN outs roots part) (bitsTo part 12)
/-- what is free -/
def freeN (outs : List (List Int)) (roots : List Int) (x : Int) : Nat := reachN outs [x] &&& (4095 ^^^ reachN outs (heldN outs roots (reachN outs [x])))

theorem heldTo_yes {cnts : List Int} {is : List Nat} {i : Nat} (h : 0 < cnts.getD i 0) : heldTo cnts (is ++ [i]) = heldTo cnts is ++ [(i : Int)] := by
  unfold heldTo
  rw [List.filter_append, List.filter_cons, if_pos (by simpa using h), List.map_append]
  rfl
theorem heldTo_no {cnts : List Int} {is : List Nat} {i : Nat} (h : ¬ 0 < cnts.getD i 0) : heldTo cnts (is ++ [i]) = heldTo cnts is := by
  unfold heldTo
  rw [List.filter_append, List.filter_cons, if_neg (by simpa using h), List.filter_nil, List.append_nil]
theorem heldTo_length (cnts : List Int) (is : List Nat) : (heldTo cnts is).length ≤ is.length := by
  unfold heldTo
  rw [List.length_map]
  exact List.length_filter_le _ _

theorem count_split {α : Type} (f : α → List Int) (p : α → Bool) (x : Int) (l : List α) : (l.flatMap f).count x = ((l.filter p).flatMap f).count x + ((l.filter fun a => !p a).flatMap f).count x := by
  induction l with
  | nil => rfl
  | cons a l ih =>
    rw [List.flatMap_cons, List.count_append, ih]
    cases h : p a <;> simp [List.filter_cons, h, List.flatMap_cons, List.count_append] <;> omega

section
variable {outs : List (List Int)} {roots : List Int}

theorem adj_far {i : Nat} (h : outs.length ≤ i) : adj outs (i : Int) = [] := by
  unfold adj
  rw [List.getD_eq_getElem?_getD, List.getElem?_eq_none (by simpa using h)]
  rfl
theorem flatten_eq (h : outs.length ≤ 12) : outs.flatten = outOf outs (List.range 12) := by
  have e : (12 : Nat) = outs.length + (12 - outs.length) := by omega
  unfold outOf
  rw [e, List.range_add, List.flatMap_append]
  have e2 : ((List.range (12 - outs.length)).map (outs.length + ·)).flatMap (fun i : Nat => adj outs (i : Int)) = [] := by
    rw [List.flatMap_eq_nil_iff]
    intro i hi
    rw [List.mem_map] at hi
    obtain ⟨j, _, rfl⟩ := hi
    exact adj_far (by omega)
  rw [e2, List.append_nil]
  have e3 : outs = (List.range outs.length).map fun i : Nat => adj outs (i : Int) := by
    apply List.ext_getElem
    · simp
    · intro i h1 h2
      rw [List.getElem_map, List.getElem_range, adj_eq (by simpa using h1)]
      simp
  conv => lhs; rw [e3]
  rw [List.flatMap_def]

theorem cnts_pos (hok : Ok outs roots) (part : Nat) {i : Nat} (hi : i < outs.length) : 0 < (cntsN outs roots part).getD i 0 ↔ (i : Int) ∈ roots ∨ ∃ k : Nat, part.testBit k = false ∧ (i : Int) ∈ adj outs (k : Int) := by
  unfold cntsN
  rw [List.getD_eq_getElem?_getD, List.getElem?_eq_getElem (by rw [dif_length]; exact hi), Option.getD_some, dif_at _ _ hi, List.count_append, flatten_eq hok.n12]
  unfold outOf bitsTo
  rw [count_split _ (fun k => part.testBit k) _ (List.range 12)]
  have key : 0 < roots.count (i : Int) + (((List.range 12).filter fun k => !part.testBit k).flatMap fun k : Nat => adj outs (k : Int)).count (i : Int) ↔ ((i : Int) ∈ roots ∨ ∃ k : Nat, part.testBit k = false ∧ (i : Int) ∈ adj outs (k : Int)) := by
    rw [← List.count_append, List.count_pos_iff, List.mem_append, List.mem_flatMap]
    refine or_congr_right ⟨?_, ?_⟩
    · rintro ⟨k, hk, h⟩
      rw [List.mem_filter] at hk
      exact ⟨k, by simpa using hk.2, h⟩
    · rintro ⟨k, hk, h⟩
      refine ⟨k, ?_, h⟩
      rw [List.mem_filter, List.mem_range]
      refine ⟨?_, by simpa using hk⟩
      rcases Nat.lt_or_ge k 12 with h' | h'
      · exact h'
      · rw [adj_far (by have := hok.n12; omega)] at h; cases h
  rw [← key]
  omega

theorem mem_held (hok : Ok outs roots) {x : Int} (hx : Ok outs [x]) {y : Int} : y ∈ heldN outs roots (reachN outs [x]) ↔ Comes outs [x] y ∧ (y ∈ roots ∨ ∃ k : Nat, ¬ Comes outs [x] (k : Int) ∧ y ∈ adj outs (k : Int)) := by
  unfold heldN heldTo
  rw [List.mem_map]
  constructor
  · rintro ⟨i, hi, rfl⟩
    rw [List.mem_filter, mem_bitsTo, reachN_bit hx, decide_eq_true_eq] at hi
    obtain ⟨⟨_, hc⟩, hp⟩ := hi
    refine ⟨hc, ?_⟩
    rw [cnts_pos hok _ (by have := hc.range hx; omega)] at hp
    refine hp.imp id ?_
    rintro ⟨k, hk, hk'⟩
    refine ⟨k, fun h => ?_, hk'⟩
    rw [← reachN_bit hx] at h
    rw [h] at hk
    cases hk
  · rintro ⟨hc, h⟩
    have hr := hc.range hx
    have hn := hok.n12
    have e : ((y.toNat : Nat) : Int) = y := by omega
    refine ⟨y.toNat, ?_, e⟩
    rw [List.mem_filter, mem_bitsTo, reachN_bit hx, decide_eq_true_eq, cnts_pos hok _ (by omega), e]
    refine ⟨⟨by omega, hc⟩, h.imp id ?_⟩
    rintro ⟨k, hk, hk'⟩
    refine ⟨k, ?_, hk'⟩
    cases h' : (reachN outs [x]).testBit k with
    | false => rfl
    | true => exact absurd ((reachN_bit hx).1 h') hk

theorem held_ok (hok : Ok outs roots) {x : Int} (hx : Ok outs [x]) : Ok outs (heldN outs roots (reachN outs [x])) :=
  ⟨hok.n12, by
    refine Nat.le_trans (heldTo_length _ _) ?_
    unfold bitsTo
    have := List.length_filter_le (fun i => (reachN outs [x]).testBit i) (List.range 12)
    simpa using this, fun y hy => ((mem_held hok hx).1 hy).1.range hx, hok.few, hok.out⟩

theorem free_bit (hok : Ok outs roots) {x : Int} (hx : Ok outs [x]) {i : Nat} : (freeN outs roots x).testBit i = true ↔ Comes outs [x] (i : Int) ∧ ¬ Comes outs (heldN outs roots (reachN outs [x])) (i : Int) := by
  unfold freeN
  rw [Nat.testBit_and, Nat.testBit_xor, Bool.and_eq_true, reachN_bit hx]
  refine and_congr_right fun hc => ?_
  have hi : i < 12 := by have := hc.range hx; have := hok.n12; omega
  have e : (4095 : Nat).testBit i = true := by
    have := Nat.testBit_two_pow_sub_one 12 i
    rw [show (2 ^ 12 - 1 : Nat) = 4095 from rfl] at this
    rw [this]
    simpa using hi
  rw [e, ← reachN_bit (held_ok hok hx)]
  simp

theorem freeN_lt {x : Int} (hx : Ok outs [x]) : freeN outs roots x < 4096 := Nat.lt_of_le_of_lt Nat.and_le_left (reachN_lt hx)

/-- from without -/
theorem comes_held (hok : Ok outs roots) {x : Int} (hx : Ok outs [x]) {R : List Int} (hR0 : ∀ r ∈ R, 0 ≤ r) (hR : ∀ r ∈ R, Comes outs [x] r → r ∈ roots) {y : Int} (h : Comes outs R y) (hc : Comes outs [x] y) :
    Comes outs (heldN outs roots (reachN outs [x])) y := by
  refine (h.sub (P := fun y => 0 ≤ y ∧ (Comes outs [x] y → Comes outs (heldN outs roots (reachN outs [x])) y)) (fun r hr => ⟨hR0 r hr, fun hc => ?_⟩) (fun y hy z hz => ⟨(hok.adjIn z hz).1, fun hc => ?_⟩)).2 hc
  · exact .root ((mem_held hok hx).2 ⟨hc, .inl (hR r hr hc)⟩)
  · by_cases hcy : Comes outs [x] y
    · exact .next (hy.2 hcy) hz
    · have e : ((y.toNat : Nat) : Int) = y := by omega
      exact .root ((mem_held hok hx).2 ⟨hc, .inr ⟨y.toNat, by rw [e]; exact hcy, by rw [e]; exact hz⟩⟩)

/-- what is free can't be come to from the roots -/
theorem free_safe (hok : Ok outs roots) {x : Int} (hx : Ok outs [x]) {i : Nat} (h : bt (freeN outs roots x) i = true) : bt (reachN outs roots) i = false ∧ bt (reachN outs [x]) i = true := by
  unfold bt at h ⊢
  rw [free_bit hok hx] at h
  refine ⟨?_, (reachN_bit hx).2 h.1⟩
  cases hb : (reachN outs roots).testBit i with
  | false => rfl
  | true => exact absurd (comes_held hok hx (fun r hr => (hok.root r hr).1) (fun r hr _ => hr) ((reachN_bit hok).1 hb) h.1) h.2
/-- nor from any node that is not -/
theorem free_back (hok : Ok outs roots) {x : Int} (hx : Ok outs [x]) {i : Nat} {y : Int} (hy : y ∈ adj outs (i : Int)) (h : bt (freeN outs roots x) y.toNat = true) : bt (freeN outs roots x) i = true := by
  unfold bt at h ⊢
  rw [free_bit hok hx] at h ⊢
  have e : ((y.toNat : Nat) : Int) = y := by have := hok.adjIn y hy; omega
  rw [e] at h
  obtain ⟨h1, h2⟩ := h
  have h3 : Comes outs [x] (i : Int) := by
    by_cases h3 : Comes outs [x] (i : Int)
    · exact h3
    · exact absurd (.root ((mem_held hok hx).2 ⟨h1, .inr ⟨i, h3, hy⟩⟩)) h2
  exact ⟨h3, fun h4 => h2 (.next h4 hy)⟩

/-- what is free, told by any list of what is without, with the roots -/
theorem free_all (hok : Ok outs roots) {x : Int} (hx : Ok outs [x]) {R : List Int} (hRok : Ok outs R) (hR : ∀ y : Int, 0 ≤ y → y < outs.length → (y ∈ R ↔ ¬ Comes outs [x] y ∨ y ∈ roots)) (i : Nat) :
    bt (freeN outs roots x) i = (bt (reachN outs [x]) i && !bt (reachN outs R) i) := by
  unfold bt
  rw [Bool.eq_iff_iff, free_bit hok hx, Bool.and_eq_true, reachN_bit hx]
  refine and_congr_right fun hc => ?_
  have key : Comes outs (heldN outs roots (reachN outs [x])) (i : Int) ↔ Comes outs R (i : Int) := by
    constructor
    · intro h
      refine h.sub (fun y hy => ?_) fun y hy z hz => .next hy hz
      obtain ⟨hcy, h⟩ := (mem_held hok hx).1 hy
      rcases h with h | ⟨k, hk, hk'⟩
      · exact .root ((hR y (hok.root y h).1 (hok.root y h).2).2 (.inr h))
      · have hkl : k < outs.length := by
          rcases Nat.lt_or_ge k outs.length with h | h
          · exact h
          · rw [adj_far h] at hk'; cases hk'
        exact .next (.root ((hR k (by omega) (by omega)).2 (.inl hk))) hk'
    · intro h
      refine comes_held hok hx (fun r hr => (hRok.root r hr).1) (fun r hr hcr => ?_) h hc
      rcases (hR r (hRok.root r hr).1 (hRok.root r hr).2).1 hr with h | h
      · exact absurd hcr h
      · exact h
  rw [key, ← reachN_bit hRok]
  simp

theorem full_has {n : Nat} {o : List Int} (hn : o.Nodup) (hr : ∀ x ∈ o, 0 ≤ x ∧ x < (n : Int)) (hl : n ≤ o.length) {x : Int} (h0 : 0 ≤ x) (h1 : x < n) : x ∈ o := by
  by_cases h : x ∈ o
  · exact h
  · exfalso
    have := nodup_le (n := n) (l := x :: o) (List.nodup_cons.2 ⟨h, hn⟩) fun y hy => by
      rcases List.mem_cons.1 hy with rfl | hy
      · exact ⟨h0, h1⟩
      · exact hr y hy
    simp at this
    omega
end
end Go.Proofs.YtiibadganlincaaDoor
