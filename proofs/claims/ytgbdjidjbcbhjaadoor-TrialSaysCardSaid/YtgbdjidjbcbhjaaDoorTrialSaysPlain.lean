/- What the document says is free by a trial is what is. No program in sight. -/
import Derived.Test.YtgbdjidjbcbhjaaDoorTrialPlain
import Derived.Test.YtgbdjidjbcbhjaaDoorSet
import Derived.Test.YtgbdjidjbcbhjaaDoorRefHeap
namespace Go.Proofs.YtgbdjidjbcbhjaaDoor

/-- what others point to -/
def hRow (outs : List (List Int)) (part : List Int) (y : Int) (j : Nat) : List Int := ((List.range j).filter fun j : Nat => !hasB part (j : Int) && hasB (adj outs (j : Int)) y).map fun _ => y
theorem hRow_succ (outs : List (List Int)) (part : List Int) (y : Int) (j : Nat) : hRow outs part y (j + 1) = hRow outs part y j ++ (if !hasB part (j : Int) && hasB (adj outs (j : Int)) y then [y] else []) := by
  unfold hRow
  rw [List.range_succ, List.filter_append, List.map_append]
  congr 1
  cases h : (!hasB part (j : Int) && hasB (adj outs (j : Int)) y) <;> simp [h]
theorem hRow_length (outs : List (List Int)) (part : List Int) (y : Int) (j : Nat) : (hRow outs part y j).length ≤ j := by
  unfold hRow
  rw [List.length_map]
  exact Nat.le_trans (List.length_filter_le _ _) (by simp)
theorem mem_hRow {outs : List (List Int)} {part : List Int} {y z : Int} {j : Nat} : z ∈ hRow outs part y j ↔ z = y ∧ ∃ k, k < j ∧ (k : Int) ∉ part ∧ y ∈ adj outs (k : Int) := by
  unfold hRow
  rw [List.mem_map]
  constructor
  · rintro ⟨k, hk, rfl⟩
    rw [List.mem_filter, List.mem_range] at hk
    refine ⟨rfl, k, hk.1, ?_, ?_⟩
    · have := hk.2; simp [hasB] at this; exact this.1
    · have := hk.2; simp [hasB] at this; exact this.2
  · rintro ⟨rfl, k, hk, h1, h2⟩
    exact ⟨k, List.mem_filter.2 ⟨List.mem_range.2 hk, by simp [hasB, h1, h2]⟩, rfl⟩
def hOne (outs : List (List Int)) (roots part : List Int) (y : Int) : List Int := (if hasB roots y then [y] else []) ++ hRow outs part y outs.length
def heldR (outs : List (List Int)) (roots part ps : List Int) : List Int := ps.flatMap (hOne outs roots part)
theorem heldR_snoc (outs : List (List Int)) (roots part ps : List Int) (y : Int) : heldR outs roots part (ps ++ [y]) = heldR outs roots part ps ++ (if hasB roots y then [y] else []) ++ hRow outs part y outs.length := by
  unfold heldR
  rw [List.flatMap_append, List.append_assoc]
  simp [hOne]
theorem heldR_length {outs : List (List Int)} {roots part : List Int} (hn : outs.length ≤ 12) : ∀ ps : List Int, (heldR outs roots part ps).length ≤ 13 * ps.length
  | [] => by simp [heldR]
  | y :: ps => by
    have ih := heldR_length hn (roots := roots) (part := part) ps
    have h1 := hRow_length outs part y outs.length
    have e : heldR outs roots part (y :: ps) = hOne outs roots part y ++ heldR outs roots part ps := by simp [heldR]
    have h2 : (hOne outs roots part y).length ≤ 13 := by
      unfold hOne
      rw [List.length_append]
      split <;> simp <;> omega
    rw [e, List.length_append, List.length_cons]
    omega

section
variable {outs : List (List Int)} {roots : List Int}
theorem mem_heldR (hok : Ok outs roots) {x : Int} (hx : Ok outs [x]) {y : Int} : y ∈ heldR outs roots (order outs [x]) (order outs [x]) ↔ y ∈ heldN outs roots (reachN outs [x]) := by
  rw [mem_held hok hx]
  unfold heldR hOne
  rw [List.mem_flatMap]
  constructor
  · rintro ⟨z, hz, h⟩
    rw [List.mem_append, mem_hRow] at h
    have hc := (mem_order hx).1 hz
    rcases h with h | ⟨rfl, k, hk, h1, h2⟩
    · split at h
      · rename_i hb
        simp only [List.mem_singleton] at h
        subst h
        exact ⟨hc, .inl (mem_hasB.1 hb)⟩
      · cases h
    · exact ⟨hc, .inr ⟨k, fun h => h1 ((mem_order hx).2 h), h2⟩⟩
  · rintro ⟨hc, h⟩
    refine ⟨y, (mem_order hx).2 hc, ?_⟩
    rw [List.mem_append, mem_hRow]
    rcases h with h | ⟨k, h1, h2⟩
    · left; rw [if_pos (mem_hasB.2 h)]; simp
    · right
      refine ⟨rfl, k, ?_, fun h => h1 ((mem_order hx).1 h), h2⟩
      rcases Nat.lt_or_ge k outs.length with h | h
      · exact h
      · rw [adj_far h] at h2; cases h2
theorem Comes.iff {R R' : List Int} (h : ∀ x, x ∈ R ↔ x ∈ R') {y : Int} : Comes outs R y ↔ Comes outs R' y :=
  ⟨fun hc => hc.sub (fun x hx => .root ((h x).1 hx)) fun _ h1 _ hy => .next h1 hy, fun hc => hc.sub (fun x hx => .root ((h x).2 hx)) fun _ h1 _ hy => .next h1 hy⟩
theorem Ok.of_range (hok : Ok outs roots) {R : List Int} (hR : ∀ x ∈ R, 0 ≤ x ∧ x < outs.length) : Ok outs (fwd [] R) :=
  have hr : ∀ x ∈ fwd [] R, 0 ≤ x ∧ x < (outs.length : Int) := fun x hx => by
    rcases mem_fwd.1 hx with h1 | h1
    · cases h1
    · exact hR x h1
  ⟨hok.n12, Nat.le_trans (nodup_le (nodup_fwd List.nodup_nil _) hr) hok.n12, hr, hok.few, hok.out⟩
/-- what is free, as the document says it -/
def freeR (outs : List (List Int)) (roots : List Int) (x : Int) : List Int := (order outs [x]).filter fun y => !hasB (order outs (fwd [] (heldR outs roots (order outs [x]) (order outs [x])))) y
theorem heldR_ok (hok : Ok outs roots) {x : Int} (hx : Ok outs [x]) : Ok outs (fwd [] (heldR outs roots (order outs [x]) (order outs [x]))) :=
  hok.of_range fun y hy => ((mem_held hok hx).1 ((mem_heldR hok hx).1 hy)).1.range hx
theorem freeR_set (hok : Ok outs roots) {x : Int} (hx : Ok outs [x]) : sumP (freeR outs roots x) = freeN outs roots x := by
  have hr : ∀ y ∈ freeR outs roots x, 0 ≤ y ∧ y < 12 := fun y hy => by
    have := order_range hx y (List.mem_filter.1 hy).1
    have := hok.n12
    omega
  rw [sumP_or (xs := freeR outs roots x) (List.Pairwise.filter _ (order_nodup hx)) hr]
  refine Nat.eq_of_testBit_eq fun i => ?_
  rw [Bool.eq_iff_iff, testBit_orIn, free_bit hok hx]
  have hk : ∀ y, y ∈ freeR outs roots x ↔ Comes outs [x] y ∧ ¬ Comes outs (heldN outs roots (reachN outs [x])) y := fun y => by
    unfold freeR
    rw [List.mem_filter, mem_order hx]
    refine and_congr_right fun _ => ?_
    have e : hasB (order outs (fwd [] (heldR outs roots (order outs [x]) (order outs [x])))) y = true ↔ Comes outs (heldN outs roots (reachN outs [x])) y := by
      rw [mem_hasB, mem_order (heldR_ok hok hx)]
      refine Comes.iff fun z => ?_
      rw [mem_fwd, ← mem_heldR hok hx]
      simp
    rw [← e]
    simp
  constructor
  · rintro (h | ⟨y, hy, rfl⟩)
    · simp at h
    · have h0 := (hr y hy).1
      rw [show ((y.toNat : Nat) : Int) = y by omega]
      exact (hk y).1 hy
  · intro h
    exact .inr ⟨(i : Int), (hk _).2 h, by omega⟩
/-- those that come to themselves, as the document says it -/
def roundsL (outs : List (List Int)) (n : Nat) : List Int := (upTo n).filter fun i => hasB (order outs (fwd [] (adj outs i))) i
theorem roundsL_succ (outs : List (List Int)) (n : Nat) : roundsL outs (n + 1) = roundsL outs n ++ (if hasB (order outs (fwd [] (adj outs (n : Int)))) (n : Int) then [(n : Int)] else []) := by
  unfold roundsL
  rw [upTo_succ, List.filter_append]
  congr 1
  cases h : hasB (order outs (fwd [] (adj outs (n : Int)))) (n : Int) <;> simp [h]
theorem roundsL_length (outs : List (List Int)) (n : Nat) : (roundsL outs n).length ≤ n := Nat.le_trans (List.length_filter_le _ _) (by rw [upTo_length]; exact Nat.le_refl _)
theorem roundsL_set (hok : Ok outs roots) : sumP (roundsL outs outs.length) = roundsN outs := by
  have hr : ∀ y ∈ roundsL outs outs.length, 0 ≤ y ∧ y < 12 := fun y hy => by
    have := mem_upTo.1 (List.mem_filter.1 hy).1
    have := hok.n12
    omega
  rw [sumP_or (xs := roundsL outs outs.length) (List.Pairwise.filter _ (nodup_upTo _)) hr]
  refine Nat.eq_of_testBit_eq fun i => ?_
  rw [Bool.eq_iff_iff, testBit_orIn, roundsN_bit hok]
  have hk : ∀ y : Int, y ∈ roundsL outs outs.length ↔ (0 ≤ y ∧ y < outs.length) ∧ Comes outs (adj outs y) y := fun y => by
    unfold roundsL
    rw [List.mem_filter, mem_upTo]
    refine and_congr_right fun h => ?_
    rw [mem_hasB, order_fwd]
    have : Ok outs (adj outs y) := by have := hok.at (i := y.toNat); rwa [Int.toNat_of_nonneg h.1] at this
    exact mem_order this
  constructor
  · rintro (h | ⟨y, hy, rfl⟩)
    · simp at h
    · have h0 := (hk y).1 hy
      rw [Int.toNat_of_nonneg h0.1.1]
      exact ⟨by omega, h0.2⟩
  · intro h
    exact .inr ⟨(i : Int), (hk _).2 ⟨⟨by omega, by omega⟩, h.2⟩, by omega⟩
theorem reach_set (hok : Ok outs roots) : sumP (order outs roots) = reachN outs roots := by
  unfold reachN
  exact sumP_or (order_nodup hok) fun x hx => by have := order_range hok x hx; have := hok.n12; omega
end
end Go.Proofs.YtgbdjidjbcbhjaaDoor
