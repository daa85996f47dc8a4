/- Rings in a heap that counts, plainly: what is here and can't be come to holds a trial's free node. No program in sight. -/
import Derived.Test.YtjcabgbleohdcaaCountPlain
import Derived.Test.YtjcabgbleohdcaaTrialPlain
namespace Go.Proofs.Ytjcabgbleohdcaa

variable {s : Cn} {outs : List (List Int)} {roots : List Int}
theorem Comes.one_trans {q i : Int} {R : List Int} (h : Comes outs R q) (k : Comes outs [q] i) : Comes outs R i :=
  k.sub (P := fun y => Comes outs R y) (fun y hy => by simp only [List.mem_singleton] at hy; subst hy; exact h) fun _ hz _ hy => .next hz hy
theorem Comes.from_one {R : List Int} {y : Int} (h : Comes outs R y) : ∃ r ∈ R, Comes outs [r] y :=
  h.sub (P := fun y => ∃ r ∈ R, Comes outs [r] y) (fun r hr => ⟨r, hr, .root (by simp)⟩) fun _ ⟨r, hr, hz⟩ _ hy => ⟨r, hr, .next hz hy⟩

/-- what is pointed to is here -/
theorem PInv.pointed (h : PInv s []) {x y : Int} (hy : y ∈ adj s.outs x) : isB s y = true := by
  obtain ⟨h0, h1⟩ := h.adjIn hy
  have := (count_true h (i := y.toNat) (by omega)).2
  rw [Int.toNat_of_nonneg h0] at this
  rw [← Int.toNat_of_nonneg h0, ← hereB_bit, this]
  simpa using refs_pos.2 (.inr (mem_row hy))
theorem PInv.onward (h : PInv s []) {x y : Int} (hx : isB s x = true) (hy : Comes s.outs [x] y) : isB s y = true :=
  hy.sub (P := fun y => isB s y = true) (fun z hz => by simp only [List.mem_singleton] at hz; subst hz; exact hx) fun _ _ _ hz => h.pointed hz

theorem ok_one (hok : Ok outs roots) {x : Int} (h0 : 0 ≤ x) (h1 : x < outs.length) : Ok outs [x] :=
  ⟨hok.n12, by simp, fun y hy => by simp only [List.mem_singleton] at hy; subst hy; exact ⟨h0, h1⟩, hok.few, hok.out⟩

/-- among those that can't be come to there is one that all come from that come to it -/
theorem source (h : PInv s []) : ∀ (n : Nat) (i : Int), isB s i = true → ¬ Comes s.outs s.roots i →
    (List.range s.outs.length).countP (fun x : Nat => bt (reachN s.outs [(x : Int)]) i.toNat) ≤ n →
    ∃ i' : Int, isB s i' = true ∧ ¬ Comes s.outs s.roots i' ∧ ∀ q : Int, 0 ≤ q → q < s.outs.length → Comes s.outs [q] i' → Comes s.outs [i'] q := by
  intro n
  induction n with
  | zero =>
    intro i hi _ hc
    exfalso
    obtain ⟨hr, _⟩ := isB_iff.1 hi
    have hp : 0 < (List.range s.outs.length).countP (fun x : Nat => bt (reachN s.outs [(x : Int)]) i.toNat) := by
      rw [List.countP_pos_iff]
      refine ⟨i.toNat, List.mem_range.2 (by omega), ?_⟩
      unfold bt
      rw [reachN_bit (ok_one h.ok (by omega) (by omega))]
      exact .root (by simp)
    omega
  | succ n ih =>
    intro i hi hn hc
    obtain ⟨hr, _⟩ := isB_iff.1 hi
    by_cases hall : ∀ q : Int, 0 ≤ q → q < s.outs.length → Comes s.outs [q] i → Comes s.outs [i] q
    · exact ⟨i, hi, hn, hall⟩
    · have hex : ∃ q : Int, 0 ≤ q ∧ q < s.outs.length ∧ Comes s.outs [q] i ∧ ¬ Comes s.outs [i] q := by
        apply Classical.byContradiction
        intro hno
        apply hall
        intro q h0 h1 hq
        apply Classical.byContradiction
        intro hb
        exact hno ⟨q, h0, h1, hq, hb⟩
      obtain ⟨q, h0, h1, hq, hb⟩ := hex
      have hqr : ¬ Comes s.outs s.roots q := fun hq' => hn (hq'.one_trans hq)
      have hqB : isB s q = true := by
        refine isB_iff.2 ⟨⟨h0, h1⟩, ?_⟩
        cases e : gAt s.gone q.toNat with
        | false => rfl
        | true =>
          exfalso
          have ha := (h.away q.toNat (by omega) e).1
          rw [Int.toNat_of_nonneg h0] at ha
          have hiq : i = q := hq.sub (P := fun y => y = q) (fun y hy => by simpa using hy) fun z hz y hy => by subst hz; rw [ha] at hy; cases hy
          subst hiq
          exact hb (.root (by simp))
      refine ih q hqB hqr ?_
      have hlt : (List.range s.outs.length).countP (fun x : Nat => bt (reachN s.outs [(x : Int)]) q.toNat) < (List.range s.outs.length).countP (fun x : Nat => bt (reachN s.outs [(x : Int)]) i.toNat) := by
        refine countP_lt (a := i.toNat) (fun x hx hxq => ?_) (List.mem_range.2 (by omega)) ?_ ?_
        · rw [List.mem_range] at hx
          have hox := ok_one h.ok (x := (x : Int)) (by omega) (by omega)
          unfold bt at hxq ⊢
          rw [reachN_bit hox, Int.toNat_of_nonneg (by omega)] at hxq ⊢
          exact hxq.one_trans hq
        · unfold bt
          rw [reachN_bit (ok_one h.ok (by omega) (by omega)), Int.toNat_of_nonneg hr.1]
          exact .root (by simp)
        · cases e : bt (reachN s.outs [(i.toNat : Int)]) q.toNat with
          | false => rfl
          | true =>
            unfold bt at e
            rw [reachN_bit (ok_one h.ok (by omega) (by omega)), Int.toNat_of_nonneg hr.1, Int.toNat_of_nonneg h0] at e
            exact absurd e hb
      omega

/-- it is free by its own trial -/
theorem source_free (h : PInv s []) {i : Int} (hi : isB s i = true) (hn : ¬ Comes s.outs s.roots i) (hs : ∀ q : Int, 0 ≤ q → q < s.outs.length → Comes s.outs [q] i → Comes s.outs [i] q) :
    0 < freeN s.outs s.roots i := by
  obtain ⟨hr, _⟩ := isB_iff.1 hi
  have hx := ok_one h.ok hr.1 hr.2
  have hb : (freeN s.outs s.roots i).testBit i.toNat = true := by
    rw [free_bit h.ok hx, Int.toNat_of_nonneg hr.1]
    refine ⟨.root (by simp), fun hc => ?_⟩
    obtain ⟨r, hrm, hri⟩ := hc.from_one
    rw [mem_held h.ok hx] at hrm
    obtain ⟨_, h1 | ⟨k, hk, hm⟩⟩ := hrm
    · exact hn ((Comes.root h1).one_trans hri)
    · have hkl : k < s.outs.length := by
        rcases Nat.lt_or_ge k s.outs.length with h' | h'
        · exact h'
        · rw [adj_far h'] at hm; cases hm
      exact hk (hs (k : Int) (by omega) (by omega) ((Comes.next (.root (by simp)) hm : Comes s.outs [(k : Int)] r).one_trans hri))
  rcases Nat.eq_zero_or_pos (freeN s.outs s.roots i) with e | e
  · rw [e] at hb; simp at hb
  · exact e

/-- what the law looks at -/
def lostAt (s : Cn) (i : Nat) : Bool := bt (hereB s) i && !bt (reachN s.outs s.roots) i
def lostTo (s : Cn) (k : Nat) : Bool := (List.range k).any fun i => lostAt s i
def freedTo (s : Cn) (k : Nat) : Bool := (List.range k).any fun i => lostAt s i && decide (0 < freeN s.outs s.roots (i : Int))
theorem lostTo_succ (s : Cn) (k : Nat) : lostTo s (k + 1) = (lostTo s k || lostAt s k) := by simp [lostTo, List.range_succ]
theorem freedTo_succ (s : Cn) (k : Nat) : freedTo s (k + 1) = (freedTo s k || (lostAt s k && decide (0 < freeN s.outs s.roots (k : Int)))) := by simp [freedTo, List.range_succ]

theorem rings_end (h : PInv s []) : lostTo s s.outs.length = freedTo s s.outs.length := by
  rw [Bool.eq_iff_iff]
  unfold lostTo freedTo
  rw [List.any_eq_true, List.any_eq_true]
  constructor
  · rintro ⟨i, hi, hl⟩
    rw [List.mem_range] at hi
    unfold lostAt bt at hl
    rw [Bool.and_eq_true, Bool.not_eq_true', hereB_bit] at hl
    have hn : ¬ Comes s.outs s.roots (i : Int) := fun hc => by
      have := (reachN_bit h.ok (i := i)).2 hc
      rw [this] at hl
      cases hl.2
    obtain ⟨i', h1, h2, h3⟩ := source h _ (i : Int) hl.1 hn (Nat.le_refl _)
    obtain ⟨hr, _⟩ := isB_iff.1 h1
    refine ⟨i'.toNat, List.mem_range.2 (by omega), ?_⟩
    unfold lostAt bt
    rw [Bool.and_eq_true, Bool.and_eq_true, Bool.not_eq_true', hereB_bit, Int.toNat_of_nonneg hr.1, decide_eq_true_eq]
    refine ⟨⟨h1, ?_⟩, source_free h h1 h2 h3⟩
    cases e : (reachN s.outs s.roots).testBit i'.toNat with
    | false => rfl
    | true =>
      rw [reachN_bit h.ok, Int.toNat_of_nonneg hr.1] at e
      exact absurd e h2
  · rintro ⟨i, hi, hl⟩
    rw [Bool.and_eq_true] at hl
    exact ⟨i, hi, hl.1⟩

/-- nothing is free that can be come to, or that isn't here -/
theorem rings_safe (h : PInv s []) {i : Nat} (hi : bt (hereB s) i = true) {j : Nat} (hj : bt (freeN s.outs s.roots (i : Int)) j = true) : bt (reachN s.outs s.roots) j = false ∧ bt (hereB s) j = true := by
  unfold bt at hi
  rw [hereB_bit] at hi
  obtain ⟨hr, _⟩ := isB_iff.1 hi
  have hx := ok_one h.ok hr.1 hr.2
  refine ⟨(free_safe h.ok hx hj).1, ?_⟩
  unfold bt at hj ⊢
  rw [free_bit h.ok hx] at hj
  rw [hereB_bit]
  exact h.onward hi hj.1
end Go.Proofs.Ytjcabgbleohdcaa
