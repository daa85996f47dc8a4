/- A heap that counts, plainly: what each change does, and what stays true. No program in sight. -/
import Derived.Test.YtiibadganlincaaDoorSortsPlain
namespace Go.Proofs.YtiibadganlincaaDoor

/-- a heap that counts -/
structure Cn where
  outs : List (List Int)
  roots : List Int
  count : List Int
  gone : List Bool

def gAt (g : List Bool) (i : Nat) : Bool := g.getD i false
def nAt (c : List Int) (i : Nat) : Int := c.getD i 0
/-- how often a node is pointed to -/
def refs (s : Cn) (x : Int) : Nat := s.roots.count x + s.outs.flatten.count x
def isB (s : Cn) (x : Int) : Bool := btw x 0 ((s.outs.length : Int) - 1) && !gAt s.gone x.toNat
/-- how many are here -/
def live (s : Cn) : Nat := s.gone.count false
def Cn.new : Cn := ⟨[], [], [], []⟩

/-- one pointer less -/
def lessS : Nat → Cn → Int → Cn
  | 0, s, _ => s
  | f + 1, s, x =>
    if 0 < nAt s.count x.toNat - 1 then { s with count := s.count.set x.toNat (nAt s.count x.toNat - 1) }
    else (adj s.outs x).foldl (lessS f) ⟨s.outs.set x.toNat [], s.roots, s.count.set x.toNat (nAt s.count x.toNat - 1), s.gone.set x.toNat true⟩

def makeE (s : Cn) : Nat := if s.outs.length = 12 ∨ s.roots.length = 12 then 4 else 0
def makeS (s : Cn) : Cn := if makeE s = 0 then ⟨s.outs ++ [[]], s.roots ++ [(s.outs.length : Int)], s.count ++ [1], s.gone ++ [false]⟩ else s
def rootE (s : Cn) (i : Int) : Nat := if isB s i = true then if s.roots.length = 12 then 4 else 0 else 1
def rootS (s : Cn) (i : Int) : Cn := if rootE s i = 0 then { s with roots := s.roots ++ [i], count := s.count.set i.toNat (nAt s.count i.toNat + 1) } else s
def dropE (s : Cn) (i : Int) : Nat := if isB s i = true then if i ∈ s.roots then 0 else 5 else 1
def dropS (s : Cn) (i : Int) : Cn := if dropE s i = 0 then lessS 13 { s with roots := s.roots.erase i } i else s
def linkE (s : Cn) (i j : Int) : Nat := if isB s i = true ∧ isB s j = true then if (adj s.outs i).length = 4 then 4 else 0 else 1
def linkS (s : Cn) (i j : Int) : Cn := if linkE s i j = 0 then { s with outs := s.outs.set i.toNat (adj s.outs i ++ [j]), count := s.count.set j.toNat (nAt s.count j.toNat + 1) } else s
def cutE (s : Cn) (i j : Int) : Nat := if isB s i = true ∧ isB s j = true then if j ∈ adj s.outs i then 0 else 5 else 1
def cutS (s : Cn) (i j : Int) : Cn := if cutE s i j = 0 then lessS 13 { s with outs := s.outs.set i.toNat ((adj s.outs i).erase j) } j else s

/-- what stays true, while pointers of P are still to be counted off -/
structure PInv (s : Cn) (P : List Int) : Prop where
  n12 : s.outs.length ≤ 12
  r12 : s.roots.length ≤ 12
  clen : s.count.length = s.outs.length
  glen : s.gone.length = s.outs.length
  root : ∀ x ∈ s.roots, 0 ≤ x ∧ x < s.outs.length
  few : ∀ l ∈ s.outs, l.length ≤ 4
  out : ∀ l ∈ s.outs, ∀ x ∈ l, 0 ≤ x ∧ x < s.outs.length
  pend : ∀ x ∈ P, 0 ≤ x ∧ x < s.outs.length
  here : ∀ i, i < s.outs.length → gAt s.gone i = false → nAt s.count i = (refs s (i : Int) : Int) + P.count (i : Int) ∧ 0 < nAt s.count i
  away : ∀ i, i < s.outs.length → gAt s.gone i = true → adj s.outs (i : Int) = [] ∧ refs s (i : Int) = 0 ∧ P.count (i : Int) = 0

theorem gAt_set {g : List Bool} {n i : Nat} {v : Bool} : gAt (g.set n v) i = if n = i ∧ n < g.length then v else gAt g i := by
  unfold gAt
  rw [List.getD_eq_getElem?_getD, List.getD_eq_getElem?_getD, List.getElem?_set]
  by_cases e : n = i
  · subst e
    by_cases h : n < g.length
    · simp [h]
    · simp [h, List.getElem?_eq_none (by omega : g.length ≤ n)]
  · simp [e]
theorem nAt_set {c : List Int} {n i : Nat} {v : Int} : nAt (c.set n v) i = if n = i ∧ n < c.length then v else nAt c i := by
  unfold nAt
  rw [List.getD_eq_getElem?_getD, List.getD_eq_getElem?_getD, List.getElem?_set]
  by_cases e : n = i
  · subst e
    by_cases h : n < c.length
    · simp [h]
    · simp [h, List.getElem?_eq_none (by omega : c.length ≤ n)]
  · simp [e]
theorem nAt_eq {c : List Int} {i : Nat} (h : i < c.length) : nAt c i = c[i] := by
  unfold nAt; rw [List.getD_eq_getElem?_getD, List.getElem?_eq_getElem h]; rfl
theorem gAt_eq {g : List Bool} {i : Nat} (h : i < g.length) : gAt g i = g[i] := by
  unfold gAt; rw [List.getD_eq_getElem?_getD, List.getElem?_eq_getElem h]; rfl

theorem adj_put {outs : List (List Int)} {n : Nat} {l : List Int} {x : Int} (h0 : 0 ≤ x) : adj (outs.set n l) x = if n = x.toNat ∧ n < outs.length then l else adj outs x := by
  unfold adj
  rw [List.getD_eq_getElem?_getD, List.getD_eq_getElem?_getD, List.getElem?_set]
  by_cases e : n = x.toNat
  · subst e
    by_cases h : x.toNat < outs.length
    · simp [h]
    · simp [h, List.getElem?_eq_none (by omega : outs.length ≤ x.toNat)]
  · simp [e]
theorem flat_put {outs : List (List Int)} {n : Nat} (h : n < outs.length) (l : List Int) (x : Int) : (outs.set n l).flatten.count x + (adj outs (n : Int)).count x = outs.flatten.count x + l.count x := by
  rw [adj_eq (by simpa using h)]
  simp only [Int.toNat_natCast]
  induction outs generalizing n with
  | nil => simp at h
  | cons a r ih =>
    cases n with
    | zero => simp [List.count_append]; omega
    | succ n =>
      have := ih (n := n) (by simpa using h)
      simp [List.count_append] at this ⊢
      omega
theorem live_put {g : List Bool} {n : Nat} (h : n < g.length) (hn : gAt g n = false) : (g.set n true).count false + 1 = g.count false := by
  rw [List.count_set h]
  rw [gAt_eq h] at hn
  have : 0 < g.count false := by rw [List.count_pos_iff, ← hn]; exact List.getElem_mem h
  rw [hn]
  simp
  omega
theorem live_le (s : Cn) : live s ≤ s.gone.length := List.count_le_length

section
variable {s : Cn} {P : List Int}
theorem PInv.ok (h : PInv s P) : Ok s.outs s.roots := ⟨h.n12, h.r12, h.root, h.few, h.out⟩
theorem PInv.adjIn (h : PInv s P) {x y : Int} (hy : y ∈ adj s.outs x) : 0 ≤ y ∧ y < s.outs.length := h.ok.adjIn y hy
theorem PInv.isHere {x : Int} (h : PInv s (x :: P)) : isB s x = true := by
  have hx := h.pend x (by simp)
  unfold isB
  rw [Bool.and_eq_true]
  refine ⟨btw_iff.2 ⟨hx.1, by omega⟩, ?_⟩
  cases e : gAt s.gone x.toNat with
  | false => rfl
  | true =>
    have := (h.away x.toNat (by omega) e).2.2
    rw [Int.toNat_of_nonneg hx.1] at this
    simp at this
theorem isB_iff {x : Int} : isB s x = true ↔ (0 ≤ x ∧ x < s.outs.length) ∧ gAt s.gone x.toNat = false := by
  unfold isB
  rw [Bool.and_eq_true, btw_iff, Bool.not_eq_true']
  exact ⟨fun h => ⟨⟨h.1.1, by omega⟩, h.2⟩, fun h => ⟨⟨h.1.1, by omega⟩, h.2⟩⟩

/-- the count alone is less -/
theorem PInv.dec {x : Int} (h : PInv s (x :: P)) (hp : 0 < nAt s.count x.toNat - 1) : PInv { s with count := s.count.set x.toNat (nAt s.count x.toNat - 1) } P := by
  have hx := h.pend x (by simp)
  have hlt : x.toNat < s.count.length := by rw [h.clen]; omega
  refine ⟨h.n12, h.r12, by rw [List.length_set]; exact h.clen, h.glen, h.root, h.few, h.out, fun y hy => h.pend y (by simp [hy]), fun i hi hg => ?_, fun i hi hg => ?_⟩
  · obtain ⟨h1, h2⟩ := h.here i hi hg
    show nAt (s.count.set _ _) i = (refs s (i : Int) : Int) + _ ∧ 0 < nAt (s.count.set _ _) i
    rw [nAt_set]
    rw [List.count_cons] at h1
    by_cases e : x.toNat = i
    · have e' : x = (i : Int) := by omega
      rw [if_pos ⟨e, hlt⟩]
      subst e
      have e2 : (x == ((x.toNat : Nat) : Int)) = true := by simp; omega
      rw [e2] at h1
      simp only [if_true] at h1
      show _ = ((refs s ((x.toNat : Nat) : Int) : Nat) : Int) + _ ∧ _
      omega
    · rw [if_neg fun h => e h.1]
      have e' : (x == (i : Int)) = false := by simp; omega
      rw [e'] at h1
      simp at h1
      exact ⟨h1, h2⟩
  · obtain ⟨h1, h2, h3⟩ := h.away i hi hg
    exact ⟨h1, h2, by rw [List.count_cons] at h3; omega⟩

/-- the node is gone -/
theorem PInv.leave {x : Int} (h : PInv s (x :: P)) (hp : ¬ 0 < nAt s.count x.toNat - 1) :
    PInv ⟨s.outs.set x.toNat [], s.roots, s.count.set x.toNat (nAt s.count x.toNat - 1), s.gone.set x.toNat true⟩ (adj s.outs x ++ P) ∧
    live ⟨s.outs.set x.toNat [], s.roots, s.count.set x.toNat (nAt s.count x.toNat - 1), s.gone.set x.toNat true⟩ + 1 = live s := by
  have hx := h.pend x (by simp)
  obtain ⟨_, hgx⟩ := isB_iff.1 h.isHere
  have hlt : x.toNat < s.outs.length := by omega
  have ex : ((x.toNat : Nat) : Int) = x := by omega
  obtain ⟨h1, h2⟩ := h.here x.toNat hlt hgx
  rw [ex] at h1
  rw [List.count_cons] at h1
  simp at h1
  have hr0 : refs s x = 0 := by omega
  have hP0 : P.count x = 0 := by omega
  have hfl : ∀ y : Int, (s.outs.set x.toNat []).flatten.count y + (adj s.outs x).count y = s.outs.flatten.count y := fun y => by
    have := flat_put hlt [] y
    rw [ex] at this
    simpa using this
  refine ⟨⟨by rw [List.length_set]; exact h.n12, h.r12, ?_, ?_, ?_, ?_, ?_, ?_, ?_, ?_⟩, ?_⟩
  · simp only [List.length_set]; exact h.clen
  · simp only [List.length_set]; exact h.glen
  · simp only [List.length_set]; exact h.root
  · intro l hl
    rcases List.mem_or_eq_of_mem_set hl with hl | rfl
    · exact h.few l hl
    · simp
  · intro l hl
    simp only [List.length_set]
    rcases List.mem_or_eq_of_mem_set hl with hl | rfl
    · exact h.out l hl
    · simp
  · intro y hy
    simp only [List.length_set]
    rcases List.mem_append.1 hy with hy | hy
    · exact h.adjIn hy
    · exact h.pend y (by simp [hy])
  · intro i hi hg
    simp only [List.length_set] at hi
    simp only [gAt_set] at hg
    split at hg
    · cases hg
    · rename_i hne
      have hne' : x.toNat ≠ i := fun e => hne ⟨e, by rw [h.glen]; omega⟩
      obtain ⟨k1, k2⟩ := h.here i hi hg
      have e' : (x == (i : Int)) = false := by simp; omega
      rw [List.count_cons, e'] at k1
      simp only [nAt_set]
      rw [if_neg fun h => hne' h.1]
      refine ⟨?_, k2⟩
      have := hfl (i : Int)
      unfold refs at k1 ⊢
      simp only [List.count_append]
      simp at k1
      omega
  · intro i hi hg
    simp only [List.length_set] at hi
    have := hfl (i : Int)
    by_cases e : x.toNat = i
    · subst e
      rw [ex] at this ⊢
      unfold refs at hr0 ⊢
      dsimp only
      rw [adj_put hx.1, if_pos ⟨rfl, hlt⟩]
      refine ⟨rfl, by omega, ?_⟩
      rw [List.count_append]
      omega
    · simp only [gAt_set] at hg
      rw [if_neg fun h => e h.1] at hg
      obtain ⟨k1, k2, k3⟩ := h.away i hi hg
      unfold refs at k2 ⊢
      rw [List.count_cons] at k3
      dsimp only
      rw [adj_put (show (0 : Int) ≤ (i : Int) by omega), if_neg (by intro h; exact e (by have := h.1; omega))]
      refine ⟨k1, by omega, ?_⟩
      rw [List.count_append]
      omega
  · exact live_put (by rw [h.glen]; exact hlt) hgx

theorem less_inv : ∀ (f : Nat) (s : Cn) (x : Int) (P : List Int), live s < f → PInv s (x :: P) → PInv (lessS f s x) P ∧ live (lessS f s x) ≤ live s := by
  intro f
  induction f with
  | zero => intro s x P h; omega
  | succ f ih =>
    intro s x P hl h
    have fold : ∀ (l : List Int) (s : Cn) (P : List Int), live s < f → PInv s (l ++ P) → PInv (l.foldl (lessS f) s) P ∧ live (l.foldl (lessS f) s) ≤ live s := by
      intro l
      induction l with
      | nil => intro s P _ h; exact ⟨h, Nat.le_refl _⟩
      | cons y l ihl =>
        intro s P hl h
        obtain ⟨h1, h2⟩ := ih s y (l ++ P) hl h
        obtain ⟨h3, h4⟩ := ihl _ P (by omega) h1
        exact ⟨h3, Nat.le_trans h4 h2⟩
    unfold lessS
    split
    · rename_i hp
      exact ⟨h.dec hp, Nat.le_refl _⟩
    · rename_i hp
      obtain ⟨h1, h2⟩ := h.leave hp
      obtain ⟨h3, h4⟩ := fold _ _ P (by omega) h1
      exact ⟨h3, by omega⟩

/-- rows are as they were, or empty; the roots are as they were -/
structure Fewer (s t : Cn) : Prop where
  roots : t.roots = s.roots
  len : t.outs.length = s.outs.length
  row : ∀ x : Int, 0 ≤ x → adj t.outs x = adj s.outs x ∨ (adj t.outs x = [] ∧ gAt t.gone x.toNat = true)
  gone : ∀ i, gAt s.gone i = true → gAt t.gone i = true
theorem Fewer.refl (s : Cn) : Fewer s s := ⟨rfl, rfl, fun _ _ => .inl rfl, fun _ h => h⟩
theorem Fewer.trans {s t u : Cn} (h : Fewer s t) (k : Fewer t u) : Fewer s u :=
  ⟨k.roots.trans h.roots, k.len.trans h.len, fun x hx => by
    rcases k.row x hx with e | e
    · rcases h.row x hx with e' | e'
      · exact .inl (e.trans e')
      · exact .inr ⟨e.trans e'.1, k.gone _ e'.2⟩
    · exact .inr e, fun i hi => k.gone i (h.gone i hi)⟩

theorem less_fewer : ∀ (f : Nat) (s : Cn) (x : Int), 0 ≤ x → x.toNat < s.gone.length → s.gone.length = s.outs.length → (∀ l ∈ s.outs, ∀ y ∈ l, 0 ≤ y ∧ y < s.outs.length) → Fewer s (lessS f s x) ∧ (lessS f s x).gone.length = s.gone.length ∧ (∀ l ∈ (lessS f s x).outs, ∀ y ∈ l, 0 ≤ y ∧ y < s.outs.length) := by
  intro f
  induction f with
  | zero => intro s x _ _ _ ho; exact ⟨Fewer.refl s, rfl, ho⟩
  | succ f ih =>
    intro s x h0 hx hg ho
    have fold : ∀ (l : List Int) (s : Cn), (∀ y ∈ l, 0 ≤ y ∧ y.toNat < s.gone.length) → s.gone.length = s.outs.length → (∀ l ∈ s.outs, ∀ y ∈ l, 0 ≤ y ∧ y < s.outs.length) →
        Fewer s (l.foldl (lessS f) s) ∧ (l.foldl (lessS f) s).gone.length = s.gone.length ∧ (∀ l' ∈ (l.foldl (lessS f) s).outs, ∀ y ∈ l', 0 ≤ y ∧ y < s.outs.length) := by
      intro l
      induction l with
      | nil => intro s _ _ ho; exact ⟨Fewer.refl s, rfl, ho⟩
      | cons y l ihl =>
        intro s hl hg ho
        obtain ⟨h1, h2, h3⟩ := ih s y (hl y (by simp)).1 (hl y (by simp)).2 hg ho
        have e : (lessS f s y).outs.length = s.outs.length := h1.len
        obtain ⟨h4, h5, h6⟩ := ihl (lessS f s y) (fun z hz => by rw [h2]; exact hl z (by simp [hz])) (by rw [h2, e]; exact hg) (by rw [e]; exact h3)
        exact ⟨h1.trans h4, h5.trans h2, by rw [← e]; exact h6⟩
    unfold lessS
    split
    · exact ⟨⟨rfl, rfl, fun _ _ => .inl rfl, fun _ h => h⟩, rfl, ho⟩
    · obtain ⟨h1, h2, h3⟩ := fold (adj s.outs x) ⟨s.outs.set x.toNat [], s.roots, s.count.set x.toNat (nAt s.count x.toNat - 1), s.gone.set x.toNat true⟩ (fun y hy => by
          simp only [List.length_set]
          unfold adj at hy
          rw [List.getD_eq_getElem?_getD, List.getElem?_eq_getElem (by omega : x.toNat < s.outs.length)] at hy
          have := ho _ (List.getElem_mem _) y hy
          omega) (by simp only [List.length_set]; exact hg) (fun l hl => by
          simp only [List.length_set]
          rcases List.mem_or_eq_of_mem_set hl with hl | rfl
          · exact ho l hl
          · simp)
      have h0 : Fewer s ⟨s.outs.set x.toNat [], s.roots, s.count.set x.toNat (nAt s.count x.toNat - 1), s.gone.set x.toNat true⟩ := by
        refine ⟨rfl, by simp, fun y hy => ?_, fun i hi => ?_⟩
        · by_cases e : x.toNat = y.toNat
          · refine .inr ⟨?_, ?_⟩
            · simp only [adj_put hy]; rw [if_pos ⟨e, by omega⟩]
            · simp only [gAt_set]; rw [if_pos ⟨e, hx⟩]
          · refine .inl ?_
            simp only [adj_put hy]; rw [if_neg fun h => e h.1]
        · simp only [gAt_set]
          split
          · rfl
          · exact hi
      exact ⟨h0.trans h1, by rw [h2]; simp, by simpa using h3⟩

/-- nodes that hold each other -/
def Guard (C : Int → Prop) (b : Bool) (s : Cn) : Prop := ∀ c, C c → isB s c = true ∧ ((b = true ∧ c ∈ s.roots) ∨ ∃ p, C p ∧ c ∈ adj s.outs p)
theorem refs_pos {x : Int} : 0 < refs s x ↔ x ∈ s.roots ∨ ∃ l ∈ s.outs, x ∈ l := by
  unfold refs
  rw [← List.count_append, List.count_pos_iff, List.mem_append, List.mem_flatten]
theorem mem_row {p x : Int} (h : x ∈ adj s.outs p) : ∃ l ∈ s.outs, x ∈ l := by
  unfold adj at h
  rw [List.getD_eq_getElem?_getD] at h
  by_cases hp : p.toNat < s.outs.length
  · rw [List.getElem?_eq_getElem hp] at h
    exact ⟨_, List.getElem_mem hp, h⟩
  · rw [List.getElem?_eq_none (by omega)] at h
    cases h
theorem less_guard {C : Int → Prop} {b : Bool} : ∀ (f : Nat) (s : Cn) (x : Int) (P : List Int), live s < f → PInv s (x :: P) → Guard C b s → Guard C b (lessS f s x) := by
  intro f
  induction f with
  | zero => intro s x P h; omega
  | succ f ih =>
    intro s x P hl h hC
    have fold : ∀ (l : List Int) (s : Cn) (P : List Int), live s < f → PInv s (l ++ P) → Guard C b s → Guard C b (l.foldl (lessS f) s) := by
      intro l
      induction l with
      | nil => intro s P _ _ h; exact h
      | cons y l ihl =>
        intro s P hl h hC
        obtain ⟨h1, h2⟩ := less_inv f s y (l ++ P) hl h
        exact ihl _ P (by omega) h1 (ih s y (l ++ P) hl h hC)
    unfold lessS
    split
    · exact hC
    · rename_i hp
      obtain ⟨h1, h2⟩ := h.leave hp
      refine fold _ _ P (by omega) h1 fun c hc => ?_
      have hx := h.pend x (by simp)
      obtain ⟨k1, k2⟩ := hC c hc
      have hxC : ∀ c, C c → c ≠ x := by
        rintro c hc rfl
        obtain ⟨_, k2⟩ := hC c hc
        have hg := (isB_iff.1 h.isHere).2
        have := (h.here c.toNat (by omega) hg).1
        rw [Int.toNat_of_nonneg hx.1, List.count_cons] at this
        simp at this
        have hr : 0 < refs s c := refs_pos.2 (k2.imp (fun h => h.2) fun ⟨p, _, h⟩ => mem_row h)
        omega
      have hne := hxC c hc
      rw [isB_iff] at k1
      refine ⟨isB_iff.2 ⟨by simpa using k1.1, ?_⟩, ?_⟩
      · simp only [gAt_set]
        rw [if_neg (by intro h; have := h.1; have := k1.1.1; omega)]
        exact k1.2
      · refine k2.imp id fun ⟨p, hp', hm⟩ => ⟨p, hp', ?_⟩
        have hpne := hxC p hp'
        have hp0 := (isB_iff.1 (hC p hp').1).1
        simp only [adj_put hp0.1]
        rw [if_neg (by intro h; have := h.1; omega)]
        exact hm

theorem PInv.new_ : PInv Cn.new [] := ⟨by simp [Cn.new], by simp [Cn.new], rfl, rfl, by simp [Cn.new], by simp [Cn.new], by simp [Cn.new], by simp, fun i hi => by simp [Cn.new] at hi, fun i hi => by simp [Cn.new] at hi⟩

theorem PInv.live12 (h : PInv s P) : live s < 13 := by have := live_le s; have := h.glen; have := h.n12; omega

theorem PInv.make (h : PInv s []) : PInv (makeS s) [] := by
  unfold makeS
  split
  · rename_i he
    have hlen : ¬ (s.outs.length = 12 ∨ s.roots.length = 12) := by
      unfold makeE at he
      split at he
      · cases he
      · assumption
    have hn := h.n12
    have hr := h.r12
    have refsE : ∀ x : Int, refs ⟨s.outs ++ [[]], s.roots ++ [(s.outs.length : Int)], s.count ++ [1], s.gone ++ [false]⟩ x = refs s x + if x = (s.outs.length : Int) then 1 else 0 := by
      intro x
      unfold refs
      simp only [List.count_append, List.flatten_append, List.count_singleton]
      by_cases e : x = (s.outs.length : Int)
      · subst e; simp; omega
      · have e' : ((s.outs.length : Int) == x) = false := by simpa using fun h => e h.symm
        simp [e, e']
    have adjE : ∀ i : Nat, i < s.outs.length → adj (s.outs ++ [[]]) (i : Int) = adj s.outs (i : Int) := by
      intro i hi
      unfold adj
      rw [Int.toNat_natCast, List.getD_eq_getElem?_getD, List.getD_eq_getElem?_getD, List.getElem?_append_left hi]
    have noref : refs s (s.outs.length : Int) = 0 := by
      rcases Nat.eq_zero_or_pos (refs s (s.outs.length : Int)) with e | e
      · exact e
      · exfalso
        rcases refs_pos.1 e with h1 | ⟨l, hl, h1⟩
        · have := h.root _ h1; omega
        · have := h.out l hl _ h1; omega
    refine ⟨by simp; omega, by simp; omega, by simp [h.clen], by simp [h.glen], ?_, ?_, ?_, by simp, ?_, ?_⟩
    · intro x hx
      simp only [List.length_append, List.length_singleton]
      rcases List.mem_append.1 hx with hx | hx
      · have := h.root x hx; omega
      · simp at hx; omega
    · intro l hl
      rcases List.mem_append.1 hl with hl | hl
      · exact h.few l hl
      · simp at hl; subst hl; simp
    · intro l hl x hx
      simp only [List.length_append, List.length_singleton]
      rcases List.mem_append.1 hl with hl | hl
      · have := h.out l hl x hx; omega
      · simp at hl; subst hl; cases hx
    · intro i hi hg
      simp only [List.length_append, List.length_singleton] at hi
      rw [refsE]
      simp only [List.count_nil]
      by_cases e : i = s.outs.length
      · subst e
        rw [noref]
        have : nAt (s.count ++ [1]) s.outs.length = 1 := by
          unfold nAt
          rw [List.getD_eq_getElem?_getD, List.getElem?_append_right (by rw [h.clen]; exact Nat.le_refl _), h.clen]
          simp
        simp only [this]
        simp
      · have hi' : i < s.outs.length := by omega
        have e1 : nAt (s.count ++ [1]) i = nAt s.count i := by
          unfold nAt
          rw [List.getD_eq_getElem?_getD, List.getD_eq_getElem?_getD, List.getElem?_append_left (by rw [h.clen]; exact hi')]
        have e2 : gAt s.gone i = false := by
          have : gAt (s.gone ++ [false]) i = gAt s.gone i := by
            unfold gAt
            rw [List.getD_eq_getElem?_getD, List.getD_eq_getElem?_getD, List.getElem?_append_left (by rw [h.glen]; exact hi')]
          rw [← this]; exact hg
        have := h.here i hi' e2
        simp only [List.count_nil] at this
        simp only [e1]
        rw [if_neg (by omega)]
        simpa using this
    · intro i hi hg
      simp only [List.length_append, List.length_singleton] at hi
      rw [refsE]
      have hi' : i < s.outs.length := by
        rcases Nat.lt_or_ge i s.outs.length with h' | h'
        · exact h'
        · exfalso
          obtain rfl : i = s.outs.length := by omega
          have : gAt (s.gone ++ [false]) s.outs.length = false := by
            unfold gAt
            rw [List.getD_eq_getElem?_getD, List.getElem?_append_right (by rw [h.glen]; exact Nat.le_refl _), h.glen]
            simp
          rw [this] at hg
          cases hg
      have e2 : gAt s.gone i = true := by
        have : gAt (s.gone ++ [false]) i = gAt s.gone i := by
          unfold gAt
          rw [List.getD_eq_getElem?_getD, List.getD_eq_getElem?_getD, List.getElem?_append_left (by rw [h.glen]; exact hi')]
        rw [← this]; exact hg
      obtain ⟨k1, k2, k3⟩ := h.away i hi' e2
      simp only [adjE i hi']
      rw [if_neg (by omega)]
      exact ⟨k1, by omega, k3⟩
  · exact h

/-- one pointer more, that is counted -/
theorem PInv.plus (h : PInv s P) {x : Int} (hx : isB s x = true) {o : List (List Int)} {r : List Int} (ho : o.length = s.outs.length) (hr : r.length ≤ 12) (hroot : ∀ y ∈ r, 0 ≤ y ∧ y < s.outs.length)
    (hfew : ∀ l ∈ o, l.length ≤ 4) (hout : ∀ l ∈ o, ∀ y ∈ l, 0 ≤ y ∧ y < s.outs.length) (hadj : ∀ i : Nat, gAt s.gone i = true → adj o (i : Int) = adj s.outs (i : Int))
    (href : ∀ y : Int, r.count y + o.flatten.count y = refs s y + if y = x then 1 else 0) : PInv ⟨o, r, s.count.set x.toNat (nAt s.count x.toNat + 1), s.gone⟩ P := by
  obtain ⟨hx1, hx2⟩ := isB_iff.1 hx
  refine ⟨by rw [ho]; exact h.n12, hr, by simp [ho, h.clen], by simp [ho, h.glen], by simpa [ho] using hroot, hfew, by simpa [ho] using hout, by simpa [ho] using h.pend, fun i hi hg => ?_, fun i hi hg => ?_⟩
  · rw [ho] at hi
    obtain ⟨h1, h2⟩ := h.here i hi hg
    have hf := href (i : Int)
    show nAt (s.count.set _ _) i = ((r.count (i : Int) + o.flatten.count (i : Int) : Nat) : Int) + _ ∧ 0 < nAt (s.count.set _ _) i
    rw [nAt_set]
    by_cases e : x.toNat = i
    · have e' : (i : Int) = x := by omega
      rw [if_pos ⟨e, by rw [h.clen]; omega⟩]
      rw [if_pos e'] at hf
      subst e
      omega
    · rw [if_neg fun h => e h.1]
      rw [if_neg (by omega)] at hf
      omega
  · rw [ho] at hi
    obtain ⟨h1, h2, h3⟩ := h.away i hi hg
    have hf := href (i : Int)
    rw [if_neg (by
      intro e
      subst e
      rw [Int.toNat_natCast] at hx2
      rw [hx2] at hg
      cases hg)] at hf
    refine ⟨(hadj i hg).trans h1, ?_, h3⟩
    show r.count (i : Int) + o.flatten.count (i : Int) = 0
    omega

/-- one pointer is taken away, and is still to be counted off -/
theorem PInv.minus (h : PInv s P) {x : Int} (hx : isB s x = true) {o : List (List Int)} {r : List Int} (ho : o.length = s.outs.length) (hr : r.length ≤ 12) (hroot : ∀ y ∈ r, 0 ≤ y ∧ y < s.outs.length)
    (hfew : ∀ l ∈ o, l.length ≤ 4) (hout : ∀ l ∈ o, ∀ y ∈ l, 0 ≤ y ∧ y < s.outs.length) (hadj : ∀ i : Nat, gAt s.gone i = true → adj o (i : Int) = adj s.outs (i : Int))
    (href : ∀ y : Int, (r.count y + o.flatten.count y) + (if y = x then 1 else 0) = refs s y) : PInv ⟨o, r, s.count, s.gone⟩ (x :: P) := by
  obtain ⟨hx1, hx2⟩ := isB_iff.1 hx
  refine ⟨by rw [ho]; exact h.n12, hr, by simp [ho, h.clen], by simp [ho, h.glen], by simpa [ho] using hroot, hfew, by simpa [ho] using hout, fun y hy => ?_, fun i hi hg => ?_, fun i hi hg => ?_⟩
  · simp only [ho]
    rcases List.mem_cons.1 hy with rfl | hy
    · exact hx1
    · exact h.pend y hy
  · rw [ho] at hi
    obtain ⟨h1, h2⟩ := h.here i hi hg
    have hf := href (i : Int)
    show nAt s.count i = ((r.count (i : Int) + o.flatten.count (i : Int) : Nat) : Int) + _ ∧ 0 < nAt s.count i
    rw [List.count_cons]
    by_cases e : (i : Int) = x
    · have e' : (x == (i : Int)) = true := by simp [e]
      rw [if_pos e] at hf
      rw [e', if_pos rfl]
      omega
    · have e' : (x == (i : Int)) = false := by simp; omega
      rw [if_neg e] at hf
      rw [e']
      simp
      omega
  · rw [ho] at hi
    obtain ⟨h1, h2, h3⟩ := h.away i hi hg
    have hf := href (i : Int)
    have hne : ¬ (i : Int) = x := by
      intro e
      subst e
      rw [Int.toNat_natCast] at hx2
      rw [hx2] at hg
      cases hg
    rw [if_neg hne] at hf
    refine ⟨(hadj i hg).trans h1, ?_, ?_⟩
    · show r.count (i : Int) + o.flatten.count (i : Int) = 0
      omega
    · have e' : (x == (i : Int)) = false := by simp; omega
      rw [List.count_cons, e', h3]
      rfl

theorem erase_count_ (l : List Int) {x : Int} (hx : x ∈ l) (y : Int) : (l.erase x).count y + (if y = x then 1 else 0) = l.count y := by
  by_cases e : y = x
  · subst e
    have := List.count_erase_self (a := y) (l := l)
    have hp : 0 < l.count y := List.count_pos_iff.2 hx
    rw [if_pos rfl]
    omega
  · rw [List.count_erase_of_ne e, if_neg e]
    rfl
theorem count_one (x y : Int) : [x].count y = if y = x then 1 else 0 := by
  rw [List.count_singleton]
  by_cases e : y = x
  · simp [e]
  · have : (x == y) = false := by simpa using fun h => e h.symm
    simp [e, this]

theorem PInv.root_ (h : PInv s []) (i : Int) : PInv (rootS s i) [] := by
  unfold rootS
  split
  · rename_i he
    unfold rootE at he
    split at he
    · rename_i hi
      split at he
      · cases he
      · have hi1 := (isB_iff.1 hi).1
        have := h.r12
        refine h.plus hi rfl (by simp; omega) (fun y hy => ?_) h.few h.out (fun _ _ => rfl) fun y => ?_
        · rcases List.mem_append.1 hy with hy | hy
          · exact h.root y hy
          · simp at hy; subst hy; exact hi1
        · rw [List.count_append, count_one]
          unfold refs
          omega
    · cases he
  · exact h

theorem PInv.dropMid (h : PInv s []) {i : Int} (he : dropE s i = 0) : PInv { s with roots := s.roots.erase i } [i] := by
  unfold dropE at he
  split at he
  · rename_i hi
    split at he
    · rename_i hm
      refine h.minus hi rfl (Nat.le_trans (List.erase_sublist).length_le h.r12) (fun y hy => h.root y (List.mem_of_mem_erase hy)) h.few h.out (fun _ _ => rfl) fun y => ?_
      have := erase_count_ _ hm y
      unfold refs
      omega
    · cases he
  · cases he
theorem PInv.drop_ (h : PInv s []) (i : Int) : PInv (dropS s i) [] := by
  unfold dropS
  split
  · rename_i he
    exact (less_inv 13 { s with roots := s.roots.erase i } i [] h.live12 (h.dropMid he)).1
  · exact h

theorem linkE_zero {i j : Int} (he : linkE s i j = 0) : isB s i = true ∧ isB s j = true ∧ (adj s.outs i).length ≠ 4 := by
  unfold linkE at he
  split at he
  · rename_i h
    split at he
    · cases he
    · rename_i h'; exact ⟨h.1, h.2, h'⟩
  · cases he
theorem PInv.link_ (h : PInv s []) (i j : Int) : PInv (linkS s i j) [] := by
  unfold linkS
  split
  · rename_i he
    obtain ⟨hi, hj, h4⟩ := linkE_zero he
    obtain ⟨hi1, hi2⟩ := isB_iff.1 hi
    have hj1 := (isB_iff.1 hj).1
    have hlt : i.toNat < s.outs.length := by omega
    have hf4 := h.ok.adjFew (x := i)
    refine h.plus hj (by simp) h.r12 h.root (fun l hl => ?_) (fun l hl y hy => ?_) (fun k hk => ?_) fun y => ?_
    · rcases List.mem_or_eq_of_mem_set hl with hl | rfl
      · exact h.few l hl
      · simp; omega
    · rcases List.mem_or_eq_of_mem_set hl with hl | rfl
      · exact h.out l hl y hy
      · rcases List.mem_append.1 hy with hy | hy
        · exact h.adjIn hy
        · simp at hy; subst hy; exact hj1
    · rw [adj_put (by omega), if_neg]
      intro hh
      have : i.toNat = k := by have := hh.1; omega
      rw [this, hk] at hi2
      cases hi2
    · have := flat_put hlt (adj s.outs i ++ [j]) y
      rw [List.count_append, count_one, Int.toNat_of_nonneg hi1.1] at this
      unfold refs
      omega
  · exact h

theorem cutE_zero {i j : Int} (he : cutE s i j = 0) : isB s i = true ∧ isB s j = true ∧ j ∈ adj s.outs i := by
  unfold cutE at he
  split at he
  · rename_i h
    split at he
    · rename_i h'; exact ⟨h.1, h.2, h'⟩
    · cases he
  · cases he
theorem PInv.cutMid (h : PInv s []) {i j : Int} (he : cutE s i j = 0) : PInv { s with outs := s.outs.set i.toNat ((adj s.outs i).erase j) } [j] := by
  obtain ⟨hi, hj, hm⟩ := cutE_zero he
  obtain ⟨hi1, hi2⟩ := isB_iff.1 hi
  have hlt : i.toNat < s.outs.length := by omega
  refine h.minus hj (by simp) h.r12 h.root (fun l hl => ?_) (fun l hl y hy => ?_) (fun k hk => ?_) fun y => ?_
  · rcases List.mem_or_eq_of_mem_set hl with hl | rfl
    · exact h.few l hl
    · exact Nat.le_trans (List.erase_sublist).length_le h.ok.adjFew
  · rcases List.mem_or_eq_of_mem_set hl with hl | rfl
    · exact h.out l hl y hy
    · exact h.adjIn (List.mem_of_mem_erase hy)
  · rw [adj_put (by omega), if_neg]
    intro hh
    have : i.toNat = k := by have := hh.1; omega
    rw [this, hk] at hi2
    cases hi2
  · have h1 := flat_put hlt ((adj s.outs i).erase j) y
    rw [Int.toNat_of_nonneg hi1.1] at h1
    have h2 := erase_count_ _ hm y
    unfold refs
    omega
theorem PInv.cut_ (h : PInv s []) (i j : Int) : PInv (cutS s i j) [] := by
  unfold cutS
  split
  · rename_i he
    exact (less_inv 13 { s with outs := s.outs.set i.toNat ((adj s.outs i).erase j) } j [] h.live12 (h.cutMid he)).1
  · exact h

/-- counts are true -/
def hereN (s : Cn) : Nat := (List.range s.outs.length).foldl (fun n i => if gAt s.gone i = true then n else n ||| 2 ^ i) 0
def hereTo (s : Cn) : Nat → Nat
  | 0 => 0
  | k + 1 => if gAt s.gone k = true then hereTo s k else hereTo s k ||| 2 ^ k
theorem hereTo_bit (s : Cn) : ∀ (k i : Nat), (hereTo s k).testBit i = true ↔ i < k ∧ gAt s.gone i = false := by
  intro k
  induction k with
  | zero => intro i; simp [hereTo]
  | succ k ih =>
    intro i
    unfold hereTo
    split
    · rename_i hg
      rw [ih]
      constructor
      · rintro ⟨h1, h2⟩; exact ⟨by omega, h2⟩
      · rintro ⟨h1, h2⟩
        refine ⟨?_, h2⟩
        rcases Nat.lt_or_ge i k with h | h
        · exact h
        · obtain rfl : i = k := by omega
          rw [hg] at h2; cases h2
    · rename_i hg
      rw [Nat.testBit_or, Nat.testBit_two_pow, Bool.or_eq_true, ih]
      simp only [decide_eq_true_eq]
      constructor
      · rintro (⟨h1, h2⟩ | rfl)
        · exact ⟨by omega, h2⟩
        · exact ⟨by omega, by simpa using hg⟩
      · rintro ⟨h1, h2⟩
        by_cases e : k = i
        · exact .inr e
        · exact .inl ⟨by omega, h2⟩
theorem hereTo_lt (s : Cn) : ∀ k, hereTo s k < 2 ^ k := by
  intro k
  induction k with
  | zero => simp [hereTo]
  | succ k ih =>
    have h2 : 2 ^ k < 2 ^ (k + 1) := Nat.pow_lt_pow_right (by decide) (by omega)
    unfold hereTo
    split
    · omega
    · exact Nat.or_lt_two_pow (by omega) h2
def hereB (s : Cn) : Nat := hereTo s s.outs.length
def countB (s : Cn) (i : Int) : Int := if isB s i = true then nAt s.count i.toNat else 0
theorem hereB_bit {i : Nat} : (hereB s).testBit i = true ↔ isB s (i : Int) = true := by
  unfold hereB
  rw [hereTo_bit, isB_iff, Int.toNat_natCast]
  exact ⟨fun h => ⟨⟨by omega, by omega⟩, h.2⟩, fun h => ⟨by omega, h.2⟩⟩
theorem count_true (h : PInv s []) {i : Nat} (hi : i < s.outs.length) : countB s (i : Int) = (refs s (i : Int) : Nat) ∧ ((hereB s).testBit i = decide (0 < refs s (i : Int))) := by
  unfold countB
  cases hg : gAt s.gone i with
  | false =>
    have hB : isB s (i : Int) = true := isB_iff.2 ⟨⟨by omega, by omega⟩, hg⟩
    obtain ⟨h1, h2⟩ := h.here i hi hg
    simp only [List.count_nil] at h1
    rw [if_pos hB, Int.toNat_natCast]
    refine ⟨by omega, ?_⟩
    rw [Bool.eq_iff_iff, hereB_bit, decide_eq_true_eq]
    exact ⟨fun _ => by omega, fun _ => hB⟩
  | true =>
    obtain ⟨_, h2, _⟩ := h.away i hi hg
    have hB : isB s (i : Int) ≠ true := fun h => by rw [isB_iff, Int.toNat_natCast, hg] at h; cases h.2
    rw [if_neg hB, h2]
    refine ⟨rfl, ?_⟩
    rw [Bool.eq_iff_iff, hereB_bit, decide_eq_true_eq]
    exact ⟨fun h => absurd h hB, fun h => by omega⟩

/-- what can be come to is here -/
theorem comes_here (h : PInv s []) {x : Int} (hx : Comes s.outs s.roots x) : isB s x = true := by
  have pos : ∀ y : Int, 0 ≤ y → y < s.outs.length → 0 < refs s y → isB s y = true := by
    intro y h0 h1 hp
    have := (count_true h (i := y.toNat) (by omega)).2
    rw [Int.toNat_of_nonneg h0] at this
    rw [← Int.toNat_of_nonneg h0, ← hereB_bit, this]
    simpa using hp
  exact hx.sub (fun y hy => pos y (h.root y hy).1 (h.root y hy).2 (refs_pos.2 (.inl hy))) fun z _ y hy => pos y (h.adjIn hy).1 (h.adjIn hy).2 (refs_pos.2 (.inr (mem_row hy)))
/-- and where there are no rings nothing else is -/
theorem here_comes (h : PInv s []) (hc : ∀ x, ¬ Cyc s.outs x) {x : Int} (hx : isB s x = true) : Comes s.outs s.roots x := by
  have key : ((List.range s.outs.length).map (fun i : Nat => (i : Int))).filter (fun y => isB s y && !(reachN s.outs s.roots).testBit y.toNat) = [] := by
    refine none_left h.ok hc (fun y hy => ?_) fun y hy => ?_
    · rw [List.mem_filter, List.mem_map] at hy
      obtain ⟨⟨i, hi, rfl⟩, _⟩ := hy
      rw [List.mem_range] at hi
      omega
    · rw [List.mem_filter, Bool.and_eq_true, Bool.not_eq_true'] at hy
      obtain ⟨_, hB, hn⟩ := hy
      obtain ⟨hr, hg⟩ := isB_iff.1 hB
      have hp : 0 < refs s y := by
        have := (count_true h (i := y.toNat) (by omega)).2
        rw [Int.toNat_of_nonneg hr.1] at this
        have h2 := hereB_bit (s := s) (i := y.toNat)
        rw [Int.toNat_of_nonneg hr.1] at h2
        rw [h2.2 hB] at this
        simpa using this.symm
      have hnc : ¬ Comes s.outs s.roots y := fun hcm => by
        have := (reachN_bit h.ok (i := y.toNat)).2 (by rw [Int.toNat_of_nonneg hr.1]; exact hcm)
        rw [this] at hn; cases hn
      rcases refs_pos.1 hp with h1 | ⟨l, hl, h1⟩
      · exact absurd (.root h1) hnc
      · obtain ⟨p, hp', rfl⟩ := List.getElem_of_mem hl
        have hm : y ∈ adj s.outs (p : Int) := by rw [adj_eq (by simpa using hp')]; simpa using h1
        refine ⟨(p : Int), ?_, hm⟩
        rw [List.mem_filter, List.mem_map, Bool.and_eq_true, Bool.not_eq_true']
        refine ⟨⟨p, List.mem_range.2 hp', rfl⟩, ?_, ?_⟩
        · refine isB_iff.2 ⟨⟨by omega, by omega⟩, ?_⟩
          rw [Int.toNat_natCast]
          cases e : gAt s.gone p with
          | false => rfl
          | true => rw [(h.away p hp' e).1] at hm; cases hm
        · rw [Int.toNat_natCast]
          cases e : (reachN s.outs s.roots).testBit p with
          | false => rfl
          | true => exact absurd (.next ((reachN_bit h.ok).1 e) hm) hnc
  obtain ⟨hr, _⟩ := isB_iff.1 hx
  have : x ∉ ((List.range s.outs.length).map (fun i : Nat => (i : Int))).filter (fun y => isB s y && !(reachN s.outs s.roots).testBit y.toNat) := by rw [key]; simp
  rw [List.mem_filter, not_and] at this
  have h2 := this (List.mem_map.2 ⟨x.toNat, List.mem_range.2 (by omega), by omega⟩)
  rw [hx] at h2
  simp at h2
  have := (reachN_bit h.ok).1 h2
  rwa [Int.toNat_of_nonneg hr.1] at this

/-- the sets are the same -/
theorem here_reach (h : PInv s []) (hm : roundsN s.outs = 0) : reachN s.outs s.roots = hereB s := by
  have hc : ∀ x, ¬ Cyc s.outs x := fun x hx => by
    have hr := Cyc.range h.ok hx
    have := (cyc_bit (i := x.toNat) h.ok).2 (by rw [Int.toNat_of_nonneg hr.1]; exact hx)
    rw [hm] at this
    simp at this
  apply Nat.eq_of_testBit_eq
  intro i
  rw [Bool.eq_iff_iff, reachN_bit h.ok, hereB_bit]
  exact ⟨comes_here h, here_comes h hc⟩
theorem reach_sub (h : PInv s []) (i : Nat) (hi : bt (reachN s.outs s.roots) i = true) : bt (hereB s) i = true := by
  unfold bt at hi ⊢
  rw [reachN_bit h.ok] at hi
  rw [hereB_bit]
  exact comes_here h hi
theorem hereB_lt (h : PInv s []) : hereB s < 4096 := Nat.lt_of_lt_of_le (hereTo_lt s _) (Nat.pow_le_pow_right (n := 2) (by decide) h.n12)

/-- what is undone is undone -/
theorem less_one {x : Int} (hp : 0 < nAt s.count x.toNat - 1) : lessS 13 s x = { s with count := s.count.set x.toNat (nAt s.count x.toNat - 1) } := by
  unfold lessS
  rw [if_pos hp]
theorem count_back {x : Int} (hx : x.toNat < s.count.length) : (s.count.set x.toNat (nAt s.count x.toNat + 1)).set x.toNat (nAt (s.count.set x.toNat (nAt s.count x.toNat + 1)) x.toNat - 1) = s.count := by
  rw [nAt_set, if_pos ⟨rfl, hx⟩, List.set_set, Int.add_sub_cancel, nAt_eq hx]
  exact List.set_getElem_self hx
theorem root_back (h : PInv s []) {i : Int} (he : rootE s i = 0) : dropE (rootS s i) i = 0 ∧ dropS (rootS s i) i = { s with roots := (s.roots ++ [i]).erase i } := by
  have hi : isB s i = true := by
    unfold rootE at he
    split at he
    · assumption
    · cases he
  obtain ⟨hi1, hi2⟩ := isB_iff.1 hi
  have hc := (h.here i.toNat (by omega) hi2).2
  have e1 : rootS s i = { s with roots := s.roots ++ [i], count := s.count.set i.toNat (nAt s.count i.toNat + 1) } := by unfold rootS; rw [if_pos he]
  have hcl : i.toNat < s.count.length := by rw [h.clen]; omega
  have e2 : dropE (rootS s i) i = 0 := by
    rw [e1]
    unfold dropE
    rw [if_pos (by exact hi), if_pos (by simp)]
  refine ⟨e2, ?_⟩
  unfold dropS
  rw [if_pos e2, e1, less_one]
  · simp only [count_back hcl]
  · show 0 < nAt (s.count.set i.toNat (nAt s.count i.toNat + 1)) i.toNat - 1
    rw [nAt_set, if_pos ⟨rfl, hcl⟩]
    omega
theorem link_back (h : PInv s []) {i j : Int} (he : linkE s i j = 0) : cutE (linkS s i j) i j = 0 ∧ cutS (linkS s i j) i j = { s with outs := s.outs.set i.toNat ((adj s.outs i ++ [j]).erase j) } := by
  obtain ⟨hi, hj, _⟩ := linkE_zero he
  obtain ⟨hi1, hi2⟩ := isB_iff.1 hi
  obtain ⟨hj1, hj2⟩ := isB_iff.1 hj
  have hc := (h.here j.toNat (by omega) hj2).2
  have e1 : linkS s i j = { s with outs := s.outs.set i.toNat (adj s.outs i ++ [j]), count := s.count.set j.toNat (nAt s.count j.toNat + 1) } := by unfold linkS; rw [if_pos he]
  have hcl : j.toNat < s.count.length := by rw [h.clen]; omega
  have ea : adj (s.outs.set i.toNat (adj s.outs i ++ [j])) i = adj s.outs i ++ [j] := by rw [adj_put hi1.1, if_pos ⟨rfl, by omega⟩]
  have eb : ∀ x, isB { s with outs := s.outs.set i.toNat (adj s.outs i ++ [j]), count := s.count.set j.toNat (nAt s.count j.toNat + 1) } x = isB s x := fun x => by unfold isB; simp only [List.length_set]
  have e2 : cutE (linkS s i j) i j = 0 := by
    rw [e1]
    unfold cutE
    rw [eb, eb, if_pos ⟨hi, hj⟩]
    simp only [ea]
    rw [if_pos (by simp)]
  refine ⟨e2, ?_⟩
  unfold cutS
  rw [if_pos e2, e1, less_one]
  · simp only [count_back hcl, ea, List.set_set]
  · show 0 < nAt (s.count.set j.toNat (nAt s.count j.toNat + 1)) j.toNat - 1
    rw [nAt_set, if_pos ⟨rfl, hcl⟩]
    omega
theorem erase_snoc {l : List Int} {j : Int} (h : j ∉ l) : (l ++ [j]).erase j = l := by
  rw [List.erase_append_right _ h]
  simp
theorem put_self {outs : List (List Int)} {i : Int} (h0 : 0 ≤ i) : outs.set i.toNat (adj outs i) = outs := by
  apply List.ext_getElem
  · simp
  · intro k h1 h2
    rw [List.getElem_set]
    split
    · rename_i e; subst e; rw [adj_eq h2]
    · rfl
theorem hereB_same {o : List (List Int)} {r c : List Int} (ho : o.length = s.outs.length) : hereB ⟨o, r, c, s.gone⟩ = hereB s := by
  have key : ∀ k, hereTo ⟨o, r, c, s.gone⟩ k = hereTo s k := by
    intro k
    induction k with
    | zero => rfl
    | succ k ih => unfold hereTo; rw [ih]
  unfold hereB
  rw [key]
  simp only [ho]

/-- all roots are dropped -/
theorem drop_head (h : PInv s []) {r : Int} {rs : List Int} (hr : s.roots = r :: rs) : dropE s r = 0 ∧ (dropS s r).roots = rs ∧ Fewer { s with roots := rs } (dropS s r) := by
  have hm : r ∈ s.roots := by rw [hr]; simp
  have he : dropE s r = 0 := by
    unfold dropE
    rw [if_pos (comes_here h (.root hm)), if_pos hm]
  have e : s.roots.erase r = rs := by rw [hr]; simp
  have hrr := h.root r hm
  have hf := (less_fewer 13 { s with roots := rs } r hrr.1 (by have := h.glen; show r.toNat < s.gone.length; omega) h.glen h.out).1
  have e2 : dropS s r = lessS 13 { s with roots := rs } r := by
    unfold dropS
    rw [if_pos he, e]
  rw [e2]
  exact ⟨he, hf.roots, hf⟩
theorem drop_guard {C : Int → Prop} (h : PInv s []) (hC : Guard C false s) (r : Int) : Guard C false (dropS s r) := by
  unfold dropS
  split
  · rename_i he
    exact less_guard 13 { s with roots := s.roots.erase r } r [] h.live12 (h.dropMid he) fun c hc => ⟨(hC c hc).1, (hC c hc).2.imp (fun h => by cases h.1) id⟩
  · exact hC

/-- rows are no more than they were -/
def SubOf (s t : Cn) : Prop := t.outs.length = s.outs.length ∧ ∀ x : Int, 0 ≤ x → ∀ y ∈ adj t.outs x, y ∈ adj s.outs x
theorem SubOf.cyc {t : Cn} (h : SubOf s t) (hok : Ok t.outs t.roots) {x : Int} (hx : Cyc t.outs x) : Cyc s.outs x := by
  have hr := Cyc.range hok hx
  have key : ∀ {R R' : List Int} {y : Int}, (∀ r ∈ R, r ∈ R' ∧ 0 ≤ r) → Comes t.outs R y → Comes s.outs R' y := by
    intro R R' y hR hy
    refine (hy.sub (P := fun y => 0 ≤ y ∧ Comes s.outs R' y) (fun r hr => ⟨(hR r hr).2, .root (hR r hr).1⟩) fun y hy z hz => ⟨(hok.adjIn z hz).1, .next hy.2 (h.2 y hy.1 z hz)⟩).2
  exact key (fun r hr' => ⟨h.2 x hr.1 r hr', (hok.adjIn r hr').1⟩) hx

def dropsS (s : Cn) (l : List Int) : Cn := l.foldl dropS s
theorem drops_at (h : PInv s []) : ∀ k, k ≤ s.roots.length → PInv (dropsS s (s.roots.take k)) [] ∧ (dropsS s (s.roots.take k)).roots = s.roots.drop k ∧ SubOf s (dropsS s (s.roots.take k)) ∧ Guard (Cyc s.outs) false (dropsS s (s.roots.take k)) := by
  intro k
  induction k with
  | zero =>
    intro _
    refine ⟨h, rfl, ⟨rfl, fun _ _ _ h => h⟩, fun c hc => ?_⟩
    obtain ⟨p, hp, hpc⟩ := hc.pred
    have hr := Cyc.range h.ok hc
    refine ⟨?_, .inr ⟨p, hpc, hp⟩⟩
    have := (count_true h (i := c.toNat) (by omega)).2
    rw [Int.toNat_of_nonneg hr.1] at this
    have h2 := hereB_bit (s := s) (i := c.toNat)
    rw [Int.toNat_of_nonneg hr.1] at h2
    refine h2.1 ?_
    rw [this, decide_eq_true_eq]
    exact refs_pos.2 (.inr (mem_row hp))
  | succ k ih =>
    intro hk
    obtain ⟨h1, h2, h3, h4⟩ := ih (by omega)
    have e : s.roots.take (k + 1) = s.roots.take k ++ [s.roots[k]'(by omega)] := List.take_succ_eq_append_getElem (by omega)
    have e2 : dropsS s (s.roots.take (k + 1)) = dropS (dropsS s (s.roots.take k)) (s.roots[k]'(by omega)) := by unfold dropsS; rw [e, List.foldl_append]; rfl
    have e3 : s.roots.drop k = (s.roots[k]'(by omega)) :: s.roots.drop (k + 1) := List.drop_eq_getElem_cons (by omega)
    rw [e3] at h2
    obtain ⟨_, h6, h7⟩ := drop_head h1 h2
    rw [e2]
    refine ⟨h1.drop_ _, h6, ⟨h7.len.trans h3.1, fun x hx y hy => ?_⟩, drop_guard h1 h4 _⟩
    rcases h7.row x hx with e4 | e4
    · rw [e4] at hy; exact h3.2 x hx y hy
    · rw [e4.1] at hy; cases hy
theorem drops_ok (h : PInv s []) {k : Nat} (hk : k < s.roots.length) : dropE (dropsS s (s.roots.take k)) s.roots[k] = 0 := by
  obtain ⟨h1, h2, _⟩ := drops_at h k (by omega)
  rw [List.drop_eq_getElem_cons hk] at h2
  exact (drop_head h1 h2).1
theorem drops_end (h : PInv s []) : (hereB (dropsS s s.roots) = 0) ↔ roundsN s.outs = 0 := by
  obtain ⟨h1, h2, h3, h4⟩ := drops_at h s.roots.length (Nat.le_refl _)
  rw [List.take_length] at h1 h2 h3 h4
  rw [List.drop_length] at h2
  constructor
  · intro hz
    apply Nat.eq_of_testBit_eq
    intro i
    rw [Nat.zero_testBit]
    cases e : (roundsN s.outs).testBit i with
    | false => rfl
    | true =>
      have := (h4 (i : Int) ((cyc_bit h.ok).1 e)).1
      rw [← hereB_bit, hz] at this
      simp at this
  · intro hz
    have hc : ∀ x, ¬ Cyc s.outs x := fun x hx => by
      have hr := Cyc.range h.ok hx
      have := (cyc_bit (i := x.toNat) h.ok).2 (by rw [Int.toNat_of_nonneg hr.1]; exact hx)
      rw [hz] at this
      simp at this
    apply Nat.eq_of_testBit_eq
    intro i
    rw [Nat.zero_testBit]
    cases e : (hereB (dropsS s s.roots)).testBit i with
    | false => rfl
    | true =>
      have := here_comes h1 (fun x hx => hc x (h3.cyc h1.ok hx)) (hereB_bit.1 e)
      rw [h2] at this
      exact (this.sub (P := fun _ => False) (fun x hx => by cases hx) fun _ h => h.elim).elim
end
end Go.Proofs.YtiibadganlincaaDoor
