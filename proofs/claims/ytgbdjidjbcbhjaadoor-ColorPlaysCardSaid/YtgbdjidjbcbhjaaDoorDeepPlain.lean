/- Marking as deep as may be, plainly: which nodes, in which order. No program in sight. -/
import Derived.Test.YtgbdjidjbcbhjaaDoorSortsPlain
namespace Go.Proofs.YtgbdjidjbcbhjaaDoor

/-- all that can be come to from a node, depth first, behind those found -/
def deepF (outs : List (List Int)) : Nat → List Int → Int → List Int
  | 0, o, _ => o
  | f + 1, o, i => if i ∈ o then o else (adj outs i).foldl (deepF outs f) (o ++ [i])
def deep (outs : List (List Int)) (o : List Int) (i : Int) : List Int := deepF outs 13 o i
def deeps (outs : List (List Int)) (o : List Int) (l : List Int) : List Int := l.foldl (deep outs) o
def marksN (outs : List (List Int)) (roots : List Int) : List Int := deeps outs [] roots

/-- marked nodes -/
structure Vd (n : Nat) (o : List Int) : Prop where
  nodup : o.Nodup
  range : ∀ x ∈ o, 0 ≤ x ∧ x < (n : Int)
theorem Vd.len {n : Nat} {o : List Int} (h : Vd n o) : o.length ≤ n := nodup_le h.nodup h.range
theorem Vd.nil_ (n : Nat) : Vd n [] := ⟨List.nodup_nil, fun _ h => by cases h⟩
theorem Vd.snoc {n : Nat} {o : List Int} (h : Vd n o) {i : Int} (hi : i ∉ o) (hr : 0 ≤ i ∧ i < (n : Int)) : Vd n (o ++ [i]) :=
  ⟨List.nodup_append.2 ⟨h.nodup, by simp, fun a ha b hb e => by simp at hb; subst hb; subst e; exact hi ha⟩, fun x hx => by
    rcases List.mem_append.1 hx with hx | hx
    · exact h.range x hx
    · simp at hx; subst hx; exact hr⟩

section
variable {outs : List (List Int)} {roots : List Int}
theorem fold_vd {n : Nat} {g : List Int → Int → List Int} (hg : ∀ o i, Vd n o → 0 ≤ i ∧ i < (n : Int) → Vd n (g o i) ∧ o <+: g o i) :
    ∀ (l : List Int) (o : List Int), Vd n o → (∀ x ∈ l, 0 ≤ x ∧ x < (n : Int)) → Vd n (l.foldl g o) ∧ o <+: l.foldl g o
  | [], o, h, _ => ⟨h, List.prefix_refl _⟩
  | a :: l, o, h, hl => by
    have h1 := hg o a h (hl a (by simp))
    have h2 := fold_vd hg l (g o a) h1.1 fun x hx => hl x (by simp [hx])
    exact ⟨h2.1, h1.2.trans h2.2⟩
theorem deepF_vd (hok : Ok outs roots) : ∀ (f : Nat) (o : List Int) (i : Int), Vd outs.length o → 0 ≤ i ∧ i < (outs.length : Int) → Vd outs.length (deepF outs f o i) ∧ o <+: deepF outs f o i
  | 0, o, i, h, _ => ⟨h, List.prefix_refl _⟩
  | f + 1, o, i, h, hi => by
    unfold deepF
    split
    · exact ⟨h, List.prefix_refl _⟩
    · rename_i hm
      have := fold_vd (fun o i => deepF_vd hok f o i) (adj outs i) (o ++ [i]) (h.snoc hm hi) fun y hy => hok.adjIn y hy
      exact ⟨this.1, (List.prefix_append _ _).trans this.2⟩
theorem fold_same_ {n m : Nat} {g h : List Int → Int → List Int} (hg : ∀ o i, Vd n o → 0 ≤ i ∧ i < (n : Int) → Vd n (g o i) ∧ o <+: g o i) (hs : ∀ o i, Vd n o → 0 ≤ i ∧ i < (n : Int) → m ≤ o.length → g o i = h o i) :
    ∀ (l : List Int) (o : List Int), Vd n o → (∀ x ∈ l, 0 ≤ x ∧ x < (n : Int)) → m ≤ o.length → l.foldl g o = l.foldl h o
  | [], _, _, _, _ => rfl
  | a :: l, o, ho, hl, hm => by
    have h1 := hg o a ho (hl a (by simp))
    have e := hs o a ho (hl a (by simp)) hm
    show l.foldl g (g o a) = l.foldl h (h o a)
    rw [← e]
    exact fold_same_ hg hs l (g o a) h1.1 (fun x hx => hl x (by simp [hx])) (Nat.le_trans hm h1.2.length_le)
theorem deepF_irr (hok : Ok outs roots) : ∀ (f : Nat) (o : List Int) (i : Int), Vd outs.length o → 0 ≤ i ∧ i < (outs.length : Int) → outs.length < f + o.length → deepF outs (f + 1) o i = deepF outs f o i
  | 0, o, i, h, _, hl => by have := h.len; omega
  | f + 1, o, i, h, hi, hl => by
    show (if i ∈ o then o else (adj outs i).foldl (deepF outs (f + 1)) (o ++ [i])) = if i ∈ o then o else (adj outs i).foldl (deepF outs f) (o ++ [i])
    split
    · rfl
    · rename_i hm
      exact fold_same_ (m := o.length + 1) (fun o i => deepF_vd hok (f + 1) o i) (fun o' i' h' hi' hm' => deepF_irr hok f o' i' h' hi' (by omega)) (adj outs i) (o ++ [i]) (h.snoc hm hi) (fun y hy => hok.adjIn y hy) (by simp)
theorem deep_vd (hok : Ok outs roots) {o : List Int} {i : Int} (h : Vd outs.length o) (hi : 0 ≤ i ∧ i < (outs.length : Int)) : Vd outs.length (deep outs o i) ∧ o <+: deep outs o i := deepF_vd hok 13 o i h hi
theorem deeps_vd (hok : Ok outs roots) {o l : List Int} (h : Vd outs.length o) (hl : ∀ x ∈ l, 0 ≤ x ∧ x < (outs.length : Int)) : Vd outs.length (deeps outs o l) ∧ o <+: deeps outs o l := fold_vd (fun _ _ => deep_vd hok) l o h hl
theorem deep_old {o : List Int} {i : Int} (h : i ∈ o) : deep outs o i = o := by unfold deep deepF; rw [if_pos h]
theorem deep_new (hok : Ok outs roots) {o : List Int} {i : Int} (h : Vd outs.length o) (hi : 0 ≤ i ∧ i < (outs.length : Int)) (hm : i ∉ o) : deep outs o i = deeps outs (o ++ [i]) (adj outs i) := by
  show (if i ∈ o then o else (adj outs i).foldl (deepF outs 12) (o ++ [i])) = _
  rw [if_neg hm]
  exact fold_same_ (m := 1) (fun o i => deepF_vd hok 12 o i) (fun o' i' h' hi' hm' => (deepF_irr hok 12 o' i' h' hi' (by have := hok.n12; omega)).symm) (adj outs i) (o ++ [i]) (h.snoc hm hi) (fun y hy => hok.adjIn y hy) (by simp)
theorem deeps_append (o l m : List Int) : deeps outs o (l ++ m) = deeps outs (deeps outs o l) m := by simp [deeps]
theorem deeps_cons (o : List Int) (i : Int) (l : List Int) : deeps outs o (i :: l) = deeps outs (deep outs o i) l := rfl
theorem deeps_nil (o : List Int) : deeps outs o [] = o := rfl

/-- what is new is closed; what is asked for is there -/
theorem deepF_closed (hok : Ok outs roots) : ∀ (f : Nat) (o : List Int) (i : Int), Vd outs.length o → 0 ≤ i ∧ i < (outs.length : Int) → outs.length < f + o.length →
    i ∈ deepF outs f o i ∧ (∀ x ∈ deepF outs f o i, x ∈ o ∨ ∀ y ∈ adj outs x, y ∈ deepF outs f o i) ∧ (∀ x ∈ deepF outs f o i, x ∈ o ∨ Comes outs [i] x)
  | 0, o, i, h, _, hl => by have := h.len; omega
  | f + 1, o, i, h, hi, hl => by
    have fold : ∀ (l acc : List Int), Vd outs.length acc → (∀ x ∈ l, 0 ≤ x ∧ x < (outs.length : Int)) → outs.length < f + acc.length →
        (∀ x ∈ l, x ∈ l.foldl (deepF outs f) acc) ∧ (∀ x ∈ l.foldl (deepF outs f) acc, x ∈ acc ∨ ∀ y ∈ adj outs x, y ∈ l.foldl (deepF outs f) acc) ∧ (∀ x ∈ l.foldl (deepF outs f) acc, x ∈ acc ∨ Comes outs l x) := by
      intro l
      induction l with
      | nil => exact fun acc _ _ _ => ⟨fun x hx => (by cases hx), fun x hx => .inl hx, fun x hx => .inl hx⟩
      | cons a l ih =>
        intro acc ha hr hl'
        have v := deepF_vd hok f acc a ha (hr a (by simp))
        obtain ⟨p1, p2, p3⟩ := deepF_closed hok f acc a ha (hr a (by simp)) hl'
        have hlen := v.2.length_le
        obtain ⟨q1, q2, q3⟩ := ih (deepF outs f acc a) v.1 (fun x hx => hr x (by simp [hx])) (by omega)
        have pre := (fold_vd (fun o i => deepF_vd hok f o i) l (deepF outs f acc a) v.1 fun x hx => hr x (by simp [hx])).2
        refine ⟨fun x hx => ?_, fun x hx => ?_, fun x hx => ?_⟩
        · rcases List.mem_cons.1 hx with rfl | hx
          · exact pre.subset p1
          · exact q1 x hx
        · rcases q2 x hx with h1 | h1
          · rcases p2 x h1 with h2 | h2
            · exact .inl h2
            · exact .inr fun y hy => pre.subset (h2 y hy)
          · exact .inr h1
        · rcases q3 x hx with h1 | h1
          · rcases p3 x h1 with h2 | h2
            · exact .inl h2
            · exact .inr (h2.sub (fun r hr' => by simp at hr'; subst hr'; exact .root (by simp)) fun z hz y hy => .next hz hy)
          · exact .inr (h1.sub (fun r hr' => .root (by simp [hr'])) fun z hz y hy => .next hz hy)
    rw [show deepF outs (f + 1) o i = if i ∈ o then o else (adj outs i).foldl (deepF outs f) (o ++ [i]) from rfl]
    split
    · rename_i hm
      exact ⟨hm, fun x hx => .inl hx, fun x hx => .inl hx⟩
    · rename_i hm
      obtain ⟨q1, q2, q3⟩ := fold (adj outs i) (o ++ [i]) (h.snoc hm hi) (fun y hy => hok.adjIn y hy) (by simp; omega)
      have pre := (fold_vd (fun o i => deepF_vd hok f o i) (adj outs i) (o ++ [i]) (h.snoc hm hi) fun y hy => hok.adjIn y hy).2
      refine ⟨pre.subset (by simp), fun x hx => ?_, fun x hx => ?_⟩
      · rcases q2 x hx with h1 | h1
        · rcases List.mem_append.1 h1 with h1 | h1
          · exact .inl h1
          · simp at h1; subst h1; exact .inr q1
        · exact .inr h1
      · rcases q3 x hx with h1 | h1
        · rcases List.mem_append.1 h1 with h1 | h1
          · exact .inl h1
          · simp at h1; subst h1; exact .inr (.root (by simp))
        · exact .inr (h1.sub (fun r hr' => .next (.root (by simp)) hr') fun z hz y hy => .next hz hy)

theorem marks_vd (hok : Ok outs roots) : Vd outs.length (marksN outs roots) := (deeps_vd hok (Vd.nil_ _) hok.root).1
theorem deeps_closed (hok : Ok outs roots) : ∀ (l o : List Int), Vd outs.length o → (∀ x ∈ l, 0 ≤ x ∧ x < (outs.length : Int)) →
    (∀ x ∈ l, x ∈ deeps outs o l) ∧ (∀ x ∈ deeps outs o l, x ∈ o ∨ ∀ y ∈ adj outs x, y ∈ deeps outs o l) ∧ (∀ x ∈ deeps outs o l, x ∈ o ∨ Comes outs l x)
  | [], o, _, _ => ⟨fun x hx => (by cases hx), fun x hx => .inl hx, fun x hx => .inl hx⟩
  | a :: l, o, h, hl => by
    have v := deep_vd hok h (hl a (by simp))
    obtain ⟨p1, p2, p3⟩ := deepF_closed hok 13 o a h (hl a (by simp)) (by have := hok.n12; omega)
    obtain ⟨q1, q2, q3⟩ := deeps_closed hok l (deep outs o a) v.1 fun x hx => hl x (by simp [hx])
    have pre := (deeps_vd hok (l := l) v.1 fun x hx => hl x (by simp [hx])).2
    rw [deeps_cons]
    refine ⟨fun x hx => ?_, fun x hx => ?_, fun x hx => ?_⟩
    · rcases List.mem_cons.1 hx with rfl | hx
      · exact pre.subset p1
      · exact q1 x hx
    · rcases q2 x hx with h1 | h1
      · rcases p2 x h1 with h2 | h2
        · exact .inl h2
        · exact .inr fun y hy => pre.subset (h2 y hy)
      · exact .inr h1
    · rcases q3 x hx with h1 | h1
      · rcases p3 x h1 with h2 | h2
        · exact .inl h2
        · exact .inr (h2.sub (fun r hr' => by simp at hr'; subst hr'; exact .root (by simp)) fun z hz y hy => .next hz hy)
      · exact .inr (h1.sub (fun r hr' => .root (by simp [hr'])) fun z hz y hy => .next hz hy)
/-- just what can be come to is marked -/
theorem mem_marks (hok : Ok outs roots) {x : Int} : x ∈ marksN outs roots ↔ Comes outs roots x := by
  obtain ⟨h1, h2, h3⟩ := deeps_closed hok roots [] (Vd.nil_ _) hok.root
  constructor
  · intro hx
    rcases h3 x hx with h | h
    · cases h
    · exact h
  · intro hx
    refine hx.sub h1 fun z hz y hy => ?_
    rcases h2 z hz with h | h
    · cases h
    · exact h y hy

/-- one step with a pile, of which the last is the top -/
theorem pile_old {o p : List Int} {i : Int} (h : i ∈ o) : deeps outs o (p ++ [i]).reverse = deeps outs o p.reverse := by
  rw [List.reverse_append, List.reverse_singleton, List.singleton_append, deeps_cons, deep_old h]
theorem pile_new (hok : Ok outs roots) {o p : List Int} {i : Int} (h : Vd outs.length o) (hi : 0 ≤ i ∧ i < (outs.length : Int)) (hm : i ∉ o) :
    deeps outs o (p ++ [i]).reverse = deeps outs (o ++ [i]) (p ++ (adj outs i).reverse).reverse := by
  rw [List.reverse_append, List.reverse_singleton, List.singleton_append, deeps_cons, deep_new hok h hi hm, List.reverse_append, List.reverse_reverse, deeps_append]
end
end Go.Proofs.YtgbdjidjbcbhjaaDoor
