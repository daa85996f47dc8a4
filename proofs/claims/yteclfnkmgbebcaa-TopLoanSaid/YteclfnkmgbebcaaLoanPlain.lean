/- A lender of one value, plainly. No program in sight. -/
import Derived.Test.YteclfnkmgbebcaaSmall
namespace Go.Proofs.Yteclfnkmgbebcaa

structure Ld where
  now : Int
  term : Int
  value : Int
  want : Int
  ready : Int
  ls : List (Int × Int)

def mx (a b : Int) : Int := if a < b then b else a
theorem mx_le {a b : Int} : a ≤ mx a b ∧ b ≤ mx a b := by unfold mx; split <;> omega
theorem mx_eq {a b : Int} : mx a b = a ∨ mx a b = b := by unfold mx; split <;> simp
/-- the latest of some times -/
def late (a : Int) (l : List (Int × Int)) : Int := l.foldl (fun a x => mx a x.2) a
theorem late_snoc (a : Int) (l : List (Int × Int)) (x : Int × Int) : late a (l ++ [x]) = mx (late a l) x.2 := by simp [late]
theorem late_le : ∀ (l : List (Int × Int)) (a : Int), a ≤ late a l ∧ ∀ x ∈ l, x.2 ≤ late a l
  | [], a => by simp [late]
  | y :: l, a => by
    have h := late_le l (mx a y.2)
    have e : late a (y :: l) = late (mx a y.2) l := rfl
    rw [e]
    have := mx_le (a := a) (b := y.2)
    refine ⟨by omega, fun x hx => ?_⟩
    rcases List.mem_cons.1 hx with rfl | hx
    · omega
    · exact h.2 x hx
theorem late_hi : ∀ (l : List (Int × Int)) (a B : Int), a ≤ B → (∀ x ∈ l, x.2 ≤ B) → late a l ≤ B
  | [], a, B, h, _ => h
  | y :: l, a, B, h, h' => by
    show late (mx a y.2) l ≤ B
    refine late_hi l _ B ?_ fun x hx => h' x (List.mem_cons_of_mem _ hx)
    have := h' y (List.mem_cons_self ..)
    rcases mx_eq (a := a) (b := y.2) with e | e <;> omega

def waitL (s : Ld) (d : Int) : Ld :=
  if 0 ≤ d ∧ d ≤ 20 then
    if 1000 < s.now + d then s
    else if 0 ≤ s.want ∧ s.ready ≤ s.now + d then { s with now := s.now + d, value := s.want, want := -1 } else { s with now := s.now + d }
  else s
def writeL (s : Ld) (v : Int) : Ld :=
  if 0 ≤ v ∧ v ≤ 1000 then
    if 0 ≤ s.want then s
    else if late s.now s.ls = s.now then { s with value := v } else { s with want := v, ready := late s.now s.ls }
  else s
def lAt (l : List (Int × Int)) (i : Int) : Int × Int := l.getD i.toNat (0, 0)
def backL (s : Ld) (p : Int) : Ld :=
  if 0 ≤ p ∧ p < s.ls.length then
    if (lAt s.ls p).2 ≤ s.now then s
    else
      if 0 ≤ s.want then
        if late s.now (s.ls.set p.toNat (0, 0)) = s.now then { s with ls := s.ls.set p.toNat (0, 0), ready := s.now, value := s.want, want := -1 } else { s with ls := s.ls.set p.toNat (0, 0), ready := late s.now (s.ls.set p.toNat (0, 0)) }
      else { s with ls := s.ls.set p.toNat (0, 0) }
  else s
def readL (s : Ld) (p : Int) : Ld :=
  if 0 ≤ p ∧ p < s.ls.length then
    if (lAt s.ls p).2 ≤ s.now then if 0 ≤ s.want then s else { s with ls := s.ls.set p.toNat (s.value, s.now + s.term) }
    else s
  else s
/-- what is wrong with a reading, and the value -/
def readE (s : Ld) (p : Int) : Nat :=
  if 0 ≤ p ∧ p < s.ls.length then
    if (lAt s.ls p).2 ≤ s.now then if 0 ≤ s.want then 7 else 0 else 0
  else 1

structure LInv (s : Ld) : Prop where
  v0 : 0 ≤ s.value ∧ s.value ≤ 1000
  w0 : s.want = -1 ∨ (0 ≤ s.want ∧ s.want ≤ 1000)
  n0 : 0 ≤ s.now ∧ s.now ≤ 1000
  t0 : 1 ≤ s.term ∧ s.term ≤ 20
  r0 : 0 ≤ s.ready ∧ s.ready ≤ 1020
  len : s.ls.length ≤ 4
  u0 : ∀ x ∈ s.ls, 0 ≤ x.2 ∧ x.2 ≤ 1020
  same : ∀ x ∈ s.ls, s.now < x.2 → x.1 = s.value
  late_ : 0 ≤ s.want → ∀ x ∈ s.ls, x.2 ≤ s.ready

theorem lAt_mem {l : List (Int × Int)} {p : Int} (h : 0 ≤ p ∧ p < l.length) : lAt l p ∈ l := by
  unfold lAt
  rw [List.getD_eq_getElem?_getD, List.getElem?_eq_getElem (by omega)]
  exact List.getElem_mem _
theorem mem_set {l : List (Int × Int)} {n : Nat} {y x : Int × Int} (h : x ∈ l.set n y) : x ∈ l ∨ x = y := List.mem_or_eq_of_mem_set h

theorem LInv.wait {s : Ld} (h : LInv s) (d : Int) : LInv (waitL s d) := by
  obtain ⟨h1, h2, h3, h4, h5, h6, h7, h8, h9⟩ := h
  unfold waitL
  split
  · split
    · exact ⟨h1, h2, h3, h4, h5, h6, h7, h8, h9⟩
    · split
      · rename_i ha hb hc
        refine ⟨by simp only; omega, .inl rfl, by simp only; omega, h4, h5, h6, h7, fun x hx hl => ?_, fun hw => by simp at hw⟩
        have := h9 hc.1 x hx
        simp only at hl
        omega
      · rename_i ha hb hc
        exact ⟨h1, h2, by simp only; omega, h4, h5, h6, h7, fun x hx hl => h8 x hx (by simp only at hl; omega), h9⟩
  · exact ⟨h1, h2, h3, h4, h5, h6, h7, h8, h9⟩
theorem LInv.write {s : Ld} (h : LInv s) (v : Int) : LInv (writeL s v) := by
  obtain ⟨h1, h2, h3, h4, h5, h6, h7, h8, h9⟩ := h
  unfold writeL
  split
  · rename_i hv
    split
    · exact ⟨h1, h2, h3, h4, h5, h6, h7, h8, h9⟩
    · split
      · rename_i hw he
        refine ⟨hv, h2, h3, h4, h5, h6, h7, fun x hx hl => ?_, h9⟩
        have := (late_le s.ls s.now).2 x hx
        simp only at hl
        omega
      · have h0 := late_le s.ls s.now
        exact ⟨h1, .inr hv, h3, h4, ⟨by simp only; omega, late_hi s.ls s.now 1020 (by omega) fun x hx => (h7 x hx).2⟩, h6, h7, h8, fun _ x hx => h0.2 x hx⟩
  · exact ⟨h1, h2, h3, h4, h5, h6, h7, h8, h9⟩
theorem LInv.back {s : Ld} (h : LInv s) (p : Int) : LInv (backL s p) := by
  obtain ⟨h1, h2, h3, h4, h5, h6, h7, h8, h9⟩ := h
  unfold backL
  split
  · split
    · exact ⟨h1, h2, h3, h4, h5, h6, h7, h8, h9⟩
    · have k6 : (s.ls.set p.toNat (0, 0)).length ≤ 4 := by rw [List.length_set]; exact h6
      have k7 : ∀ x ∈ s.ls.set p.toNat (0, 0), 0 ≤ x.2 ∧ x.2 ≤ 1020 := fun x hx => (mem_set hx).elim (h7 x) fun e => by subst e; simp
      have k8 : ∀ x ∈ s.ls.set p.toNat (0, 0), s.now < x.2 → x.1 = s.value := fun x hx hl => (mem_set hx).elim (fun h => h8 x h hl) fun e => by subst e; simp only at hl; omega
      have k0 := late_le (s.ls.set p.toNat (0, 0)) s.now
      split
      · rename_i hw
        split
        · rename_i he
          refine ⟨by simp only; omega, .inl rfl, h3, h4, by simp only; omega, k6, k7, fun x hx hl => ?_, fun hw => by simp at hw⟩
          have := k0.2 x hx
          simp only at hl
          omega
        · exact ⟨h1, h2, h3, h4, ⟨by simp only; omega, late_hi _ s.now 1020 (by omega) fun x hx => (k7 x hx).2⟩, k6, k7, k8, fun _ x hx => k0.2 x hx⟩
      · rename_i hw
        exact ⟨h1, h2, h3, h4, h5, k6, k7, k8, fun h => absurd h hw⟩
  · exact ⟨h1, h2, h3, h4, h5, h6, h7, h8, h9⟩
theorem LInv.read {s : Ld} (h : LInv s) (p : Int) : LInv (readL s p) := by
  obtain ⟨h1, h2, h3, h4, h5, h6, h7, h8, h9⟩ := h
  unfold readL
  split
  · split
    · split
      · exact ⟨h1, h2, h3, h4, h5, h6, h7, h8, h9⟩
      · rename_i hw
        refine ⟨h1, h2, h3, h4, h5, by simp only [List.length_set]; exact h6, fun x hx => (mem_set hx).elim (h7 x) fun e => by subst e; simp only; omega, fun x hx hl => (mem_set hx).elim (fun h => h8 x h hl) fun e => by subst e; rfl, fun h => absurd h hw⟩
    · exact ⟨h1, h2, h3, h4, h5, h6, h7, h8, h9⟩
  · exact ⟨h1, h2, h3, h4, h5, h6, h7, h8, h9⟩
/-- what is read is the value -/
theorem LInv.reads {s : Ld} (h : LInv s) {p : Int} (hp : 0 ≤ p ∧ p < s.ls.length) (hl : s.now < (lAt s.ls p).2) : (lAt s.ls p).1 = s.value := h.same _ (lAt_mem hp) hl
end Go.Proofs.Yteclfnkmgbebcaa
