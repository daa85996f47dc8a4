/- Marking without a pile, plainly: pointers are turned on the way down, and back on the way up. No program in sight. -/
import Derived.Test.YtgbdjidjbcbhjaaDoorDeepPlain
namespace Go.Proofs.YtgbdjidjbcbhjaaDoor

/-- how far a node is -/
def ax (at_ : List Nat) (x : Int) : Nat := at_.getD x.toNat 0
/-- what is above -/
def hd (st : List Int) : Int := st.headD (-1)
/-- the pointers of those that are above are turned -/
def turned (outs : List (List Int)) (at_ : List Nat) : List Int → List (List Int)
  | [] => outs
  | s :: r => (turned outs at_ r).set s.toNat ((adj (turned outs at_ r) s).set (ax at_ s) (hd r))
/-- what is still to be come to -/
def conts (outs : List (List Int)) (at_ : List Nat) : List Int → List Int
  | [] => []
  | s :: r => (adj outs s).drop (ax at_ s + 1) ++ conts outs at_ r
/-- each is pointed to from the one above -/
def Linked (outs : List (List Int)) (at_ : List Nat) : Int → List Int → Prop
  | _, [] => True
  | x, s :: r => (adj outs s)[ax at_ s]? = some x ∧ Linked outs at_ s r

section
variable {outs : List (List Int)} {roots : List Int} {at_ : List Nat}
theorem ax_same {x : Int} {v : Nat} (h : x.toNat < at_.length) : ax (at_.set x.toNat v) x = v := by
  unfold ax
  rw [List.getD_eq_getElem?_getD, List.getElem?_set_self (by simpa using h)]
  rfl
theorem ax_other {x y : Int} {v : Nat} (hx : 0 ≤ x) (hy : 0 ≤ y) (hne : x ≠ y) : ax (at_.set x.toNat v) y = ax at_ y := by
  unfold ax
  rw [List.getD_eq_getElem?_getD, List.getElem?_set_ne (by omega), ← List.getD_eq_getElem?_getD]
theorem adj_set_other {X : List (List Int)} {x y : Int} {l : List Int} (hx : 0 ≤ x) (hy : 0 ≤ y) (hne : x ≠ y) : adj (X.set x.toNat l) y = adj X y := by
  unfold adj
  rw [List.getD_eq_getElem?_getD, List.getElem?_set_ne (by omega), ← List.getD_eq_getElem?_getD]
theorem adj_set_same {X : List (List Int)} {x : Int} {l : List Int} (h : x.toNat < X.length) : adj (X.set x.toNat l) x = l := by
  unfold adj
  rw [List.getD_eq_getElem?_getD, List.getElem?_set_self (by simpa using h)]
  rfl
theorem set_adj (X : List (List Int)) (x : Int) : X.set x.toNat (adj X x) = X := by
  apply List.ext_getElem?
  intro j
  rw [List.getElem?_set]
  split
  · rename_i h
    subst h
    unfold adj
    rw [List.getD_eq_getElem?_getD]
    split
    · rename_i h
      rw [List.getElem?_eq_getElem h]; rfl
    · rename_i h
      rw [List.getElem?_eq_none (by omega)]
  · rfl
theorem turned_length (st : List Int) : (turned outs at_ st).length = outs.length := by
  induction st with
  | nil => rfl
  | cons s r ih => simp [turned, ih]
theorem turned_adj {st : List Int} (h0 : ∀ s ∈ st, 0 ≤ s) {x : Int} (hx : 0 ≤ x) (hm : x ∉ st) : adj (turned outs at_ st) x = adj outs x := by
  induction st with
  | nil => rfl
  | cons s r ih =>
    simp only [turned]
    rw [adj_set_other (h0 s (by simp)) hx (by rintro rfl; exact hm (by simp)), ih (fun y hy => h0 y (by simp [hy])) fun h => hm (by simp [h])]
theorem turned_set {st : List Int} (h0 : ∀ s ∈ st, 0 ≤ s) {x : Int} {v : Nat} (hx : 0 ≤ x) (hm : x ∉ st) : turned outs (at_.set x.toNat v) st = turned outs at_ st := by
  induction st with
  | nil => rfl
  | cons s r ih =>
    simp only [turned]
    rw [ih (fun y hy => h0 y (by simp [hy])) fun h => hm (by simp [h]), ax_other hx (h0 s (by simp)) (by rintro rfl; exact hm (by simp))]
theorem conts_set {st : List Int} (h0 : ∀ s ∈ st, 0 ≤ s) {x : Int} {v : Nat} (hx : 0 ≤ x) (hm : x ∉ st) : conts outs (at_.set x.toNat v) st = conts outs at_ st := by
  induction st with
  | nil => rfl
  | cons s r ih =>
    simp only [conts]
    rw [ih (fun y hy => h0 y (by simp [hy])) fun h => hm (by simp [h]), ax_other hx (h0 s (by simp)) (by rintro rfl; exact hm (by simp))]
theorem linked_set {st : List Int} (h0 : ∀ s ∈ st, 0 ≤ s) {x y : Int} {v : Nat} (hx : 0 ≤ x) (hm : x ∉ st) (h : Linked outs at_ y st) : Linked outs (at_.set x.toNat v) y st := by
  induction st generalizing y with
  | nil => trivial
  | cons s r ih =>
    refine ⟨?_, ih (fun y hy => h0 y (by simp [hy])) (fun h => hm (by simp [h])) h.2⟩
    rw [ax_other hx (h0 s (by simp)) (by rintro rfl; exact hm (by simp))]
    exact h.1

/-- on the way -/
structure Way (outs : List (List Int)) (at_ : List Nat) (st o : List Int) (here : Int) (T : List Int) : Prop where
  vd : Vd outs.length o
  len : at_.length = outs.length
  mem : ∀ s ∈ here :: st, s ∈ o
  nodup : (here :: st).Nodup
  linked : Linked outs at_ here st
  new_ : ∀ x, 0 ≤ x → x ∉ o → ax at_ x = 0
  le : ∀ x, 0 ≤ x → x < (outs.length : Int) → ax at_ x ≤ (adj outs x).length
  goal : T = deeps outs o ((adj outs here).drop (ax at_ here) ++ conts outs at_ st)
/-- how much is left to be done -/
def wayM (outs : List (List Int)) (at_ : List Nat) (st o : List Int) : Nat := ((List.range outs.length).map fun (v : Nat) => (adj outs (v : Int)).length - ax at_ (v : Int)).sum + 2 * (12 - o.length) + st.length

theorem sum_less {l : List Nat} {f g : Nat → Nat} (hn : l.Nodup) {a : Nat} (ha : a ∈ l) (he : ∀ x ∈ l, x ≠ a → f x = g x) (hl : f a < g a) : (l.map f).sum < (l.map g).sum := by
  induction l with
  | nil => cases ha
  | cons x l ih =>
    have hx := (List.nodup_cons.1 hn).1
    simp only [List.map_cons, List.sum_cons]
    rcases List.mem_cons.1 ha with rfl | ha
    · have : l.map f = l.map g := List.map_congr_left fun y hy => he y (by simp [hy]) (by rintro rfl; exact hx hy)
      rw [this]; omega
    · have h1 := ih (List.nodup_cons.1 hn).2 ha fun y hy => he y (by simp [hy])
      have h2 := he x (by simp) (by rintro rfl; exact hx ha)
      omega
theorem wayM_more {x : Int} {v : Nat} (h0 : 0 ≤ x) (hx : x < (outs.length : Int)) (hl : at_.length = outs.length) (hv : ax at_ x < v) (hle : v ≤ (adj outs x).length) (st o : List Int) : wayM outs (at_.set x.toNat v) st o < wayM outs at_ st o := by
  unfold wayM
  have := sum_less (l := List.range outs.length) (f := fun (w : Nat) => (adj outs (w : Int)).length - ax (at_.set x.toNat v) (w : Int)) (g := fun (w : Nat) => (adj outs (w : Int)).length - ax at_ (w : Int)) List.nodup_range (a := x.toNat) (List.mem_range.2 (by omega))
    (fun w _ hne => by rw [ax_other h0 (by omega) (by omega)]) (by rw [Int.toNat_of_nonneg h0, ax_same (by omega)]; omega)
  omega

variable {st o : List Int} {here : Int} {T : List Int}
theorem Way.range (h : Way outs at_ st o here T) {s : Int} (hs : s ∈ here :: st) : 0 ≤ s ∧ s < (outs.length : Int) := h.vd.range s (h.mem s hs)
theorem Way.nn (h : Way outs at_ st o here T) : ∀ s ∈ st, 0 ≤ s := fun s hs => (h.range (by simp [hs])).1
theorem Way.row (h : Way outs at_ st o here T) : adj (turned outs at_ st) here = adj outs here := turned_adj h.nn (h.range (by simp)).1 (List.nodup_cons.1 h.nodup).1
/-- from a root -/
theorem Way.start (hok : Ok outs roots) {r : Int} (hv : Vd outs.length o) (hl : at_.length = outs.length) (hr : 0 ≤ r ∧ r < (outs.length : Int)) (hm : r ∉ o) (hn : ∀ x, 0 ≤ x → x ∉ o → ax at_ x = 0) (hle : ∀ x, 0 ≤ x → x < (outs.length : Int) → ax at_ x ≤ (adj outs x).length) :
    Way outs at_ [] (o ++ [r]) r (deep outs o r) :=
  ⟨hv.snoc hm hr, hl, fun s hs => by simp at hs; subst hs; simp, by simp, trivial, fun x hx hm' => hn x hx fun h => hm' (by simp [h]), hle, by
    rw [hn r hr.1 hm, deep_new hok hv hr hm]; simp [conts]⟩
/-- what is pointed to is marked -/
theorem Way.pass (h : Way outs at_ st o here T) {y : Int} (hy : (adj outs here)[ax at_ here]? = some y) (hm : y ∈ o) :
    Way outs (at_.set here.toNat (ax at_ here + 1)) st o here T ∧ turned outs (at_.set here.toNat (ax at_ here + 1)) st = turned outs at_ st ∧ wayM outs (at_.set here.toNat (ax at_ here + 1)) st o < wayM outs at_ st o := by
  obtain ⟨h0, hr⟩ := h.range (s := here) (by simp)
  have hns := (List.nodup_cons.1 h.nodup).1
  have hlt : ax at_ here < (adj outs here).length := by
    rcases Nat.lt_or_ge (ax at_ here) (adj outs here).length with h' | h'
    · exact h'
    · rw [List.getElem?_eq_none h'] at hy; cases hy
  have hl := h.len
  refine ⟨⟨h.vd, by rw [List.length_set]; exact h.len, h.mem, h.nodup, linked_set h.nn h0 hns h.linked, fun x hx hm' => ?_, fun x hx hx' => ?_, ?_⟩, turned_set h.nn h0 hns, wayM_more h0 hr hl (by omega) (by omega) _ _⟩
  · rw [ax_other h0 hx (by rintro rfl; exact hm' (h.mem _ (by simp)))]; exact h.new_ x hx hm'
  · by_cases e : here = x
    · subst e; rw [ax_same (by omega)]; omega
    · rw [ax_other h0 hx e]; exact h.le x hx hx'
  · rw [ax_same (by omega), conts_set h.nn h0 hns, h.goal, List.drop_eq_getElem_cons hlt, List.cons_append, deeps_cons]
    rw [List.getElem?_eq_getElem hlt] at hy
    injection hy with hy
    rw [hy, deep_old hm]
/-- down -/
theorem Way.down (hok : Ok outs roots) (h : Way outs at_ st o here T) {y : Int} (hy : (adj outs here)[ax at_ here]? = some y) (hm : y ∉ o) :
    Way outs at_ (here :: st) (o ++ [y]) y T ∧ turned outs at_ (here :: st) = (turned outs at_ st).set here.toNat ((adj outs here).set (ax at_ here) (hd st)) ∧ wayM outs at_ (here :: st) (o ++ [y]) < wayM outs at_ st o := by
  obtain ⟨h0, hr⟩ := h.range (s := here) (by simp)
  have hlt : ax at_ here < (adj outs here).length := by
    rcases Nat.lt_or_ge (ax at_ here) (adj outs here).length with h' | h'
    · exact h'
    · rw [List.getElem?_eq_none h'] at hy; cases hy
  have hyr : 0 ≤ y ∧ y < (outs.length : Int) := by
    rw [List.getElem?_eq_getElem hlt] at hy
    injection hy with hy
    exact hy ▸ hok.adjIn _ (List.getElem_mem hlt)
  have hv' := h.vd.snoc hm hyr
  have hl' := hv'.len
  have h12 := hok.n12
  rw [List.length_append, List.length_singleton] at hl'
  refine ⟨⟨hv', h.len, fun s hs => ?_, ?_, ⟨hy, h.linked⟩, fun x hx hm' => h.new_ x hx fun h' => hm' (by simp [h']), h.le, ?_⟩, ?_, ?_⟩
  · rcases List.mem_cons.1 hs with rfl | hs
    · simp
    · exact List.mem_append_left _ (h.mem s hs)
  · exact List.nodup_cons.2 ⟨fun h' => hm (h.mem y h'), h.nodup⟩
  · rw [h.new_ y hyr.1 hm, h.goal, List.drop_eq_getElem_cons hlt, List.cons_append, deeps_cons]
    rw [List.getElem?_eq_getElem hlt] at hy
    injection hy with hy
    rw [hy, deep_new hok h.vd hyr hm, List.drop_zero]
    show deeps outs (deeps outs (o ++ [y]) (adj outs y)) ((adj outs here).drop (ax at_ here + 1) ++ conts outs at_ st) = _
    rw [← deeps_append]
    rfl
  · simp only [turned]
    rw [h.row]
  · unfold wayM
    rw [List.length_append, List.length_singleton, List.length_cons]
    omega
/-- up -/
theorem Way.up {s : Int} {r : List Int} (h : Way outs at_ (s :: r) o here T) (hend : ¬ ax at_ here < (adj outs here).length) :
    (adj (turned outs at_ (s :: r)) s)[ax at_ s]? = some (hd r) ∧ (turned outs at_ (s :: r)).set s.toNat ((adj (turned outs at_ (s :: r)) s).set (ax at_ s) here) = turned outs (at_.set s.toNat (ax at_ s + 1)) r ∧
      Way outs (at_.set s.toNat (ax at_ s + 1)) r o s T ∧ wayM outs (at_.set s.toNat (ax at_ s + 1)) r o < wayM outs at_ (s :: r) o := by
  obtain ⟨h0, hr⟩ := h.range (s := s) (by simp)
  have hnd := (List.nodup_cons.1 h.nodup)
  have hsr := (List.nodup_cons.1 hnd.2).1
  have hnr : ∀ x ∈ r, 0 ≤ x := fun x hx => h.nn x (by simp [hx])
  have hlk := h.linked.1
  have hlt : ax at_ s < (adj outs s).length := by
    rcases Nat.lt_or_ge (ax at_ s) (adj outs s).length with h' | h'
    · exact h'
    · rw [List.getElem?_eq_none h'] at hlk; cases hlk
  have hl := h.len
  have e1 : adj (turned outs at_ r) s = adj outs s := turned_adj hnr h0 hsr
  have e2 : adj (turned outs at_ (s :: r)) s = (adj outs s).set (ax at_ s) (hd r) := by
    simp only [turned]
    rw [adj_set_same (by rw [turned_length]; omega), e1]
  have e3 : (adj outs s).set (ax at_ s) here = adj outs s := by
    apply List.ext_getElem?
    intro j
    rw [List.getElem?_set]
    split
    · rename_i e
      subst e
      exact hlk.symm
    · rfl
  refine ⟨?_, ?_, ⟨h.vd, by rw [List.length_set]; exact hl, fun x hx => h.mem x (List.mem_cons_of_mem _ hx), hnd.2, linked_set hnr h0 hsr h.linked.2, fun x hx hm => ?_, fun x hx hx' => ?_, ?_⟩, ?_⟩
  · rw [e2, List.getElem?_set_self hlt]
  · rw [e2, List.set_set, e3, turned_set hnr h0 hsr]
    simp only [turned]
    rw [List.set_set]
    have := set_adj (turned outs at_ r) s
    rwa [e1] at this
  · rw [ax_other h0 hx (by rintro rfl; exact hm (h.mem _ (by simp)))]; exact h.new_ x hx hm
  · by_cases e : s = x
    · subst e; rw [ax_same (by omega)]; omega
    · rw [ax_other h0 hx e]; exact h.le x hx hx'
  · rw [h.goal, List.drop_eq_nil_of_le (by omega), List.nil_append, ax_same (by omega), conts_set hnr h0 hsr]
    rfl
  · have := wayM_more (outs := outs) (at_ := at_) (v := ax at_ s + 1) h0 hr hl (by omega) (by omega) r o
    have e : wayM outs at_ (s :: r) o = wayM outs at_ r o + 1 := by unfold wayM; rw [List.length_cons]; omega
    omega
/-- the end -/
theorem Way.done (h : Way outs at_ [] o here T) (hend : ¬ ax at_ here < (adj outs here).length) : T = o ∧ turned outs at_ [] = outs := by
  refine ⟨?_, rfl⟩
  rw [h.goal, List.drop_eq_nil_of_le (by omega)]
  rfl

/-- between two roots -/
structure Rt (outs : List (List Int)) (at_ : List Nat) (o : List Int) : Prop where
  vd : Vd outs.length o
  len : at_.length = outs.length
  new_ : ∀ x, 0 ≤ x → x ∉ o → ax at_ x = 0
  le : ∀ x, 0 ≤ x → x < (outs.length : Int) → ax at_ x ≤ (adj outs x).length
theorem Rt.start (outs : List (List Int)) : Rt outs (List.replicate outs.length 0) [] := by
  have h : ∀ x, ax (List.replicate outs.length 0) x = 0 := fun x => by
    unfold ax
    rw [List.getD_eq_getElem?_getD, List.getElem?_replicate]
    split <;> rfl
  exact ⟨Vd.nil_ _, by simp, fun x _ _ => h x, fun x _ _ => by rw [h x]; omega⟩
theorem Rt.way (hok : Ok outs roots) (h : Rt outs at_ o) {r : Int} (hr : 0 ≤ r ∧ r < (outs.length : Int)) (hm : r ∉ o) : Way outs at_ [] (o ++ [r]) r (deep outs o r) := Way.start hok h.vd h.len hr hm h.new_ h.le
theorem Way.rt (h : Way outs at_ [] o here T) : Rt outs at_ o := ⟨h.vd, h.len, h.new_, h.le⟩
end
end Go.Proofs.YtgbdjidjbcbhjaaDoor
