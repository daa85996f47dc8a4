/- What the reference sweeps away, again and again, is what counting frees, plainly. No program in sight. -/
import Derived.Test.YtiibadganlincaaDoorCountPlain
namespace Go.Proofs.YtiibadganlincaaDoor

/-- the reference's heap: pointers, roots, and which nodes are here -/
structure Rc where
  outs : List (List Int)
  roots : List Int
  here : List Bool
def hAt (h : List Bool) (i : Nat) : Bool := h.getD i false
def cntR (c : Rc) (x : Int) : Nat := c.roots.count x + c.outs.flatten.count x
def rcOf (s : Cn) : Rc := ⟨s.outs, s.roots, s.gone.map (!·)⟩
/-- a node that nothing points to goes -/
def offR (c : Rc) (i : Nat) : Rc := ⟨c.outs.set i [], c.roots, c.here.set i false⟩
def off1 (c : Rc) (i : Nat) : Rc := if hAt c.here i = true ∧ cntR c (i : Int) = 0 then offR c i else c
def offTo (c : Rc) : Nat → Rc
  | 0 => c
  | k + 1 => off1 (offTo c k) k
def offN (c : Rc) : Nat → Rc
  | 0 => c
  | n + 1 => offTo (offN c n) c.here.length
def sweptR (c : Rc) : Rc := offN c 13

/-- nodes went, one by one, each pointed to by none -/
inductive Rem (c : Rc) : Rc → Prop
  | refl : Rem c c
  | off {d : Rc} (i : Nat) : Rem c d → hAt d.here i = true → cntR d (i : Int) = 0 → Rem c (offR d i)
theorem Rem.trans {a b c : Rc} (h : Rem a b) (k : Rem b c) : Rem a c := by
  induction k with
  | refl => exact h
  | off i _ h1 h2 ih => exact .off i ih h1 h2
structure Wf (c : Rc) : Prop where
  len : c.here.length = c.outs.length
  away : ∀ i, i < c.outs.length → hAt c.here i = false → adj c.outs (i : Int) = []
structure Der (c d : Rc) : Prop where
  roots : d.roots = c.roots
  olen : d.outs.length = c.outs.length
  hlen : d.here.length = c.here.length
  here : ∀ i, hAt d.here i = true → hAt c.here i = true
  row : ∀ i : Nat, i < c.outs.length → adj d.outs (i : Int) = if hAt d.here i = true then adj c.outs (i : Int) else []
/-- all that is here is pointed to -/
def Done (c : Rc) : Prop := ∀ i, hAt c.here i = true → cntR c (i : Int) ≠ 0

theorem hAt_set {h : List Bool} {n i : Nat} {v : Bool} : hAt (h.set n v) i = if n = i ∧ n < h.length then v else hAt h i := gAt_set
theorem hAt_lt {h : List Bool} {i : Nat} (e : hAt h i = true) : i < h.length := by
  unfold hAt at e
  rcases Nat.lt_or_ge i h.length with h1 | h1
  · exact h1
  · rw [List.getD_eq_getElem?_getD, List.getElem?_eq_none h1] at e; cases e
theorem hAt_eq {h : List Bool} {i : Nat} (hi : i < h.length) : hAt h i = h[i] := gAt_eq hi
theorem hAt_off {c : Rc} {i j : Nat} (h : hAt c.here i = true) : hAt (offR c i).here j = if i = j then false else hAt c.here j := by
  show hAt (c.here.set i false) j = _
  rw [hAt_set]
  have := hAt_lt h
  by_cases e : i = j
  · rw [if_pos ⟨e, this⟩, if_pos e]
  · rw [if_neg fun h => e h.1, if_neg e]
theorem adj_off {c : Rc} {i j : Nat} (hi : i < c.outs.length) : adj (offR c i).outs (j : Int) = if i = j then [] else adj c.outs (j : Int) := by
  show adj (c.outs.set i []) (j : Int) = _
  rw [adj_put (by omega), Int.toNat_natCast]
  by_cases e : i = j
  · rw [if_pos ⟨e, hi⟩, if_pos e]
  · rw [if_neg fun h => e h.1, if_neg e]
theorem Der.refl {c : Rc} (hw : Wf c) : Der c c := ⟨rfl, rfl, rfl, fun _ h => h, fun i hi => by
  split
  · rfl
  · rename_i h; exact hw.away i hi (by simpa using h)⟩
theorem Rem.der {c d : Rc} (hw : Wf c) (h : Rem c d) : Der c d := by
  induction h with
  | refl => exact .refl hw
  | @off d i _ h1 h2 ih =>
    have hlt : i < d.outs.length := by have := hAt_lt h1; have := ih.olen; have := ih.hlen; have := hw.len; omega
    refine ⟨ih.roots, ?_, ?_, fun j hj => ?_, fun j hj => ?_⟩
    · show (d.outs.set i []).length = _
      rw [List.length_set]; exact ih.olen
    · show (d.here.set i false).length = _
      rw [List.length_set]; exact ih.hlen
    · rw [hAt_off h1] at hj
      split at hj
      · cases hj
      · exact ih.here j hj
    · rw [hAt_off h1, adj_off hlt]
      by_cases e : i = j
      · rw [if_pos e, if_pos e]; rfl
      · rw [if_neg e, if_neg e]; exact ih.row j hj
theorem mem_flat {outs : List (List Int)} {x : Int} : x ∈ outs.flatten ↔ ∃ j : Nat, j < outs.length ∧ x ∈ adj outs (j : Int) := by
  rw [List.mem_flatten]
  constructor
  · rintro ⟨l, hl, hx⟩
    obtain ⟨j, hj, rfl⟩ := List.getElem_of_mem hl
    exact ⟨j, hj, by rw [adj_eq (by simpa using hj)]; simpa using hx⟩
  · rintro ⟨j, hj, hx⟩
    rw [adj_eq (by simpa using hj)] at hx
    exact ⟨_, List.getElem_mem hj, by simpa using hx⟩
theorem cntR_zero {c : Rc} {x : Int} : cntR c x = 0 ↔ x ∉ c.roots ∧ ∀ j : Nat, j < c.outs.length → x ∉ adj c.outs (j : Int) := by
  unfold cntR
  rw [Nat.add_eq_zero_iff, List.count_eq_zero, List.count_eq_zero, mem_flat]
  constructor
  · rintro ⟨h1, h2⟩; exact ⟨h1, fun j hj hx => h2 ⟨j, hj, hx⟩⟩
  · rintro ⟨h1, h2⟩; exact ⟨h1, fun ⟨j, hj, hx⟩ => h2 j hj hx⟩
/-- what is done has lost all that may go -/
theorem Rem.less {c d t : Rc} (hw : Wf c) (h : Rem c d) (ht : Rem c t) (hd : Done t) : ∀ i, hAt t.here i = true → hAt d.here i = true := by
  have dt := ht.der hw
  induction h with
  | refl => exact dt.here
  | @off d i hcd h1 h2 ih =>
    intro j hj
    rw [hAt_off h1]
    split
    · rename_i e
      subst e
      exfalso
      apply hd i hj
      have dd := hcd.der hw
      rw [cntR_zero] at h2 ⊢
      refine ⟨by rw [dt.roots, ← dd.roots]; exact h2.1, fun k hk hx => ?_⟩
      rw [dt.olen] at hk
      rw [dt.row k hk] at hx
      split at hx
      · rename_i hk2
        refine h2.2 k (by rw [dd.olen]; exact hk) ?_
        rw [dd.row k hk, if_pos (ih k hk2)]
        exact hx
      · cases hx
    · exact ih j hj
theorem rc_ext {c d t : Rc} (hw : Wf c) (h : Der c d) (k : Der c t) (e : ∀ i, hAt d.here i = true ↔ hAt t.here i = true) : d = t := by
  have e' : ∀ i, hAt d.here i = hAt t.here i := fun i => by rw [Bool.eq_iff_iff]; exact e i
  have h1 : d.here = t.here := by
    apply List.ext_getElem
    · rw [h.hlen, k.hlen]
    · intro i h1 h2
      have := e' i
      rw [hAt_eq h1, hAt_eq h2] at this
      exact this
  have h2 : d.outs = t.outs := by
    apply List.ext_getElem
    · rw [h.olen, k.olen]
    · intro i h1 h2
      have a1 := h.row i (by rw [← h.olen]; exact h1)
      have a2 := k.row i (by rw [← h.olen]; exact h1)
      rw [e' i, ← a2, adj_eq (by simpa using h1), adj_eq (by simpa using h2)] at a1
      simpa using a1
  have h3 : d.roots = t.roots := by rw [h.roots, k.roots]
  cases d; cases t
  simp only at h1 h2 h3
  subst h1 h2 h3
  rfl
theorem Rem.same {c d t : Rc} (hw : Wf c) (h : Rem c d) (ht : Rem c t) (hd : Done d) (hdt : Done t) : d = t :=
  rc_ext hw (h.der hw) (ht.der hw) fun i => ⟨ht.less hw h hd i, h.less hw ht hdt i⟩

/-! ### The sweep -/
theorem off1_rem {c d : Rc} (h : Rem c d) (i : Nat) : Rem c (off1 d i) := by
  unfold off1
  split
  · rename_i hc; exact .off i h hc.1 hc.2
  · exact h
theorem offTo_rem {c d : Rc} (h : Rem c d) : ∀ k, Rem c (offTo d k)
  | 0 => h
  | k + 1 => off1_rem (offTo_rem h k) k
theorem offN_rem (c : Rc) : ∀ n, Rem c (offN c n)
  | 0 => .refl
  | n + 1 => offTo_rem (offN_rem c n) _
def liveR (c : Rc) : Nat := c.here.count true
theorem liveR_off {c : Rc} {i : Nat} (h : hAt c.here i = true) : liveR (offR c i) + 1 = liveR c := by
  have hi := hAt_lt h
  unfold liveR
  show (c.here.set i false).count true + 1 = _
  rw [List.count_set hi]
  rw [hAt_eq hi] at h
  have : 0 < c.here.count true := by rw [List.count_pos_iff, ← h]; exact List.getElem_mem hi
  rw [h]
  simp
  omega
theorem off1_or (c : Rc) (i : Nat) : (off1 c i = c ∧ ¬ (hAt c.here i = true ∧ cntR c (i : Int) = 0)) ∨ liveR (off1 c i) < liveR c := by
  unfold off1
  split
  · rename_i h; right; have := liveR_off h.1; omega
  · rename_i h; exact .inl ⟨rfl, h⟩
theorem offTo_or (c : Rc) : ∀ k, (offTo c k = c ∧ ∀ i, i < k → ¬ (hAt c.here i = true ∧ cntR c (i : Int) = 0)) ∨ liveR (offTo c k) < liveR c
  | 0 => .inl ⟨rfl, fun i h => absurd h (by omega)⟩
  | k + 1 => by
    unfold offTo
    rcases offTo_or c k with ⟨h1, h2⟩ | h
    · rw [h1]
      rcases off1_or c k with ⟨h3, h4⟩ | h3
      · refine .inl ⟨h3, fun i hi => ?_⟩
        by_cases e : i = k
        · subst e; exact h4
        · exact h2 i (by omega)
      · exact .inr h3
    · right
      rcases off1_or (offTo c k) k with ⟨h3, _⟩ | h3
      · rw [h3]; exact h
      · omega
theorem offTo_done {c : Rc} (h : Done c) : ∀ k, offTo c k = c
  | 0 => rfl
  | k + 1 => by
    unfold offTo
    rw [offTo_done h k]
    unfold off1
    rw [if_neg fun hc => h k hc.1 hc.2]
theorem rem_hlen {c d : Rc} (h : Rem c d) : d.here.length = c.here.length := by
  induction h with
  | refl => rfl
  | off i _ _ _ ih => show (List.set _ _ _).length = _; rw [List.length_set]; exact ih
theorem offN_or (c : Rc) : ∀ n, Done (offN c n) ∨ liveR (offN c n) + n ≤ liveR c
  | 0 => .inr (Nat.le_refl _)
  | n + 1 => by
    unfold offN
    rcases offN_or c n with h | h
    · left; rw [offTo_done h]; exact h
    · rcases offTo_or (offN c n) c.here.length with ⟨h1, h2⟩ | h1
      · left
        rw [h1]
        intro i hi
        have := hAt_lt hi
        rw [rem_hlen (offN_rem c n)] at this
        exact fun h => h2 i this ⟨hi, h⟩
      · right; omega
theorem sweptR_done {c : Rc} (h : c.here.length ≤ 12) : Done (sweptR c) := by
  rcases offN_or c 13 with h1 | h1
  · exact h1
  · have : liveR c ≤ c.here.length := List.count_le_length
    omega
/-- what is swept is what is done -/
theorem sweptR_eq {c d : Rc} (hw : Wf c) (h12 : c.here.length ≤ 12) (h : Rem c d) (hd : Done d) : sweptR c = d :=
  (offN_rem c 13).same hw h (sweptR_done h12) hd
theorem offN_len (c : Rc) (n : Nat) : (offN c n).here.length = c.here.length := rem_hlen (offN_rem c n)
theorem offTo_len (c : Rc) (k : Nat) : (offTo c k).here.length = c.here.length := rem_hlen (offTo_rem .refl k)
theorem rem_olen {c d : Rc} (h : Rem c d) : d.outs.length = c.outs.length := by
  induction h with
  | refl => rfl
  | off i _ _ _ ih => show (List.set _ _ _).length = _; rw [List.length_set]; exact ih
theorem rem_roots {c d : Rc} (h : Rem c d) : d.roots = c.roots := by
  induction h with
  | refl => rfl
  | off i _ _ _ ih => exact ih

/-! ### What counting frees -/
theorem hAt_not {g : List Bool} {i : Nat} : hAt (g.map (!·)) i = true ↔ i < g.length ∧ gAt g i = false := by
  unfold hAt gAt
  rw [List.getD_eq_getElem?_getD, List.getD_eq_getElem?_getD, List.getElem?_map]
  rcases Nat.lt_or_ge i g.length with h | h
  · simp [List.getElem?_eq_getElem h, h]
  · simp [List.getElem?_eq_none h, h]
section
variable {s : Cn} {P : List Int}
theorem PInv.wf (h : PInv s P) : Wf (rcOf s) := by
  refine ⟨by unfold rcOf; rw [List.length_map]; exact h.glen, fun i hi hh => ?_⟩
  cases e : gAt s.gone i with
  | true => exact (h.away i hi e).1
  | false =>
    have : hAt (rcOf s).here i = true := hAt_not.2 ⟨by rw [h.glen]; exact hi, e⟩
    rw [this] at hh
    cases hh
theorem PInv.done (h : PInv s []) : Done (rcOf s) := by
  intro i hi
  obtain ⟨h1, h2⟩ := hAt_not.1 hi
  rw [h.glen] at h1
  obtain ⟨h3, h4⟩ := h.here i h1 h2
  have : cntR (rcOf s) (i : Int) = refs s (i : Int) := rfl
  rw [this]
  simp at h3
  omega
theorem rcOf_count (s : Cn) (c : List Int) : rcOf { s with count := c } = rcOf s := rfl
theorem less_rem : ∀ (f : Nat) (s : Cn) (x : Int) (P : List Int), live s < f → PInv s (x :: P) → Rem (rcOf s) (rcOf (lessS f s x)) := by
  intro f
  induction f with
  | zero => intro s x P h; omega
  | succ f ih =>
    intro s x P hl h
    have fold : ∀ (l : List Int) (s : Cn) (P : List Int), live s < f → PInv s (l ++ P) → Rem (rcOf s) (rcOf (l.foldl (lessS f) s)) := by
      intro l
      induction l with
      | nil => intro s P _ _; exact .refl
      | cons y l ihl =>
        intro s P hl h
        obtain ⟨h1, h2⟩ := less_inv f s y (l ++ P) hl h
        exact (ih s y (l ++ P) hl h).trans (ihl _ P (by omega) h1)
    unfold lessS
    split
    · exact .refl
    · rename_i hp
      have hx := h.pend x (by simp)
      obtain ⟨_, hgx⟩ := isB_iff.1 h.isHere
      have hlt : x.toNat < s.outs.length := by omega
      have ex : ((x.toNat : Nat) : Int) = x := by omega
      obtain ⟨k1, k2⟩ := h.here x.toNat hlt hgx
      rw [ex, List.count_cons] at k1
      simp at k1
      obtain ⟨h1, h2⟩ := h.leave hp
      have h3 := fold _ _ P (by omega) h1
      refine Rem.trans ?_ h3
      have e : rcOf ⟨s.outs.set x.toNat [], s.roots, s.count.set x.toNat (nAt s.count x.toNat - 1), s.gone.set x.toNat true⟩ = offR (rcOf s) x.toNat := by
        unfold rcOf offR
        simp [List.map_set]
      rw [e]
      refine .off x.toNat .refl (hAt_not.2 ⟨by rw [h.glen]; exact hlt, hgx⟩) ?_
      rw [ex]
      show refs s x = 0
      omega
theorem swept_of (hw : Wf (rcOf s)) {t : Cn} (h12 : s.gone.length ≤ 12) (h : Rem (rcOf s) (rcOf t)) (ht : PInv t []) : sweptR (rcOf s) = rcOf t :=
  sweptR_eq hw (by unfold rcOf; rw [List.length_map]; exact h12) h ht.done
theorem PInv.g12 (h : PInv s P) : s.gone.length ≤ 12 := by have := h.glen; have := h.n12; omega
theorem swept_drop (h : PInv s []) {i : Int} (he : dropE s i = 0) : sweptR (rcOf { s with roots := s.roots.erase i }) = rcOf (dropS s i) := by
  have e : dropS s i = lessS 13 { s with roots := s.roots.erase i } i := by unfold dropS; rw [if_pos he]
  have hm := h.dropMid he
  have ht := h.drop_ i
  rw [e] at ht ⊢
  exact swept_of hm.wf h.g12 (less_rem 13 _ i [] h.live12 hm) ht
theorem swept_cut (h : PInv s []) {i j : Int} (he : cutE s i j = 0) : sweptR (rcOf { s with outs := s.outs.set i.toNat ((adj s.outs i).erase j) }) = rcOf (cutS s i j) := by
  have e : cutS s i j = lessS 13 { s with outs := s.outs.set i.toNat ((adj s.outs i).erase j) } j := by unfold cutS; rw [if_pos he]
  have hm := h.cutMid he
  have ht := h.cut_ i j
  rw [e] at ht ⊢
  exact swept_of hm.wf h.g12 (less_rem 13 _ j [] h.live12 hm) ht
theorem swept_root (h : PInv s []) {i : Int} (he : rootE s i = 0) : sweptR (rcOf { s with roots := s.roots ++ [i] }) = rcOf (rootS s i) := by
  have e : rootS s i = { s with roots := s.roots ++ [i], count := s.count.set i.toNat (nAt s.count i.toNat + 1) } := by unfold rootS; rw [if_pos he]
  have ht := h.root_ i
  have e2 : rcOf (rootS s i) = rcOf { s with roots := s.roots ++ [i] } := by rw [e]; rfl
  have hw := ht.wf
  rw [e2] at hw
  exact swept_of hw h.g12 (by rw [e2]; exact .refl) ht
theorem swept_link (h : PInv s []) {i j : Int} (he : linkE s i j = 0) : sweptR (rcOf { s with outs := s.outs.set i.toNat (adj s.outs i ++ [j]) }) = rcOf (linkS s i j) := by
  have e : linkS s i j = { s with outs := s.outs.set i.toNat (adj s.outs i ++ [j]), count := s.count.set j.toNat (nAt s.count j.toNat + 1) } := by unfold linkS; rw [if_pos he]
  have ht := h.link_ i j
  have e2 : rcOf (linkS s i j) = rcOf { s with outs := s.outs.set i.toNat (adj s.outs i ++ [j]) } := by rw [e]; rfl
  have hw := ht.wf
  rw [e2] at hw
  exact swept_of hw h.g12 (by rw [e2]; exact .refl) ht
end
end Go.Proofs.YtiibadganlincaaDoor
