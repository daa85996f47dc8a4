/- Rows of the call's own whose elements take so many cells: cells are set, filled, cut. No condition. -/
import Derived.Test.YtibdddkcjijlaaaDoorOwn
import Derived.Lib.Overlaps
import Derived.Lib.AppendZerosOnto
import Derived.Laws.IdiomCopy
import Derived.Laws.NewBlocks
import Derived.Shelf.RegionOpenPlain
import Derived.Shelf.Spec.SlicesInsert
namespace Go.Proofs.YtibdddkcjijlaaaDoor
open Go.RowKit

theorem ownK_set {w : World} {base : Nat} {e : TypeId} {v : Value} {n K : Nat} {us : List Value} (h : w.ownsRow base e K v n us) {g : Nat} (hg : v.ownBlock = some g) (k : Nat) (hk : k < us.length) (u : Value) :
    (w.setCell ⟨g, k, none⟩ u).ownsRow base e K v n (us.set k u) := by
  obtain ⟨h1, h2⟩ := h
  refine ⟨by rw [List.length_set]; exact h1, ?_⟩
  rcases h2 with ⟨rfl, _⟩ | ⟨g', cap, cur, rfl, hb, hh, hn, hm, hs, ht⟩
  · simp [Value.ownBlock] at hg
  · have : g' = g := by simpa [Value.ownBlock] using hg
    subst this
    refine .inr ⟨g', cap, cur.setIfInBounds k u, rfl, hb, Blk.set_ hh k u, hn, hm, by simpa using hs, ?_⟩
    rw [Array.toList_setIfInBounds, List.take_set, ht]
/-- a list in which some cells are written over -/
def overAt {α : Type} (us : List α) (o : Nat) (vs : List α) : List α := us.take o ++ vs ++ us.drop (o + vs.length)
theorem overAt_length {α : Type} {us vs : List α} {o : Nat} (h : o + vs.length ≤ us.length) : (overAt us o vs).length = us.length := by
  unfold overAt; simp only [List.length_append, List.length_take, List.length_drop]; omega
theorem overAt_nil {α : Type} (us : List α) (o : Nat) : overAt us o [] = us := by simp [overAt]
theorem overAt_cons {α : Type} {us r : List α} {o : Nat} {u : α} (h : o + (r.length + 1) ≤ us.length) : overAt us o (u :: r) = overAt (us.set o u) (o + 1) r := by
  unfold overAt
  rw [List.take_set, List.take_succ_eq_append_getElem (by omega), List.set_append_right _ _ (by rw [List.length_take]; omega), List.drop_set_of_lt (by omega)]
  simp [Nat.min_eq_left (show o ≤ us.length by omega)]
  omega
theorem ownK_fill {base : Nat} {e : TypeId} {v : Value} {n g K : Nat} (hg : v.ownBlock = some g) : ∀ (vs : List Value) (o : Nat) (w : World) (us : List Value), w.ownsRow base e K v n us → o + vs.length ≤ us.length → (w.setCells g o vs).ownsRow base e K v n (overAt us o vs)
  | [], o, w, us, h, hl => by rw [overAt_nil]; exact h
  | u :: r, o, w, us, h, hl => by
    simp only [List.length_cons] at hl
    have h1 := ownK_set h hg o (by omega) u
    rw [overAt_cons hl]
    exact ownK_fill hg r (o + 1) _ _ h1 (by rw [List.length_set]; omega)
theorem ownK_cut {w : World} {base : Nat} {e : TypeId} {g n c K : Nat} {us : List Value} (h : w.ownsRow base e K (.slice (some ⟨g, 0, none⟩) n c) n us) {m : Nat} (hm : m ≤ n) : w.ownsRow base e K (.slice (some ⟨g, 0, none⟩) m c) m (us.take (m * K)) := by
  obtain ⟨h1, h2⟩ := h
  have hmk := Nat.mul_le_mul_right K hm
  rcases h2 with ⟨h2, _⟩ | ⟨g', cap, cur, hv, hb, hh, hn, hmx, hs, ht⟩
  · cases h2
  · injection hv with e1 e2 e3
    injection e1 with e1
    injection e1 with e1
    subst e1
    subst e3
    refine ⟨by rw [List.length_take]; omega, .inr ⟨_, _, cur, rfl, hb, hh, by omega, hmx, hs, ?_⟩⟩
    rw [← ht, List.take_take]
    congr 1
    omega
/-- the whole row, with what is spare -/
theorem ownK_full {w : World} {base : Nat} {e : TypeId} {g n c K : Nat} {us : List Value} (h : w.ownsRow base e K (.slice (some ⟨g, 0, none⟩) n c) n us) :
    ∃ full, full.take (n * K) = us ∧ full.length = c * K ∧ n ≤ c ∧ c ≤ 9223372036854775807 ∧ w.heap[g]? = some (.cells full.toArray e (0, 0)) ∧ w.ownsRow base e K (.slice (some ⟨g, 0, none⟩) c c) c full := by
  obtain ⟨h1, h2⟩ := h
  rcases h2 with ⟨h2, _⟩ | ⟨g', cap, cur, hv, hb, hh, hn, hmx, hs, ht⟩
  · cases h2
  · injection hv with e1 e2 e3
    injection e1 with e1
    injection e1 with e1
    subst e1
    subst e3
    exact ⟨cur.toList, ht, by simpa using hs, hn, by unfold maxLen at hmx; exact hmx, by simpa using hh, by simpa using hs, .inr ⟨_, _, cur, rfl, hb, hh, Nat.le_refl _, hmx, hs, by rw [List.take_of_length_le (by simp [hs])]⟩⟩
theorem ownK_new (w : World) (cs : Array Value) (e : TypeId) (K c base : Nat) (hb : base ≤ w.heap.size) (hc : cs.size = c * K) (hl : c ≤ 9223372036854775807) :
    (w.alloc (.cells cs e)).ownsRow base e K (.slice (some ⟨w.heap.size, 0, none⟩) c c) c cs.toList :=
  ⟨by simpa using hc, .inr ⟨_, _, cs, rfl, hb, heap_alloc_new w _, Nat.le_refl _, hl, hc, by rw [List.take_of_length_le (by simp [hc])]⟩⟩
theorem ownK_drew {w : World} {base : Nat} {e : TypeId} {K n : Nat} {v : Value} {us : List Value} (h : w.ownsRow base e K v n us) : w.drew.ownsRow base e K v n us := h
theorem kp_fill {g : Nat} : ∀ (vs : List Value) (o : Nat) (w : World), Kp (At g) w (w.setCells g o vs)
  | [], _, _ => Kp.refl _ _
  | v :: r, o, w => (kp_set' w g o v).trans (kp_fill r (o + 1) _)
where kp_set' (w : World) (g k : Nat) (u : Value) : Kp (At g) w (w.setCell ⟨g, k, none⟩ u) := Kp.setCell (S := At g) (p := ⟨g, k, none⟩) (Kp.refl _ w) (fun _ => rfl) u

/-- copy, of elements of so many cells -/
theorem run_copyK {P : Program} (w : World) (dT sT ty elem : TypeId) (b o dLen dCap K m : Nat) (a : Addr) (sLen sCap : Nat) (cs : List Value)
    (hu : P.underlying dT = some (.slice elem)) (hs : (P.info? elem).map (·.size) = some K) (hm : m = Nat.min sLen dLen) (hn : cs.length = m * K)
    (hsrc : ∀ j v, cs[j]? = some v → w.cell? (a.add j) = some v) (hc : ∀ j, j < cs.length → (w.cell? ⟨b, o + j, none⟩).isSome = true) (hf : ∀ j, j < cs.length → w.frozen? ⟨b, o + j, none⟩ = false) (h1 : ∀ v ∈ cs, v.oneCell' = true) :
    (Builtin.copy_ #[dT, sT] ty #[.slice (some ⟨b, o, none⟩) dLen dCap, .slice (some a) sLen sCap]).run P w = .ok (goInt m) (w.setCells b o cs) := by
  have hl := run_loadCells_list (P := P) w a cs hsrc
  have hst := run_storeCells_cells (P := P) b o cs 0 w (by simpa using hc) (by simpa using hf) h1
  cases hq : P.info? elem with
  | none => simp [hq] at hs
  | some i =>
    have hi : i.size = K := by simpa [hq] using hs
    simp [Builtin.copy_, run_underlying hu, Builtin.lenOf, Builtin.firstCells, sizeOf, typeInfo, hq, hi, ← hm, ← hn, hl, hst]

/-- what an insertion leaves -/
def InsPost (w : World) (base : Nat) (e : TypeId) (K : Nat) (v : Value) (n : Nat) (us new : List Value) (i : Nat) (en : Ending) (w' : World) : Prop :=
  ∃ v', en = .returned v' ∧ w'.ownsRow base e K v' (n + 1) (us.take (i * K) ++ new ++ us.drop (i * K)) ∧ Kp (fun b => v.ownBlock = some b) w w' ∧ ∀ g, v'.ownBlock = some g → v.ownBlock = some g ∨ w.heap.size ≤ g

theorem ins_both {us full new D R : List Value} {a b K : Nat} (hl : (full.take (a + K)).length = a + K) (he : (full.take (a + K)).take a = us.take a) (hnew : new.length = K) (hd : a + D.length = b) :
    (overAt (full.take (a + K) ++ D ++ R) a new).take (b + K) = us.take a ++ new ++ D := by
  have e1 : (full.take (a + K) ++ D ++ R).take a = us.take a := by
    rw [List.append_assoc, List.take_append_of_le_length (by omega), he]
  have e2 : (full.take (a + K) ++ D ++ R).drop (a + K) = D ++ R := by
    rw [List.append_assoc, List.drop_left' hl]
  have hla : (us.take a).length = a := by rw [← he, List.length_take]; omega
  unfold overAt
  rw [hnew, e1, e2, ← List.append_assoc]
  exact List.take_left' (by simp only [List.length_append, hla, hnew]; omega)
theorem ins_shift {us full new : List Value} {n K i : Nat} (hus : full.take (n * K) = us) (hf : (n + 1) * K ≤ full.length) (hi : i ≤ n) (hnew : new.length = K) :
    (overAt (overAt full ((i + 1) * K) (us.drop (i * K))) (i * K) new).take ((n + 1) * K) = us.take (i * K) ++ new ++ us.drop (i * K) := by
  have h1 : i * K ≤ n * K := Nat.mul_le_mul_right K hi
  have h2 : (i + 1) * K = i * K + K := Nat.succ_mul i K
  have h3 : (n + 1) * K = n * K + K := Nat.succ_mul n K
  have hul : us.length = n * K := by rw [← hus, List.length_take]; omega
  have hdl : (us.drop (i * K)).length = n * K - i * K := by rw [List.length_drop, hul]
  rw [h2]
  generalize i * K = a at *
  generalize n * K = b at *
  rw [h3] at hf ⊢
  exact ins_both (by rw [List.length_take]; omega) (by rw [← hus, List.take_take, List.take_take, Nat.min_eq_left (by omega), Nat.min_eq_left h1]) hnew (by rw [hdl]; omega)
theorem ins_grow {us new zs : List Value} {n K i c : Nat} (hul : us.length = n * K) (hz : zs.length = c * K - i * K) (hc : n + 1 ≤ c) (hi : i ≤ n) (hnew : new.length = K) :
    (overAt (overAt (us.take (i * K) ++ zs) (i * K) new) ((i + 1) * K) (us.drop (i * K))).take ((n + 1) * K) = us.take (i * K) ++ new ++ us.drop (i * K) := by
  have h1 : i * K ≤ n * K := Nat.mul_le_mul_right K hi
  have h2 : (i + 1) * K = i * K + K := Nat.succ_mul i K
  have h3 : (n + 1) * K = n * K + K := Nat.succ_mul n K
  have h4 : (n + 1) * K ≤ c * K := Nat.mul_le_mul_right K hc
  have hdl : (us.drop (i * K)).length = n * K - i * K := by rw [List.length_drop, hul]
  rw [h2]
  rw [h3] at h4 ⊢
  generalize i * K = a at *
  generalize n * K = b at *
  generalize c * K = d at *
  have hb : (overAt (us.take a ++ zs) a new).take (a + K) = us.take a ++ new := by
    unfold overAt
    rw [List.take_left' (by simp only [List.length_append, List.length_take, hnew]; omega), List.take_left' (by rw [List.length_take]; omega)]
  unfold overAt at hb ⊢
  rw [hb]
  exact List.take_left' (by simp only [List.length_append, List.length_take, hnew, hdl]; omega)
end Go.Proofs.YtibdddkcjijlaaaDoor
