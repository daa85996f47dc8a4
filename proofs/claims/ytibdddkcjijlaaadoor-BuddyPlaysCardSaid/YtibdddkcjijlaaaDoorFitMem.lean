/- The arena of blocks, in memory. No condition. -/
import Derived.Test.YtibdddkcjijlaaaDoorDelBlk
import Derived.Test.YtibdddkcjijlaaaDoorFitPlain
namespace Go.Proofs.YtibdddkcjijlaaaDoor
open Go.RowKit

/-- blocks, cell by cell -/
def bkv : List (Nat × Nat) → List Value
  | [] => []
  | b :: r => .int .i64 b.1 :: .int .i64 b.2 :: bkv r
theorem bkv_length : ∀ bs : List (Nat × Nat), (bkv bs).length = bs.length * 2
  | [] => rfl
  | b :: r => by simp only [bkv, List.length_cons, bkv_length r]; omega
theorem bkv_append : ∀ (a b : List (Nat × Nat)), bkv (a ++ b) = bkv a ++ bkv b
  | [], b => rfl
  | x :: a, b => by simp [bkv, bkv_append a b]
theorem bkv_take : ∀ (bs : List (Nat × Nat)) (i : Nat), (bkv bs).take (i * 2) = bkv (bs.take i)
  | [], i => by simp [bkv]
  | b :: r, 0 => by simp [bkv]
  | b :: r, i + 1 => by
    rw [show (i + 1) * 2 = i * 2 + 1 + 1 by omega]
    simp [bkv, bkv_take r i]
theorem bkv_drop : ∀ (bs : List (Nat × Nat)) (i : Nat), (bkv bs).drop (i * 2) = bkv (bs.drop i)
  | [], i => by simp [bkv]
  | b :: r, 0 => by simp [bkv]
  | b :: r, i + 1 => by
    rw [show (i + 1) * 2 = i * 2 + 1 + 1 by omega]
    simp [bkv, bkv_drop r i]
theorem bkv_get : ∀ (bs : List (Nat × Nat)) (k : Nat) (h : k < bs.length), (bkv bs)[k * 2]? = some (.int .i64 (bs[k]).1) ∧ (bkv bs)[k * 2 + 1]? = some (.int .i64 (bs[k]).2)
  | b :: r, 0, h => by simp [bkv]
  | b :: r, k + 1, h => by
    rw [show (k + 1) * 2 = k * 2 + 1 + 1 by omega]
    have := bkv_get r k (by simpa using h)
    simp only [bkv, List.getElem?_cons_succ, List.getElem_cons_succ]
    exact this
theorem bkv_one : ∀ (bs : List (Nat × Nat)), ∀ u ∈ bkv bs, u.oneCell' = true
  | [], _, h => by cases h
  | b :: r, u, h => by
    simp only [bkv, List.mem_cons] at h
    rcases h with rfl | rfl | h
    · rfl
    · rfl
    · exact bkv_one r u h
theorem bkv_ins (bs : List (Nat × Nat)) (i : Nat) (b : Nat × Nat) : (bkv bs).take (i * 2) ++ [.int .i64 b.1, .int .i64 b.2] ++ (bkv bs).drop (i * 2) = bkv (insAt bs i b) := by
  rw [bkv_take, bkv_drop]
  unfold insAt
  rw [bkv_append, List.append_assoc]
  rfl
theorem bkv_del (bs : List (Nat × Nat)) (i : Nat) : (bkv bs).take (i * 2) ++ (bkv bs).drop ((i + 1) * 2) = bkv (bs.eraseIdx i) := by
  rw [bkv_take, bkv_drop, List.eraseIdx_eq_take_drop_succ, bkv_append]

/-- an arena at block p -/
structure FitAt (w : World) (p base : Nat) (v : Value) (bs : List (Nat × Nat)) : Prop where
  blk : Blk w p 50 #[v]
  own : w.ownsRow base 56 2 v bs.length (bkv bs)
/-- an arena, and all its blocks are of S -/
def FitIs (w : World) (p : Nat) (S : Nat → Prop) (bs : List (Nat × Nat)) : Prop := S p ∧ ∃ v, FitAt w p 0 v bs ∧ ∀ b, v.ownBlock = some b → S b
theorem kp_put (w : World) (g k : Nat) (u : Value) : Kp (At g) w (w.setCell ⟨g, k, none⟩ u) := Kp.setCell (S := At g) (p := ⟨g, k, none⟩) (Kp.refl _ w) (fun _ => rfl) u
section
variable {w w2 : World} {p base : Nat} {v : Value} {bs : List (Nat × Nat)} {S S' : Nat → Prop}
theorem FitAt.ne (h : FitAt w p base v bs) : v.ownBlock ≠ some p := own_ne_blkK h.own h.blk (by decide)
where own_ne_blkK {w : World} {base : Nat} {e : TypeId} {size n : Nat} {v : Value} {xs : List Value} {g : Nat} {t : TypeId} {cs : Array Value} (h : w.ownsRow base e size v n xs) (hg : Blk w g t cs) (hne : e ≠ t) : v.ownBlock ≠ some g := own_ne_blk h hg hne
theorem FitIs.kp (h : FitIs w p S bs) (hk : Kp S' w w2) (hs : ∀ b, S b → ¬ S' b) : FitIs w2 p S bs := by
  obtain ⟨hp, v, h1, h2⟩ := h
  exact ⟨hp, v, ⟨h1.blk.kp hk (hs p hp), own_kp h1.own hk fun b hb => hs b (h2 b hb)⟩, h2⟩
theorem FitIs.no (h : FitIs w p S bs) (hk : Kp No w w2) : FitIs w2 p S bs := h.kp hk fun _ _ h => h
/-- the shape of the row -/
theorem FitAt.form (h : FitAt w p base v bs) : ∃ A c, v = .slice A bs.length c ∧ bs.length ≤ c ∧ c ≤ 9223372036854775807 ∧ (0 < bs.length → ∃ g, A = some ⟨g, 0, none⟩ ∧ v.ownBlock = some g) ∧
    ∀ k (hk : k < bs.length), ∃ g, A = some ⟨g, 0, none⟩ ∧ w.cell? ⟨g, k * 2, none⟩ = some (.int .i64 (bs[k]).1) ∧ w.cell? ⟨g, k * 2 + 1, none⟩ = some (.int .i64 (bs[k]).2) ∧ w.frozen? ⟨g, k * 2, none⟩ = false ∧ w.frozen? ⟨g, k * 2 + 1, none⟩ = false ∧ g < w.heap.size := by
  rcases h.own.2 with ⟨rfl, h0⟩ | ⟨g, cap, cur, rfl, hb, hh, hn, hm, hs, ht⟩
  · exact ⟨none, 0, by rw [h0], by omega, by omega, fun h => by omega, fun k hk => by omega⟩
  · refine ⟨some ⟨g, 0, none⟩, cap, rfl, hn, by unfold maxLen at hm; exact hm, fun _ => ⟨g, rfl, rfl⟩, fun k hk => ⟨g, rfl, ?_, ?_, Blk.free (t := 56) hh _, Blk.free (t := 56) hh _, Blk.lt (t := 56) hh⟩⟩
    · have := (bkv_get bs k hk).1
      rw [← ht, List.getElem?_take] at this
      split at this
      · rw [Blk.cell (t := 56) hh, ← this, Array.getElem?_toList]
      · cases this
    · have := (bkv_get bs k hk).2
      rw [← ht, List.getElem?_take] at this
      split at this
      · rw [Blk.cell (t := 56) hh, ← this, Array.getElem?_toList]
      · cases this
/-- another row -/
theorem FitAt.put {v' : Value} {bs' : List (Nat × Nat)} (h : FitAt w p base v bs) (hk : Kp (fun b => v.ownBlock = some b) w w2) (ho : w2.ownsRow base 56 2 v' bs'.length (bkv bs')) :
    FitAt (w2.setCell ⟨p, 0, none⟩ v') p base v' bs' := by
  have hb := h.blk.kp hk h.ne
  exact ⟨hb.set_ 0 _, own_kp ho (kp_put w2 p 0 v') fun b hb' e => by unfold At at e; subst e; exact own_ne_blk ho hb (by decide) hb'⟩
end
end Go.Proofs.YtibdddkcjijlaaaDoor
