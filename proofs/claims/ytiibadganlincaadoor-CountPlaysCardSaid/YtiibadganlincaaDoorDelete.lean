/- slices.Delete of one int: the library's contract, laid at this program (by the kit's tool), and what it does to a row of one's own. -/
import Derived.Ground.Names2Prog
import Derived.Shelf.Slices.Delete
import Derived.Shelf.Slices.Cells
import Derived.Test.YtiibadganlincaaDoorHeapOut
namespace Go.Proofs
open Go.Shelf
def Tryd.laysDel_ren : Go.Shelf.Ren := ⟨fun | 23 => 27 | n => n, fun | 22 => 25 | 3 => 3 | 4 => 4 | 0 => 0 | n => n, fun | n => n⟩
theorem Tryd.laysDel : Go.Proofs.Lays2.n23 Tryd.prog Tryd.laysDel_ren := {
  mixed := by kernel_rfl
  f23 := Tryd.func27.trans (congrArg some (by kernel_rfl))
  t0 := Tryd.underlying0
  a0 := Tryd.isAgg0
  z0 := Tryd.sizeOf0
  v0 := Tryd.zeroValue0
  t3 := Tryd.underlying3
  a3 := Tryd.isAgg3
  z3 := Tryd.sizeOf3
  v3 := Tryd.zeroValue3
  t4 := Tryd.underlying4
  a4 := Tryd.isAgg4
  z4 := Tryd.sizeOf4
  v4 := Tryd.zeroValue4
  t22 := Tryd.underlying25
  a22 := Tryd.isAgg25
  z22 := Tryd.sizeOf25
  v22 := Tryd.zeroValue25
  i3 := by kernel_rfl }
open Go.RowKit Go.Lib Go.Sort in
/-- slices.Delete at []int, of an argument, for i ≤ j ≤ n: the slice cut to n - (j - i) elements; the n cells hold what stood ahead of i, what stood from j on, then zeros. (LAID: no walk: one application.) -/
theorem Tryd.slices_Delete_int_cells (b off n c i j : Nat) (zs : List Int) (w : World) (hz : n ≤ zs.length) (hcap : n ≤ c) (hm : c ≤ 9223372036854775807) (hij : i ≤ j) (hj : j ≤ n) (hc : ∀ j, j < zs.length → w.cell? ⟨b, off + j, none⟩ = some (.int .i64 (zs.getD j 0))) (hf : ∀ j, j < n → w.frozen? ⟨b, off + j, none⟩ = false) :
    Calls Tryd.prog 27 #[.slice (some ⟨b, off, none⟩) n c, .int .i64 i, .int .i64 j] w fun e w' => e = .returned (.slice (some ⟨b, off, none⟩) (n - (j - i)) c) ∧ ∃ q, w' = (w.drewN q).setCells b off (((zs.take n).take i ++ (zs.take n).drop j ++ List.replicate (j - i) 0).map (Value.int .i64)) := Any.slices_Delete_int_cells Tryd.laysDel b off n c i j zs w hz hcap hm hij hj hc hf
end Go.Proofs
namespace Go.Proofs.YtiibadganlincaaDoor
open Go.RowKit

theorem kp_setCells {g : Nat} : ∀ (vs : List Value) (o : Nat) (w : World), Kp (At g) w (w.setCells g o vs)
  | [], _, _ => Kp.refl _ _
  | v :: r, o, w => (kp_set w g o v).trans (kp_setCells r (o + 1) _)
theorem own_fill {base : Nat} {e : TypeId} {v : Value} {n g : Nat} (hg : v.ownBlock = some g) : ∀ (vs : List Value) (o : Nat) (w : World) (us : List Value), w.ownsRow base e 1 v n us → o + vs.length = us.length → (w.setCells g o vs).ownsRow base e 1 v n (us.take o ++ vs)
  | [], o, w, us, h, hl => by
    rw [List.append_nil, List.take_of_length_le (by simp at hl; omega)]
    exact h
  | u :: r, o, w, us, h, hl => by
    simp only [List.length_cons] at hl
    have hn : n = us.length := by have := h.1; omega
    have h1 := own_set h hg o (by omega) u
    have := own_fill hg r (o + 1) _ _ h1 (by rw [List.length_set]; omega)
    have e1 : (us.set o u).take (o + 1) = us.take o ++ [u] := by
      rw [List.take_set, List.take_succ_eq_append_getElem (by omega), List.set_append_right _ _ (by rw [List.length_take]; omega)]
      simp [Nat.min_eq_left (show o ≤ us.length by omega)]
    rw [e1, List.append_assoc] at this
    exact this
theorem own_cut {w : World} {base : Nat} {e : TypeId} {g n c : Nat} {us : List Value} (h : w.ownsRow base e 1 (.slice (some ⟨g, 0, none⟩) n c) n us) {m : Nat} (hm : m ≤ n) : w.ownsRow base e 1 (.slice (some ⟨g, 0, none⟩) m c) m (us.take m) := by
  obtain ⟨h1, h2⟩ := h
  rcases h2 with ⟨h2, _⟩ | ⟨g', cap, cur, hv, hb, hh, hn, hmx, hs, ht⟩
  · cases h2
  · injection hv with e1 e2 e3
    injection e1 with e1
    injection e1 with e1
    subst e1
    subst e3
    refine ⟨by rw [List.length_take]; omega, .inr ⟨_, _, cur, rfl, hb, hh, by omega, hmx, hs, ?_⟩⟩
    rw [← ht, List.take_take]
    congr 1
    omega

/-- one element is deleted -/
def DelPost (w : World) (base : Nat) (v : Value) (xs : List Int) (k : Nat) (e : Ending) (w' : World) : Prop :=
  ∃ g c, v = .slice (some ⟨g, 0, none⟩) xs.length c ∧ e = .returned (.slice (some ⟨g, 0, none⟩) (xs.length - 1) c) ∧ w'.ownsRow base 3 1 (.slice (some ⟨g, 0, none⟩) (xs.length - 1) c) (xs.length - 1) (iv (xs.eraseIdx k)) ∧ Kp (At g) w w'

theorem delete_any {base : Nat} {v : Value} {xs : List Int} (k : Nat) (w : World) (h : w.ownsRow base 3 1 v xs.length (iv xs)) (hk : k < xs.length) :
    Calls Tryd.prog 27 #[v, .int .i64 k, .int .i64 ((k : Int) + 1)] w (DelPost w base v xs k) := by
  obtain ⟨g, c, hv, hc, hm, _, _, _, _, _⟩ := own_int h hk
  have hcell : ∀ j, j < xs.length → w.cell? ⟨g, 0 + j, none⟩ = some (.int .i64 (xs.getD j 0)) ∧ w.frozen? ⟨g, 0 + j, none⟩ = false := by
    intro j hj
    obtain ⟨g', c', hv', _, _, h1, h2, _⟩ := own_int h hj
    rw [hv] at hv'
    injection hv' with e1 _ _
    injection e1 with e1
    injection e1 with e1
    subst e1
    rw [Nat.zero_add, h1, List.getD_eq_getElem?_getD, List.getElem?_eq_getElem hj]
    exact ⟨rfl, h2⟩
  have := Tryd.slices_Delete_int_cells g 0 xs.length c k (k + 1) xs w (Nat.le_refl _) hc hm (by omega) (by omega) (fun j hj => (hcell j hj).1) (fun j hj => (hcell j hj).2)
  rw [show ((k + 1 : Nat) : Int) = (k : Int) + 1 from rfl, show xs.length - (k + 1 - k) = xs.length - 1 by omega, List.take_length] at this
  rw [hv]
  refine this.mono ?_
  rintro e w' ⟨rfl, q, rfl⟩
  rw [hv] at h
  have h1 := own_fill (g := g) (by rfl) ((xs.take k ++ xs.drop (k + 1) ++ List.replicate (k + 1 - k) 0).map (Value.int .i64)) 0 (w.drewN q) _ (own_kp h ((Kp.refl No w).drewN q) fun _ _ h => h) (by
    rw [List.length_map, iv_length]
    simp only [List.length_append, List.length_take, List.length_drop, List.length_replicate]
    omega)
  refine ⟨g, c, rfl, rfl, ?_, (Kp.refl _ _).drewN q |>.trans (kp_setCells _ _ _)⟩
  have h2 := own_cut h1 (m := xs.length - 1) (by omega)
  have e1 : (List.take 0 (iv xs) ++ (xs.take k ++ xs.drop (k + 1) ++ List.replicate (k + 1 - k) 0).map (Value.int .i64)).take (xs.length - 1) = iv (xs.eraseIdx k) := by
    rw [List.take_zero, List.nil_append, ← List.map_take, List.take_append_of_le_length (by simp only [List.length_append, List.length_take, List.length_drop]; omega), List.take_of_length_le (by simp only [List.length_append, List.length_take, List.length_drop]; omega), List.eraseIdx_eq_take_drop_succ]
    rfl
  rw [e1] at h2
  exact h2
end Go.Proofs.YtiibadganlincaaDoor
