/- The reference's Put: a number is put in at a place. -/
import Derived.Test.YtiibadganlincaaDoorClone
namespace Go.Proofs.YtiibadganlincaaDoor
open Go.RowKit
set_option linter.unusedSimpArgs false

theorem put_take {w : World} {F : Nat → Prop} {A : Option Addr} {n c : Nat} {xs : List Int} (h : IntsIn w F (.slice A n c) xs) {k : Nat} (hk : k ≤ xs.length) : IntsIn w F (.slice A k c) (xs.take k) := by
  obtain ⟨A', c', e, h1, h2, h3⟩ := h
  cases e
  refine ⟨A, c, by rw [List.length_take]; congr 1; omega, by rw [List.length_take]; omega, h2, fun j hj => ?_⟩
  rw [List.length_take] at hj
  obtain ⟨b, o, e, hF, hc⟩ := h3 j (by omega)
  exact ⟨b, o, e, hF, by rw [List.getElem_take]; exact hc⟩
theorem put_drop {w : World} {F : Nat → Prop} {a : Addr} {n c : Nat} {xs : List Int} (h : IntsIn w F (.slice (some a) n c) xs) {k : Nat} (hk : k ≤ xs.length) : IntsIn w F (.slice (some (a.add k)) (xs.length - k) (c - k)) (xs.drop k) := by
  obtain ⟨A', c', e, h1, h2, h3⟩ := h
  cases e
  refine ⟨_, _, by rw [List.length_drop], by rw [List.length_drop]; omega, by omega, fun j hj => ?_⟩
  rw [List.length_drop] at hj
  obtain ⟨b, o, e, hF, hc⟩ := h3 (k + j) (by omega)
  cases e
  refine ⟨b, o + k, ?_, hF, by rw [List.getElem_drop, ← hc, Nat.add_assoc]⟩
  unfold Addr.add
  split
  · rename_i h0; subst h0; rfl
  · rfl
/-- in at a place -/
def putI (xs : List Int) (k : Nat) (x : Int) : List Int := xs.take k ++ x :: xs.drop k

set_option maxRecDepth 100000 in
set_option maxHeartbeats 2000000 in
theorem put_any {F : Nat → Prop} (v : Value) (xs : List Int) (k : Nat) (x : Int) (w : World) (hv : IntsIn w F v xs) (hk : k ≤ xs.length) (hl : xs.length ≤ 1000) :
    Calls Tryd.prog 19 #[v, .int .i64 (k : Nat), .int .i64 x] w fun e w' => ∃ v', e = .returned v' ∧ IntsIn w' (Hi w.heap.size) v' (putI xs k x) ∧ Kp No w w' := by
  have HV := hide hv
  obtain ⟨A, c, rfl, hc, hm, hcell⟩ := id hv
  have HT := hide (cellsIn_ints.2 (put_take hv hk))
  have hkl : (xs.take k).length = k := by rw [List.length_take]; omega
  have HL := hide (show 0 + (iv (xs.take k)).length ≤ 1073741824 by rw [iv_length, hkl]; omega)
  rcases A with _ | ⟨b, o, q⟩
  · obtain rfl : xs = [] := by
      rcases xs with _ | ⟨y, ys⟩
      · rfl
      · obtain ⟨_, _, h, _⟩ := hcell 0 (by simp)
        cases h
    obtain rfl : k = 0 := by simpa using hk
    clear hv hcell
    have HE := hide (fun W : World => (⟨none, c, rfl, by simp, by simpa using hm, fun j hj => by simp at hj⟩ : CellsIn W F (.slice none 0 c) []))
    go_enter Tryd.func19, Tryd.ntmps19
    go_wp2_with (first
      | (at_builtin; refine wpList_push _ rfl (.tmp 13) (.tmp 15) _ rfl w.heap.size 3 _ 8 Tryd.underlying25 Tryd.infoInt rfl (.slice none 0 0) 0 [] rfl (World.ownsRow_nil _ _ _ _) _ rfl 1 _ rfl (by simp) (by omega) (by decide) (Nat.le_refl _) ?_; intro g' c' w4 ho4 hgr4 hat4; have HO4 := hide ho4; have HK4 := hide (((Kp.refl No w).alloc _).grown hgr4 fun b e hb => by cases e); have hs4 := HK4.out.size; clear ho4 hgr4 hat4)
      | (at_builtin; refine wpList_add (F := F) _ rfl (.tmp 17) (.tmp 20) _ rfl w.heap.size 3 _ 8 Tryd.underlying25 Tryd.infoInt rfl _ 1 [.int .i64 x] rfl HO4.out _ rfl [] (HE.out w4) (by simp) (by decide) (by decide) hs4 ?_; intro v5 w5 ho5 hgr5 hat5; have HO5 := hide ho5; have HK5 := hide (HK4.out.grown hgr5 fun b e hb => by have := (own_lt HO4.out e).1; omega); clear ho5 hgr5 hat5))
    go_ret
    refine ⟨_, rfl, ?_, HK5.out⟩
    have ho := HO5.out
    simp only [List.append_nil] at ho
    exact .of_own (xs := [x]) ho fun b hb => (own_lt ho hb).1
  · have HL2 := hide (show k + 1 + (iv (xs.drop k)).length ≤ 1073741824 by rw [iv_length, List.length_drop]; omega)
    by_cases hck : c = k
    · obtain rfl : k = c := hck.symm
      have HD := hide (show ∀ (W : World), CellsIn W F (.slice (some ⟨b, o, q⟩) 0 0) [] from fun W => ⟨some ⟨b, o, q⟩, 0, rfl, Nat.zero_le _, by omega, fun j hj => by simp at hj⟩)
      have HDR := hide (show xs.drop k = [] from List.drop_eq_nil_of_le hc)
      clear hv hcell
      go_enter Tryd.func19, Tryd.ntmps19
      go_wp2_with (first
        | (at_builtin; refine wpList_add (F := F) _ rfl (.tmp 8) (.tmp 11) _ rfl w.heap.size 3 _ 8 Tryd.underlying25 Tryd.infoInt rfl _ 0 [] rfl (World.ownsRow_nil _ _ _ _) _ rfl (iv (xs.take k)) HT.out (one_iv _) HL.out (by decide) (Nat.le_refl _) ?_; intro v3 w3 ho3 hgr3 hat3; have hk3 := (Kp.refl No w).grown hgr3 (fun k e hk => by cases e); have ho3 : w3.ownsRow w.heap.size 3 1 v3 k (iv (xs.take k)) := (by rw [iv_length, hkl, Nat.zero_add, List.nil_append] at ho3; exact ho3); have HO3 := hide ho3; have HK3 := hide hk3; have hs3 := hk3.size; clear ho3 hgr3 hat3 hk3)
        | (at_builtin; refine wpList_push _ rfl (.tmp 13) (.tmp 15) _ rfl w.heap.size 3 _ 8 Tryd.underlying25 Tryd.infoInt rfl v3 k (iv (xs.take k)) rfl HO3.out _ rfl 1 _ rfl (by simp) (by omega) (by decide) hs3 ?_; intro g' c' w4 ho4 hgr4 hat4; have HO4 := hide ho4; have HK4 := hide ((HK3.out.alloc _).grown hgr4 fun b e hb => by have := (own_lt HO3.out e).1; omega); have hs4 := HK4.out.size; clear ho4 hgr4 hat4)
        | (at_builtin; refine wpList_add (F := F) _ rfl (.tmp 17) (.tmp 20) _ rfl w.heap.size 3 _ 8 Tryd.underlying25 Tryd.infoInt rfl (.slice (some ⟨g', 0, none⟩) (k + 1) c') (k + 1) (iv (xs.take k) ++ [.int .i64 x]) rfl HO4.out _ rfl [] (HD.out w4) (by simp) (by simp; omega) (by decide) hs4 ?_; intro v5 w5 ho5 hgr5 hat5; have HO5 := hide ho5; have HK5 := hide (HK4.out.grown hgr5 fun b e hb => by have := (own_lt HO4.out e).1; omega); clear ho5 hgr5 hat5))
      go_ret
      refine ⟨_, rfl, ?_, HK5.out⟩
      have ho := HO5.out
      rw [show iv (xs.take k) ++ [Value.int .i64 x] ++ [] = iv (putI xs k x) by unfold putI iv; rw [HDR.out]; simp] at ho
      exact .of_own ho fun b hb => (own_lt ho hb).1
    · have HD := hide (cellsIn_ints.2 (put_drop hv hk))
      clear hv hcell
      go_enter Tryd.func19, Tryd.ntmps19
      go_wp2_with (first
        | (at_builtin; refine wpList_add (F := F) _ rfl (.tmp 8) (.tmp 11) _ rfl w.heap.size 3 _ 8 Tryd.underlying25 Tryd.infoInt rfl _ 0 [] rfl (World.ownsRow_nil _ _ _ _) _ rfl (iv (xs.take k)) HT.out (one_iv _) HL.out (by decide) (Nat.le_refl _) ?_; intro v3 w3 ho3 hgr3 hat3; have hk3 := (Kp.refl No w).grown hgr3 (fun k e hk => by cases e); have ho3 : w3.ownsRow w.heap.size 3 1 v3 k (iv (xs.take k)) := (by rw [iv_length, hkl, Nat.zero_add, List.nil_append] at ho3; exact ho3); have HO3 := hide ho3; have HK3 := hide hk3; have hs3 := hk3.size; clear ho3 hgr3 hat3 hk3)
        | (at_builtin; refine wpList_push _ rfl (.tmp 13) (.tmp 15) _ rfl w.heap.size 3 _ 8 Tryd.underlying25 Tryd.infoInt rfl v3 k (iv (xs.take k)) rfl HO3.out _ rfl 1 _ rfl (by simp) (by omega) (by decide) hs3 ?_; intro g' c' w4 ho4 hgr4 hat4; have HO4 := hide ho4; have HK4 := hide ((HK3.out.alloc _).grown hgr4 fun b e hb => by have := (own_lt HO3.out e).1; omega); have hs4 := HK4.out.size; clear ho4 hgr4 hat4)
        | (at_builtin; refine wpList_add (F := F) _ rfl (.tmp 17) (.tmp 20) _ rfl w.heap.size 3 _ 8 Tryd.underlying25 Tryd.infoInt rfl (.slice (some ⟨g', 0, none⟩) (k + 1) c') (k + 1) (iv (xs.take k) ++ [.int .i64 x]) rfl HO4.out _ rfl (iv (xs.drop k)) (HD.out.no HK4.out) (one_iv _) HL2.out (by decide) hs4 ?_; intro v5 w5 ho5 hgr5 hat5; have HO5 := hide ho5; have HK5 := hide (HK4.out.grown hgr5 fun b e hb => by have := (own_lt HO4.out e).1; omega); clear ho5 hgr5 hat5))
      go_ret
      refine ⟨_, rfl, ?_, HK5.out⟩
      have ho := HO5.out
      rw [show iv (xs.take k) ++ [Value.int .i64 x] ++ iv (xs.drop k) = iv (putI xs k x) by unfold putI iv; simp] at ho
      exact .of_own ho fun b hb => (own_lt ho hb).1
end Go.Proofs.YtiibadganlincaaDoor
