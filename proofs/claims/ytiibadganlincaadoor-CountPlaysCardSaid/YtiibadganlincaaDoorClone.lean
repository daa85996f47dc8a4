/- slices.Clone of ints: a fresh row of the same numbers. -/
import Derived.Test.YtiibadganlincaaDoorOwn
import Derived.Test.YtiibadganlincaaDoorPush
import Derived.WalkSpells
namespace Go.Proofs.YtiibadganlincaaDoor
open Go.RowKit

/-- a fresh row of one's own -/
def CloneInts (w : World) (xs : List Int) (e : Ending) (w' : World) : Prop := ∃ v, e = .returned v ∧ w'.ownsRow w.heap.size 3 1 v xs.length (iv xs) ∧ Kp No w w'

theorem one_iv (xs : List Int) : ∀ u ∈ iv xs, u.oneCell' = true := by
  intro u hu
  simp only [iv, List.mem_map] at hu
  obtain ⟨x, _, rfl⟩ := hu
  rfl

set_option maxHeartbeats 400000 in
theorem clone_any {F : Nat → Prop} (v : Value) (xs : List Int) (w : World) (hv : IntsIn w F v xs) (hl : xs.length ≤ 1000) : Calls Tryd.prog 32 #[v] w (CloneInts w xs) := by
  have q23 : ∀ (w : World) (a : Option Addr) (n c n' c' : Nat), (binOp .eql 25 (.slice a n c) (.slice none n' c')).run Tryd.prog w = .ok (.bool a.isNone) w := fun w a n c n' c' => Lib.run_eql_slice_nil w _ _ a n c n' c' Tryd.underlying25
  have HV := hide hv
  obtain ⟨A, c, rfl, hc, hm, hcell⟩ := hv
  rcases A with _ | a
  · have hx : xs = [] := by
      rcases xs with _ | ⟨x, xs⟩
      · rfl
      · obtain ⟨_, _, h, _⟩ := hcell 0 (by simp)
        cases h
    have HX := hide hx
    clear hx hcell
    go_enter Tryd.func32, Tryd.ntmps32
    go_wp2
    go_ret
    exact ⟨_, rfl, by rw [HX.out]; exact World.ownsRow_nil _ _ _ _, Kp.refl _ _⟩
  · clear hcell
    have HC := hide (cellsIn_ints.2 (HV.out.no ((Kp.refl No w).alloc (.cells #[] 3))))
    have HO := hide (own_new w [] #[] 3 w.heap.size (Nat.le_refl _) (by simp) rfl)
    have HL := hide (show 0 + (iv xs).length ≤ 1073741824 by rw [iv_length]; omega)
    go_enter Tryd.func32, Tryd.ntmps32
    go_wp2_with (at_builtin; refine wpList_add (F := F) _ rfl (.tmp 5) (.tmp 6) _ rfl w.heap.size 3 _ 8 Tryd.underlying25 Tryd.infoInt rfl _ 0 [] rfl HO.out _ rfl (iv xs) HC.out (one_iv xs) HL.out (by decide) ?_ ?_)
    · simp
    · intro v' w3 ho3 hgr3 _
      have HO3 := hide ho3
      have HK := hide (show Kp No w w3 from ((Kp.refl No w).alloc _).grown hgr3 fun k e hk => by simp [Value.ownBlock] at e; omega)
      clear ho3 hgr3
      go_wp2
      go_ret
      exact ⟨_, rfl, by simpa [iv] using HO3.out, HK.out⟩
end Go.Proofs.YtiibadganlincaaDoor
