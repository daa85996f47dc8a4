/- The document's answer, walked: shaded, and outs. -/
import Derived.Test.YtiibadganlincaaDoorRefHeap
import Derived.Test.YtiibadganlincaaDoorColorPlain
import Derived.Test.YtiibadganlincaaDoorClone
import Derived.Test.YtiibadganlincaaDoorHeapOut
namespace Go.Proofs.YtiibadganlincaaDoor
open Go.RowKit
set_option linter.unusedSimpArgs false

theorem shade_dark {c : List Int} {n : Nat} (h : n < c.length) (hd : 0 < c[n]) : shade c (n : Int) = c := by
  unfold shade
  rw [Int.toNat_natCast, cAt_eq h, show max c[n] 1 = c[n] by omega, List.set_getElem_self]
theorem shade_light {c : List Int} {n : Nat} (h : n < c.length) (hd : ¬ 0 < c[n]) : shade c (n : Int) = c.set n 1 := by
  unfold shade
  rw [Int.toNat_natCast, cAt_eq h, show max c[n] 1 = 1 by omega]


theorem one_rows {w : World} {F : Nat → Prop} {vs : List Value} {xss : List (List Int)} (hl : vs.length = xss.length) (h : ∀ i (h : i < vs.length) (h' : i < xss.length), IntsIn w F vs[i] xss[i]) : ∀ u ∈ vs, u.oneCell' = true := by
  intro u hu
  obtain ⟨i, hi, rfl⟩ := List.getElem_of_mem hu
  obtain ⟨A, c, e, _⟩ := h i hi (by omega)
  rw [e]; rfl

set_option maxRecDepth 100000 in
set_option maxHeartbeats 1000000 in
theorem routs_any {F : Nat → Prop} (vo u : Value) (outs : List (List Int)) (i : Nat) (l : List Int) (w : World) (ho : RowsIn w F vo outs) (hu : IntsIn w F u l) (hi : i < outs.length) (hl : outs.length ≤ 1000) (hF : ∀ b, w.heap.size ≤ b → F b) :
    Calls Tryd.prog 23 #[vo, .int .i64 (i : Int), u] w fun e w' => ∃ v', e = .returned v' ∧ RowsIn w' F v' (outs.set i l) ∧ Kp No w w' := by
  have HF := hide hF
  obtain ⟨vs, hc, hvl, hrow⟩ := ho
  have HC := hide hc
  have HRW := hide hrow
  have HU := hide hu
  have HONE := hide (one_rows hvl hrow)
  have HL := hide (show 0 + vs.length ≤ 1073741824 by omega)
  have HVL := hide hvl
  obtain ⟨A, cc, rfl, hcc, hm, _⟩ := hc
  obtain ⟨Au, cu, rfl, hcu, hmu, _⟩ := id hu
  have hin : (i : Int) < vs.length := by omega
  have hi' : i < vs.length := by omega
  clear hF hrow hu hvl
  go_enter Tryd.func23, Tryd.ntmps23
  go_wp2_with (at_builtin; refine wpList_add (F := F) _ rfl (.tmp 8) (.tmp 9) _ rfl w.heap.size 25 _ 24 Tryd.underlying22 Tryd.infoRow rfl _ 0 [] rfl (World.ownsRow_nil _ _ _ _) _ rfl vs HC.out HONE.out HL.out (by decide) (Nat.le_refl _) ?_; intro v' w3 ho3 hgr3 hat3; have hk3 := (Kp.refl No w).grown hgr3 (fun k e hk => by cases e); have ho3 : w3.ownsRow w.heap.size 25 1 v' vs.length vs := (by simpa using ho3); obtain ⟨g, c2, rfl, hcc2, hcm2, hcl2, hfr2, hbg2, hgs2⟩ := own_cap ho3 hi'; have HST := hide (own_set ho3 (g := g) rfl i hi' (.slice Au l.length cu)); have HK3 := hide hk3; clear ho3 hgr3 hat3 hk3)
  go_ret
  have hk : Kp No w (w3.setCell ⟨g, i, none⟩ (.slice Au l.length cu)) := HK3.out.trans' (kp_set _ _ _ _) fun b hb e => by unfold At at e; omega
  refine ⟨_, rfl, ⟨vs.set i (.slice Au l.length cu), ?_, by simp [HVL.out], fun j h1 h2 => ?_⟩, hk⟩
  · have h := HST.out
    exact .of_own h fun b hb => HF.out b (own_lt h hb).1
  · rw [List.length_set] at h1 h2
    rw [List.getElem_set, List.getElem_set]
    by_cases e : i = j
    · rw [if_pos e, if_pos e]; exact HU.out.no hk
    · rw [if_neg e, if_neg e]; exact (HRW.out j h1 h2).no hk
end Go.Proofs.YtiibadganlincaaDoor
