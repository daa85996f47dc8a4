/- counts: Count and Here, walked; an empty heap. -/
import Derived.Test.YtiibadganlincaaDoorCountLess
import Derived.Test.YtiibadganlincaaDoorReach
namespace Go.Proofs.YtiibadganlincaaDoor
open Go.RowKit

theorem ccount_any {p : Nat} {S : Nat → Prop} {s : Cn} (x : Int) (w : World) (hP : PInv s []) (hC : CnIs w p S s) :
    Calls Tryd.prog 14 #[.pointer (some ⟨p, 0, none⟩), .int .i64 x] w fun e w' => e = .returned (.int .i64 (countB s x)) ∧ w = w' := by
  obtain ⟨vo, vr, vc, vg, vs, h, hF⟩ := hC
  have HC := hide (cis_at x w h hP.glen hP.n12)
  cases hb : isB s x with
  | false =>
    have HI := hide hb
    have HR := hide (show countB s x = 0 by unfold countB; rw [hb]; rfl)
    clear hb h hF hP
    go_enter Tryd.func14, Tryd.ntmps14
    go_wp2_with fail
    refine Calls.mono HC.out ?_
    rw [HI.out]
    rintro e w1 ⟨rfl, rfl⟩
    go_wp2
    go_ret
    exact ⟨by rw [HR.out]; rfl, rfl⟩
  | true =>
    obtain ⟨hr, _⟩ := isB_iff.1 hb
    obtain ⟨i, rfl⟩ := Int.eq_ofNat_of_zero_le hr.1
    have hic : i < s.count.length := by rw [hP.clen]; omega
    obtain ⟨gc, cc, hvc, hcc, hmc, hcell, hfr, _, hgcl, _⟩ := own_int h.cnt hic
    obtain ⟨b1, b2, b3, b4, _⟩ := h.blk.a4
    have HI := hide hb
    have HR := hide (show countB s (i : Int) = s.count[i] by unfold countB; rw [if_pos hb, Int.toNat_natCast, nAt_eq hic])
    obtain ⟨d, hd⟩ : ∃ d, s.count[i] = d := ⟨_, rfl⟩
    rw [hd] at hcell HR
    subst hvc
    clear hb h hF hP hr hd
    go_enter Tryd.func14, Tryd.ntmps14
    go_wp2_with fail
    refine Calls.mono HC.out ?_
    rw [HI.out]
    rintro e w1 ⟨rfl, rfl⟩
    go_wp2
    go_ret
    exact ⟨by rw [HR.out]; rfl, rfl⟩

theorem CnAt.start (w : World) : CnAt (w.alloc (.cells #[.slice none 0 0, .slice none 0 0, .slice none 0 0, .slice none 0 0] 49)) w.heap.size (.slice none 0 0) (.slice none 0 0) (.slice none 0 0) (.slice none 0 0) [] Cn.new :=
  ⟨Blk.new w _ _, World.ownsRow_nil _ _ _ _, fun i h _ => by simp at h, World.ownsRow_nil _ _ _ _, World.ownsRow_nil _ _ _ _, World.ownsRow_nil _ _ _ _,
    Apart.cons (Apart.cons Apart.nil_ fun u hu => by cases hu) fun u hu g hg => by simp [Value.ownBlock] at hg⟩

theorem cnew_any (w : World) : Calls Tryd.prog 4 #[] w fun e w' => e = .returned (.pointer (some ⟨w.heap.size, 0, none⟩)) ∧ CnIs w' w.heap.size (fun b => w.heap.size ≤ b) Cn.new ∧ Kp No w w' := by
  have HC := hide (CnAt.start w)
  have HK := hide ((Kp.refl No w).alloc (.cells #[.slice none 0 0, .slice none 0 0, .slice none 0 0, .slice none 0 0] 49))
  go_enter Tryd.func4, Tryd.ntmps4
  go_wp2
  go_ret
  refine ⟨rfl, ⟨_, _, _, _, _, HC.out, fun b hb => ?_⟩, HK.out⟩
  rcases hb with rfl | hb | hb | ⟨u, hu, hb⟩
  · exact Nat.le_refl _
  · simp [Value.ownBlock] at hb
  · simp [Value.ownBlock] at hb
  · simp at hu; subst hu; simp [Value.ownBlock] at hb

set_option maxRecDepth 100000 in
set_option maxHeartbeats 1000000 in
theorem here_any {p : Nat} {S : Nat → Prop} {s : Cn} (w : World) (hP : PInv s []) (hC : CnIs w p S s) :
    Calls Tryd.prog 15 #[.pointer (some ⟨p, 0, none⟩)] w fun e w' => e = .returned (.int .i64 (hereB s : Nat)) ∧ w = w' := by
  obtain ⟨vo, vr, vc, vg, vs, h, hF⟩ := hC
  obtain ⟨b1, b2, b3, b4, _⟩ := h.blk.a4
  obtain ⟨e0, Ao, co, hvo, hco, hmo, _⟩ := own_form h.out
  rw [h.len] at hvo hco
  clear e0
  subst hvo
  have HB := hide b4
  have HG := hide h.gn
  have HGL := hide hP.glen
  have HL := hide hP.n12
  clear h hF hP
  go_enter Tryd.func15, Tryd.ntmps15
  go_wp2_with fail
  go_loopw [3, 10] (fun q qi wr => ∃ k : Nat, qi = .int .i64 k ∧ q = .int .i64 (hereTo s k : Nat) ∧ k ≤ s.outs.length ∧ wr = w)
    (fun _ qi _ => s.outs.length - (intOf qi).toNat)
  case atStart => exact ⟨0, rfl, rfl, Nat.zero_le _, rfl⟩
  case round =>
    obtain ⟨k, rfl, rfl, hk, rfl⟩ := hrel
    by_cases hlt : k < s.outs.length
    · have hkg : k < s.gone.length := by rw [HGL.out]; exact hlt
      obtain ⟨gg, cg, hvg, hcg, hmg, hcell, hfr, _⟩ := own_bool HG.out hkg
      have hb4 := HB.out
      subst hvg
      have ht1 : hereTo s k < 4096 := Nat.lt_of_lt_of_le (hereTo_lt s k) (show 2 ^ k ≤ 2 ^ 12 from Nat.pow_le_pow_right (n := 2) (by decide) (by have := HL.out; omega))
      have HOR := hide (or_step (hereTo s k) ht1 (k : Int) (by have := HL.out; omega))
      have hge : gAt s.gone k = s.gone[k] := gAt_eq hkg
      have HTO := hide (show hereTo s (k + 1) = if s.gone[k] = true then hereTo s k else hereTo s k ||| 2 ^ k by rw [← hge]; rfl)
      obtain ⟨d, hd⟩ : ∃ d, s.gone[k] = d := ⟨_, rfl⟩
      rw [hd] at hcell HTO
      clear hge hd ht1
      cases d with
      | true =>
        go_wp2
        go_roundw
        case rel => exact ⟨k + 1, by go_num, by rw [HTO.out]; rfl, hlt, trivial⟩
        case measure => simp [intOf]; omega
      | false =>
        have HOQ := HOR.out
        rw [Int.toNat_natCast] at HOQ
        go_wp2
        go_roundw
        case rel => exact ⟨k + 1, by go_num, by rw [HTO.out, show min k 64 = k from by have := HL.out; omega, HOQ]; rfl, hlt, trivial⟩
        case measure => simp [intOf]; omega
    · obtain rfl : k = s.outs.length := by omega
      go_wp2
      go_ret
      exact ⟨rfl, rfl⟩
end Go.Proofs.YtiibadganlincaaDoor
