/- counts: the closed fact: a ring of one stays. -/
import Derived.Test.YtjcabgbleohdcaaCountDo
namespace Go.Proofs.Ytjcabgbleohdcaa
open Go.RowKit

theorem hi_ge {w w' : World} {B : Nat} (h : Kp (Hi B) w w') (hB : B ≤ w.heap.size) : ∀ b, w'.heap.size ≤ b → Hi B b := fun b hb => by have := h.size; unfold Hi; omega

set_option maxRecDepth 100000 in
set_option maxHeartbeats 2000000 in
theorem countFact_any (w : World) : Calls Try.prog 8 #[] w fun e w' => e = .returned (.bool true) ∧ Kp No w w' := by
  obtain ⟨s1, h1⟩ : ∃ s, makeS Cn.new = s := ⟨_, rfl⟩
  obtain ⟨s2, h2⟩ : ∃ s, makeS s1 = s := ⟨_, rfl⟩
  obtain ⟨s3, h3⟩ : ∃ s, linkS s2 0 0 = s := ⟨_, rfl⟩
  obtain ⟨s4, h4⟩ : ∃ s, dropS s3 0 = s := ⟨_, rfl⟩
  obtain ⟨s5, h5⟩ : ∃ s, dropS s4 1 = s := ⟨_, rfl⟩
  have p1 : PInv s1 [] := h1 ▸ PInv.new_.make
  have p2 : PInv s2 [] := h2 ▸ p1.make
  have p3 : PInv s3 [] := h3 ▸ p2.link_ 0 0
  have p4 : PInv s4 [] := h4 ▸ p3.drop_ 0
  have p5 : PInv s5 [] := h5 ▸ p4.drop_ 1
  have q1 : Value.tuple #[.int .i64 (if makeE Cn.new = 0 then (Cn.new.outs.length : Int) else 0), errV (makeE Cn.new)] = .tuple #[.int .i64 0, .nilIface] := by rw [show makeE Cn.new = 0 by decide]; rfl
  have q2 : Value.tuple #[.int .i64 (if makeE s1 = 0 then (s1.outs.length : Int) else 0), errV (makeE s1)] = .tuple #[.int .i64 1, .nilIface] := by rw [show makeE s1 = 0 by subst h1; decide, show s1.outs.length = 1 by subst h1; decide]; rfl
  have q3 : errV (linkE s2 0 0) = .nilIface := by rw [show linkE s2 0 0 = 0 by subst h2 h1; decide]; rfl
  have q4 : errV (dropE s3 0) = .nilIface := by rw [show dropE s3 0 = 0 by subst h3 h2 h1; decide]; rfl
  have q5 : errV (dropE s4 1) = .nilIface := by rw [show dropE s4 1 = 0 by subst h4 h3 h2 h1; decide +kernel]; rfl
  have q6 : ((hereB s5 : Nat) : Int) = 1 := by subst h5 h4 h3 h2 h1; decide +kernel
  have q7 : countB s5 0 = 1 := by subst h5 h4 h3 h2 h1; decide +kernel
  have H1 := hide h1
  have H2 := hide h2
  have H3 := hide h3
  have H4 := hide h4
  have H5 := hide h5
  have P0 := hide PInv.new_
  have P1 := hide p1
  have P2 := hide p2
  have P3 := hide p3
  have P4 := hide p4
  have P5 := hide p5
  have Q1 := hide q1
  have Q2 := hide q2
  have Q3 := hide q3
  have Q4 := hide q4
  have Q5 := hide q5
  have Q6 := hide q6
  have Q7 := hide q7
  clear h1 h2 h3 h4 h5 p1 p2 p3 p4 p5 q1 q2 q3 q4 q5 q6 q7
  go_enter Try.func8, Try.ntmps8
  go_wp2_with fail
  refine Calls.mono (cnew_any _) ?_
  rintro e w1 ⟨rfl, hc1, hk1⟩
  have C1 := hide hc1
  have K1 := hide (show Kp (Hi w.heap.size) w w1 from hk1.of_no)
  clear hc1 hk1
  go_wp2_with fail
  refine Calls.mono (cmake_any _ P0.out (hi_ge K1.out (Nat.le_refl _)) C1.out) ?_
  unfold MkPost
  rw [Q1.out, H1.out]
  rintro e w2 ⟨rfl, hc2, hk2⟩
  have C2 := hide hc2
  have K2 := hide (K1.out.trans hk2)
  clear hc2 hk2
  go_wp2_with fail
  refine Calls.mono (cmake_any _ P1.out (hi_ge K2.out (Nat.le_refl _)) C2.out) ?_
  unfold MkPost
  rw [Q2.out, H2.out]
  rintro e w3 ⟨rfl, hc3, hk3⟩
  have C3 := hide hc3
  have K3 := hide (K2.out.trans hk3)
  clear hc3 hk3
  go_wp2_with fail
  refine Calls.mono (clink_any _ _ _ P2.out (hi_ge K3.out (Nat.le_refl _)) C3.out) ?_
  unfold CnPost
  rw [Q3.out, H3.out]
  rintro e w4 ⟨rfl, hc4, hk4⟩
  have C4 := hide hc4
  have K4 := hide (K3.out.trans hk4)
  clear hc4 hk4
  go_wp2_with fail
  refine Calls.mono (cdrop_any _ _ P3.out (hi_ge K4.out (Nat.le_refl _)) C4.out) ?_
  unfold CnPost
  rw [Q4.out, H4.out]
  rintro e w5 ⟨rfl, hc5, hk5⟩
  have C5 := hide hc5
  have K5 := hide (K4.out.trans hk5)
  clear hc5 hk5
  go_wp2_with fail
  refine Calls.mono (cdrop_any _ _ P4.out (hi_ge K5.out (Nat.le_refl _)) C5.out) ?_
  unfold CnPost
  rw [Q5.out, H5.out]
  rintro e w6 ⟨rfl, hc6, hk6⟩
  have C6 := hide hc6
  have K6 := hide (K5.out.trans hk6)
  clear hc6 hk6
  go_wp2_with fail
  refine Calls.mono (here_any _ P5.out C6.out) ?_
  rw [Q6.out]
  rintro e w7 ⟨rfl, rfl⟩
  go_wp2_with fail
  refine Calls.mono (ccount_any _ _ P5.out C6.out) ?_
  rw [Q7.out]
  rintro e w7 ⟨rfl, rfl⟩
  go_wp2
  go_ret
  exact ⟨rfl, hi_no K6.out⟩
end Go.Proofs.Ytjcabgbleohdcaa
