/- counts: Drop and Root, walked. -/
import Derived.Test.YtiibadganlincaaDoorCountPut
import Derived.Test.YtiibadganlincaaDoorCountSee
import Derived.Test.YtiibadganlincaaDoorDelete
namespace Go.Proofs.YtiibadganlincaaDoor
open Go.RowKit

/-- a method's end -/
def CnPost (p : Nat) (S : Nat → Prop) (w : World) (k : Nat) (s : Cn) (e : Ending) (w' : World) : Prop :=
  e = .returned (errV k) ∧ CnIs w' p S s ∧ Kp S w w'

set_option maxRecDepth 100000 in
set_option maxHeartbeats 1000000 in
theorem cdrop_any {p : Nat} {S : Nat → Prop} {s : Cn} (x : Int) (w : World) (hP : PInv s []) (hS : ∀ b, w.heap.size ≤ b → S b) (hC : CnIs w p S s) :
    Calls Tryd.prog 9 #[.pointer (some ⟨p, 0, none⟩), .int .i64 x] w (CnPost p S w (dropE s x) (dropS s x)) := by
  have HCI := hide hC
  obtain ⟨vo, vr, vc, vg, vs, h, hF⟩ := hC
  have HC := hide (cis_at x w h hP.glen hP.n12)
  cases hb : isB s x with
  | false =>
    have HI := hide hb
    have HR := hide (show dropE s x = 1 ∧ dropS s x = s by unfold dropS dropE; rw [hb]; exact ⟨rfl, rfl⟩)
    clear hb h hF hP hS
    go_enter Tryd.func9, Tryd.ntmps9
    go_wp2_with fail
    refine Calls.mono HC.out ?_
    rw [HI.out]
    rintro e w1 ⟨rfl, rfl⟩
    go_wp2
    go_ret
    exact ⟨by rw [HR.out.1]; rfl, by rw [HR.out.2]; exact HCI.out, Kp.refl _ _⟩
  | true =>
    have HI := hide hb
    have HRI := hide (own_ints h.root)
    obtain ⟨b1, b2, b3, b4, f1, f2, f3, f4⟩ := h.blk.a4
    by_cases hm : x ∈ s.roots
    · have hlt := List.idxOf_lt_length_iff.2 hm
      obtain ⟨k, hk⟩ : ∃ k, s.roots.idxOf x = k := ⟨_, rfl⟩
      have HIX := hide (show ixOf s.roots x = (k : Int) by unfold ixOf; rw [if_pos hm, hk])
      have he0 : dropE s x = 0 := by unfold dropE; rw [hb, if_pos rfl, if_pos hm]
      have HR := hide (show dropE s x = 0 ∧ dropS s x = lessS 13 { s with roots := s.roots.erase x } x from ⟨he0, by unfold dropS; rw [if_pos he0]⟩)
      have HPM := hide (hP.dropMid he0)
      have HER := hide (show s.roots.eraseIdx k = s.roots.erase x by rw [← hk, List.erase_eq_eraseIdx_of_idxOf rfl])
      rw [hk] at hlt
      have HLT := hide hlt
      have HM := hide hm
      have HD := hide (delete_any k w h.root hlt)
      have H := hide h
      have HF := hide hF
      have HS := hide hS
      have HL := hide hP.live12
      have HK12 := hide hP.r12
      clear hb h hF hP hS hm hk he0
      go_enter Tryd.func9, Tryd.ntmps9
      go_wp2_with fail
      refine Calls.mono HC.out ?_
      rw [HI.out]
      rintro e w1 ⟨rfl, rfl⟩
      go_wp2_with fail
      refine Calls.mono (index_any _ _ _ _ HRI.out) ?_
      rw [HIX.out]
      rintro e w1 ⟨rfl, rfl⟩
      go_wp2_with fail
      rw [show wrap64 ((k : Int) + 1) = (k : Int) + 1 from by have := HK12.out; have := HLT.out; unfold wrap64; omega]
      refine Calls.mono HD.out ?_
      rintro e w2 ⟨g, c, hv, rfl, hown, hk2⟩
      have HV := hide hv
      have HOW := hide hown
      have HK2 := hide hk2
      rw [HER.out, show s.roots.length - 1 = (s.roots.erase x).length from (List.length_erase_of_mem HM.out).symm] at HOW
      rw [show s.roots.length - 1 = (s.roots.erase x).length from (List.length_erase_of_mem HM.out).symm]
      have HKV := hide (show Kp (fun b => vr.ownBlock = some b) w w2 from HK2.out.mono fun b _ e => by unfold At at e; subst e; rw [HV.out]; rfl)
      have HB2 := hide (H.out.blk.kp HKV.out (own_ne_blk H.out.root H.out.blk (by decide)))
      obtain ⟨a1, a2, a3, a4, g1, g2, g3, g4⟩ := HB2.out.a4
      clear hv hown hk2 b1 b2 b3 b4 f1 f2 f3 f4
      go_wp2_with fail
      have HA := hide (H.out.rput HKV.out HOW.out fun b hb => .inl (by rw [HV.out]; exact hb))
      have HSR := hide (show ∀ b, vr.ownBlock = some b → S b from fun b hb => HF.out b (.inr (.inr (.inr ⟨_, List.mem_cons_self .., hb⟩))))
      have HAI := hide (show CnIs (w2.setCell ⟨p, 1, none⟩ (.slice (some ⟨g, 0, none⟩) (s.roots.erase x).length c)) p S { s with roots := s.roots.erase x } from ⟨_, _, _, _, _, HA.out, fun b hb => by
        rcases hb with rfl | hb | hb | ⟨u, hu, hb⟩
        · exact HF.out _ (.inl rfl)
        · exact HF.out _ (.inr (.inl hb))
        · exact HF.out _ (.inr (.inr (.inl hb)))
        · rcases List.mem_cons.1 hu with rfl | hu
          · exact HSR.out b (by rw [HV.out]; exact hb)
          · exact HF.out _ (.inr (.inr (.inr ⟨u, List.mem_cons_of_mem _ hu, hb⟩)))⟩)
      have HKA := hide (show Kp S w (w2.setCell ⟨p, 1, none⟩ (.slice (some ⟨g, 0, none⟩) (s.roots.erase x).length c)) from (HKV.out.mono fun b _ hb => HSR.out b hb).trans' (kp_set _ _ _ _) fun b _ e => by unfold At at e; subst e; exact HF.out _ (.inl rfl))
      refine Calls.mono (less_any 13 { s with roots := s.roots.erase x } x [] p S _ HL.out HPM.out ?_ ?_ HAI.out) ?_
      · have := HL.out
        show 0 + 1 + 4 * live s ≤ 100
        omega
      · intro b hb
        exact HS.out b (by have := HKA.out.size; omega)
      rintro e w5 ⟨rfl, hc5, hk5⟩
      have HC5 := hide hc5
      have HK5 := hide hk5
      clear hc5 hk5
      go_wp2
      go_ret
      exact ⟨by rw [HR.out.1]; rfl, by rw [HR.out.2]; exact HC5.out, HKA.out.trans HK5.out⟩
    · have HIX := hide (show ixOf s.roots x < 0 by unfold ixOf; rw [if_neg hm]; omega)
      have HR := hide (show dropE s x = 5 ∧ dropS s x = s by unfold dropS dropE; rw [hb, if_pos rfl, if_neg hm]; exact ⟨rfl, rfl⟩)
      have hix := HIX.out
      clear hb h hF hP hS hm
      go_enter Tryd.func9, Tryd.ntmps9
      go_wp2_with fail
      refine Calls.mono HC.out ?_
      rw [HI.out]
      rintro e w1 ⟨rfl, rfl⟩
      go_wp2_with fail
      refine Calls.mono (index_any _ _ _ _ HRI.out) ?_
      rintro e w1 ⟨rfl, rfl⟩
      go_wp2
      go_ret
      exact ⟨by rw [HR.out.1]; rfl, by rw [HR.out.2]; exact HCI.out, Kp.refl _ _⟩
end Go.Proofs.YtiibadganlincaaDoor
