/- counts: Root, walked. -/
import Derived.Test.YtiibadganlincaaDoorCountCut
import Derived.Deep.Cut
namespace Go.Proofs.YtiibadganlincaaDoor
open Go.RowKit

section
variable {w w' : World} {p : Nat} {vo vr vc vg : Value} {vs : List Value} {s : Cn} {S : Nat → Prop}
theorem CnAt.rputS (h : CnAt w p vo vr vc vg vs s) (hF : ∀ b, CnF p vo vr vc vg vs b → S b) (hS : ∀ b, w.heap.size ≤ b → S b) {v' : Value} (hk : Kp (fun b => vr.ownBlock = some b) w w') (hb : ∀ b, v'.ownBlock = some b → vr.ownBlock = some b ∨ w.heap.size ≤ b) :
    (∀ b, CnF p vo v' vc vg vs b → S b) ∧ Kp S w (w'.setCell ⟨p, 1, none⟩ v') := by
  have h1 : ∀ b, vr.ownBlock = some b → S b := fun b hb => hF b (.inr (.inr (.inr ⟨_, List.mem_cons_self .., hb⟩)))
  refine ⟨fun b h => ?_, (hk.mono fun b _ hb => h1 b hb).trans' (kp_set _ _ _ _) fun b _ e => by unfold At at e; subst e; exact hF _ (.inl rfl)⟩
  rcases h with rfl | hc | hc | ⟨u, hu, hc⟩
  · exact hF _ (.inl rfl)
  · exact hF _ (.inr (.inl hc))
  · exact hF _ (.inr (.inr (.inl hc)))
  · rcases List.mem_cons.1 hu with rfl | hu
    · rcases hb b hc with hc | hc
      · exact h1 b hc
      · exact hS b hc
    · exact hF _ (.inr (.inr (.inr ⟨u, List.mem_cons_of_mem _ hu, hc⟩)))
theorem CnAt.oputS (h : CnAt w p vo vr vc vg vs s) (hF : ∀ b, CnF p vo vr vc vg vs b → S b) (hS : ∀ b, w.heap.size ≤ b → S b) {i : Nat} (hi : i < vs.length) {v' : Value} {g : Nat} (hgo : vo.ownBlock = some g) (hk : Kp (fun b => vs[i].ownBlock = some b) w w') (hb : ∀ b, v'.ownBlock = some b → vs[i].ownBlock = some b ∨ w.heap.size ≤ b) :
    (∀ b, CnF p vo vr vc vg (vs.set i v') b → S b) ∧ Kp S w (w'.setCell ⟨g, i, none⟩ v') := by
  have h1 : ∀ b, vs[i].ownBlock = some b → S b := fun b hb => hF b (.inr (.inr (.inr ⟨_, List.mem_cons_of_mem _ (List.mem_cons_of_mem _ (List.getElem_mem _)), hb⟩)))
  refine ⟨fun b h => ?_, (hk.mono fun b _ hb => h1 b hb).trans' (kp_set _ _ _ _) fun b _ e => by unfold At at e; subst e; exact hF _ (.inr (.inl hgo))⟩
  rcases h with rfl | hc | hc | ⟨u, hu, hc⟩
  · exact hF _ (.inl rfl)
  · exact hF _ (.inr (.inl hc))
  · exact hF _ (.inr (.inr (.inl hc)))
  · rcases List.mem_cons.1 hu with rfl | hu
    · exact hF _ (.inr (.inr (.inr ⟨_, List.mem_cons_self .., hc⟩)))
    · rcases List.mem_cons.1 hu with rfl | hu
      · exact hF _ (.inr (.inr (.inr ⟨_, List.mem_cons_of_mem _ (List.mem_cons_self ..), hc⟩)))
      · rcases List.mem_or_eq_of_mem_set hu with hu | rfl
        · exact hF _ (.inr (.inr (.inr ⟨_, List.mem_cons_of_mem _ (List.mem_cons_of_mem _ hu), hc⟩)))
        · rcases hb b hc with hc | hc
          · exact h1 b hc
          · exact hS b hc
theorem CnAt.csetS (h : CnAt w p vo vr vc vg vs s) (hF : ∀ b, CnF p vo vr vc vg vs b → S b) {g : Nat} (hg : vc.ownBlock = some g) {k : Nat} (hk : k < s.count.length) (x : Int) :
    CnIs (w.setCell ⟨g, k, none⟩ (.int .i64 x)) p S { s with count := s.count.set k x } ∧ Kp S w (w.setCell ⟨g, k, none⟩ (.int .i64 x)) :=
  ⟨⟨_, _, _, _, _, h.cset hg hk x, hF⟩, (kp_set _ _ _ _).mono fun b _ e => by unfold At at e; subst e; exact hF _ (.inr (.inr (.inr ⟨vc, List.mem_cons_of_mem _ (List.mem_cons_self ..), hg⟩)))⟩
/-- a root more, in memory -/
theorem root_push {x : Int} {Ar : Option Addr} {cr g' c' : Nat} {w4 : World} (h : CnAt w p vo vr vc vg vs s) (hF : ∀ b, CnF p vo vr vc vg vs b → S b) (hS : ∀ b, w.heap.size ≤ b → S b) (hv : vr = .slice Ar s.roots.length cr)
    (ho4 : w4.ownsRow 0 3 1 (.slice (some ⟨g', 0, none⟩) (s.roots.length + 1) c') (s.roots.length + 1) (iv s.roots ++ [.int .i64 x])) (hgr4 : (w.alloc (.cells #[.int .i64 x] 3)).grownBy w4 (Value.slice Ar s.roots.length cr).ownBlock)
    (hat : (Value.slice Ar s.roots.length cr).ownBlock = some g' ∨ g' = w.heap.size + 1) :
    Blk w4 p 49 #[vo, vr, vc, vg] ∧ CnAt (w4.setCell ⟨p, 1, none⟩ (.slice (some ⟨g', 0, none⟩) (s.roots.length + 1) c')) p vo (.slice (some ⟨g', 0, none⟩) (s.roots.length + 1) c') vc vg vs { s with roots := s.roots ++ [x] } ∧
      (∀ b, CnF p vo (.slice (some ⟨g', 0, none⟩) (s.roots.length + 1) c') vc vg vs b → S b) ∧ Kp S w (w4.setCell ⟨p, 1, none⟩ (.slice (some ⟨g', 0, none⟩) (s.roots.length + 1) c')) := by
  have hk4 : Kp (fun b => vr.ownBlock = some b) w w4 := ((Kp.refl _ w).alloc _).grown hgr4 fun b e _ => by rw [hv]; exact e
  have hb4 : ∀ b, (Value.slice (some ⟨g', 0, none⟩) (s.roots.length + 1) c').ownBlock = some b → vr.ownBlock = some b ∨ w.heap.size ≤ b := fun b e => by
    have e : g' = b := by simpa [Value.ownBlock] using e
    subst e
    rcases hat with h | h
    · exact .inl (by rw [hv]; exact h)
    · exact .inr (by omega)
  exact ⟨h.blk.kp hk4 (own_ne_blk h.root h.blk (by decide)), h.rput (v' := .slice (some ⟨g', 0, none⟩) (s.roots.length + 1) c') (r' := s.roots ++ [x]) hk4 (by rw [List.length_append, iv_snoc]; exact ho4) hb4, h.rputS hF hS hk4 hb4⟩
/-- a count that is kept is small -/
theorem PInv.cap (h : PInv s []) {i : Nat} (hi : isB s (i : Int) = true) : i < s.count.length ∧ 0 ≤ nAt s.count i ∧ nAt s.count i ≤ 1000 := by
  obtain ⟨hr, hg⟩ := isB_iff.1 hi
  have hl : i < s.outs.length := by omega
  obtain ⟨h1, h2⟩ := h.here i hl (by simpa using hg)
  have := refs_le h (i : Int)
  simp at h1
  exact ⟨by rw [h.clen]; exact hl, by omega, by omega⟩
end

set_option maxRecDepth 100000 in
set_option maxHeartbeats 1000000 in
theorem croot_any {p : Nat} {S : Nat → Prop} {s : Cn} (x : Int) (w : World) (hP : PInv s []) (hS : ∀ b, w.heap.size ≤ b → S b) (hC : CnIs w p S s) :
    Calls Tryd.prog 8 #[.pointer (some ⟨p, 0, none⟩), .int .i64 x] w (CnPost p S w (rootE s x) (rootS s x)) := by
  have HCI := hide hC
  obtain ⟨vo, vr, vc, vg, vs, h, hF⟩ := hC
  have HC := hide (cis_at x w h hP.glen hP.n12)
  cases hb : isB s x with
  | false =>
    have HI := hide hb
    have HR := hide (show rootE s x = 1 ∧ rootS s x = s by unfold rootS rootE; rw [hb]; exact ⟨rfl, rfl⟩)
    clear hb h hF hP hS
    go_enter Tryd.func8, Tryd.ntmps8
    go_wp2_with fail
    refine Calls.mono HC.out ?_
    rw [HI.out]
    rintro e w1 ⟨rfl, rfl⟩
    go_wp2
    go_ret
    exact ⟨by rw [HR.out.1]; rfl, by rw [HR.out.2]; exact HCI.out, Kp.refl _ _⟩
  | true =>
    have HI := hide hb
    obtain ⟨b1, b2, b3, b4, f1, f2, f3, f4⟩ := h.blk.a4
    obtain ⟨e0, Ar, cr, hvr, hcr, hmr, _⟩ := own_form h.root
    rw [iv_length] at hvr hcr
    clear e0
    have HVR := hide hvr
    rw [hvr] at b2
    have H := hide h
    have HF := hide hF
    have HS := hide hS
    have HR12 := hide hP.r12
    have HP := hide hP
    have HRT := hide h.root
    rw [hvr] at HRT
    have HX0 := hide (isB_iff.1 hb).1.1
    by_cases hl : s.roots.length = 12
    · have HR := hide (show rootE s x = 4 ∧ rootS s x = s by unfold rootS rootE; rw [hb, if_pos rfl, if_pos hl]; exact ⟨rfl, rfl⟩)
      rw [hl] at b2
      clear hb h hF hP hS hvr hl hcr
      go_enter Tryd.func8, Tryd.ntmps8
      go_wp2_with fail
      refine Calls.mono HC.out ?_
      rw [HI.out]
      rintro e w1 ⟨rfl, rfl⟩
      go_wp2
      go_ret
      exact ⟨by rw [HR.out.1]; rfl, by rw [HR.out.2]; exact HCI.out, Kp.refl _ _⟩
    · have he0 : rootE s x = 0 := by unfold rootE; rw [hb, if_pos rfl, if_neg hl]
      have HR := hide (show rootE s x = 0 ∧ rootS s x = { s with roots := s.roots ++ [x], count := s.count.set x.toNat (nAt s.count x.toNat + 1) } from ⟨he0, by unfold rootS; rw [if_pos he0]⟩)
      clear hb h hF hP hS hvr he0 f1 f2 f3 f4 b1 b3 b4
      go_enter Tryd.func8, Tryd.ntmps8
      go_wp2_with fail
      refine Calls.mono HC.out ?_
      rw [HI.out]
      rintro e w1 ⟨rfl, rfl⟩
      go_upto_region 6 with (at_builtin; refine wpList_push _ rfl (.tmp 21) (.tmp 23) _ rfl 0 3 _ 8 Tryd.underlying25 Tryd.infoInt rfl (.slice Ar s.roots.length cr) s.roots.length (iv s.roots) rfl (HRT.out) _ rfl 1 _ rfl (by simp) (by have := HR12.out; omega) (by decide) (Nat.zero_le _) ?_; intro g' c' w4 ho4 hgr4 hat; have HPS := hide (root_push H.out HF.out HS.out HVR.out ho4 hgr4 hat); obtain ⟨a1, a2, a3, a4, g1, g2, g3, g4⟩ := HPS.out.1.a4; clear ho4 hgr4 hat)
      have H4 := hide HPS.out.2.1
      have HS4 := hide HPS.out.2.2
      generalize w4.setCell ⟨p, 1, none⟩ (.slice (some ⟨g', 0, none⟩) (s.roots.length + 1) c') = W at H4 HS4 ⊢
      clear a1 a2 a3 a4 g1 g2 g3 g4 b2
      obtain ⟨i, rfl⟩ := Int.eq_ofNat_of_zero_le HX0.out
      obtain ⟨hi, hd0, hd1⟩ := HP.out.cap HI.out
      obtain ⟨gc, cc, hvc, hcc, hmc, hcell, hfr, _, hgcl, _⟩ := own_int H4.out.cnt hi
      obtain ⟨a1, a2, a3, a4, g1, g2, g3, g4⟩ := H4.out.blk.a4
      rw [nAt_eq hi] at hd0 hd1
      simp only at hcell
      obtain ⟨d, hd⟩ : ∃ d, s.count[i] = d := ⟨_, rfl⟩
      rw [Int.toNat_natCast, nAt_eq hi] at HR
      rw [hd] at hd0 hd1 hcell HR
      have HE := hide (H4.out.csetS HS4.out.1 (by rw [hvc]; rfl) hi (d + 1))
      rw [hvc] at a3
      clear hd
      go_wp2
      go_ret
      exact ⟨by rw [HR.out.1]; rfl, by rw [HR.out.2]; exact HE.out.1, HS4.out.2.trans HE.out.2⟩
end Go.Proofs.YtiibadganlincaaDoor
