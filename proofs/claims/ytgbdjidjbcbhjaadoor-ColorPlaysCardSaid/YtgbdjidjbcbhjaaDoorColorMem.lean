/- The mark of colors, in memory: what it reads as, and what each of its methods does. -/
import Derived.Test.YtgbdjidjbcbhjaaDoorColorPlain
import Derived.Test.YtgbdjidjbcbhjaaDoorHeapOut
import Derived.Test.YtgbdjidjbcbhjaaDoorReach
import Derived.Test.YtgbdjidjbcbhjaaDoorPlan
import Derived.RegionTactic
import Derived.BigRegion
namespace Go.Proofs.YtgbdjidjbcbhjaaDoor
open Go.RowKit

/-- a mark at block p: its rows are its own, and lie apart -/
structure MarkAt (w : World) (p base : Nat) (vo vr vc : Value) (vs : List Value) (outs : List (List Int)) (roots c : List Int) : Prop where
  blk : Blk w p 100 #[vo, vr, vc]
  out : w.ownsRow base 23 1 vo outs.length vs
  row : ∀ i (h : i < vs.length) (h' : i < outs.length), w.ownsRow base 3 1 vs[i] (outs[i]).length (iv outs[i])
  root : w.ownsRow base 3 1 vr roots.length (iv roots)
  col : w.ownsRow base 3 1 vc c.length (iv c)
  ap : Apart (vc :: vr :: vs)

/-- where it may write -/
def CoW (vc : Value) (vs : List Value) (b : Nat) : Prop := vc.ownBlock = some b ∨ ∃ u ∈ vs, u.ownBlock = some b
/-- where it lies -/
def MkF (p : Nat) (vo vr vc : Value) (vs : List Value) (b : Nat) : Prop := b = p ∨ vo.ownBlock = some b ∨ vr.ownBlock = some b ∨ CoW vc vs b

section
variable {w w' : World} {p base : Nat} {vo vr vc : Value} {vs : List Value} {outs : List (List Int)} {roots c : List Int}
theorem MarkAt.len (h : MarkAt w p base vo vr vc vs outs roots c) : vs.length = outs.length := by have := h.out.1; omega
theorem MarkAt.kp {S : Nat → Prop} (h : MarkAt w p base vo vr vc vs outs roots c) (hk : Kp S w w') (hs : ∀ b, MkF p vo vr vc vs b → ¬ S b) : MarkAt w' p base vo vr vc vs outs roots c :=
  ⟨h.blk.kp hk (hs p (.inl rfl)), own_kp h.out hk fun b hb => hs b (.inr (.inl hb)), fun i h1 h2 => own_kp (h.row i h1 h2) hk fun b hb => hs b (.inr (.inr (.inr (.inr ⟨_, List.getElem_mem h1, hb⟩)))),
    own_kp h.root hk fun b hb => hs b (.inr (.inr (.inl hb))), own_kp h.col hk fun b hb => hs b (.inr (.inr (.inr (.inl hb)))), h.ap⟩
theorem MarkAt.no (h : MarkAt w p base vo vr vc vs outs roots c) (hk : Kp No w w') : MarkAt w' p base vo vr vc vs outs roots c := h.kp hk fun _ _ h => h
theorem MarkAt.lt (h : MarkAt w p base vo vr vc vs outs roots c) {b : Nat} (hb : MkF p vo vr vc vs b) : b < w.heap.size := by
  rcases hb with rfl | hb | hb | hb | ⟨u, hu, hb⟩
  · exact h.blk.lt
  · exact (own_lt h.out hb).2
  · exact (own_lt h.root hb).2
  · exact (own_lt h.col hb).2
  · obtain ⟨i, hi, rfl⟩ := List.getElem_of_mem hu
    exact (own_lt (h.row i hi (by rw [← h.len]; exact hi)) hb).2
theorem CoW.fp {b : Nat} (h : CoW vc vs b) : MkF p vo vr vc vs b := .inr (.inr (.inr h))

/-- a color is set -/
theorem MarkAt.color (h : MarkAt w p base vo vr vc vs outs roots c) {g : Nat} (hg : vc.ownBlock = some g) {k : Nat} (hk : k < c.length) (x : Int) :
    MarkAt (w.setCell ⟨g, k, none⟩ (.int .i64 x)) p base vo vr vc vs outs roots (c.set k x) := by
  have hk1 : Kp (At g) w (w.setCell ⟨g, k, none⟩ (.int .i64 x)) := kp_set _ _ _ _
  refine ⟨h.blk.kp hk1 fun e => ?_, own_kp h.out hk1 fun b hb e => ?_, fun i h1 h2 => own_kp (h.row i h1 h2) hk1 fun b hb e => ?_, own_kp h.root hk1 fun b hb e => ?_, ?_, h.ap⟩
  · unfold At at e; subst e; exact own_ne_blk h.col h.blk (by decide) hg
  · unfold At at e; subst e; exact own_ne_own h.col h.out (by decide) hg hb
  · unfold At at e; subst e; exact h.ap.head (List.mem_cons_of_mem _ (List.getElem_mem h1)) hg hb
  · unfold At at e; subst e; exact h.ap.head (List.mem_cons_self ..) hg hb
  · rw [List.length_set, iv_set]
    exact own_set h.col hg k hk _
end

theorem shade_end {w : World} {p base : Nat} {vo vr vc : Value} {vs : List Value} {outs : List (List Int)} {roots c : List Int} (h : MarkAt w p base vo vr vc vs outs roots c) {g : Nat} (hg : vc.ownBlock = some g) {i : Nat} (hi : i < c.length) {d v : Int} (hd : cAt c i = d) (hv : v = max d 1) :
    MarkAt (w.setCell ⟨g, i, none⟩ (.int .i64 v)) p base vo vr vc vs outs roots (shade c (i : Int)) := by
  subst hv
  subst hd
  exact h.color hg hi _

set_option maxHeartbeats 1000000 in
theorem shade_any {p base : Nat} {vo vr vc : Value} {vs : List Value} {outs : List (List Int)} {roots c : List Int} (x : Int) (w : World) (hm : MarkAt w p base vo vr vc vs outs roots c) (h0 : 0 ≤ x) (h1 : x < c.length) (hl : c.length ≤ 12) :
    Calls Tryd.prog 69 #[.pointer (some ⟨p, 0, none⟩), .int .i64 x] w fun e w' => e = .returned (.tuple #[]) ∧ MarkAt w' p base vo vr vc vs outs roots (shade c x) ∧ Kp (fun b => vc.ownBlock = some b) w w' := by
  obtain ⟨i, rfl⟩ := Int.eq_ofNat_of_zero_le h0
  have hi : i < c.length := by omega
  obtain ⟨g, cc, hv, hcl, hcm, hcell, hfr, _, hg, _⟩ := own_int hm.col hi
  obtain ⟨b1, b2, b3⟩ := hm.blk.a3
  have HM := hide hm
  have HCA := hide (cAt_eq hi)
  obtain ⟨d, hd⟩ : ∃ d, d = c[i] := ⟨_, rfl⟩
  rw [← hd] at hcell HCA
  subst hv
  clear hm hd
  go_enter Tryd.func69, Tryd.ntmps69
  go_wp2
  go_region
  all_goals go_wp2
  all_goals
    go_end0
    exact ⟨rfl, (shade_end HM.out rfl hi HCA.out (by omega)).no (Kp.refl _ _).drew, ((kp_set _ _ _ _).mono fun _ _ h => by rw [h]; rfl).drew⟩

set_option maxHeartbeats 1000000 in
theorem step_no {p base : Nat} {vo vr vc : Value} {vs : List Value} {outs : List (List Int)} {roots c : List Int} (w : World) (hm : MarkAt w p base vo vr vc vs outs roots c) (hg : (1 : Int) ∉ c) :
    Calls Tryd.prog 41 #[.pointer (some ⟨p, 0, none⟩)] w fun e w' => e = .returned (.bool false) ∧ w = w' := by
  obtain ⟨b1, b2, b3⟩ := hm.blk.a3
  have HI := hide (own_ints hm.col)
  have hix : ixOf c 1 < 0 := by unfold ixOf; rw [if_neg hg]; omega
  clear hm hg
  go_enter Tryd.func41, Tryd.ntmps41
  go_wp2_with fail
  refine Calls.mono (index_any _ _ _ _ HI.out) ?_
  rintro e w1 ⟨rfl, rfl⟩
  go_wp2
  go_ret
  exact ⟨rfl, rfl⟩

set_option maxHeartbeats 2000000 in
theorem step_yes {p base : Nat} {vo vr vc : Value} {vs : List Value} {outs : List (List Int)} {roots c : List Int} (w : World) (hm : MarkAt w p base vo vr vc vs outs roots c) (hg : (1 : Int) ∈ c) (hok : Ok outs roots) (hcl : c.length = outs.length) :
    Calls Tryd.prog 41 #[.pointer (some ⟨p, 0, none⟩)] w fun e w' => e = .returned (.bool true) ∧ MarkAt w' p base vo vr vc vs outs roots (stepC outs c) ∧ Kp (fun b => vc.ownBlock = some b) w w' := by
  obtain ⟨i, hi⟩ : ∃ i, i = c.idxOf 1 := ⟨_, rfl⟩
  have hil : i < c.length := by rw [hi]; exact List.idxOf_lt_length_iff.2 hg
  have hio : i < outs.length := by omega
  obtain ⟨g, cc, hv, hcl2, hcm, hcell, hfr, _, hgl, _⟩ := own_int hm.col hil
  have HS := hide (show stepC outs c = shades (c.set i 2) (adj outs (i : Int)) by unfold stepC; rw [if_pos hg, hi])
  have HIX := hide (show ixOf c 1 = (i : Int) by unfold ixOf; rw [if_pos hg, hi])
  have HI := hide (own_ints hm.col)
  have HOK := hide hok
  have HCL := hide hcl
  have HL := hide hok.n12
  obtain ⟨b1, b2, b3⟩ := hm.blk.a3
  -- the node's row
  obtain ⟨_, Ao, co, hvo, hco, hmo, hoc⟩ := own_form hm.out
  rw [hm.len] at hvo hco
  have hvl := hm.len
  obtain ⟨go, hgo, hrc⟩ := hoc i (by omega)
  subst hgo
  have hadj' : adj outs (i : Int) = outs[i] := adj_eq (by simpa using hio)
  have hadj := hadj'.symm
  have hri0 := hm.row i (by omega) hio
  rw [hadj] at hri0
  have hri := own_ints hri0
  obtain ⟨A2, c2, hv2, hl2, hm2, hx2⟩ := id hri
  clear hx2
  rw [hv2] at hrc
  have hri2 := hri.mono (F' := fun b => vc.ownBlock ≠ some b) fun b _ hb => hm.ap.head' (List.mem_cons_of_mem _ (List.getElem_mem _)) hb
  rw [hv2] at hri2
  have HRI := hide hri2
  subst hv
  subst hvo
  have hm1 := hm.color rfl hil 2
  obtain ⟨d1, d2, d3, _⟩ := hm1.blk.a3
  have hrc1 : (w.setCell ⟨g, i, none⟩ (.int .i64 2)).cell? ⟨go, i, none⟩ = some (.slice A2 (adj outs (i : Int)).length c2) := by
    refine (kp_set w g i _).cell hrc ?_
    intro e
    unfold At at e
    simp only at e
    subst e
    exact own_ne_own hm.out hm.col (by decide) rfl rfl
  have HM1 := hide hm1
  have HK1 := hide (show Kp (fun b => (Value.slice (some ⟨g, 0, none⟩) c.length cc).ownBlock = some b) w (w.setCell ⟨g, i, none⟩ (.int .i64 2)) from (kp_set _ _ _ _).mono fun _ _ h => by rw [h]; rfl)
  have HSL := hide (show (c.set i 2).length = outs.length by rw [List.length_set]; exact hcl)
  clear hg hi hok hcl hm hm1 hoc hri hri0 hri2 hv2 hadj hadj' hvl
  go_enter Tryd.func41, Tryd.ntmps41
  go_wp2_with fail
  refine Calls.mono (index_any _ _ _ _ HI.out) ?_
  rw [HIX.out]
  rintro e w1 ⟨rfl, rfl⟩
  go_wp2_with fail
  go_loopw [28] (fun q wr => ∃ k : Nat, q = .int .i64 k ∧ k ≤ (adj outs (i : Int)).length ∧ MarkAt wr p base (.slice (some ⟨go, 0, none⟩) outs.length co) vr (.slice (some ⟨g, 0, none⟩) c.length cc) vs outs roots (shades (c.set i 2) ((adj outs (i : Int)).take k)) ∧ Kp (fun b => (Value.slice (some ⟨g, 0, none⟩) c.length cc).ownBlock = some b) w wr)
    (fun q _ => (adj outs (i : Int)).length - (intOf q).toNat)
  case atStart => exact ⟨0, rfl, Nat.zero_le _, HM1.out, HK1.out⟩
  case round =>
    obtain ⟨k, rfl, hk, hmk, hkp⟩ := hrel
    have HMK := hide hmk
    have HKP := hide hkp
    clear hmk hkp
    by_cases hlt : k < (adj outs (i : Int)).length
    · obtain ⟨_, _, e, _, _, hcell2⟩ := HRI.out.kp HKP.out fun b hb e => hb e
      cases e
      obtain ⟨b, o, rfl, _, hcx⟩ := hcell2 k hlt
      clear hcell2
      have hx := HOK.out.adjIn _ (List.getElem_mem hlt)
      have HXR := hide hx
      have HT := hide (show shades (c.set i 2) ((adj outs (i : Int)).take (k + 1)) = shade (shades (c.set i 2) ((adj outs (i : Int)).take k)) (adj outs (i : Int))[k] by rw [List.take_succ_eq_append_getElem hlt, shades_snoc])
      have HSL2 := hide (show (shades (c.set i 2) ((adj outs (i : Int)).take k)).length = outs.length by rw [shades_length]; exact HSL.out)
      clear hx
      go_wp2_with fail
      refine Calls.mono (shade_any _ _ HMK.out HXR.out.1 (by rw [HSL2.out]; exact HXR.out.2) (by rw [HSL2.out]; exact HL.out)) ?_
      rintro e w2 ⟨rfl, hm2, hk2⟩
      have HM2 := hide hm2
      have HK2 := hide (HKP.out.trans hk2)
      clear hm2 hk2
      go_wp2
      go_roundw
      case rel => exact ⟨k + 1, by go_num, hlt, by rw [HT.out]; exact HM2.out, HK2.out⟩
      case measure => simp [intOf]; omega
    · obtain rfl : k = (adj outs (i : Int)).length := by omega
      rw [List.take_length] at HMK
      go_wp2
      go_ret
      exact ⟨rfl, by rw [HS.out]; exact HMK.out, HKP.out⟩
end Go.Proofs.YtgbdjidjbcbhjaaDoor
