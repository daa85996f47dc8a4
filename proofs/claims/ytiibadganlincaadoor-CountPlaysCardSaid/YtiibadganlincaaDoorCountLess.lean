/- counts: is, and less, walked: a node is pointed to once less, and what follows. -/
import Derived.Test.YtiibadganlincaaDoorCountMem
import Derived.Test.YtiibadganlincaaDoorTrialCounts
namespace Go.Proofs.YtiibadganlincaaDoor
open Go.RowKit

theorem Blk.a4 {w : World} {g : Nat} {t : TypeId} {x y z u : Value} (h : Blk w g t #[x, y, z, u]) : w.cell? ⟨g, 0, none⟩ = some x ∧ w.cell? ⟨g, 1, none⟩ = some y ∧ w.cell? ⟨g, 2, none⟩ = some z ∧ w.cell? ⟨g, 3, none⟩ = some u ∧
    w.frozen? ⟨g, 0, none⟩ = false ∧ w.frozen? ⟨g, 1, none⟩ = false ∧ w.frozen? ⟨g, 2, none⟩ = false ∧ w.frozen? ⟨g, 3, none⟩ = false := ⟨h.cell 0, h.cell 1, h.cell 2, h.cell 3, h.free 0, h.free 1, h.free 2, h.free 3⟩

/-- a bool of one's own -/
theorem own_bool {w : World} {base : Nat} {v : Value} {n : Nat} {bs : List Bool} (h : w.ownsRow base 4 1 v n (bv bs)) {k : Nat} (hk : k < bs.length) :
    ∃ g c, v = .slice (some ⟨g, 0, none⟩) bs.length c ∧ bs.length ≤ c ∧ c ≤ 9223372036854775807 ∧ w.cell? ⟨g, k, none⟩ = some (.bool bs[k]) ∧ w.frozen? ⟨g, k, none⟩ = false ∧ g < w.heap.size := by
  obtain ⟨g, c, hv, h1, h2, h3, h4, _, h6⟩ := own_cap h (k := k) (by rw [bv_length]; exact hk)
  rw [bv_length] at hv h1
  rw [bv_get hk] at h3
  exact ⟨g, c, hv, h1, h2, h3, h4, h6⟩

theorem cis_at {p : Nat} {vo vr vc vg : Value} {vs : List Value} {s : Cn} (x : Int) (w : World) (h : CnAt w p vo vr vc vg vs s) (hg : s.gone.length = s.outs.length) (h12 : s.outs.length ≤ 12) :
    Calls Tryd.prog 25 #[.pointer (some ⟨p, 0, none⟩), .int .i64 x] w fun e w' => e = .returned (.bool (isB s x)) ∧ w = w' := by
  obtain ⟨e0, Ao, co, hvo, hco, hmo, _⟩ := own_form h.out
  rw [h.len] at hvo hco
  clear e0
  obtain ⟨b1, b2, b3, b4, _⟩ := h.blk.a4
  cases hb : btw x 0 ((s.outs.length : Int) - 1) with
  | false =>
    have HB := hide hb
    have HI := hide (show isB s x = false by unfold isB; rw [hb]; rfl)
    subst hvo
    clear hb h hg
    go_enter Tryd.func25, Tryd.ntmps25
    go_wp2_with fail
    refine Calls.mono (within_any x 0 ((s.outs.length : Int) - 1) _) ?_
    rw [HB.out]
    rintro e w1 ⟨rfl, rfl⟩
    go_wp2
    go_ret
    exact ⟨ret_bool HI.out.symm, rfl⟩
  | true =>
    have hr := btw_iff.1 hb
    obtain ⟨i, rfl⟩ := Int.eq_ofNat_of_zero_le hr.1
    have hi : i < s.gone.length := by omega
    obtain ⟨gg, cg, hvg, hcg, hmg, hcell, hfr, _⟩ := own_bool h.gn hi
    have HB := hide hb
    have HI := hide (show isB s (i : Int) = !s.gone[i] by unfold isB; rw [hb, Int.toNat_natCast, gAt_eq hi]; rfl)
    obtain ⟨d, hd⟩ : ∃ d, s.gone[i] = d := ⟨_, rfl⟩
    rw [hd] at hcell HI
    subst hvo
    subst hvg
    clear hb h hd hr
    go_enter Tryd.func25, Tryd.ntmps25
    go_wp2_with fail
    refine Calls.mono (within_any (i : Int) 0 ((s.outs.length : Int) - 1) _) ?_
    rw [HB.out]
    rintro e w1 ⟨rfl, rfl⟩
    go_wp2
    go_ret
    exact ⟨ret_bool HI.out.symm, rfl⟩

theorem fold_inv {f : Nat} {Q : List Int} : ∀ (l : List Int) (s : Cn), live s < f → PInv s (l ++ Q) → ∀ k, k ≤ l.length → PInv ((l.take k).foldl (lessS f) s) (l.drop k ++ Q) ∧ live ((l.take k).foldl (lessS f) s) ≤ live s := by
  intro l s hl h k
  induction k with
  | zero => intro _; exact ⟨by simpa using h, Nat.le_refl _⟩
  | succ k ih =>
    intro hk
    obtain ⟨h1, h2⟩ := ih (by omega)
    rw [List.take_succ_eq_append_getElem (by omega), List.foldl_append]
    rw [List.drop_eq_getElem_cons (by omega)] at h1
    obtain ⟨h3, h4⟩ := less_inv f _ _ _ (by omega) h1
    exact ⟨h3, Nat.le_trans h4 h2⟩

theorem refs_le {s : Cn} {P : List Int} (h : PInv s P) (x : Int) : refs s x ≤ 60 := by
  unfold refs
  have h1 : s.roots.count x ≤ s.roots.length := List.count_le_length
  have h2 : s.outs.flatten.count x ≤ s.outs.flatten.length := List.count_le_length
  have h3 := flat_len (n := 4) h.few
  have h4 := h.r12
  have h5 : 4 * s.outs.length ≤ 4 * 12 := Nat.mul_le_mul_left _ h.n12
  omega

set_option maxRecDepth 100000 in
set_option maxHeartbeats 4000000 in
theorem less_any : ∀ (f : Nat) (s : Cn) (x : Int) (Q : List Int) (p : Nat) (S : Nat → Prop) (w : World), live s < f → PInv s (x :: Q) → (x :: Q).length + 4 * live s ≤ 100 → (∀ b, w.heap.size ≤ b → S b) → CnIs w p S s →
    Calls Tryd.prog 28 #[.pointer (some ⟨p, 0, none⟩), .int .i64 x] w fun e w' => e = .returned (.tuple #[]) ∧ CnIs w' p S (lessS f s x) ∧ Kp S w w' := by
  intro f
  induction f with
  | zero => intro s x Q p S w h; omega
  | succ f ih =>
    intro s x Q p S w hlv hP hB hS hC
    obtain ⟨vo, vr, vc, vg, vs, h, hF⟩ := hC
    have hx := hP.pend x (by simp)
    obtain ⟨i, rfl⟩ := Int.eq_ofNat_of_zero_le hx.1
    have hi : i < s.outs.length := by omega
    have hic : i < s.count.length := by rw [hP.clen]; exact hi
    have hig : i < s.gone.length := by rw [hP.glen]; exact hi
    have hiv : i < vs.length := by rw [h.len]; exact hi
    obtain ⟨_, hgx⟩ := isB_iff.1 hP.isHere
    obtain ⟨hd1, hd2⟩ := hP.here i hi (by simpa using hgx)
    have hdl := refs_le hP (i : Int)
    have hcl : ((i : Int) :: Q).count (i : Int) ≤ ((i : Int) :: Q).length := List.count_le_length
    obtain ⟨gc, cc, hvc, hcc, hmc, hcell, hfr, _, hgcl, _⟩ := own_int h.cnt hic
    obtain ⟨gg, cg, hvg, hcg, hmg, hgcell, hgfr, hggl⟩ := own_bool h.gn hig
    obtain ⟨go, co, hvo, hco, hmo, hocell, hofr, _, hgol⟩ := own_cap h.out hiv
    rw [h.len] at hvo hco
    obtain ⟨d, hd⟩ : ∃ d, s.count[i] = d := ⟨_, rfl⟩
    rw [hd] at hcell
    have hnd : nAt s.count i = d := by rw [nAt_eq hic]; exact hd
    rw [hnd] at hd1 hd2
    have hdb : d ≤ 1000 := by omega
    -- the three worlds
    have h1 := h.cset (g := gc) (by rw [hvc]; rfl) hic (d - 1)
    have k1 := kp_set w gc i (.int .i64 (d - 1))
    have h2 := h1.gset (g := gg) (by rw [hvg]; rfl) (k := i) hig true
    have k2 := kp_set (w.setCell ⟨gc, i, none⟩ (.int .i64 (d - 1))) gg i (.bool true)
    have h3 := h2.nset (g := go) (by rw [hvo]; rfl) (k := i) hi
    have k3 := kp_set ((w.setCell ⟨gc, i, none⟩ (.int .i64 (d - 1))).setCell ⟨gg, i, none⟩ (.bool true)) go i (.slice none 0 0)
    have SgC : S gc := hF _ (.inr (.inr (.inr ⟨vc, List.mem_cons_of_mem _ (List.mem_cons_self ..), by rw [hvc]; rfl⟩)))
    have SgG : S gg := hF _ (.inr (.inr (.inl (by rw [hvg]; rfl))))
    have SgO : S go := hF _ (.inr (.inl (by rw [hvo]; rfl)))
    have K1 : Kp S w (w.setCell ⟨gc, i, none⟩ (.int .i64 (d - 1))) := k1.mono fun b _ e => by unfold At at e; subst e; exact SgC
    have K3 : Kp S w (((w.setCell ⟨gc, i, none⟩ (.int .i64 (d - 1))).setCell ⟨gg, i, none⟩ (.bool true)).setCell ⟨go, i, none⟩ (.slice none 0 0)) :=
      (K1.trans' k2 fun b _ e => by unfold At at e; subst e; exact SgG).trans' k3 fun b _ e => by unfold At at e; subst e; exact SgO
    obtain ⟨b1, b2, b3, b4, f1, f2, f3, f4⟩ := h.blk.a4
    obtain ⟨c1, c2, c3, c4, _⟩ := h1.blk.a4
    obtain ⟨d1, d2, d3, d4, _⟩ := h2.blk.a4
    rw [hvc] at b3 c3 d3
    rw [hvg] at b4 c4 d4
    rw [hvo] at b1 c1 d1
    -- the row
    have hrow := h.row i hiv hi
    have hadj : adj s.outs (i : Int) = s.outs[i] := adj_eq (by simpa using hi)
    rw [← hadj] at hrow
    obtain ⟨e0, Ar, cr, hvr, hcr, hmr, _⟩ := own_form hrow
    rw [iv_length] at hvr hcr
    clear e0
    have Hgn := own_ne_own h.gn h.cnt (by decide) (g := gg) (by rw [hvg]; rfl)
    have oc1 := (k1).cell hocell (fun e => by unfold At at e; simp only at e; subst e; exact own_ne_own h.out h.cnt (by decide) (g := go) (by rw [hvo]; rfl) (by rw [hvc]; rfl))
    have oc2 := (k2).cell oc1 (fun e => by unfold At at e; simp only at e; subst e; exact own_ne_own h.out h.gn (by decide) (g := go) (by rw [hvo]; rfl) (by rw [hvg]; rfl))
    have gc1 := (k1).cell hgcell (fun e => by unfold At at e; simp only at e; subst e; exact Hgn (by rw [hvc]; rfl))
    have gfr1 : (w.setCell ⟨gc, i, none⟩ (.int .i64 (d - 1))).frozen? ⟨gg, i, none⟩ = false := (own_bool h1.gn hig).elim fun g ⟨c, hv, _, _, _, hf, _⟩ => by
      rw [hvg] at hv
      injection hv with e1 _ _
      injection e1 with e1
      injection e1 with e1
      subst e1
      exact hf
    have ofr2 : ((w.setCell ⟨gc, i, none⟩ (.int .i64 (d - 1))).setCell ⟨gg, i, none⟩ (.bool true)).frozen? ⟨go, i, none⟩ = false := (own_cap h2.out hiv).elim fun g ⟨c, hv, _, _, _, hf, _, _⟩ => by
      rw [hvo] at hv
      injection hv with e1 _ _
      injection e1 with e1
      injection e1 with e1
      subst e1
      exact hf
    have rown3 : (((w.setCell ⟨gc, i, none⟩ (.int .i64 (d - 1))).setCell ⟨gg, i, none⟩ (.bool true)).setCell ⟨go, i, none⟩ (.slice none 0 0)).ownsRow 0 3 1 (vs[i]'hiv) (adj s.outs (i : Int)).length (iv (adj s.outs (i : Int))) := by
      refine own_kp (own_kp (own_kp hrow k1 fun b hb e => ?_) k2 fun b hb e => ?_) k3 fun b hb e => ?_
      · unfold At at e; subst e; exact h.ap.tail.head' (List.getElem_mem hiv) hb (by rw [hvc]; rfl)
      · unfold At at e; subst e; exact own_ne_own hrow h.gn (by decide) hb (by rw [hvg]; rfl)
      · unfold At at e; subst e; exact own_ne_own hrow h.out (by decide) hb (by rw [hvo]; rfl)
    rw [hvr] at hocell oc1 oc2
    by_cases hp : 0 < d - 1
    · have HL := hide (show lessS (f + 1) s (i : Int) = { s with count := s.count.set i (d - 1) } by
        unfold lessS
        rw [Int.toNat_natCast, hnd, if_pos hp])
      have HC1 := hide (show CnIs (w.setCell ⟨gc, i, none⟩ (.int .i64 (d - 1))) p S { s with count := s.count.set i (d - 1) } from ⟨_, _, _, _, _, h1, hF⟩)
      have HK1 := hide K1
      subst hvc
      clear ih hlv hP hB hS h hF h1 h2 h3 k1 k2 k3 K1 K3 hrow rown3 hgx hd1 hd hnd hadj Hgn SgC SgG SgO oc1 oc2 gc1 gfr1 ofr2 d1 d2 d3 d4 hcl
      go_enter Tryd.func28, Tryd.ntmps28
      go_wp2
      refine bodyPost_ret (results_none rfl _ _ _) rfl ?_
      exact ⟨rfl, by rw [HL.out]; exact HC1.out, HK1.out⟩
    · obtain ⟨hP3, hl3⟩ := hP.leave (by rw [Int.toNat_natCast, hnd]; exact hp)
      rw [Int.toNat_natCast, hnd] at hP3 hl3
      obtain ⟨s3, hs3⟩ : ∃ s3 : Cn, s3 = ⟨s.outs.set i [], s.roots, s.count.set i (d - 1), s.gone.set i true⟩ := ⟨_, rfl⟩
      have HL := hide (show lessS (f + 1) s (i : Int) = (adj s.outs (i : Int)).foldl (lessS f) s3 by
        unfold lessS
        rw [Int.toNat_natCast, hnd, if_neg hp, hs3])
      rw [← hs3] at hP3 hl3
      have hfw : (adj s.outs (i : Int)).length ≤ 4 := hP.ok.adjFew
      have HBN := hide (show (adj s.outs (i : Int)).length + Q.length + 4 * live s3 ≤ 100 from by simp only [List.length_cons] at hB; omega)
      have HC3 := hide (show CnIs (((w.setCell ⟨gc, i, none⟩ (.int .i64 (d - 1))).setCell ⟨gg, i, none⟩ (.bool true)).setCell ⟨go, i, none⟩ (.slice none 0 0)) p (fun b => S b ∧ (vs[i]'hiv).ownBlock ≠ some b) s3 from by
        rw [hs3]
        refine ⟨_, _, _, _, _, h3, fun b hb => ?_⟩
        rcases hb with rfl | hb | hb | ⟨u, hu, hb⟩
        · exact ⟨hF _ (.inl rfl), own_ne_blk (h.row i hiv hi) h.blk (by decide)⟩
        · exact ⟨hF _ (.inr (.inl hb)), fun e => own_ne_own (h.row i hiv hi) h.out (by decide) e hb⟩
        · exact ⟨hF _ (.inr (.inr (.inl hb))), fun e => own_ne_own (h.row i hiv hi) h.gn (by decide) e hb⟩
        · rcases List.mem_cons.1 hu with rfl | hu
          · exact ⟨hF _ (.inr (.inr (.inr ⟨_, List.mem_cons_self .., hb⟩))), h.ap.head (List.mem_cons_of_mem _ (List.getElem_mem hiv)) hb⟩
          · rcases List.mem_cons.1 hu with rfl | hu
            · exact ⟨hF _ (.inr (.inr (.inr ⟨_, List.mem_cons_of_mem _ (List.mem_cons_self ..), hb⟩))), h.ap.tail.head (List.getElem_mem hiv) hb⟩
            · obtain ⟨j, hj, rfl⟩ := List.getElem_of_mem hu
              rw [List.getElem_set] at hb
              split at hb
              · simp [Value.ownBlock] at hb
              · rename_i hne
                exact ⟨hF _ (.inr (.inr (.inr ⟨_, List.mem_cons_of_mem _ (List.mem_cons_of_mem _ (List.getElem_mem (by simpa using hj))), hb⟩))), h.ap.tail.tail.at_ (by simpa using hj) hiv (fun e => hne e.symm) hb⟩)
      have HS' := hide (show ∀ b, w.heap.size ≤ b → S b ∧ (vs[i]'hiv).ownBlock ≠ some b from fun b hb => ⟨hS b hb, fun e => by have := (own_lt hrow e).2; omega⟩)
      have HRW := hide (own_ints rown3)
      rw [hvr] at HRW
      have HK3 := hide K3
      have HPF := hide (fold_inv (f := f) (Q := Q) (adj s.outs (i : Int)) s3 (by omega) hP3)
      have HIH := hide ih
      have HLV := hide (show live s3 < f by omega)
      obtain ⟨S', hS'⟩ : ∃ S' : Nat → Prop, S' = fun b => S b ∧ (vs[i]'hiv).ownBlock ≠ some b := ⟨_, rfl⟩
      have HSS := hide (show ∀ b, S' b → S b from fun b hb => by rw [hS'] at hb; exact hb.1)
      have HSN := hide (show ∀ b, (Value.slice Ar (adj s.outs (i : Int)).length cr).ownBlock = some b → ¬ S' b from fun b hb h' => by rw [hS'] at h'; rw [← hvr] at hb; exact h'.2 hb)
      have HSZ := hide (show ∀ b, w.heap.size ≤ b → S' b from fun b hb => by rw [hS']; exact HS'.out b hb)
      have HC4 := hide (show CnIs (((w.setCell ⟨gc, i, none⟩ (.int .i64 (d - 1))).setCell ⟨gg, i, none⟩ (.bool true)).setCell ⟨go, i, none⟩ (.slice none 0 0)) p S' s3 from by rw [hS']; exact HC3.out)
      subst hvc
      subst hvg
      subst hvo
      clear ih hlv hP hB hS h hF h1 h2 h3 k1 k2 k3 K1 K3 hrow rown3 hgx hd1 hd hnd hadj Hgn SgC SgG SgO hcl hP3 hl3 hs3 hvr hS' HS' HC3 oc1
      go_enter Tryd.func28, Tryd.ntmps28
      go_wp2_with fail
      go_loopw [45] (fun q wr => ∃ k : Nat, q = .int .i64 k ∧ k ≤ (adj s.outs (i : Int)).length ∧ CnIs wr p S' (((adj s.outs (i : Int)).take k).foldl (lessS f) s3) ∧ Kp S' (((w.setCell ⟨gc, i, none⟩ (.int .i64 (d - 1))).setCell ⟨gg, i, none⟩ (.bool true)).setCell ⟨go, i, none⟩ (.slice none 0 0)) wr)
        (fun q _ => (adj s.outs (i : Int)).length - (intOf q).toNat)
      case atStart => exact ⟨0, rfl, Nat.zero_le _, HC4.out, Kp.refl _ _⟩
      case round =>
        obtain ⟨k, rfl, hk, hcn, hkr⟩ := hrel
        have HCN := hide hcn
        have HKR := hide hkr
        clear hcn hkr
        by_cases hlt : k < (adj s.outs (i : Int)).length
        · have hrd := HRW.out.kp (w' := wr) HKR.out HSN.out
          obtain ⟨A2, c2, hv2, hl2, hm2, hx2⟩ := id hrd
          injection hv2 with e1 e2 e3
          subst e1 e3
          clear e2
          obtain ⟨gr, ox, rfl, hgr, hrc⟩ := hx2 k hlt
          have HRD := hide hrd
          clear hx2 hrd
          have hpk := (HPF.out k (by omega)).1
          rw [List.drop_eq_getElem_cons hlt] at hpk
          obtain ⟨y, hy⟩ : ∃ y, (adj s.outs (i : Int))[k] = y := ⟨_, rfl⟩
          rw [hy] at hpk hrc
          have HY := hide hy
          have HPK := hide hpk
          clear hpk hy
          go_wp2_with fail
          refine Calls.mono (HIH.out (((adj s.outs (i : Int)).take k).foldl (lessS f) s3) y ((adj s.outs (i : Int)).drop (k + 1) ++ Q) p S' wr ?_ HPK.out ?_ ?_ HCN.out) ?_
          · have := (HPF.out k (by omega)).2
            have := HLV.out
            omega
          · have := (HPF.out k (by omega)).2
            have := HBN.out
            simp only [List.length_cons, List.length_append, List.length_drop]
            omega
          · intro b hb
            exact HSZ.out b (by have h1 := HKR.out.size; have h2 := HK3.out.size; omega)
          rintro e w5 ⟨rfl, hc5, hk5⟩
          have HC5 := hide hc5
          have HK5 := hide (HKR.out.trans hk5)
          clear hc5 hk5
          go_wp2
          go_roundw
          case rel =>
            refine ⟨k + 1, by go_num, hlt, ?_, HK5.out⟩
            rw [List.take_succ_eq_append_getElem hlt, HY.out, List.foldl_append]
            exact HC5.out
          case measure => simp [intOf]; omega
        · obtain rfl : k = (adj s.outs (i : Int)).length := by omega
          rw [List.take_length] at HCN
          go_wp2
          go_end0
          refine ⟨rfl, ?_, ?_⟩
          · rw [HL.out]
            exact HCN.out.mono HSS.out
          · exact HK3.out.trans' HKR.out fun b _ hb => HSS.out b hb
end Go.Proofs.YtiibadganlincaaDoor
