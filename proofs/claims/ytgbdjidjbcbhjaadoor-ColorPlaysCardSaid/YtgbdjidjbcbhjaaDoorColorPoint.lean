/- colors: Point, walked: of every three numbers. -/
import Derived.Test.YtgbdjidjbcbhjaaDoorColorHeap
import Derived.Test.YtgbdjidjbcbhjaaDoorReach
namespace Go.Proofs.YtgbdjidjbcbhjaaDoor
open Go.RowKit

theorem MarkAt.rows {w : World} {p base : Nat} {vo vr vc : Value} {vs : List Value} {outs : List (List Int)} {roots c : List Int} (h : MarkAt w p base vo vr vc vs outs roots c) : RowsIn w (Hi base) vo outs := own_rows_in h.out h.row
theorem MarkAt.roots_ {w : World} {p base : Nat} {vo vr vc : Value} {vs : List Value} {outs : List (List Int)} {roots c : List Int} (h : MarkAt w p base vo vr vc vs outs roots c) : IntsIn w (Hi base) vr roots := .of_own h.root fun g hg => (own_lt h.root hg).1

/-- a pointer is set -/
theorem MarkAt.rowset {w : World} {p base : Nat} {vo vr vc : Value} {vs : List Value} {outs : List (List Int)} {roots c : List Int} (h : MarkAt w p base vo vr vc vs outs roots c) {i k : Nat} (hi : i < outs.length) (hv : i < vs.length) (hk : k < (outs[i]).length) {g : Nat} (hg : (vs[i]).ownBlock = some g) (x : Int) :
    MarkAt (w.setCell ⟨g, k, none⟩ (.int .i64 x)) p base vo vr vc vs (outs.set i ((outs[i]).set k x)) roots c := by
  have hk1 : Kp (At g) w (w.setCell ⟨g, k, none⟩ (.int .i64 x)) := kp_set _ _ _ _
  have hrow := h.row i hv hi
  have hvs : Apart vs := h.ap.tail.tail
  refine ⟨h.blk.kp hk1 fun e => ?_, ?_, fun j h1 h2 => ?_, own_kp h.root hk1 fun b hb e => ?_, own_kp h.col hk1 fun b hb e => ?_, h.ap⟩
  · unfold At at e; subst e; exact own_ne_blk hrow h.blk (by decide) hg
  · rw [List.length_set]
    exact own_kp h.out hk1 fun b hb e => by unfold At at e; subst e; exact own_ne_own hrow h.out (by decide) hg hb
  · rw [List.length_set] at h2
    by_cases e : i = j
    · subst e
      simp only [List.getElem_set_self]
      rw [List.length_set, iv_set]
      exact own_set hrow hg k hk _
    · rw [List.getElem_set_ne e]
      exact own_kp (h.row j h1 h2) hk1 fun b hb e' => by unfold At at e'; subst e'; exact hvs.at_ hv h1 e hg hb
  · unfold At at e; subst e; exact h.ap.tail.head' (List.getElem_mem hv) hg hb
  · unfold At at e; subst e; exact h.ap.head' (List.mem_cons_of_mem _ (List.getElem_mem hv)) hg hb

theorem is_any {p base : Nat} {vo vr vc : Value} {vs : List Value} {outs : List (List Int)} {roots c : List Int} (x : Int) (w : World) (hm : MarkAt w p base vo vr vc vs outs roots c) (hl : c.length ≤ 12) :
    Calls Tryd.prog 71 #[.pointer (some ⟨p, 0, none⟩), .int .i64 x] w fun e w' => e = .returned (.bool (btw x 0 ((c.length : Int) - 1))) ∧ w = w' := by
  obtain ⟨e0, Ac, cc, hv, hcc, hcm, _⟩ := own_form hm.col
  rw [iv_length] at hv hcc
  subst hv
  obtain ⟨b1, b2, b3, b4, b5, b6, b7⟩ := hm.blk.a3
  clear hm e0
  go_enter Tryd.func71, Tryd.ntmps71
  go_wp2_with fail
  refine Calls.mono (within_any x 0 ((c.length : Int) - 1) _) ?_
  rintro e w1 ⟨rfl, rfl⟩
  go_wp2
  go_ret
  exact ⟨rfl, rfl⟩

/-- what Point leaves -/
def PointPost (w : World) (p base : Nat) (vo vr vc : Value) (vs : List Value) (outs : List (List Int)) (roots c : List Int) (i k j : Int) (e : Ending) (w' : World) : Prop :=
  e = .returned (errV (pointE outs roots i k j)) ∧ MarkAt w' p base vo vr vc vs (pointO outs roots i k j) roots (pointC outs roots i k j c) ∧ Kp (CoW vc vs) w w'
theorem PointPost.stay {w w' : World} {p base : Nat} {vo vr vc : Value} {vs : List Value} {outs : List (List Int)} {roots c : List Int} {i k j : Int} {n : Nat} (hm : MarkAt w p base vo vr vc vs outs roots c) (hk : Kp No w w') (hn : pointE outs roots i k j = n) (h0 : n ≠ 0) {v : Value} (hv : v = errV n) :
    PointPost w p base vo vr vc vs outs roots c i k j (.returned v) w' := by
  subst hn
  subst hv
  refine ⟨rfl, ?_, hk.of_no⟩
  unfold pointO pointC
  rw [if_neg h0, if_neg h0]
  exact hm.no hk

set_option maxRecDepth 100000 in
set_option maxHeartbeats 2000000 in
theorem point_any {p base : Nat} {vo vr vc : Value} {vs : List Value} {outs : List (List Int)} {roots c : List Int} (i k j : Int) (w : World) (hm : MarkAt w p base vo vr vc vs outs roots c) (hok : Ok outs roots) (hcl : c.length = outs.length) :
    Calls Tryd.prog 39 #[.pointer (some ⟨p, 0, none⟩), .int .i64 i, .int .i64 k, .int .i64 j] w (PointPost w p base vo vr vc vs outs roots c i k j) := by
  have HM := hide hm
  have HOK := hide hok
  have HCL := hide hcl
  have HL := hide hok.n12
  have HCL12 := hide (show c.length ≤ 12 by rw [hcl]; exact hok.n12)
  have HE : Hid (pointE outs roots i k j = if btw i 0 ((outs.length : Int) - 1) && btw j 0 ((outs.length : Int) - 1) && btw k 0 (((adj outs i).length : Int) - 1) then if bt (reachN outs roots) i.toNat && bt (reachN outs roots) j.toNat then 0 else 7 else 1) := rfl
  cases hi : btw i 0 ((outs.length : Int) - 1) with
  | false =>
    have HI := hide hi
    have HP := hide (show pointE outs roots i k j = 1 by rw [HE.out, hi]; rfl)
    clear hm hok hcl hi HE
    go_enter Tryd.func39, Tryd.ntmps39
    go_wp2_with fail
    refine Calls.mono (is_any i _ HM.out HCL12.out) ?_
    rw [HCL.out, HI.out]
    rintro e w1 ⟨rfl, rfl⟩
    go_wp2
    go_ret
    exact PointPost.stay HM.out (Kp.refl _ _) HP.out (by decide) rfl
  | true =>
    cases hj : btw j 0 ((outs.length : Int) - 1) with
    | false =>
      have HI := hide hi
      have HJ := hide hj
      have HP := hide (show pointE outs roots i k j = 1 by rw [HE.out, hi, hj]; rfl)
      clear hm hok hcl hi hj HE
      go_enter Tryd.func39, Tryd.ntmps39
      go_wp2_with fail
      refine Calls.mono (is_any i _ HM.out HCL12.out) ?_
      rw [HCL.out, HI.out]
      rintro e w1 ⟨rfl, rfl⟩
      go_wp2_with fail
      refine Calls.mono (is_any j _ HM.out HCL12.out) ?_
      rw [HCL.out, HJ.out]
      rintro e w1 ⟨rfl, rfl⟩
      go_wp2
      go_ret
      exact PointPost.stay HM.out (Kp.refl _ _) HP.out (by decide) rfl
    | true =>
      have hir := btw_iff.1 hi
      have hjr := btw_iff.1 hj
      obtain ⟨n, hn⟩ := Int.eq_ofNat_of_zero_le hir.1
      subst hn
      have hno : n < outs.length := by omega
      obtain ⟨eo, Ao, co, hvo, hco, hmo, hoc⟩ := own_form hm.out
      rw [hm.len] at hvo hco
      have hvl := hm.len
      have hnv : n < vs.length := by rw [hvl]; exact hno
      obtain ⟨go, hgo, hrc⟩ := hoc n hnv
      subst hgo
      obtain ⟨er, Ar, cr, hvr, hcr, hmr, _⟩ := own_form hm.root
      rw [iv_length] at hvr hcr
      have hadj' : adj outs (n : Int) = outs[n] := adj_eq (by simpa using hno)
      have hadj := hadj'.symm
      have hri0 := hm.row n hnv hno
      rw [hadj] at hri0
      have hri := own_ints hri0
      obtain ⟨A2, c2, hv2, hl2, hm2, hx2⟩ := id hri
      rw [hv2] at hrc
      subst hvo
      subst hvr
      obtain ⟨b1, b2, b3, b4, b5, b6, b7⟩ := hm.blk.a3
      have HI := hide hi
      have HJ := hide hj
      have HV2 := hide hv2
      have HR0 := hide hri0
      have HADJ := hide hadj'
      have HVL := hide hvl
      have HRW := hide hm.rows
      have HRT := hide hm.roots_
      cases hk : btw k 0 (((adj outs (n : Int)).length : Int) - 1) with
      | false =>
        have HK := hide hk
        have HP := hide (show pointE outs roots (n : Int) k j = 1 by rw [HE.out, hi, hj, hk]; rfl)
        clear hm hok hcl hi hj hk HE hir hoc hvl hadj hadj' hri hri0 hv2 hx2 eo er
        go_enter Tryd.func39, Tryd.ntmps39
        go_wp2_with fail
        refine Calls.mono (is_any _ _ HM.out HCL12.out) ?_
        rw [HCL.out, HI.out]
        rintro e w1 ⟨rfl, rfl⟩
        go_wp2_with fail
        refine Calls.mono (is_any j _ HM.out HCL12.out) ?_
        rw [HCL.out, HJ.out]
        rintro e w1 ⟨rfl, rfl⟩
        go_wp2_with fail
        refine Calls.mono (within_any k 0 (((adj outs (n : Int)).length : Int) - 1) _) ?_
        rw [HK.out]
        rintro e w1 ⟨rfl, rfl⟩
        go_wp2
        go_ret
        exact PointPost.stay HM.out (Kp.refl _ _) HP.out (by decide) rfl
      | true =>
        have HK := hide hk
        have HPE := hide (show pointE outs roots (n : Int) k j = if bt (reachN outs roots) n && bt (reachN outs roots) j.toNat then 0 else 7 by rw [HE.out, hi, hj, hk]; rfl)
        have hkr := btw_iff.1 hk
        obtain ⟨q, hq⟩ := Int.eq_ofNat_of_zero_le hkr.1
        subst hq
        obtain ⟨y, hy⟩ := Int.eq_ofNat_of_zero_le hjr.1
        subst hy
        rw [Int.toNat_natCast] at HPE
        have hql : q < (adj outs (n : Int)).length := by omega
        have hn12 : n < 12 := by have := HL.out; omega
        have hy12 : y < 12 := by have := HL.out; omega
        have hyo : y < outs.length := by omega
        have HN := hide (reachN_lt hok)
        clear hm hok hcl hi hj hk HE hir hjr hkr hoc hvl hadj hadj' hri hri0 hv2 hx2 eo er
        go_enter Tryd.func39, Tryd.ntmps39
        go_wp2_with fail
        refine Calls.mono (is_any _ _ HM.out HCL12.out) ?_
        rw [HCL.out, HI.out]
        rintro e w1 ⟨rfl, rfl⟩
        go_wp2_with fail
        refine Calls.mono (is_any _ _ HM.out HCL12.out) ?_
        rw [HCL.out, HJ.out]
        rintro e w1 ⟨rfl, rfl⟩
        go_wp2_with fail
        refine Calls.mono (within_any (q : Int) 0 (((adj outs (n : Int)).length : Int) - 1) _) ?_
        rw [HK.out]
        rintro e w1 ⟨rfl, rfl⟩
        go_wp2_with fail
        refine Calls.mono (reach_ok _ _ outs roots _ HRW.out HRT.out HOK.out) ?_
        rintro e w2 ⟨rfl, hk2⟩
        have HK2 := hide hk2
        have HM2 := hide (HM.out.no hk2)
        clear hk2 b1 b2 b3 b4 b5 b6 b7 hrc
        obtain ⟨b1, b2, b3, b4, b5, b6, b7⟩ := HM2.out.blk.a3
        obtain ⟨s, hs⟩ : ∃ s, reachN outs roots = s := ⟨_, rfl⟩
        rw [hs] at HN HPE ⊢
        clear hs HRW HRT
        go_wp2_with fail
        refine Calls.mono (chas_any s n (by have := HN.out; omega) (by omega) _) ?_
        rintro e w3 ⟨rfl, rfl⟩
        cases hb : bt s n with
        | false =>
          have HP := hide (show pointE outs roots (n : Int) (q : Int) (y : Int) = 7 by rw [HPE.out, hb]; rfl)
          clear hb
          go_wp2
          go_ret
          exact PointPost.stay HM.out HK2.out HP.out (by decide) rfl
        | true =>
          go_wp2_with fail
          refine Calls.mono (chas_any s y (by have := HN.out; omega) (by omega) _) ?_
          rintro e w3 ⟨rfl, rfl⟩
          cases hb2 : bt s y with
          | false =>
            have HP := hide (show pointE outs roots (n : Int) (q : Int) (y : Int) = 7 by rw [HPE.out, hb, hb2]; rfl)
            clear hb hb2
            go_wp2
            go_ret
            exact PointPost.stay HM.out HK2.out HP.out (by decide) rfl
          | true =>
            have HP := hide (show pointE outs roots (n : Int) (q : Int) (y : Int) = 0 by rw [HPE.out, hb, hb2]; rfl)
            clear hb hb2
            -- the row, now
            obtain ⟨e9, _, _, e, _, _, hoc⟩ := own_form HM2.out.out
            clear e9
            injection e with e1 e2 e3
            subst e3
            clear e2
            obtain ⟨_, e4, hrc⟩ := hoc n hnv
            rw [← e1] at e4
            injection e4 with e4
            injection e4 with e4
            subst e4
            clear e1 hoc
            rw [HV2.out] at hrc
            have hrow2 := HM2.out.row n hnv hno
            rw [HADJ.out.symm] at hrow2
            obtain ⟨g, cg, hvg, hcg, hmg, hcell, hfr, _, hgl, _⟩ := own_int hrow2 hql
            rw [HV2.out] at hvg
            injection hvg with hg1 hg2 hg3
            subst hg1 hg3
            clear hg2
            have HG := hide (show (vs[n]'hnv).ownBlock = some g by rw [HV2.out]; rfl)
            have hm3 := HM2.out.rowset (i := n) (k := q) hno hnv (by rw [← HADJ.out]; exact hql) HG.out (y : Int)
            have hset : outs.set n ((outs[n]'hno).set q (y : Int)) = pointO outs roots (n : Int) (q : Int) (y : Int) := by
              unfold pointO
              rw [if_pos HP.out, HADJ.out]
              rfl
            rw [hset] at hm3
            have HM3 := hide hm3
            have HK3 := hide (show Kp (CoW vc vs) w (w2.setCell ⟨g, q, none⟩ (.int .i64 (y : Int))) from (HK2.out.of_no).trans' ((kp_set w2 g q (.int .i64 (y : Int))).mono (S' := CoW vc vs) fun b _ hb => by unfold At at hb; subst hb; exact .inr ⟨_, List.getElem_mem hnv, HG.out⟩) fun _ _ h => h)
            have HPC := hide (show pointC outs roots (n : Int) (q : Int) (y : Int) c = shade c (y : Int) by unfold pointC; rw [if_pos HP.out])
            have HEV := hide (show errV (pointE outs roots (n : Int) (q : Int) (y : Int)) = .nilIface by rw [HP.out]; rfl)
            clear hm3 hset hrow2
            go_wp2_with fail
            refine Calls.mono (shade_any (y : Int) _ HM3.out (by omega) (by rw [HCL.out]; omega) HCL12.out) ?_
            rintro e w4 ⟨rfl, hm4, hk4⟩
            have HM4 := hide hm4
            have HK4 := hide (HK3.out.trans' hk4 fun b hb e => .inl e)
            clear hm4 hk4
            go_wp2
            go_ret
            exact ⟨by rw [HEV.out]; rfl, by rw [HPC.out]; exact HM4.out, HK4.out⟩
end Go.Proofs.YtgbdjidjbcbhjaaDoor
