/- heavy.Space, walked. -/
import Derived.Test.YtjapcoonaabdnaaHeavy
namespace Go.Proofs.Ytjapcoonaabdnaa
open Go.RowKit
set_option linter.unusedSimpArgs false

theorem snoc_at {l : List (Nat × Nat)} {b : Nat × Nat} : (l ++ [b])[l.length]'(by simp) = b := by simp
theorem snoc_set {l : List (Nat × Nat)} {b c : Nat × Nat} : (l ++ [b]).set l.length c = l ++ [c] := by simp
theorem getD_at {l : List (Nat × Nat)} {i : Nat} (h : i < l.length) : l.getD i (0, 0) = l[i] := by rw [List.getD_eq_getElem?_getD, List.getElem?_eq_getElem h]; rfl
theorem leastK_lt {l : List (Nat × Nat)} (h : 0 < l.length) (j : Nat) (hj : j ≤ l.length) : leastK j l < l.length := by
  rcases Nat.eq_zero_or_pos j with rfl | h0
  · exact h
  · have := (leastK_spec j l h0 hj).1; omega

set_option maxRecDepth 100000 in
set_option maxHeartbeats 8000000 in
theorem space_any {F : Nat → Prop} (v : Value) (ks : List Nat) (keep : Nat) (w : World) (hv : IntsIn w F v (ni ks)) (hok : hchk (ni ks) keep = 0) :
    Calls Try.prog 13 #[v, .int .i64 keep] w fun e w' => ∃ v', e = .returned (.tuple #[v', .nilIface]) ∧ KRow w' w.heap.size v' (spaceRun keep ks) ∧ Kp No w w' := by
  have HV := hide (hv.mono (F' := Lo w.heap.size) fun k h _ => h)
  obtain ⟨A, c, rfl, hc, hm, _⟩ := id hv
  rw [ni_length] at hc
  have HE := hide (show errV (hchk (ni ks) keep) = .nilIface by rw [hok]; rfl)
  have hk8 : ks.length ≤ 40 ∧ 1 ≤ keep ∧ keep ≤ 8 := by
    unfold hchk at hok
    rw [ni_length] at hok
    split at hok
    · cases hok
    · split at hok
      · rename_i h1 h2
        simp only [Bool.and_eq_true, btw_iff] at h2
        omega
      · cases hok
  obtain ⟨hk40, hkp1, hkp8⟩ := hk8
  rw [ni_length]
  rw [ni_length] at HV
  clear hv hok
  go_enter Try.func13, Try.ntmps13
  go_wp2_with fail
  refine Calls.mono (hcheck_any _ (ni ks) keep _ (by have := HV.out; exact this)) ?_
  rw [HE.out]
  rintro e w1 ⟨rfl, rfl⟩
  go_wp2_with fail
  go_loopw [7, 20] (fun lv q wr => ∃ (k : Nat), q = .int .i64 k ∧ k ≤ ks.length ∧ Hid (KRow wr w.heap.size lv (spaceRun keep (ks.take k))) ∧ Hid (Kp No w wr)) (fun _ q _ => ks.length - (intOf q).toNat)
  case atStart => exact ⟨0, rfl, Nat.zero_le _, World.ownsRow_nil _ _ _ _, Kp.refl _ _⟩
  case round =>
    obtain ⟨k, rfl, hk, hrow, hkp⟩ := hrel
    have hws := hkp.out.size
    by_cases hlt : k < ks.length
    · obtain ⟨_, _, e, _, _, hcell⟩ := HV.out.no hkp.out
      rw [ni_length] at e
      cases e
      obtain ⟨b, o, rfl, _, hcx⟩ := hcell k (by rw [ni_length]; exact hlt)
      rw [ni_get hlt] at hcx
      have HHI := hide (high_all keep hkp1 (ks.take k))
      have HST := hide (show spaceRun keep (ks.take (k + 1)) = spaceStep keep (spaceRun keep (ks.take k)) ks[k] by unfold spaceRun; rw [List.take_succ_eq_append_getElem hlt, List.foldl_append]; rfl)
      obtain ⟨x, hx⟩ : ∃ x, ks[k] = x := ⟨_, rfl⟩
      obtain ⟨l, hl⟩ : ∃ l, spaceRun keep (ks.take k) = l := ⟨_, rfl⟩
      rw [hl] at hrow HHI HST
      rw [hx] at HST hcx
      have hll : l.length ≤ keep := HHI.out.2.1
      have HCT := hide (show ∀ b ∈ l, b.2 ≤ 40 from fun b hb => Nat.le_trans (HHI.out.2.2.1 b hb).2 (by rw [List.length_take]; omega))
      obtain ⟨Al, cl, e, hcl, hml, _⟩ := hrow.out.form
      subst e
      clear hcell hx hl
      go_wp2_with fail
      refine Calls.mono (find2_any _ l x wr.heap.size _ (hrow.out.no ((Kp.refl No wr).alloc _)) ((Blk.new wr _ _).cell 0) (by omega)) ?_
      rintro e w5 ⟨rfl, hk5⟩
      have HK5 := hide (((Kp.refl No wr).alloc (.cells #[.int .i64 (x : Nat)] 3)).trans hk5)
      have HR5 := hide (hrow.out.no HK5.out)
      have HX5 := hide (((Blk.new wr 3 #[.int .i64 (x : Nat)]).kp hk5 id))
      have hw5 := HK5.out.size
      clear hk5
      rcases ixK_lt l x with ⟨e, hn⟩ | ⟨i, hi, e, hkx⟩
      · rw [e]
        have hx5 := HX5.out.cell 0
        by_cases hfull : l.length < keep
        · have HNX := hide (show spaceRun keep (ks.take (k + 1)) = l ++ [(x, 1)] by rw [HST.out]; unfold spaceStep; rw [e, if_neg (by decide), if_pos hfull])
          have hfi : (l.length : Int) < (keep : Int) := by omega
          clear e hn hfull
          go_wp2_with (at_builtin
                       refine wpKept_push _ rfl (.tmp 37) (.tmp 40) rfl w.heap.size _ l rfl HR5.out (x, 0) _ rfl (by omega) (by omega) ?_
                       intro v' w6 hr6 hg6
                       have HR6 := hide hr6
                       have HG6 := hide hg6
                       obtain ⟨A6, c6, e6, hcl6, hcm6, hcell6⟩ := hr6.form
                       rw [List.length_append, List.length_singleton] at e6 hcl6
                       subst e6
                       obtain ⟨g6, e6, c1, c2, f1, f2, hg6l, hg6b⟩ := hcell6 l.length (by simp)
                       subst e6
                       rw [snoc_at] at c1 c2
                       have HS6 := hide (hr6.set2 (g := g6) rfl (k := l.length) (by simp) 1)
                       rw [snoc_at, snoc_set] at HS6
                       clear hr6 hg6 hcell6)
          go_roundw
          case rel => exact ⟨k + 1, by go_num, hlt, by rw [HNX.out]; exact HS6, (((hkp.out.trans HK5.out).alloc _).grown HG6.out fun b h hb => by have := (own_lt HR5.out h).1; omega).setCell (fun h => by have : g6 < w.heap.size := h; omega) _⟩
          case measure => (simp [intOf]; omega)
        · have HNX := hide (show spaceRun keep (ks.take (k + 1)) = l.set (leastK l.length l) (x, (l.getD (leastK l.length l) (0, 0)).2 + 1) by rw [HST.out]; unfold spaceStep; rw [e, if_neg (by decide), if_neg hfull])
          have hfi : ¬ (l.length : Int) < (keep : Int) := by omega
          have hl0 : 0 < l.length := by omega
          have HLT := hide (leastK_lt (l := l) hl0)
          clear e hn
          go_wp2_with fail
          go_loopw [10, 46] (fun iv q wq => ∃ j : Nat, q = .int .i64 j ∧ iv = .int .i64 (leastK j l) ∧ j ≤ l.length ∧ Hid (Kp No w5 wq)) (fun _ q _ => l.length - (intOf q).toNat)
          case atStart => exact ⟨0, rfl, rfl, Nat.zero_le _, Kp.refl _ _⟩
          case round =>
            obtain ⟨j, rfl, rfl, hj, hkq⟩ := hrel
            have HRQ := hide (HR5.out.no hkq.out)
            by_cases hjl : j < l.length
            · have hil := HLT.out j hj
              obtain ⟨_, _, e', _, _, hcell⟩ := HRQ.out.form
              cases e'
              obtain ⟨g1, e1, -, c2, -⟩ := hcell j hjl
              subst e1
              obtain ⟨g2, e2, -, d2, -⟩ := hcell _ hil
              cases e2
              have HSU := hide (leastK_succ j l)
              rw [getD_at hjl, getD_at hil] at HSU
              obtain ⟨y, hy⟩ : ∃ y, (l[j]).2 = y := ⟨_, rfl⟩
              obtain ⟨z, hz⟩ : ∃ z, (l[leastK j l]).2 = z := ⟨_, rfl⟩
              obtain ⟨i, hi⟩ : ∃ i, leastK j l = i := ⟨_, rfl⟩
              rw [hy] at c2 HSU
              rw [hz] at d2 HSU
              rw [hi] at d2 HSU ⊢
              have hii : i < l.length := hi ▸ hil
              clear hcell hy hz hi hil
              by_cases hyz : y < z
              · have hyz' : (y : Int) < (z : Int) := by omega
                rw [if_pos hyz] at HSU
                go_wp2_with fail
                go_quiet (fail)
                go_wp2
                exact ⟨⟨j + 1, by go_num, by rw [HSU.out], hjl, hkq.out.drewN _⟩, by simp [intOf]; omega⟩
              · have hyz' : ¬ (y : Int) < (z : Int) := by omega
                rw [if_neg hyz] at HSU
                go_wp2_with fail
                go_quiet (fail)
                go_wp2
                exact ⟨⟨j + 1, by go_num, by rw [HSU.out], hjl, hkq.out.drewN _⟩, by simp [intOf]; omega⟩
            · obtain rfl : j = l.length := by omega
              have hil := HLT.out l.length (Nat.le_refl _)
              obtain ⟨_, _, e', _, _, hcell⟩ := HRQ.out.form
              cases e'
              obtain ⟨g2, e2, c1, c2, f1, f2, hgl, hgb⟩ := hcell _ hil
              subst e2
              have hx6 := (HX5.out.kp hkq.out id).cell 0
              rw [getD_at hil] at HNX
              obtain ⟨z, hz⟩ : ∃ z, (l[leastK l.length l]).2 = z := ⟨_, rfl⟩
              have hz40 : z ≤ 40 := by
                have := HCT.out _ (List.getElem_mem hil)
                omega
              have HS1 := HRQ.out.set1 (g := g2) rfl hil x
              have HS2 := HS1.set2 (g := g2) rfl (k := leastK l.length l) (by rw [List.length_set]; exact hil) (z + 1)
              simp only [List.getElem_set_self, List.set_set] at HS2
              have HS2 := hide HS2
              rw [hz] at c2 HNX
              obtain ⟨y, hy⟩ : ∃ y, (l[leastK l.length l]).1 = y := ⟨_, rfl⟩
              rw [hy] at c1
              obtain ⟨i, hi⟩ : ∃ i, leastK l.length l = i := ⟨_, rfl⟩
              rw [hi] at c1 c2 f1 f2 HNX HS2 ⊢
              have hii : i < l.length := hi ▸ hil
              clear hcell hz hi hil HS1 hy
              go_wp2_with fail
              go_roundw
              case rel => exact ⟨k + 1, by go_num, hlt, by rw [HNX.out]; exact HS2, (((hkp.out.trans HK5.out).trans hkq.out).setCell (fun h => by have : g2 < w.heap.size := h; omega) _).setCell (fun h => by have : g2 < w.heap.size := h; omega) _⟩
              case measure => (simp [intOf]; omega)
      · have HNX := hide (show spaceRun keep (ks.take (k + 1)) = l.set i ((l[i]).1, (l[i]).2 + 1) by rw [HST.out]; unfold spaceStep; rw [e, if_pos (by omega), Int.toNat_natCast, upK_eq hi])
        rw [e]
        obtain ⟨_, _, e', _, _, hcell⟩ := HR5.out.form
        cases e'
        obtain ⟨g1, e1, c1, c2, f1, f2, hgl, _⟩ := hcell i hi
        subst e1
        obtain ⟨y, hy⟩ : ∃ y, (l[i]).2 = y := ⟨_, rfl⟩
        have hy40 : y ≤ 40 := by
          have := HCT.out _ (List.getElem_mem hi)
          omega
        rw [hy] at c2 HNX
        have HS := hide (HR5.out.set2 (g := g1) rfl hi (y + 1))
        clear hcell hy e hkx
        go_wp2_with fail
        go_roundw
        case rel => exact ⟨k + 1, by go_num, hlt, by rw [HNX.out]; exact HS, (hkp.out.trans HK5.out).setCell (fun h => by have : g1 < w.heap.size := h; omega) _⟩
        case measure => (simp [intOf]; omega)
    · obtain rfl : k = ks.length := by omega
      rw [List.take_length] at hrow
      have HR := hide (hrow.out)
      clear hrow
      go_wp2_with fail
      refine bodyPost_ret (v := .tuple #[u7, .nilIface]) (by simp [results, Try.results13, go_sem]) rfl ?_
      exact ⟨u7, rfl, HR.out, hkp.out⟩
end Go.Proofs.Ytjapcoonaabdnaa
