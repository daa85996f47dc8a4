/- heavy, walked: Check, Keep, Space. -/
import Derived.Test.YtjapcoonaabdnaaKeptDel
namespace Go.Proofs.Ytjapcoonaabdnaa
open Go.RowKit
set_option linter.unusedSimpArgs false

/-- what is wrong with keys, and with how many are kept -/
def hchk (xs : List Int) (keep : Int) : Nat := if 40 < xs.length then 4 else if allB xs 0 1000000 && btw keep 1 8 then 0 else 1
/-- keys as ints -/
def ni (ks : List Nat) : List Int := ks.map fun (n : Nat) => (n : Int)
theorem ni_length (ks : List Nat) : (ni ks).length = ks.length := by simp [ni]
theorem ni_get {ks : List Nat} {k : Nat} (h : k < ks.length) : (ni ks)[k]'(by rw [ni_length]; exact h) = (ks[k] : Int) := by simp [ni]
theorem ni_of {xs : List Int} (h : ∀ x ∈ xs, 0 ≤ x) : ∃ ks, xs = ni ks := by
  refine ⟨xs.map Int.toNat, ?_⟩
  unfold ni
  rw [List.map_map]
  symm
  exact (List.map_congr_left (g := id) fun x hx => Int.toNat_of_nonneg (h x hx)).trans (List.map_id xs)

set_option maxHeartbeats 1000000 in
theorem hcheck_any {F : Nat → Prop} (v : Value) (xs : List Int) (keep : Int) (w : World) (hv : IntsIn w F v xs) :
    Calls Try.prog 27 #[v, .int .i64 keep] w fun e w' => e = .returned (errV (hchk xs keep)) ∧ w = w' := by
  have HV := hide hv
  obtain ⟨A, c, rfl, hc, hm, _⟩ := id hv
  clear hv
  by_cases h1 : 40 < xs.length
  · have Hf := hide (show hchk xs keep = 4 by unfold hchk; rw [if_pos h1])
    go_enter Try.func27, Try.ntmps27
    go_wp2
    go_ret
    exact ⟨by rw [Hf.out]; rfl, rfl⟩
  · cases h2 : allB xs 0 1000000 with
    | false =>
      have Hf := hide (show hchk xs keep = 1 by unfold hchk; rw [if_neg h1, h2]; rfl)
      have H2 := hide h2
      clear h2
      go_enter Try.func27, Try.ntmps27
      go_wp2_with fail
      refine Calls.mono (all_any _ xs _ _ _ HV.out) ?_
      rw [H2.out]
      rintro e w1 ⟨rfl, rfl⟩
      go_wp2
      go_ret
      exact ⟨by rw [Hf.out]; rfl, rfl⟩
    | true =>
      cases h3 : btw keep 1 8 with
      | false =>
        have Hf := hide (show hchk xs keep = 1 by unfold hchk; rw [if_neg h1, h2, h3]; rfl)
        have H2 := hide h2
        have H3 := hide h3
        clear h2 h3
        go_enter Try.func27, Try.ntmps27
        go_wp2_with fail
        refine Calls.mono (all_any _ xs _ _ _ HV.out) ?_
        rw [H2.out]
        rintro e w1 ⟨rfl, rfl⟩
        go_wp2_with fail
        refine Calls.mono (within_any _ _ _ _) ?_
        rw [H3.out]
        rintro e w1 ⟨rfl, rfl⟩
        go_wp2
        go_ret
        exact ⟨by rw [Hf.out]; rfl, rfl⟩
      | true =>
        have Hf := hide (show hchk xs keep = 0 by unfold hchk; rw [if_neg h1, h2, h3]; rfl)
        have H2 := hide h2
        have H3 := hide h3
        clear h2 h3
        go_enter Try.func27, Try.ntmps27
        go_wp2_with fail
        refine Calls.mono (all_any _ xs _ _ _ HV.out) ?_
        rw [H2.out]
        rintro e w1 ⟨rfl, rfl⟩
        go_wp2_with fail
        refine Calls.mono (within_any _ _ _ _) ?_
        rw [H3.out]
        rintro e w1 ⟨rfl, rfl⟩
        go_wp2
        go_ret
        exact ⟨by rw [Hf.out]; rfl, rfl⟩

theorem Try.infoKept : (Try.prog.info? 46).map (fun i => (i.zero, i.size, i.bytes)) = some (some (.agg #[.int .i64 0, .int .i64 0]), 2, 16) := by kernel_rfl

/-- append of one entry -/
theorem wpKept_push (w : World) {ops : Array Oper} {rest : List Oper} {o : Oper} {a : Act} {Q : Exit → Act → World → Prop} (hgd : o.guard = none) (s x : Operand)
    (ho : o.op = .call { callee := .builtin .append, args := #[s, x], argTypes := #[42, 42] }) (base : Nat) (v : Value) (l : List (Nat × Nat)) (hs : a.eval s = v) (hown : KRow w base v l) (b : Nat × Nat) (c : Nat)
    (hx : a.eval x = .slice (some ⟨w.heap.size, 0, none⟩) 1 c) (hl : l.length ≤ 100) (hbase : base ≤ w.heap.size)
    (h : ∀ v' w', KRow w' base v' (l ++ [b]) → (w.alloc (.cells #[.int .i64 b.1, .int .i64 b.2] 46)).grownBy w' v.ownBlock → wpList Try.prog ops Q rest (a.put o.dst v') w') :
    wpList Try.prog ops Q (o :: rest) a (w.alloc (.cells #[.int .i64 b.1, .int .i64 b.2] 46)) := by
  obtain ⟨i, hi, hz, hsize, hby⟩ := info_parts Try.infoKept
  refine wpList_append_own_at _ hgd s x 42 ho base 46 i _ 2 16 Try.underlying42 hi hz hsize hby rfl (by omega) v l.length (kkv l) hs (hown.alloc _) ⟨w.heap.size, 0, none⟩ 1 c [.int .i64 b.1, .int .i64 b.2] hx rfl ?_ ?_ ?_ ?_ ?_ ?_
  · intro j u hj
    match j, hj with
    | 0, hj => simp at hj; subst hj; simp [Addr.add]
    | 1, hj => simp at hj; subst hj; simp [Addr.add]
  · intro u hu
    simp only [List.mem_cons, List.not_mem_nil, or_false] at hu
    rcases hu with rfl | rfl <;> rfl
  · simp only [maxLen]; omega
  · omega
  · simp; omega
  · intro v' w' h2 h3 _ _
    refine h v' w' ?_ h3
    unfold KRow
    rw [List.length_append, List.length_singleton, kkv_append]
    exact h2

theorem down_at {l : List (Nat × Nat)} {j : Nat} (h : j < l.length) : (downK (l.take j) ++ l.drop j)[j]'(by simp only [downK, List.length_append, List.length_map, List.length_take, List.length_drop]; omega) = l[j] ∧
    (downK (l.take j) ++ l.drop j).set j ((l[j]).1, (l[j]).2 - 1) = downK (l.take (j + 1)) ++ l.drop (j + 1) := by
  have hl : (downK (l.take j)).length = j := by unfold downK; rw [List.length_map, List.length_take]; omega
  constructor
  · rw [List.getElem_append_right (by omega)]
    simp only [List.getElem_drop, hl]
    congr 1
    omega
  · rw [List.set_append_right _ _ (by omega), hl, Nat.sub_self, List.drop_eq_getElem_cons h, List.set_cons_zero, List.take_succ_eq_append_getElem h]
    unfold downK
    simp only [List.map_append, List.append_assoc, List.map_cons, List.map_nil, List.cons_append, List.nil_append]

set_option maxRecDepth 100000 in
set_option maxHeartbeats 8000000 in
theorem keep_any {F : Nat → Prop} (v : Value) (ks : List Nat) (keep : Nat) (w : World) (hv : IntsIn w F v (ni ks)) (hok : hchk (ni ks) keep = 0) :
    Calls Try.prog 12 #[v, .int .i64 keep] w fun e w' => ∃ v', e = .returned (.tuple #[v', .nilIface]) ∧ KRow w' w.heap.size v' (keepRun keep ks) ∧ Kp No w w' := by
  have HV := hide (hv.mono (F' := Lo w.heap.size) fun k h _ => h)
  obtain ⟨A, c, rfl, hc, hm, _⟩ := id hv
  rw [ni_length] at hc
  have HE := hide (show errV (hchk (ni ks) keep) = .nilIface by rw [hok]; rfl)
  have hk8 : ks.length ≤ 40 ∧ 1 ≤ keep ∧ keep ≤ 8 := by
    unfold hchk at hok
    rw [ni_length] at hok
    split at hok
    · cases hok
    · split at hok
      · rename_i h1 h2
        simp only [Bool.and_eq_true, btw_iff] at h2
        omega
      · cases hok
  obtain ⟨hk40, hkp1, hkp8⟩ := hk8
  rw [ni_length]
  rw [ni_length] at HV
  clear hv hok
  go_enter Try.func12, Try.ntmps12
  go_wp2_with fail
  refine Calls.mono (hcheck_any _ (ni ks) keep _ (by have := HV.out; exact this)) ?_
  rw [HE.out]
  rintro e w1 ⟨rfl, rfl⟩
  go_wp2_with fail
  go_loopw [7, 20] (fun lv q wr => ∃ (k : Nat), q = .int .i64 k ∧ k ≤ ks.length ∧ Hid (KRow wr w.heap.size lv (keepRun keep (ks.take k))) ∧ Hid (Kp No w wr)) (fun _ q _ => ks.length - (intOf q).toNat)
  case atStart => exact ⟨0, rfl, Nat.zero_le _, World.ownsRow_nil _ _ _ _, Kp.refl _ _⟩
  case round =>
    obtain ⟨k, rfl, hk, hrow, hkp⟩ := hrel
    have hws := hkp.out.size
    by_cases hlt : k < ks.length
    · obtain ⟨_, _, e, _, _, hcell⟩ := HV.out.no hkp.out
      rw [ni_length] at e
      cases e
      obtain ⟨b, o, rfl, _, hcx⟩ := hcell k (by rw [ni_length]; exact hlt)
      rw [ni_get hlt] at hcx
      have HLOW := hide (low_all keep (ks.take k))
      have HST := hide (show keepRun keep (ks.take (k + 1)) = keepStep keep (keepRun keep (ks.take k)) ks[k] by unfold keepRun; rw [List.take_succ_eq_append_getElem hlt, List.foldl_append]; rfl)
      have HCNT := hide (fun y => show (ks.take k).count y ≤ 40 from Nat.le_trans List.count_le_length (by rw [List.length_take]; omega))
      obtain ⟨x, hx⟩ : ∃ x, ks[k] = x := ⟨_, rfl⟩
      obtain ⟨l, hl⟩ : ∃ l, keepRun keep (ks.take k) = l := ⟨_, rfl⟩
      rw [hl] at hrow HLOW HST
      rw [hx] at HST hcx
      have hll : l.length ≤ keep := HLOW.out.1
      obtain ⟨Al, cl, e, hcl, hml, _⟩ := hrow.out.form
      subst e
      clear hcell hx hl
      go_wp2_with fail
      refine Calls.mono (find1_any _ l x wr.heap.size _ (hrow.out.no ((Kp.refl No wr).alloc _)) ((Blk.new wr _ _).cell 0) (by omega)) ?_
      rintro e w5 ⟨rfl, hk5⟩
      have HK5 := hide (((Kp.refl No wr).alloc (.cells #[.int .i64 (x : Nat)] 3)).trans hk5)
      have HR5 := hide (hrow.out.no HK5.out)
      have HX5 := hide (((Blk.new wr 3 #[.int .i64 (x : Nat)]).kp hk5 id).cell 0)
      have hw5 := HK5.out.size
      clear hk5
      rcases ixK_lt l x with ⟨e, hn⟩ | ⟨i, hi, e, hkx⟩
      · rw [e]
        by_cases hfull : l.length < keep
        · have HNX := hide (show keepRun keep (ks.take (k + 1)) = l ++ [(x, 1)] by rw [HST.out]; unfold keepStep; rw [e, if_neg (by decide), if_pos hfull])
          have hfi : (l.length : Int) < (keep : Int) := by omega
          clear e hn hfull
          have hx5 := HX5.out
          go_wp2_with (at_builtin
                       refine wpKept_push _ rfl (.tmp 59) (.tmp 62) rfl w.heap.size _ l rfl HR5.out (x, 1) _ rfl (by omega) (by omega) ?_
                       intro v' w6 hr6 hg6
                       have HR6 := hide hr6
                       have HG6 := hide hg6
                       clear hr6 hg6)
          go_roundw
          case rel => exact ⟨k + 1, by go_num, hlt, by rw [HNX.out]; exact HR6, ((hkp.out.trans HK5.out).alloc _).grown HG6.out fun b h hb => by have := (own_lt HR5.out h).1; omega⟩
          case measure => (simp [intOf]; omega)
        · have HNX := hide (show keepRun keep (ks.take (k + 1)) = someK (downK l) by rw [HST.out]; unfold keepStep; rw [e, if_neg (by decide), if_neg hfull])
          have hfi : ¬ (l.length : Int) < (keep : Int) := by omega
          have hdl : (downK l).length = l.length := by unfold downK; rw [List.length_map]
          clear e hn
          go_wp2_with fail
          go_loopw [29] (fun q wq => ∃ j : Nat, q = .int .i64 j ∧ j ≤ l.length ∧ Hid (KRow wq w.heap.size (.slice Al l.length cl) (downK (l.take j) ++ l.drop j)) ∧ Hid (Kp No w wq)) (fun q _ => l.length - (intOf q).toNat)
          case atStart => exact ⟨0, rfl, Nat.zero_le _, HR5, hkp.out.trans HK5.out⟩
          case round =>
            obtain ⟨j, rfl, hj, hr, hkq⟩ := hrel
            have hRl : (downK (l.take j) ++ l.drop j).length = l.length := by simp only [downK, List.length_append, List.length_map, List.length_take, List.length_drop]; omega
            by_cases hjl : j < l.length
            · obtain ⟨_, _, e', _, _, hcell⟩ := hr.out.form
              rw [hRl] at e'
              cases e'
              obtain ⟨g1, e1, c1, c2, f1, f2, hgl, _⟩ := hcell j (by omega)
              subst e1
              obtain ⟨hg1, hg2⟩ := down_at hjl
              simp only [hg1] at c1 c2
              obtain ⟨z, hz⟩ : ∃ z, (l[j]).2 = z + 1 := ⟨(l[j]).2 - 1, by have := (HLOW.out.2 _ (List.getElem_mem hjl)).1; omega⟩
              have hz40 : z ≤ 40 := by
                have := (HLOW.out.2 _ (List.getElem_mem hjl)).2
                have := HCNT.out (l[j]).1
                omega
              have HS := hide (hr.out.set2 (g := g1) rfl (k := j) (by omega) z)
              rw [hg1, show z = (l[j]).2 - 1 by omega, hg2] at HS
              rw [hz] at c2
              have HS := HS
              rw [hz, Nat.add_sub_cancel] at HS
              clear hcell hz hg1 hg2
              go_wp2_with fail
              go_roundw
              case rel => exact ⟨j + 1, by go_num, hjl, HS, hkq.out.setCell (fun h => by have : g1 < w.heap.size := h; omega) _⟩
              case measure => (simp [intOf]; omega)
            · obtain rfl : j = l.length := by omega
              rw [List.take_length, List.drop_length, List.append_nil] at hr
              obtain ⟨_, _, e', hc1, _, hcell⟩ := hr.out.form
              rw [hdl] at e'
              cases e'
              obtain ⟨g1, e1, _⟩ := hcell 0 (by omega)
              subst e1
              have HR6 := hide (show KRow wr w.heap.size (.slice (some ⟨g1, 0, none⟩) (downK l).length cl) (downK l) by rw [hdl]; exact hr.out)
              have hgb := (own_lt HR6.out (g := g1) rfl).1
              have HZ := delZ_any (downK l) wr HR6.out (by omega)
              rw [hdl] at HZ
              have HZ := hide HZ
              clear hr hcell
              go_wp2_with fail
              refine Calls.mono HZ.out ?_
              rintro e w7 ⟨rfl, hr7, hk7⟩
              have HR7 := hide hr7
              have HK7 := hide (hkq.out.trans' hk7 fun b h hb => by have : b = g1 := hb; omega)
              clear hr7 hk7
              go_wp2_with fail
              go_roundw
              case rel => exact ⟨k + 1, by go_num, hlt, by rw [HNX.out]; exact HR7, HK7.out⟩
              case measure => (simp [intOf]; omega)
      · have HNX := hide (show keepRun keep (ks.take (k + 1)) = l.set i ((l[i]).1, (l[i]).2 + 1) by rw [HST.out]; unfold keepStep; rw [e, if_pos (by omega), Int.toNat_natCast, upK_eq hi])
        rw [e]
        obtain ⟨_, _, e', _, _, hcell⟩ := HR5.out.form
        cases e'
        obtain ⟨g1, e1, c1, c2, f1, f2, hgl, _⟩ := hcell i hi
        subst e1
        obtain ⟨y, hy⟩ : ∃ y, (l[i]).2 = y := ⟨_, rfl⟩
        have hy40 : y ≤ 40 := by
          have := (HLOW.out.2 _ (List.getElem_mem hi)).2
          have := HCNT.out (l[i]).1
          omega
        rw [hy] at c2 HNX
        have HS := hide (HR5.out.set2 (g := g1) rfl hi (y + 1))
        clear hcell hy e hkx
        go_wp2_with fail
        go_roundw
        case rel => exact ⟨k + 1, by go_num, hlt, by rw [HNX.out]; exact HS, (hkp.out.trans HK5.out).setCell (fun h => by have : g1 < w.heap.size := h; omega) _⟩
        case measure => (simp [intOf]; omega)
    · obtain rfl : k = ks.length := by omega
      rw [List.take_length] at hrow
      have HR := hide (hrow.out)
      clear hrow
      go_wp2_with fail
      refine bodyPost_ret (v := .tuple #[u7, .nilIface]) (by simp [results, Try.results12, go_sem]) rfl ?_
      exact ⟨u7, rfl, HR.out, hkp.out⟩

theorem hchk_bad {xs : List Int} {keep : Int} (h : hchk xs keep ≠ 0) : ∃ c : Int, errV (hchk xs keep) = .iface 65 (.int .i64 c) := by
  unfold hchk at h ⊢
  split
  · exact ⟨_, rfl⟩
  · split
    · rename_i h1 h2; rw [if_neg h1, if_pos h2] at h; exact absurd rfl h
    · exact ⟨_, rfl⟩

set_option maxHeartbeats 1000000 in
theorem keep_bad {F : Nat → Prop} (v : Value) (xs : List Int) (keep : Int) (w : World) (hv : IntsIn w F v xs) (hbad : hchk xs keep ≠ 0) :
    Calls Try.prog 12 #[v, .int .i64 keep] w fun e w' => (∃ c : Int, e = .returned (.tuple #[.slice none 0 0, .iface 65 (.int .i64 c)])) ∧ w = w' := by
  obtain ⟨c, hc⟩ := hchk_bad hbad
  have HV := hide hv
  have HE := hide hc
  clear hv hc hbad
  go_enter Try.func12, Try.ntmps12
  go_wp2_with fail
  refine Calls.mono (hcheck_any _ xs keep _ HV.out) ?_
  rw [HE.out]
  rintro e w1 ⟨rfl, rfl⟩
  go_wp2_with fail
  refine bodyPost_ret (v := .tuple #[.slice none 0 0, .iface 65 (.int .i64 c)]) (by simp [results, Try.results12, go_sem]) rfl ?_
  exact ⟨⟨c, rfl⟩, rfl⟩

set_option maxHeartbeats 1000000 in
theorem space_bad {F : Nat → Prop} (v : Value) (xs : List Int) (keep : Int) (w : World) (hv : IntsIn w F v xs) (hbad : hchk xs keep ≠ 0) :
    Calls Try.prog 13 #[v, .int .i64 keep] w fun e w' => (∃ c : Int, e = .returned (.tuple #[.slice none 0 0, .iface 65 (.int .i64 c)])) ∧ w = w' := by
  obtain ⟨c, hc⟩ := hchk_bad hbad
  have HV := hide hv
  have HE := hide hc
  clear hv hc hbad
  go_enter Try.func13, Try.ntmps13
  go_wp2_with fail
  refine Calls.mono (hcheck_any _ xs keep _ HV.out) ?_
  rw [HE.out]
  rintro e w1 ⟨rfl, rfl⟩
  go_wp2_with fail
  refine bodyPost_ret (v := .tuple #[.slice none 0 0, .iface 65 (.int .i64 c)]) (by simp [results, Try.results13, go_sem]) rfl ?_
  exact ⟨⟨c, rfl⟩, rfl⟩
end Go.Proofs.Ytjapcoonaabdnaa
