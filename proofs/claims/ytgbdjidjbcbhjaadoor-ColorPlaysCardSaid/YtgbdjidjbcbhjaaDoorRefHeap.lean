/- The document's answer, walked: All, Place, Heap, From. Of all lists; From of all heaps that are right. -/
import Derived.Test.YtgbdjidjbcbhjaaDoorCheck
import Derived.Test.YtgbdjidjbcbhjaaDoorCopyPlain
import Derived.Test.YtgbdjidjbcbhjaaDoorSame
import Derived.Test.YtgbdjidjbcbhjaaDoorOwn
namespace Go.Proofs.YtgbdjidjbcbhjaaDoor
open Go.RowKit
set_option linter.unusedSimpArgs false

set_option maxHeartbeats 1000000
theorem in1_any (n lo hi : Int) (w : World) : Calls Tryd.prog 77 #[.int .i64 n, .int .i64 lo, .int .i64 hi] w fun e w' => e = .returned (.bool (btw n lo hi)) ∧ w = w' := by
  by_cases h1 : lo ≤ n
  · by_cases h2 : n ≤ hi
    · have Hf := hide (show btw n lo hi = true from btw_iff.2 ⟨h1, h2⟩)
      go_enter Tryd.func77, Tryd.ntmps77
      go_wp2
      go_ret
      exact ⟨by rw [Hf.out]; simp, rfl⟩
    · have Hf := hide (show btw n lo hi = false by simp [btw]; omega)
      go_enter Tryd.func77, Tryd.ntmps77
      go_wp2
      go_ret
      exact ⟨by rw [Hf.out]; simp, rfl⟩
  · have Hf := hide (show btw n lo hi = false by simp [btw]; omega)
    go_enter Tryd.func77, Tryd.ntmps77
    go_wp2
    go_ret
    exact ⟨by rw [Hf.out]; simp, rfl⟩
theorem rall_any {F : Nat → Prop} (v : Value) (xs : List Int) (lo hi : Int) (w : World) (hv : IntsIn w F v xs) :
    Calls Tryd.prog 50 #[v, .int .i64 lo, .int .i64 hi] w fun e w' => e = .returned (.bool (allB xs lo hi)) ∧ w = w' := by
  obtain ⟨A, c, rfl, hc, hm, hcell⟩ := hv
  have H := hide hcell
  clear hcell
  go_enter Tryd.func50, Tryd.ntmps50
  go_wp2
  go_loop [7] (fun i => ∃ k : Nat, k ≤ xs.length ∧ i = .int .i64 k ∧ Hid (∀ j (_ : j < k) (hj : j < xs.length), btw xs[j] lo hi = true)) (fun i => xs.length - (intOf i).toNat)
  case atStart => exact ⟨0, Nat.zero_le _, rfl, fun j h => absurd h (by omega)⟩
  case round =>
    obtain ⟨k, hk, rfl, hb⟩ := hrel
    by_cases hlt : k < xs.length
    · obtain ⟨b, o, rfl, _, hc⟩ := H.out k hlt
      by_cases hx : btw xs[k] lo hi = true
      · go_wp2_with (go_at_call 77; refine (in1_any _ _ _ _).mono ?_; rintro e w' ⟨rfl, rfl⟩)
        go_round
        case rel =>
          refine ⟨k + 1, by omega, by go_num, ?_⟩
          intro j h hj
          rcases Nat.lt_or_ge j k with h' | h'
          · exact hb j h' hj
          · obtain rfl : j = k := by omega
            exact hx
        case measure => simp [intOf]; omega
      · have hx' : btw xs[k] lo hi = false := by simpa using hx
        have Hf := hide (allB_at hlt hx')
        clear hx
        go_wp2_with (go_at_call 77; refine (in1_any _ _ _ _).mono ?_; rintro e w' ⟨rfl, rfl⟩)
        go_ret
        exact ⟨ret_bool Hf.out.symm, rfl⟩
    · have Hf := hide (show allB xs lo hi = true from allB_all (fun j h => hb j (by omega) h))
      go_wp2_with fail
      go_ret
      exact ⟨ret_bool Hf.out.symm, rfl⟩

theorem place_any {F : Nat → Prop} (v : Value) (xs : List Int) (x : Int) (w : World) (hv : IntsIn w F v xs) :
    Calls Tryd.prog 52 #[v, .int .i64 x] w fun e w' => e = .returned (.int .i64 (ixOf xs x)) ∧ w = w' := by
  obtain ⟨A, c, rfl, hc, hm, hcell⟩ := hv
  have H := hide hcell
  clear hcell
  go_enter Tryd.func52, Tryd.ntmps52
  go_wp2
  go_loop [5] (fun i => ∃ k : Nat, k ≤ xs.length ∧ i = .int .i64 k ∧ Hid (∀ j (_ : j < k), xs[j]? ≠ some x)) (fun i => xs.length - (intOf i).toNat)
  case atStart => exact ⟨0, Nat.zero_le _, rfl, fun j h => absurd h (by omega)⟩
  case round =>
    obtain ⟨k, hk, rfl, hb⟩ := hrel
    by_cases hlt : k < xs.length
    · obtain ⟨b, o, rfl, _, hc⟩ := H.out k hlt
      by_cases hx : xs[k] = x
      · have hx' : (xs[k] == x) = true := by simp [hx]
        have Hf := hide (ixOf_at hlt hx hb)
        clear hx
        go_wp2
        go_ret
        exact ⟨ret_int Hf.out.symm, rfl⟩
      · have hx' : (xs[k] == x) = false := by simp [hx]
        have Hx := hide hx
        clear hx
        go_wp2
        go_round
        case rel => exact ⟨k + 1, by omega, by go_num, upto_succ hlt hb Hx.out⟩
        case measure => simp [intOf]; omega
    · have Hf := hide (ixOf_none (xs := xs) (x := x) (fun j h => hb j (by omega)))
      go_wp2
      go_ret
      exact ⟨ret_int Hf.out.symm, rfl⟩

theorem rheap_any {F : Nat → Prop} (vo vr : Value) (outs : List (List Int)) (roots : List Int) (w : World) (ho : RowsIn w F vo outs) (hr : IntsIn w F vr roots) :
    Calls Tryd.prog 9 #[.agg #[vo, vr]] w fun e w' => e = .returned (.int .i64 (chk outs roots : Nat)) ∧ Kp No w w' := by
  have HO := hide ho
  have HR := hide hr
  obtain ⟨A, c, rfl, hc, hm, hcell⟩ := RowsIn.form ho
  obtain ⟨A', c', rfl, hc', hm', hcell'⟩ := id hr
  clear hcell hcell' ho hr
  by_cases h1 : 12 < outs.length
  · have Hf := hide (show chk outs roots = 4 by unfold chk; rw [if_pos (.inl h1)])
    go_enter Tryd.func9, Tryd.ntmps9
    go_wp2
    go_ret
    exact ⟨by rw [Hf.out]; rfl, (Kp.refl No w).alloc _⟩
  by_cases h2 : 12 < roots.length
  · have Hf := hide (show chk outs roots = 4 by unfold chk; rw [if_pos (.inr h2)])
    go_enter Tryd.func9, Tryd.ntmps9
    go_wp2
    go_ret
    exact ⟨by rw [Hf.out]; rfl, (Kp.refl No w).alloc _⟩
  have h12 := hide (show ¬ (12 < outs.length ∨ 12 < roots.length) by omega)
  by_cases h3 : allB roots 0 ((outs.length : Int) - 1) = true
  · have Hs := hide (show chk outs roots = chkRows outs.length outs by unfold chk; rw [if_neg h12.out, if_neg (by rw [h3]; simp)])
    have H3 := hide h3
    clear h12 h3
    go_enter Tryd.func9, Tryd.ntmps9
    go_wp2_with fail
    refine Calls.mono (rall_any _ roots _ _ _ (HR.out.no ((Kp.refl No w).alloc _))) ?_
    rw [H3.out]
    rintro e w1 ⟨rfl, hw1⟩
    have HK0 := hide (show Kp No w w1 by rw [← hw1]; exact (Kp.refl No w).alloc _)
    have HB0 := hide (show Blk w1 w.heap.size 25 #[.slice A outs.length c, .slice A' roots.length c'] by rw [← hw1]; exact Blk.new _ _ _)
    clear hw1
    go_wp2_with fail
    go_loopw [3] (fun i wr => ∃ k : Nat, k ≤ outs.length ∧ i = .int .i64 k ∧ Hid (chkRows outs.length outs = chkRows outs.length (outs.drop k)) ∧ Hid (Kp No w1 wr)) (fun i _ => outs.length - (intOf i).toNat)
    case atStart => exact ⟨0, Nat.zero_le _, rfl, rfl, Kp.refl _ _⟩
    case round =>
      obtain ⟨k, hk, rfl, hb, hkp⟩ := hrel
      have HKW := hide (HK0.out.trans hkp.out)
      obtain ⟨p0, p1⟩ := (HB0.out.kp hkp.out id).c2
      by_cases hlt : k < outs.length
      · obtain ⟨_, _, e, _, _, hrow⟩ := RowsIn.form (HO.out.no HKW.out)
        cases e
        obtain ⟨b, o, A2, c2, rfl, _, hcl, hin⟩ := hrow k hlt
        have HI := hide hin
        have hd := hide (chkRows_drop (n := outs.length) hlt)
        obtain ⟨l, hl⟩ : ∃ l, outs[k] = l := ⟨_, rfl⟩
        rw [hl] at hcl HI hd
        clear hrow hin hl
        by_cases h4 : 4 < l.length
        · have Hf := hide (show chk outs roots = 4 by
            have h0 : chkRow outs.length l = 4 := by unfold chkRow; rw [if_pos h4]
            rw [Hs.out, hb.out, hd.out, h0]; rfl)
          go_wp2
          go_ret
          exact ⟨by rw [Hf.out]; rfl, HKW.out⟩
        · cases h5 : allB l 0 ((outs.length : Int) - 1) with
          | true =>
            have h0 := hide (show chkRow outs.length l = 0 by unfold chkRow; rw [if_neg h4, if_neg (by rw [h5]; simp)])
            have hnext := hide (show chkRows outs.length outs = chkRows outs.length (outs.drop (k + 1)) by rw [hb.out, hd.out, if_pos h0.out])
            have H5 := hide h5
            clear h5
            go_wp2_with fail
            go_quiet ((go_at_call 50; exact Calls.quiet_of ((rall_any _ l 0 ((outs.length : Int) - 1) _ (HI.out.no ((Kp.refl No _).drewN _))).mono fun e w' h => ⟨h.1.trans (ret_bool H5.out), 0, h.2.symm⟩)))
            go_wp2_with fail
            go_roundw
            case rel => exact ⟨k + 1, by omega, by go_num, hnext.out, hkp.out.trans (by (repeat (first | exact Kp.refl _ _ | with_reducible refine Kp.drewN ?_ _ | with_reducible refine Kp.drew ?_ | with_reducible refine Kp.alloc ?_ _ | with_reducible refine Kp.setCell ?_ (fun _ => ?_) _)); all_goals (simp_all; omega))⟩
            case measure => simp [intOf]; omega
          | false =>
            have Hf := hide (show chk outs roots = 1 by
              have h0 : chkRow outs.length l = 1 := by unfold chkRow; rw [if_neg h4, if_pos h5]
              rw [Hs.out, hb.out, hd.out, h0]; rfl)
            have H5 := hide h5
            clear h5
            go_wp2_with fail
            go_quiet ((go_at_call 50; exact Calls.quiet_of ((rall_any _ l 0 ((outs.length : Int) - 1) _ (HI.out.no ((Kp.refl No _).drewN _))).mono fun e w' h => ⟨h.1.trans (ret_bool H5.out), 0, h.2.symm⟩)))
            go_wp2_with fail
            go_ret
            exact ⟨by rw [Hf.out]; rfl, HKW.out.trans (by (repeat (first | exact Kp.refl _ _ | with_reducible refine Kp.drewN ?_ _ | with_reducible refine Kp.drew ?_ | with_reducible refine Kp.alloc ?_ _ | with_reducible refine Kp.setCell ?_ (fun _ => ?_) _)); all_goals (simp_all; omega))⟩
      · have Hf := hide (show chk outs roots = 0 by rw [Hs.out, hb.out, List.drop_eq_nil_of_le (by omega)]; rfl)
        go_wp2
        go_ret
        exact ⟨by rw [Hf.out]; rfl, HKW.out⟩
  · have h3' : allB roots 0 ((outs.length : Int) - 1) = false := by simpa using h3
    have Hs := hide (show chk outs roots = 1 by unfold chk; rw [if_neg h12.out, if_pos h3'])
    have H3 := hide h3'
    clear h12 h3 h3'
    go_enter Tryd.func9, Tryd.ntmps9
    go_wp2_with fail
    refine Calls.mono (rall_any _ roots _ _ _ (HR.out.no ((Kp.refl No w).alloc _))) ?_
    rw [H3.out]
    rintro e w1 ⟨rfl, hw1⟩
    have HK0 := hide (show Kp No w w1 by rw [← hw1]; exact (Kp.refl No w).alloc _)
    clear hw1
    go_wp2
    go_ret
    exact ⟨by rw [Hs.out]; rfl, HK0.out⟩

theorem mem_hasB {L : List Int} {x : Int} : hasB L x = true ↔ x ∈ L := by unfold hasB; rw [decide_eq_true_eq]

theorem fwd_of : ∀ (xs o : List Int), (o ++ xs).Nodup → fwd o xs = o ++ xs
  | [], o, _ => by simp [fwd]
  | x :: xs, o, h => by
    have hx : x ∉ o := fun hm => (List.nodup_append.1 h).2.2 x hm x (by simp) rfl
    have e : fwd o (x :: xs) = fwd (o ++ [x]) xs := by show fwd (fwdStep o x) xs = _; unfold fwdStep; rw [if_neg hx]
    rw [e, fwd_of xs (o ++ [x]) (by simpa using h)]
    simp
theorem fwd_idem (xs : List Int) : fwd [] (fwd [] xs) = fwd [] xs := by
  have := fwd_of (fwd [] xs) [] (by simpa using nodup_fwd List.nodup_nil xs)
  simpa using this
theorem order_fwd (outs : List (List Int)) (roots : List Int) : order outs (fwd [] roots) = order outs roots := by unfold order; rw [fwd_idem]
theorem Ok.fwd_ {outs : List (List Int)} {roots : List Int} (h : Ok outs roots) : Ok outs (fwd [] roots) :=
  ⟨h.n12, Nat.le_trans (length_fwd_le _ _) (by simpa using h.r12), fun x hx => by
    rcases mem_fwd.1 hx with h1 | h1
    · cases h1
    · exact h.root x h1, h.few, h.out⟩

set_option maxRecDepth 100000 in
/-- From: what it returns of a heap that is right -/
theorem from_any {F F' : Nat → Prop} (vo vr : Value) (outs : List (List Int)) (roots : List Int) (w : World) (ho : RowsIn w F vo outs) (hr : IntsIn w F' vr roots) (hok : Ok outs (fwd [] roots)) (hl : roots.length ≤ 1000) :
    Calls Tryd.prog 10 #[vo, vr] w (FreshInts w (order outs (fwd [] roots))) := by
  obtain ⟨Ao, co, rfl, hco, hmo, _⟩ := RowsIn.form ho
  obtain ⟨Ar, cr, rfl, hcr, hmr, _⟩ := id hr
  have HO := hide ho
  have HR := hide hr
  have HOK := hide hok
  have hn12 := hok.n12
  clear ho hr hok
  go_enter Tryd.func10, Tryd.ntmps10
  go_wp2_with fail
  go_loopw [5, 6] (fun v q wr => ∃ k : Nat, q = .int .i64 k ∧ k ≤ roots.length ∧ Hid (wr.ownsRow w.heap.size 3 1 v (fwd [] (roots.take k)).length (iv (fwd [] (roots.take k)))) ∧ Hid (Kp No w wr)) (fun _ q _ => roots.length - (intOf q).toNat)
  case atStart => exact ⟨0, rfl, Nat.zero_le _, World.ownsRow_nil _ _ _ _, Kp.refl _ _⟩
  case round =>
    obtain ⟨k, rfl, hk, hown, hkp⟩ := hrel
    have hws := hkp.out.size
    by_cases hlt : k < roots.length
    · obtain ⟨_, _, e, _, _, hcell⟩ := HR.out.no hkp.out
      cases e
      obtain ⟨b, o, rfl, _, hcx⟩ := hcell k hlt
      have HS := hide (show fwd [] (roots.take (k + 1)) = fwdStep (fwd [] (roots.take k)) roots[k] by rw [List.take_succ_eq_append_getElem hlt, fwd_snoc])
      have hll : (fwd [] (roots.take k)).length ≤ 1000 := Nat.le_trans (length_fwd_le _ _) (by simp; omega)
      obtain ⟨x, hx⟩ : ∃ x, roots[k] = x := ⟨_, rfl⟩
      obtain ⟨L, hL⟩ : ∃ L, fwd [] (roots.take k) = L := ⟨_, rfl⟩
      rw [hx] at hcx HS
      rw [hL] at hll hown HS
      have HI := hide (IntsIn.of_own (F := fun _ => True) hown.out fun _ _ => trivial)
      obtain ⟨A1, c1, rfl, _⟩ := id HI.out
      clear hcell hx hL
      cases hb : hasB L x with
      | true =>
        have HN := hide (show fwdStep L x = L by unfold fwdStep; rw [if_pos (mem_hasB.1 hb)])
        have HB := hide hb
        clear hb
        go_wp2_with fail
        refine Calls.mono (has_any _ L x _ HI.out) ?_
        rw [HB.out]
        rintro e w1 ⟨rfl, rfl⟩
        go_wp2_with fail
        go_roundw
        case rel => exact ⟨k + 1, by go_num, hlt, by rw [HS.out, HN.out]; exact hown.out, hkp.out⟩
        case measure => (simp [intOf]; omega)
      | false =>
        have HN := hide (show fwdStep L x = L ++ [x] by unfold fwdStep; rw [if_neg (fun h => by rw [mem_hasB.2 h] at hb; cases hb)])
        have HB := hide hb
        clear hb
        go_wp2_with fail
        refine Calls.mono (has_any _ L x _ HI.out) ?_
        rw [HB.out]
        rintro e w1 ⟨rfl, rfl⟩
        go_wp2_with (at_builtin; refine wpList_push _ rfl (.tmp 23) (.tmp 28) _ rfl w.heap.size 3 _ 8 Tryd.underlying23 Tryd.infoInt rfl (.slice A1 L.length c1) L.length (iv L) rfl hown.out _ rfl 1 _ rfl (by simp) (by omega) (by decide) hws ?_; intro g' c' w3 ho' hgr hat; have HO1 := hide ho'; have HG := hide hgr; clear ho' hgr hat)
        go_roundw
        case rel => exact ⟨k + 1, by go_num, hlt, by rw [HS.out, HN.out, iv_snoc, List.length_append]; exact HO1.out, (hkp.out.alloc _).grown HG.out fun b h hb => by have := (own_lt hown.out h).1; omega⟩
        case measure => (simp [intOf]; omega)
    · obtain rfl : k = roots.length := by omega
      rw [List.take_length] at hown
      have HS0 := hide (show Scan outs (fwd [] roots) 0 (fwd [] roots) by have := Scan.start HOK.out; rwa [fwd_idem] at this)
      obtain ⟨o0, ho0⟩ : ∃ o, fwd [] roots = o := ⟨_, rfl⟩
      rw [ho0] at hown HS0 HOK
      have HO0 := hide ho0
      obtain ⟨A1, c1, rfl, _⟩ := IntsIn.of_own (F := fun _ => True) hown.out fun _ _ => trivial
      clear ho0
      go_wp2_with fail
      go_loopw [5, 7] (fun v q wr => ∃ (k : Nat) (o : List Int), q = .int .i64 k ∧ k ≤ o.length ∧ Hid (Scan outs o0 k o) ∧ Hid (wr.ownsRow w.heap.size 3 1 v o.length (iv o)) ∧ Hid (Kp No w wr)) (fun _ q _ => outs.length - (intOf q).toNat)
      case atStart => exact ⟨0, o0, rfl, Nat.zero_le _, HS0.out, hown.out, hkp.out⟩
      case round =>
        obtain ⟨k, o, rfl, hk, hs, hown, hkp⟩ := hrel
        have hws := hkp.out.size
        have hol := hs.out.length
        by_cases hlt : k < o.length
        · obtain ⟨g, c, rfl, hc1, hc2, hcx, _⟩ := own_int hown.out hlt
          have hxr := hs.out.range _ (List.getElem_mem hlt)
          have HST := hide (hs.out.step HOK.out hlt)
          obtain ⟨x, hx⟩ : ∃ x, o[k] = x := ⟨_, rfl⟩
          rw [hx] at hcx hxr HST
          have hxn : x.toNat < outs.length := by omega
          obtain ⟨_, _, e, _, _, hrow⟩ := RowsIn.form HO.out
          cases e
          obtain ⟨bo, oo, A', c'', rfl, _, hrc, hri⟩ := hrow x.toNat hxn
          rw [← adj_eq hxn] at hrc hri
          have hrc := hkp.out.cell hrc id
          have HRI0 := hide hri
          have HF4 := hide (HOK.out.adjFew (x := x))
          obtain ⟨ys, hys⟩ : ∃ ys, adj outs x = ys := ⟨_, rfl⟩
          rw [hys] at hrc HRI0 HST HF4
          have hy4 := HF4.out
          have hx0 : 0 ≤ x := hxr.1
          have hx1 : x < (outs.length : Int) := hxr.2
          obtain ⟨z, hz⟩ : ∃ z, wr.heap.size = z := ⟨_, rfl⟩
          clear hrow hri hx hys hxr
          go_wp2_with fail
          go_loopw [5, 9] (fun v q wq => ∃ i : Nat, q = .int .i64 i ∧ i ≤ ys.length ∧ Hid (wq.ownsRow w.heap.size 3 1 v (fwd o (ys.take i)).length (iv (fwd o (ys.take i)))) ∧ Hid (Kp No w wq)) (fun _ q _ => ys.length - (intOf q).toNat)
          case atStart => exact ⟨0, rfl, Nat.zero_le _, hown.out, hkp.out⟩
          case round =>
            obtain ⟨i, rfl, hi, hown2, hkp2⟩ := hrel
            have hws2 := hkp2.out.size
            by_cases hlt2 : i < ys.length
            · obtain ⟨_, _, e, _, _, hcell⟩ := HRI0.out.no hkp2.out
              cases e
              obtain ⟨b, o2, rfl, _, hcx2⟩ := hcell i hlt2
              have HS := hide (show fwd o (ys.take (i + 1)) = fwdStep (fwd o (ys.take i)) ys[i] by rw [List.take_succ_eq_append_getElem hlt2, fwd_snoc])
              have hll : (fwd o (ys.take i)).length ≤ 16 := Nat.le_trans (length_fwd_le _ _) (by simp; omega)
              obtain ⟨y, hy⟩ : ∃ y, ys[i] = y := ⟨_, rfl⟩
              obtain ⟨L, hL⟩ : ∃ L, fwd o (ys.take i) = L := ⟨_, rfl⟩
              rw [hy] at hcx2 HS
              rw [hL] at hll hown2 HS
              have HI := hide (IntsIn.of_own (F := fun _ => True) hown2.out fun _ _ => trivial)
              obtain ⟨A1, c1, rfl, _⟩ := id HI.out
              clear hcell hy hL
              cases hb : hasB L y with
              | true =>
                have HN := hide (show fwdStep L y = L by unfold fwdStep; rw [if_pos (mem_hasB.1 hb)])
                have HB := hide hb
                clear hb
                go_wp2_with fail
                refine Calls.mono (has_any _ L y _ HI.out) ?_
                rw [HB.out]
                rintro e w1 ⟨rfl, rfl⟩
                go_wp2_with fail
                go_roundw
                case rel => exact ⟨i + 1, by go_num, hlt2, by rw [HS.out, HN.out]; exact hown2.out, hkp2.out⟩
                case measure => (simp [intOf]; omega)
              | false =>
                have HN := hide (show fwdStep L y = L ++ [y] by unfold fwdStep; rw [if_neg (fun h => by rw [mem_hasB.2 h] at hb; cases hb)])
                have HB := hide hb
                clear hb
                go_wp2_with fail
                refine Calls.mono (has_any _ L y _ HI.out) ?_
                rw [HB.out]
                rintro e w1 ⟨rfl, rfl⟩
                go_wp2_with (at_builtin; refine wpList_push _ rfl (.tmp 56) (.tmp 61) _ rfl w.heap.size 3 _ 8 Tryd.underlying23 Tryd.infoInt rfl (.slice A1 L.length c1) L.length (iv L) rfl hown2.out _ rfl 1 _ rfl (by simp) (by omega) (by decide) hws2 ?_; intro g' c' w3 ho' hgr hat; have HO1 := hide ho'; have HG := hide hgr; clear ho' hgr hat)
                go_roundw
                case rel => exact ⟨i + 1, by go_num, hlt2, by rw [HS.out, HN.out, iv_snoc, List.length_append]; exact HO1.out, (hkp2.out.alloc _).grown HG.out fun b h hb => by have := (own_lt hown2.out h).1; omega⟩
                case measure => (simp [intOf]; omega)
            · obtain rfl : i = ys.length := by omega
              rw [List.take_length] at hown2
              go_wp2_with fail
              go_roundw
              case rel => exact ⟨k + 1, _, by go_num, HST.out.le, HST.out, hown2.out, hkp2.out⟩
              case measure => (simp [intOf]; omega)
        · have HE := hide (hs.out.fin hlt)
          have HOW := hide hown.out
          obtain ⟨A2, c2, rfl, _⟩ := IntsIn.of_own (F := fun _ => True) hown.out fun _ _ => trivial
          go_wp2
          go_ret
          have e := HE.out
          rw [HO0.out]
          subst e
          exact FreshInts.of_own HOW.out hkp.out
end Go.Proofs.YtgbdjidjbcbhjaaDoor
