/- sweep.Turn, walked: of a heap that is right, nodes as a pile would mark them, and all pointers as they were. -/
import Derived.Test.YtgbdjidjbcbhjaaDoorTurnMem
import Derived.WalkMore
namespace Go.Proofs.YtgbdjidjbcbhjaaDoor
open Go.RowKit
set_option linter.unusedSimpArgs false

/-- rows of one's own that lie apart -/
structure OR (w : World) (base : Nat) (vo : Value) (vs : List Value) (O : List (List Int)) : Prop where
  out : w.ownsRow base 23 1 vo O.length vs
  row : ∀ i (h : i < vs.length) (h' : i < O.length), w.ownsRow base 3 1 vs[i] (O[i]).length (iv O[i])
  ap : Apart vs
section
variable {w w2 w3 : World} {base : Nat} {vo v : Value} {vs : List Value} {O : List (List Int)} {xs : List Int}
theorem OR.len (h : OR w base vo vs O) : vs.length = O.length := by have := h.out.1; omega
theorem OR.no (h : OR w base vo vs O) (hk : Kp No w w2) : OR w2 base vo vs O := ⟨own_kp h.out hk fun _ _ h => h, fun i h1 h2 => own_kp (h.row i h1 h2) hk fun _ _ h => h, h.ap⟩
theorem OR.more (h : OR w base vo vs O) (hk2 : Kp No w w2) (hv : w2.ownsRow w.heap.size 3 1 v xs.length (iv xs)) {g' c' : Nat}
    (ha : w3.ownsRow base 23 1 (.slice (some ⟨g', 0, none⟩) (O.length + 1) c') (O.length + 1) (vs ++ [v])) (hgr : (w2.alloc (.cells #[v] 23)).grownBy w3 vo.ownBlock) (hbase : base ≤ w.heap.size) :
    OR w3 base (.slice (some ⟨g', 0, none⟩) (O.length + 1) c') (vs ++ [v]) (O ++ [xs]) := by
  have h2 := h.no hk2
  have k3 : Kp (fun b => vo.ownBlock = some b) w2 w3 := ((Kp.refl _ w2).alloc _).grown hgr fun b h _ => h
  have step : ∀ {u : Value} {ys : List Int}, w2.ownsRow base 3 1 u ys.length (iv ys) → w3.ownsRow base 3 1 u ys.length (iv ys) := by
    intro u ys hu
    exact own_kp hu k3 fun b hb e => own_ne_own hu h2.out (by decide) hb e
  have hvb := own_base hv (base' := base) fun b hb => by have := (own_lt hv hb).1; omega
  have hsz := h.len
  refine ⟨by rw [List.length_append, List.length_singleton]; exact ha, fun i h1 h3 => ?_, h.ap.snoc fun u hu g hg hg' => ?_⟩
  · rw [List.getElem_append]
    simp only [List.getElem_append]
    by_cases hi : i < vs.length
    · rw [dif_pos hi, dif_pos (by omega)]
      exact step (h2.row i hi (by omega))
    · rw [dif_neg hi, dif_neg (by omega)]
      simp only [List.getElem_singleton]
      exact step hvb
  · obtain ⟨i, hi, rfl⟩ := List.getElem_of_mem hu
    have := (own_lt (h.row i hi (by omega)) hg').2
    have := (own_lt hv hg).1
    omega
end

/-- what Turn leaves -/
def TurnPost (w : World) (l : List Int) (O : List (List Int)) (e : Ending) (w' : World) : Prop := ∃ v ov, e = .returned (.tuple #[v, ov, .nilIface]) ∧ IntsIn w' (Hi w.heap.size) v l ∧ RowsIn w' (Hi w.heap.size) ov O ∧ Kp No w w'

set_option maxRecDepth 100000 in
set_option maxHeartbeats 8000000 in
theorem turn_ok {F : Nat → Prop} (vo vr : Value) (outs : List (List Int)) (roots : List Int) (w : World) (ho : RowsIn w F vo outs) (hr : IntsIn w F vr roots) (hok : Ok outs roots) :
    Calls Tryd.prog 47 #[.agg #[vo, vr]] w (TurnPost w (marksN outs roots) outs) := by
  have HO := hide (ho.mono (F' := Lo w.heap.size) fun k h _ => h)
  have HR := hide (hr.mono (F' := Lo w.heap.size) fun k h _ => h)
  have HOK := hide hok
  have HE := hide (chk_of_ok hok)
  have HL := hide hok.n12
  have hmk := run_make_row' (P := Tryd.prog) 23 3 (.int .i64 0) 8 Tryd.underlying23 Tryd.infoInt rfl .i64 .i64 outs.length (by have := HL.out; omega) (by have := HL.out; omega)
  clear ho hr hok
  go_enter Tryd.func47, Tryd.ntmps47
  go_wp2_with fail
  refine Calls.mono (check_any vo vr outs roots _ (HO.out.no ((Kp.refl No _).alloc _)) (HR.out.no ((Kp.refl No _).alloc _))) ?_
  rw [HE.out]
  rintro e w1 ⟨rfl, hk1⟩
  have hb1 := (Blk.new w 25 #[vo, vr]).kp hk1 id
  have HK1 := hide (((Kp.refl No w).alloc (.cells #[vo, vr] 25)).trans' hk1 fun _ _ h => h)
  obtain ⟨a1, a2, a3, a4, a5⟩ := hb1.a2
  have HB1 := hide hb1
  clear hk1 hb1
  unfold errV
  obtain ⟨Ar, cr, rfl, hcr, hmr, _⟩ := id HR.out
  obtain ⟨Ao, co, rfl, hco, hmo, _⟩ := RowsIn.form HO.out
  have hl12 := HL.out
  go_wp2_with fail
  go_loopw [6, 26] (fun v q wr => ∃ (k : Nat) (vs : List Value), q = .int .i64 k ∧ k ≤ outs.length ∧ Hid (OR wr w1.heap.size v vs (outs.take k)) ∧ Hid (Kp No w1 wr)) (fun _ q _ => outs.length - (intOf q).toNat)
  case atStart => exact ⟨0, [], rfl, Nat.zero_le _, ⟨World.ownsRow_nil _ _ _ _, fun i h _ => by simp at h, Apart.nil_⟩, Kp.refl _ _⟩
  case round =>
    obtain ⟨k, vs, rfl, hk, hor, hkp⟩ := hrel
    clear a1 a2 a3 a4
    obtain ⟨a1, a2, a3, a4, _⟩ := (HB1.out.kp hkp.out id).a2
    have hws := hkp.out.size
    by_cases hlt : k < outs.length
    · obtain ⟨_, _, e, _, _, hrow⟩ := RowsIn.form (HO.out.no (HK1.out.trans hkp.out))
      cases e
      obtain ⟨b, o, A2, c2, rfl, _, hrc, hri⟩ := hrow k hlt
      have HRI := hide hri
      have HFW := hide (HOK.out.few _ (List.getElem_mem hlt))
      have HTK := hide (show outs.take (k + 1) = outs.take k ++ [outs[k]] from List.take_succ_eq_append_getElem hlt)
      have hOl : (outs.take k).length = k := by rw [List.length_take]; omega
      obtain ⟨e0, Av, cv, hvo, hcv, hmv, _⟩ := own_form hor.out.out
      rw [hor.out.len, hOl] at hvo hcv
      subst hvo
      have HOL := hide hOl
      clear hrow hri e0 hOl
      go_wp2_with fail
      refine Calls.mono (clone_any _ outs[k] _ HRI.out (by have := HFW.out; omega)) ?_
      rintro e w3 ⟨v, rfl, hown, hk3⟩
      obtain ⟨e0, A3, c3, hv3, _⟩ := own_form hown
      clear e0
      rw [iv_length] at hv3
      subst hv3
      have HW := hide hown
      have HK3 := hide hk3
      have HOR := hide (hor.out.no hk3)
      have hws3 := hk3.size
      clear hown hk3
      go_wp2_with (at_builtin; refine wpList_push _ rfl (.tmp 30) (.tmp 33) _ rfl w1.heap.size 23 _ 24 Tryd.underlying22 Tryd.infoRow rfl (.slice Av k cv) k vs rfl (by have := HOR.out.out; rwa [HOL.out] at this) _ rfl 1 _ rfl (by simp) (by omega) (by decide) (by omega) ?_; intro g' c' w4 ho' hgr hat; have HO1 := hide ho'; have HG := hide hgr; clear ho' hgr hat)
      go_roundw
      case rel =>
        have hm := hor.out.more (xs := outs[k]) HK3.out HW.out (by rw [HOL.out]; exact HO1.out) HG.out hws
        rw [HOL.out, ← HTK.out] at hm
        exact ⟨k + 1, _, by go_num, hlt, hm, ((hkp.out.trans HK3.out).alloc _).grown HG.out fun b h hb => by have := (own_lt hor.out.out h).1; omega⟩
      case measure => (simp [intOf]; omega)
    · obtain rfl : k = outs.length := by omega
      rw [List.take_length] at hor
      obtain ⟨e0, Av, cv, hvo, hcv, hmv, _⟩ := own_form hor.out.out
      rw [hor.out.len] at hvo hcv
      subst hvo
      clear e0
      have a6 : w.heap.size < wr.heap.size + 1 := by omega
      have a7 : w.heap.size < wr.heap.size + 1 + 1 := by omega
      go_wp2_with fail
      have hHT : TuAt (((wr.alloc (.cells (madeCells #[.int .i64 0] outs.length) 3)).alloc (.cells #[.int .i64 0] 3)).alloc (.cells #[.slice none 0 0] 23)) w1.heap.size (wr.heap.size + 1) (wr.heap.size + 1 + 1) (.slice Av outs.length cv) (.slice (some ⟨wr.heap.size, 0, none⟩) outs.length outs.length) (.slice none 0 0) vs outs (List.replicate outs.length 0) [] := by
        have hvs : ∀ u ∈ vs, ∀ b, u.ownBlock = some b → b < wr.heap.size := fun u hu b hb => by
          obtain ⟨i, hi, rfl⟩ := List.getElem_of_mem hu
          exact (own_lt (hor.out.row i hi (by rw [← hor.out.len]; exact hi)) hb).2
        refine ⟨(Blk.at_ _ _ (by simp)).alloc _, Blk.at_ _ _ (by simp), ((hor.out.out.alloc _).alloc _).alloc _, fun i h1 h2 => (((hor.out.row i h1 h2).alloc _).alloc _).alloc _, ?_, World.ownsRow_nil _ _ _ _, ?_, ?_, fun e => ?_, by omega, by omega⟩
        · rw [List.length_replicate]
          have := ((own_made wr outs.length w1.heap.size hws (by omega)).alloc (.cells #[.int .i64 0] 3)).alloc (.cells #[.slice none 0 0] 23)
          simpa [nz] using this
        · refine Apart.cons (Apart.cons hor.out.ap fun u hu b hb e => ?_) fun u hu b hb => by simp [Value.ownBlock] at hb
          have := hvs u hu b e
          simp [Value.ownBlock] at hb
          omega
        · intro u hu e
          rcases List.mem_cons.1 hu with rfl | hu
          · simp [Value.ownBlock] at e
          · rcases List.mem_cons.1 hu with rfl | hu
            · simp [Value.ownBlock] at e
            · have := hvs u hu _ e; omega
        · have := (own_lt hor.out.out e).2; omega
      have hHK : Kp No w1 (((wr.alloc (.cells (madeCells #[.int .i64 0] outs.length) 3)).alloc (.cells #[.int .i64 0] 3)).alloc (.cells #[.slice none 0 0] 23)) := ((hkp.out.alloc _).alloc _).alloc _
      obtain ⟨W2, hW2⟩ : ∃ W, ((wr.alloc (.cells (madeCells #[.int .i64 0] outs.length) 3)).alloc (.cells #[.int .i64 0] 3)).alloc (.cells #[.slice none 0 0] 23) = W := ⟨_, rfl⟩
      rw [hW2] at hHT hHK ⊢
      clear hW2
      obtain ⟨gr, hgr⟩ : ∃ g, wr.heap.size + 1 + 1 = g := ⟨_, rfl⟩
      rw [hgr] at hHT ⊢
      obtain ⟨gm, hgm⟩ : ∃ g, wr.heap.size + 1 = g := ⟨_, rfl⟩
      rw [hgm] at hHT ⊢
      obtain ⟨ga, hga⟩ : ∃ g, wr.heap.size = g := ⟨_, rfl⟩
      rw [hga] at hHT ⊢
      have HT0 := hide hHT
      have HK2 := hide hHK
      clear hgr hgm hga hHT hHK a1 a2 a3 a4 a6 a7
      refine wp_loop_k (fun n a' w' => ∃ (k : Nat) (p : List Nat) (o : List Int) (vx : Value), (n + k = roots.length ∧ o = deeps outs [] (roots.take k) ∧ Rt outs p o ∧ TuAt w' w1.heap.size gm gr (.slice Av outs.length cv) (.slice (some ⟨ga, 0, none⟩) outs.length outs.length) vx vs outs p o ∧ Kp No w1 w') ∧
        a' = { tmps := #[slot a' 0, .pointer (some ⟨w.heap.size, 0, none⟩), slot a' 2, slot a' 3, slot a' 4, slot a' 5, .slice Av outs.length cv, slot a' 7, slot a' 8, .slice (some ⟨ga, 0, none⟩) outs.length outs.length, .pointer (some ⟨gm, 0, none⟩), .pointer (some ⟨gr, 0, none⟩), .func (.func 74) #[] #[.pointer (some ⟨gm, 0, none⟩), .pointer (some ⟨gr, 0, none⟩)], slot a' 13, slot a' 14, slot a' 15, slot a' 16, slot a' 17, slot a' 18, slot a' 19, slot a' 20, slot a' 21, slot a' 22, slot a' 23, slot a' 24, slot a' 25, slot a' 26, slot a' 27, slot a' 28, slot a' 29, slot a' 30, slot a' 31, slot a' 32, slot a' 33, slot a' 34, slot a' 35, slot a' 36, slot a' 37, slot a' 38, slot a' 39, slot a' 40, .slice Ar roots.length cr, .int .i64 roots.length, .int .i64 k, slot a' 44, slot a' 45, slot a' 46, slot a' 47, slot a' 48, slot a' 49, slot a' 50, slot a' 51, slot a' 52, slot a' 53, slot a' 54, slot a' 55, slot a' 56, slot a' 57, slot a' 58, slot a' 59, slot a' 60, slot a' 61, slot a' 62, slot a' 63, slot a' 64, slot a' 65, slot a' 66, slot a' 67, slot a' 68, slot a' 69, slot a' 70, slot a' 71, slot a' 72, slot a' 73, slot a' 74, slot a' 75, slot a' 76, slot a' 77, slot a' 78, slot a' 79, slot a' 80, slot a' 81, slot a' 82, slot a' 83, slot a' 84, slot a' 85, slot a' 86, slot a' 87, slot a' 88, slot a' 89, slot a' 90, slot a' 91, slot a' 92, slot a' 93, slot a' 94, slot a' 95, slot a' 96, slot a' 97, slot a' 98, slot a' 99, slot a' 100, slot a' 101, slot a' 102, slot a' 103, slot a' 104, slot a' 105, slot a' 106, slot a' 107, slot a' 108, slot a' 109, slot a' 110, slot a' 111, slot a' 112, slot a' 113, slot a' 114, slot a' 115, slot a' 116, slot a' 117, slot a' 118, slot a' 119, slot a' 120, slot a' 121, slot a' 122, slot a' 123, slot a' 124, slot a' 125, slot a' 126, slot a' 127, slot a' 128, slot a' 129], defers := [] }) roots.length ?start ?round
      case start => exact ⟨0, _, [], _, ⟨by omega, rfl, Rt.start outs, HT0.out, HK2.out⟩, rfl⟩
      case round =>
        rintro n a' wr ⟨k, p, o, vx, ⟨hn, hoo, hrt, htu, hkq⟩, hfr⟩ K1 hK1
        obtain ⟨u, hu⟩ : ∃ u, slot a' = u := ⟨_, rfl⟩
        rw [hu] at hfr
        clear hu
        subst hfr
        replace hoo := hide hoo
        replace hrt := hide hrt
        replace htu := hide htu
        replace hkq := hide hkq
        have HN := hide hn
        obtain ⟨m1, m2, m3⟩ := htu.out.mb.a1
        obtain ⟨r1, r2, r3⟩ := htu.out.rb.a1
        have hk : k ≤ roots.length := by omega
        clear hn
        by_cases hltr : k < roots.length
        · obtain ⟨_, _, e, _, _, hcell⟩ := HR.out.no (HK1.out.trans hkq.out)
          cases e
          obtain ⟨b, ob, rfl, _, hc⟩ := hcell k hltr
          clear hcell
          have hxr := HOK.out.root _ (List.getElem_mem hltr)
          obtain ⟨x, hx⟩ : ∃ x, roots[k] = x := ⟨_, rfl⟩
          have HDS := hide (show deeps outs [] (roots.take (k + 1)) = deep outs o x by rw [List.take_succ_eq_append_getElem hltr, deeps_append, ← hoo.out, hx]; rfl)
          rw [hx] at hc hxr
          obtain ⟨r, rfl⟩ : ∃ n : Nat, x = n := ⟨x.toNat, by omega⟩
          clear hx
          have hr12 : r < outs.length := by omega
          have HOL := hide (show orIn 0 o < 4096 from orIn_lt (by decide) fun y hy => by have := hrt.out.vd.range y hy; omega)
          have HCH := hide (fun w => chas_int (orIn 0 o) (r : Int) (by have := HOL.out; omega) (by omega) (by omega) w)
          have HMB := hide (marked_bit hrt.out.vd (x := (r : Int)) (by omega))
          go_wp2_with fail
          go_step3
          go_wp2_with fail
          refine Calls.mono (HCH.out _) ?_
          rw [HMB.out]
          rintro e w3 ⟨rfl, rfl⟩
          by_cases hm : (r : Int) ∈ o
          · rw [decide_eq_true hm]
            have HD := hide (show deeps outs [] (roots.take (k + 1)) = o by rw [HDS.out, deep_old hm])
            clear hm
            go_wp2_with fail
            rw [Exit.noGoto_exit]
            go_wp2_with fail
            exact hK1.out (n - 1) _ _ (by have := HN.out; omega) ⟨k + 1, p, o, vx, ⟨by have := HN.out; omega, HD.out.symm, hrt.out, htu.out, hkq.out⟩, rfl⟩
          · rw [decide_eq_false hm]
            have HW0 := hide (hrt.out.way HOK.out ⟨by omega, by omega⟩ hm)
            have HV12 := hide (show Vd 12 o from ⟨hrt.out.vd.nodup, fun y hy => by have := hrt.out.vd.range y hy; omega⟩)
            obtain ⟨go, rfl⟩ : ∃ g, Av = some ⟨g, 0, none⟩ := by
              obtain ⟨g, c, e, _⟩ := own_cap hor.out.out (k := r) (by rw [hor.out.len]; exact hr12)
              injection e with e
              exact ⟨g, e⟩
            clear hm
            go_wp2_with fail
            refine Calls.mono (tmark_any (r : Int) _ htu.out HV12.out (by omega) (by omega) hkq.out.size) ?_
            rintro e w4 ⟨rfl, vx1, ht4, hk4⟩
            have HT4 := hide ht4
            have HK4 := hide (hkq.out.trans' hk4 fun b hb e => by unfold Hi at e; omega)
            clear ht4 hk4 m1 m2 m3 r1 r2 r3 hc
            go_wp2_with fail
            go_step3
            go_wp2_with fail
            obtain ⟨T, hT⟩ : ∃ T, deep outs o (r : Int) = T := ⟨_, rfl⟩
            rw [hT] at HW0 HDS
            clear hT
            refine wp_loop_k (fun n' a' w' => ∃ (p' : List Nat) (st o' : List Int) (vx' : Value) (h : Nat), (n' = wayM outs p' st o' ∧ Way outs p' st o' (h : Int) T ∧ TuAt w' w1.heap.size gm gr (.slice (some ⟨go, 0, none⟩) outs.length cv) (.slice (some ⟨ga, 0, none⟩) outs.length outs.length) vx' vs (turned outs p' st) p' o' ∧ Kp No w1 w') ∧
              a' = { tmps := #[slot a' 0, .pointer (some ⟨w.heap.size, 0, none⟩), slot a' 2, slot a' 3, slot a' 4, slot a' 5, .slice (some ⟨go, 0, none⟩) outs.length cv, slot a' 7, slot a' 8, .slice (some ⟨ga, 0, none⟩) outs.length outs.length, .pointer (some ⟨gm, 0, none⟩), .pointer (some ⟨gr, 0, none⟩), .func (.func 74) #[] #[.pointer (some ⟨gm, 0, none⟩), .pointer (some ⟨gr, 0, none⟩)], slot a' 13, .int .i64 (h : Int), .int .i64 (hd st), slot a' 16, slot a' 17, slot a' 18, slot a' 19, slot a' 20, slot a' 21, slot a' 22, slot a' 23, slot a' 24, slot a' 25, slot a' 26, slot a' 27, slot a' 28, slot a' 29, slot a' 30, slot a' 31, slot a' 32, slot a' 33, slot a' 34, slot a' 35, slot a' 36, slot a' 37, slot a' 38, slot a' 39, slot a' 40, .slice (some ⟨b, ob, none⟩) roots.length cr, .int .i64 roots.length, .int .i64 k, slot a' 44, slot a' 45, slot a' 46, slot a' 47, slot a' 48, slot a' 49, slot a' 50, slot a' 51, slot a' 52, slot a' 53, slot a' 54, slot a' 55, slot a' 56, slot a' 57, slot a' 58, slot a' 59, slot a' 60, slot a' 61, slot a' 62, slot a' 63, slot a' 64, slot a' 65, slot a' 66, slot a' 67, slot a' 68, slot a' 69, slot a' 70, slot a' 71, slot a' 72, slot a' 73, slot a' 74, slot a' 75, slot a' 76, slot a' 77, slot a' 78, slot a' 79, slot a' 80, slot a' 81, slot a' 82, slot a' 83, slot a' 84, slot a' 85, slot a' 86, slot a' 87, slot a' 88, slot a' 89, slot a' 90, slot a' 91, slot a' 92, slot a' 93, slot a' 94, slot a' 95, slot a' 96, slot a' 97, slot a' 98, slot a' 99, slot a' 100, slot a' 101, slot a' 102, slot a' 103, slot a' 104, slot a' 105, slot a' 106, slot a' 107, slot a' 108, slot a' 109, slot a' 110, slot a' 111, slot a' 112, slot a' 113, slot a' 114, slot a' 115, slot a' 116, slot a' 117, slot a' 118, slot a' 119, slot a' 120, slot a' 121, slot a' 122, slot a' 123, slot a' 124, slot a' 125, slot a' 126, slot a' 127, slot a' 128, slot a' 129], defers := [] }) (wayM outs p [] (o ++ [(r : Int)])) ?start2 ?round2
            case start2 => exact ⟨p, [], o ++ [(r : Int)], vx1, r, ⟨rfl, HW0.out, HT4.out, HK4.out⟩, rfl⟩
            case round2 =>
              rintro m a' wq ⟨p', st, o', vx', h, ⟨hm, hway, htq, hkq'⟩, hfr⟩ K2 hK2
              obtain ⟨u', hu'⟩ : ∃ u', slot a' = u' := ⟨_, rfl⟩
              rw [hu'] at hfr
              clear hu'
              subst hfr
              have HM := hide hm
              have HWY := hide hway
              have HTQ := hide htq
              have HKQ := hide hkq'
              clear hm hway htq hkq'
              go_wp2_with fail
              refine wp_loop_k (fun n' a' w' => ∃ (q : List Nat), (n' = wayM outs q st o' ∧ n' ≤ m ∧ Way outs q st o' (h : Int) T ∧ TuAt w' w1.heap.size gm gr (.slice (some ⟨go, 0, none⟩) outs.length cv) (.slice (some ⟨ga, 0, none⟩) outs.length outs.length) vx' vs (turned outs q st) q o' ∧ Kp No w1 w') ∧
                a' = { tmps := #[slot a' 0, .pointer (some ⟨w.heap.size, 0, none⟩), slot a' 2, slot a' 3, slot a' 4, slot a' 5, .slice (some ⟨go, 0, none⟩) outs.length cv, slot a' 7, slot a' 8, .slice (some ⟨ga, 0, none⟩) outs.length outs.length, .pointer (some ⟨gm, 0, none⟩), .pointer (some ⟨gr, 0, none⟩), .func (.func 74) #[] #[.pointer (some ⟨gm, 0, none⟩), .pointer (some ⟨gr, 0, none⟩)], slot a' 13, .int .i64 (h : Int), .int .i64 (hd st), slot a' 16, slot a' 17, slot a' 18, slot a' 19, slot a' 20, slot a' 21, slot a' 22, slot a' 23, slot a' 24, slot a' 25, slot a' 26, slot a' 27, slot a' 28, slot a' 29, slot a' 30, slot a' 31, slot a' 32, slot a' 33, slot a' 34, slot a' 35, slot a' 36, slot a' 37, slot a' 38, slot a' 39, slot a' 40, .slice (some ⟨b, ob, none⟩) roots.length cr, .int .i64 roots.length, .int .i64 k, slot a' 44, slot a' 45, slot a' 46, slot a' 47, slot a' 48, slot a' 49, slot a' 50, slot a' 51, slot a' 52, slot a' 53, slot a' 54, slot a' 55, slot a' 56, slot a' 57, slot a' 58, slot a' 59, slot a' 60, slot a' 61, slot a' 62, slot a' 63, slot a' 64, slot a' 65, slot a' 66, slot a' 67, slot a' 68, slot a' 69, slot a' 70, slot a' 71, slot a' 72, slot a' 73, slot a' 74, slot a' 75, slot a' 76, slot a' 77, slot a' 78, slot a' 79, slot a' 80, slot a' 81, slot a' 82, slot a' 83, slot a' 84, slot a' 85, slot a' 86, slot a' 87, slot a' 88, slot a' 89, slot a' 90, slot a' 91, slot a' 92, slot a' 93, slot a' 94, slot a' 95, slot a' 96, slot a' 97, slot a' 98, slot a' 99, slot a' 100, slot a' 101, slot a' 102, slot a' 103, slot a' 104, slot a' 105, slot a' 106, slot a' 107, slot a' 108, slot a' 109, slot a' 110, slot a' 111, slot a' 112, slot a' 113, slot a' 114, slot a' 115, slot a' 116, slot a' 117, slot a' 118, slot a' 119, slot a' 120, slot a' 121, slot a' 122, slot a' 123, slot a' 124, slot a' 125, slot a' 126, slot a' 127, slot a' 128, slot a' 129], defers := [] }) m ?start3 ?round3
              case start3 => exact ⟨p', ⟨HM.out, Nat.le_refl _, HWY.out, HTQ.out, HKQ.out⟩, rfl⟩
              case round3 =>
                rintro m2 a' wz ⟨q, ⟨hm, hle, hway, htq, hkq'⟩, hfr⟩ K3 hK3
                obtain ⟨u'', hu''⟩ : ∃ u'', slot a' = u'' := ⟨_, rfl⟩
                rw [hu''] at hfr
                clear hu''
                subst hfr
                have HM2 := hide hm
                have HLE := hide hle
                have HWZ := hide hway
                have HTZ := hide htq
                have HKZ := hide hkq'
                have hhr := hway.range (s := (h : Int)) (by simp)
                have hhn : h < outs.length := by omega
                obtain ⟨A, c, c1, c2, c3, c4, c5, c6, c7, c8, c9, hcell⟩ := htq.node (by rw [turned_length]) hway.len hhn hway.row
                have hal := hway.le (h : Int) hhr.1 hhr.2
                have hR4 := HOK.out.adjFew (x := (h : Int))
                clear hm hle hway htq hkq' HWY HTQ HKQ hhr
                have HSET := hide hcell
                have HA0 := hide hal
                have HN12 := hide (show ∀ x ∈ o', 0 ≤ x ∧ x < 12 from fun x hx => by have := HWZ.out.vd.range x hx; omega)
                have HOL3 := hide (show orIn 0 o' < 4096 from orIn_lt (by decide) fun y hy => by have := HN12.out y hy; omega)
                obtain ⟨m1, m2', m3⟩ := HTZ.out.mb.a1
                by_cases hlt : ax q (h : Int) < (adj outs (h : Int)).length
                · obtain ⟨g, rfl, d1, d2, d3, d4, d5, hset⟩ := hcell _ hlt
                  have hy := HOK.out.adjIn _ (List.getElem_mem hlt)
                  have hyg : (adj outs (h : Int))[ax q (h : Int)]? = some ((adj outs (h : Int))[ax q (h : Int)]) := List.getElem?_eq_getElem hlt
                  obtain ⟨y0, hy0⟩ : ∃ y, (adj outs (h : Int))[ax q (h : Int)] = y := ⟨_, rfl⟩
                  rw [hy0] at d1 hy hyg
                  obtain ⟨y, rfl⟩ : ∃ n : Nat, y0 = n := ⟨y0.toNat, by omega⟩
                  have HY := hide hyg
                  have HS2 := hide hset
                  have HCH3 := hide (fun w => chas_int (orIn 0 o') (y : Int) (by have := HOL3.out; omega) (by omega) (by omega) w)
                  have HMB3 := hide (marked_bit HWZ.out.vd (x := (y : Int)) (by omega))
                  have hyn : y < outs.length := by omega
                  clear hcell hset hyg hy0 hy hal
                  obtain ⟨a, ha⟩ : ∃ a, ax q (h : Int) = a := ⟨_, rfl⟩
                  obtain ⟨R, hR⟩ : ∃ R, adj outs (h : Int) = R := ⟨_, rfl⟩
                  have HAE := hide ha
                  have HRE := hide hR
                  rw [ha] at c4 d1 d2 HS2
                  rw [hR] at c1 c2 hR4 HS2
                  rw [ha, hR] at hlt
                  clear ha hR
                  by_cases hm : (y : Int) ∈ o'
                  · have HP := hide (HWZ.out.pass HY.out hm)
                    rw [decide_eq_true hm] at HMB3
                    clear hm
                    go_wp2_with fail
                    go_quiet (fail)
                    go_wp2_with fail
                    go_quiet (fail)
                    go_wp2_with fail
                    refine Calls.mono (HCH3.out _) ?_
                    rw [HMB3.out]
                    rintro e w5 ⟨rfl, rfl⟩
                    go_wp2_with fail
                    have hga := (own_lt HTZ.out.pos (g := ga) rfl).1
                    have hp := HP.out
                    rw [HAE.out, Int.toNat_natCast] at hp
                    have ht : ∀ N, TuAt ((wz.drewN N).setCell ⟨ga, h, none⟩ (.int .i64 ((a : Int) + 1))) w1.heap.size gm gr (.slice (some ⟨go, 0, none⟩) outs.length cv) (.slice (some ⟨ga, 0, none⟩) outs.length outs.length) vx' vs (turned outs (q.set h (a + 1)) st) (q.set h (a + 1)) o' := fun N => by
                      have ht := (HTZ.out.no ((Kp.refl No _).drewN N)).aset (g := ga) rfl (k := h) (by rw [HWZ.out.len]; exact hhn) (a + 1)
                      have e1 : ((a + 1 : Nat) : Int) = (a : Int) + 1 := by omega
                      rwa [e1, ← hp.2.1] at ht
                    exact hK3.out (wayM outs (q.set h (a + 1)) st o') _ _ (by rw [HM2.out]; exact hp.2.2) ⟨q.set h (a + 1), ⟨rfl, by have := hp.2.2; have := HM2.out; have := HLE.out; omega, hp.1, ht _, (HKZ.out.drewN _).trans' (kp_set _ _ _ _) fun b hb e => by unfold At at e; omega⟩, rfl⟩
                  · have HP := hide (HWZ.out.down HOK.out HY.out hm)
                    rw [decide_eq_false hm] at HMB3
                    clear hm
                    go_wp2_with fail
                    go_quiet (fail)
                    go_wp2_with fail
                    go_quiet (fail)
                    go_wp2_with fail
                    refine Calls.mono (HCH3.out _) ?_
                    rw [HMB3.out]
                    rintro e w5 ⟨rfl, rfl⟩
                    go_wp2_with fail
                    go_region
                    all_goals
                      have hp := HP.out
                      rw [HAE.out, HRE.out, Int.toNat_natCast] at hp
                      have hs : ∀ N, TuAt ((wz.drewN N).setCell ⟨g, a, none⟩ (.int .i64 (hd st))) w1.heap.size gm gr (.slice (some ⟨go, 0, none⟩) outs.length cv) (.slice (some ⟨ga, 0, none⟩) outs.length outs.length) vx' vs (turned outs q ((h : Int) :: st)) q o' := fun N => by
                        have ht := HS2.out (hd st)
                        rw [← hp.2.1] at ht
                        exact ht.no ((Kp.refl No (wz.setCell ⟨g, a, none⟩ (.int .i64 (hd st)))).drewN N)
                      have hk : ∀ N, Kp No w1 ((wz.drewN N).setCell ⟨g, a, none⟩ (.int .i64 (hd st))) := fun N => (HKZ.out.drewN N).trans' (kp_set _ _ _ _) fun b hb e => by unfold At at e; omega
                      have HSS := hide hs
                      have HKK := hide hk
                      have HV3 := hide (show Vd 12 o' from ⟨HWZ.out.vd.nodup, HN12.out⟩)
                      have HPP := hide hp
                      clear hs hk hp HS2 c1 c4 c5 d1 d2
                      go_wp2_with fail
                      refine Calls.mono (tmark_any (y : Int) _ (HSS.out _) HV3.out (by omega) (by omega) (HKK.out _).size) ?_
                      rintro e w6 ⟨rfl, vx2, ht6, hk6⟩
                      have HT6 := hide ht6
                      have HK6 := hide ((HKK.out _).trans' hk6 fun b hb e => by unfold Hi at e; omega)
                      clear ht6 hk6 m1 m2' m3
                      go_wp2_with fail
                      exact hK2.out (wayM outs q ((h : Int) :: st) (o' ++ [(y : Int)])) _ _ (by have := HPP.out.2.2; have := HM2.out; have := HLE.out; omega) ⟨q, (h : Int) :: st, o' ++ [(y : Int)], vx2, y, ⟨rfl, HPP.out.1, HT6.out, HK6.out⟩, rfl⟩
                · clear hcell
                  rcases st with _ | ⟨s0, st⟩
                  · have HD := hide (HWZ.out.done hlt)
                    rw [show hd [] = (-1 : Int) from rfl]
                    obtain ⟨a, ha⟩ : ∃ a, ax q (h : Int) = a := ⟨_, rfl⟩
                    obtain ⟨R, hR⟩ : ∃ R, adj outs (h : Int) = R := ⟨_, rfl⟩
                    rw [ha] at c4
                    rw [hR] at c1 c2 hR4
                    rw [ha, hR] at hlt
                    clear ha hR hal
                    go_wp2_with fail
                    go_quiet (fail)
                    go_wp2_with fail
                    rw [Exit.noGoto_normal]
                    go_wp2_with fail
                    exact hK1.out (n - 1) _ _ (by have := HN.out; omega) ⟨k + 1, q, o', vx', ⟨by have := HN.out; omega, by rw [HDS.out]; exact HD.out.1.symm, HWZ.out.rt, HTZ.out.no ((Kp.refl No wz).drewN _), HKZ.out.drewN _⟩, rfl⟩
                  · have HP := hide (HWZ.out.up hlt)
                    have hs0 := HWZ.out.range (s := s0) (by simp)
                    obtain ⟨s, rfl⟩ : ∃ n : Nat, s0 = n := ⟨s0.toNat, by omega⟩
                    rw [show hd ((s : Int) :: st) = (s : Int) from rfl]
                    have hsn : s < outs.length := by omega
                    obtain ⟨A2, cc, e1, e2, e3, e4, e5, _, _, _, _, hcell⟩ := HTZ.out.node (by rw [turned_length]) HWZ.out.len hsn rfl
                    have hpi := HP.out.1
                    have hp2 := HP.out.2
                    obtain ⟨a, ha⟩ : ∃ a, ax q (h : Int) = a := ⟨_, rfl⟩
                    obtain ⟨R, hR⟩ : ∃ R, adj outs (h : Int) = R := ⟨_, rfl⟩
                    rw [ha] at c4
                    rw [hR] at c1 c2 hR4
                    rw [ha, hR] at hlt
                    clear ha hR hal
                    obtain ⟨a2, ha2⟩ : ∃ a, ax q (s : Int) = a := ⟨_, rfl⟩
                    obtain ⟨R2, hR2⟩ : ∃ R, adj (turned outs q ((s : Int) :: st)) (s : Int) = R := ⟨_, rfl⟩
                    rw [ha2, hR2] at hpi
                    rw [ha2, hR2, Int.toNat_natCast] at hp2
                    rw [hR2] at e1 e2 hcell
                    rw [ha2] at e4
                    have hlt2 : a2 < R2.length := by
                      rcases Nat.lt_or_ge a2 R2.length with h' | h'
                      · exact h'
                      · rw [List.getElem?_eq_none h'] at hpi; cases hpi
                    obtain ⟨g, rfl, d1, d2, d3, d4, d5, hset⟩ := hcell a2 hlt2
                    rw [show R2[a2] = hd st by rw [List.getElem?_eq_getElem hlt2] at hpi; injection hpi] at d1
                    have ha4 : a2 ≤ 4 := by
                      have h1 := HWZ.out.le (s : Int) (by omega) (by omega)
                      have h2 := HOK.out.adjFew (x := (s : Int))
                      omega
                    have hga := (own_lt HTZ.out.pos (g := ga) rfl).1
                    have HT8 := hide (show ∀ N, TuAt (((wz.drewN N).setCell ⟨g, a2, none⟩ (.int .i64 (h : Int))).setCell ⟨ga, s, none⟩ (.int .i64 ((a2 : Int) + 1))) w1.heap.size gm gr (.slice (some ⟨go, 0, none⟩) outs.length cv) (.slice (some ⟨ga, 0, none⟩) outs.length outs.length) vx' vs (turned outs (q.set s (a2 + 1)) st) (q.set s (a2 + 1)) o' from fun N => by
                      have ht := hset (h : Int)
                      rw [hp2.1] at ht
                      have ht2 := (ht.no ((Kp.refl No (wz.setCell ⟨g, a2, none⟩ (.int .i64 (h : Int)))).drewN N)).aset (g := ga) rfl (k := s) (by rw [HWZ.out.len]; exact hsn) (a2 + 1)
                      rwa [show ((a2 + 1 : Nat) : Int) = (a2 : Int) + 1 by omega] at ht2)
                    have HK8 := hide (show ∀ N, Kp No w1 (((wz.drewN N).setCell ⟨g, a2, none⟩ (.int .i64 (h : Int))).setCell ⟨ga, s, none⟩ (.int .i64 ((a2 : Int) + 1))) from fun N => ((HKZ.out.drewN N).trans' (kp_set _ _ _ _) fun b hb e => by unfold At at e; omega).trans' (kp_set _ _ _ _) fun b hb e => by unfold At at e; omega)
                    have HPP := hide hp2
                    clear hcell hset hp2 hpi ha2 hR2 hs0 HP
                    go_wp2_with fail
                    go_quiet (fail)
                    go_wp2_with fail
                    go_quiet (fail)
                    go_wp2_with fail
                    go_region
                    all_goals
                      go_wp2_with fail
                      exact hK2.out (wayM outs (q.set s (a2 + 1)) st o') _ _ (by have := HPP.out.2.2; have := HM2.out; have := HLE.out; omega) ⟨q.set s (a2 + 1), st, o', vx', s, ⟨rfl, HPP.out.2.1, HT8.out _, HK8.out _⟩, rfl⟩
        · obtain rfl : k = roots.length := by omega
          rw [List.take_length] at hoo
          obtain ⟨e0, Ax, cx, hvx, _⟩ := own_form htu.out.ord
          rw [iv_length] at hvx
          subst hvx
          clear e0
          go_wp2_with fail
          refine bodyPost_ret (v := .tuple #[.slice Ax o.length cx, .slice Av outs.length cv, .nilIface]) (by simp [results, Tryd.results47, go_sem]) rfl ?_
          refine ⟨_, _, rfl, ?_, own_rows_in (htu.out.out) htu.out.row |>.mono fun b _ hb => ?_, HK1.out.trans hkq.out⟩
          · rw [show marksN outs roots = o from hoo.out.symm]
            exact .of_own htu.out.ord fun g hg => by have := (own_lt htu.out.ord hg).1; unfold Hi; omega
          · unfold Hi at hb ⊢; omega

theorem turn_bad {F : Nat → Prop} (vo vr : Value) (outs : List (List Int)) (roots : List Int) (w : World) (ho : RowsIn w F vo outs) (hr : IntsIn w F vr roots) (hbad : chk outs roots ≠ 0) :
    Calls Tryd.prog 47 #[.agg #[vo, vr]] w fun e w' => e = .returned (.tuple #[.slice none 0 0, .slice none 0 0, .iface 84 (.int .i64 (chk outs roots))]) ∧ Kp No w w' := by
  have HO := hide ho
  have HR := hide hr
  have HE := hide (errV_pos hbad)
  clear ho hr hbad
  go_enter Tryd.func47, Tryd.ntmps47
  go_wp2_with fail
  refine Calls.mono (check_any vo vr outs roots _ (HO.out.no ((Kp.refl No _).alloc _)) (HR.out.no ((Kp.refl No _).alloc _))) ?_
  rw [HE.out]
  rintro e w1 ⟨rfl, hk1⟩
  have HK1 := hide (((Kp.refl No w).alloc (.cells #[vo, vr] 25)).trans' hk1 fun _ _ h => h)
  clear hk1
  go_wp2
  refine bodyPost_ret (v := .tuple #[.slice none 0 0, .slice none 0 0, .iface 84 (.int .i64 (chk outs roots))]) (by simp [results, Tryd.results47, go_sem]) rfl ?_
  exact ⟨rfl, HK1.out⟩
end Go.Proofs.YtgbdjidjbcbhjaaDoor
