/- slices.Collect of the bits of a set, and sweep.anew: walked. -/
import Derived.Test.YtgbdjidjbcbhjaaDoorSweepMark0
namespace Go.Proofs.YtgbdjidjbcbhjaaDoor
open Go.RowKit Go.Shelf
set_option linter.unusedSimpArgs false
attribute [local go_sem] Oper.semAt_some

theorem mark_bad {F : Nat → Prop} (vo vr : Value) (outs : List (List Int)) (roots : List Int) (w : World) (ho : RowsIn w F vo outs) (hr : IntsIn w F vr roots) (hbad : chk outs roots ≠ 0) :
    Calls Tryd.prog 46 #[.agg #[vo, vr]] w fun e w' => e = .returned (.tuple #[.slice none 0 0, .iface 84 (.int .i64 (chk outs roots))]) ∧ Kp No w w' := by
  have HO := hide ho
  have HR := hide hr
  have HE := hide (errV_pos hbad)
  clear ho hr hbad
  refine (callsIn_wide (n := 8)).1 ?_
  refine callsIn_of_wp_marks Tryd.func46 rfl trivial ?_ rfl
  refine wpIn_wide.2 ?_
  simp only [Tryd.ntmps46, List.size_toArray, List.length_cons, List.length_nil, Nat.reduceAdd, Nat.reduceSub, Array.replicate_succ, Array.replicate_zero, List.push_toArray, List.append_toArray, List.nil_append, List.cons_append]
  go_wp2_with fail
  refine Calls.mono (check_any vo vr outs roots _ (HO.out.no ((Kp.refl No _).alloc _)) (HR.out.no ((Kp.refl No _).alloc _))) ?_
  rw [HE.out]
  rintro e w1 ⟨rfl, hk1⟩
  have HK1 := hide (((Kp.refl No w).alloc (.cells #[vo, vr] 25)).trans' hk1 fun _ _ h => h)
  clear hk1
  go_wp2
  refine leaves_marks (Ds := []) (.none w1.heap.size _) fun W' hk' => ?_
  exact ⟨_, by simp [results, Tryd.results46, go_sem], rfl, HK1.out.trans' hk' fun k hk e => by have := HK1.out.size; omega⟩

/-- the numbers of the bits -/
def leftL (s : Nat) : List Int := (bitsTo s 12).map fun i : Nat => (i : Int)

/-- what is collected so far -/
def ColTo (s Bp : Nat) (W0 : World) (pre : List (BitOf s)) (W : World) : Prop :=
  ∃ v, Blk W Bp 23 #[v] ∧ W.ownsRow W0.heap.size 3 1 v pre.length (iv (pre.map fun y => (y.1 : Int))) ∧ Kp (At Bp) W0 W
theorem ColTo.own {s Bp : Nat} {W0 : World} (hB : Bp < W0.heap.size) : OwnFrom W0.heap.size (ColTo s Bp W0) := by
  rintro _ _ _ _ ⟨v, h1, h2, h3⟩ hgr hr
  exact ⟨v, h1.grown hgr fun e => by have := (hr _ e.symm).1; omega, own_row_from h2 hgr fun r e => (hr r e).2, h3.grown hgr fun k e hk => by have := (hr k e).1; omega⟩

/-- a fresh list of ints of whatever value -/
def NewInts (w : World) (xs : List Int) (e : Ending) (w' : World) : Prop := ∃ v, e = .returned v ∧ IntsIn w' (Hi w.heap.size) v xs ∧ Kp No w w'

set_option maxRecDepth 100000 in
set_option maxHeartbeats 4000000 in
theorem appendSeq_any (s B : Nat) (hs : s < 4096) (w : World) (hb : Blk w B 3 #[.int .i64 s]) :
    Calls Tryd.prog 81 #[.slice none 0 0, .func (.func 79) #[] #[.pointer (some ⟨B, 0, none⟩)]] w (NewInts w (leftL s)) := by
  have HB := hide hb
  clear hb
  refine (callsIn_wide (n := 8)).1 ?_
  refine callsIn_of_wp_marks Tryd.func81 rfl trivial ?_ rfl
  refine wpIn_wide.2 ?_
  simp only [Tryd.ntmps81, List.size_toArray, List.length_cons, List.length_nil, Nat.reduceAdd, Nat.reduceSub, Array.replicate_succ, Array.replicate_zero, List.push_toArray, List.append_toArray, List.nil_append, List.cons_append]
  go_wp2_with fail
  obtain ⟨W0, hW0⟩ : ∃ W0, w.alloc (.cells #[.slice none 0 0] 23) = W0 := ⟨_, rfl⟩
  have hz1 : W0.heap.size = w.heap.size + 1 := by rw [← hW0]; simp
  have HK0 := hide (show Kp No w W0 by rw [← hW0]; exact (Kp.refl No w).alloc _)
  have hbw : B < w.heap.size := HB.out.lt
  have HP0 := hide (show Blk W0 w.heap.size 23 #[.slice none 0 0] by rw [← hW0]; exact Blk.new w _ _)
  rw [hW0]
  clear hW0
  refine (wpIn_wide (n := 8)).1 ?_
  refine wpIn_rangeFunc_ownG rfl (by decide) (gf := 79) (lb := #[.pointer (some ⟨B, 0, none⟩)]) rfl trivial (enters_of Tryd.func79 (by kernel_rfl) rfl)
    (bits_stops 7 (by decide) B s hs W0 (HB.out.kp HK0.out id) (by omega)) SetKept.trans (fun W l _ o' hl _ _ _ => SetKept.put (n := W0.heap.size) (by omega) W l o' hl) (Below.refl _ _) (fun _ => rfl)
    (ColTo s w.heap.size W0) (fun _ _ _ => False) (ColTo.own (by omega)) (fun _ _ _ _ _ h _ _ => h) ⟨_, HP0.out, World.ownsRow_nil _ _ _ _, Kp.refl _ _⟩ ?a1 ?assign ?body ?done ?stop
  case assign =>
    intro l x W K hK
    gi_wp2
    exact hK
  case stop =>
    rintro D c pre W _ _ h _
    exact h.elim
  case body =>
    rintro l pre y W ⟨v, hb, hown, hkp⟩ hpl
    have HLN := hide (show (pre ++ [y]).map (fun y => (y.1 : Int)) = pre.map (fun y => (y.1 : Int)) ++ [(y.1 : Int)] by simp)
    obtain ⟨L, hL⟩ : ∃ L, pre.map (fun y => (y.1 : Int)) = L := ⟨_, rfl⟩
    rw [hL] at HLN hown
    have hpl2 : pre.length = L.length := by rw [← hL]; simp
    rw [hpl2] at hown hpl
    obtain ⟨e0, Av, cv, hv, _⟩ := own_form hown
    rw [iv_length] at hv
    subst hv
    have hWb : W0.heap.size ≤ W.heap.size := hkp.size
    have HBP := hide hb
    have HOWN := hide hown
    have HKP := hide hkp
    obtain ⟨c1, c2, c3⟩ := hb.a1
    have HPL := hide hpl2
    clear hb hown hkp hL e0 hpl2
    gi_wp2_with (gi_at_builtin; refine wpListIn_push _ rfl (.tmp 8) (.tmp 10) _ rfl W0.heap.size 3 _ 8 Tryd.underlying23 Tryd.infoInt rfl (.slice Av L.length cv) L.length (iv L) rfl HOWN.out _ rfl 1 _ rfl (by rfl) (by omega) (by decide) hWb ?_)
    intro g3 c4 w' ho' hgr' hat'
    have HB2 := hide (show Blk w' w.heap.size 23 #[.slice Av L.length cv] from (HBP.out.alloc _).grown hgr' fun e => own_ne_blk HOWN.out HBP.out (by decide) e.symm)
    have HKY := hide (show Kp (At w.heap.size) W0 w' from (HKP.out.alloc _).grown hgr' fun k e hk => by have := (own_lt HOWN.out e).1; omega)
    have HKF := hide (show KeepsFrom W0.heap.size W w' from keeps_grown (keeps_alloc (KeepsFrom.refl _ W) _) hgr' (own_cells (HOWN.out.alloc _)))
    have HSK := hide (show SetKept B W w' from (hgr'.block _ (by simp; omega) (fun e => by have := (own_lt HOWN.out e.symm).1; omega)).trans (Below.heap_alloc _ _ _ (by omega)))
    have HO' := hide ho'
    clear c1 c2 c3 ho' hgr' hat'
    obtain ⟨c1, c2, c3⟩ := HB2.out.a1
    gi_wp2
    refine ⟨HKF.out.trans (KeepsFrom.of_kp (S := At w.heap.size) (kp_set _ _ _ _) fun k e => by unfold At at e; omega), ?_, _, HB2.out.set_ 0 _, ?_, HKY.out.trans (kp_set _ _ _ _)⟩
    · exact ((Below.heap_setCell w' ⟨w.heap.size, 0, none⟩ _ _ (by simp; omega)).trans HSK.out)
    · rw [HLN.out, List.length_append, List.length_singleton, iv_snoc, HPL.out, hz1]
      exact own_kp HO'.out (kp_set _ _ _ _) fun b hb e => by unfold At at e; subst e; exact own_ne_blk HO'.out HB2.out (by decide) hb
  case done =>
    rintro D ys W hD hys ⟨v, hb, hown, hkp⟩ hd
    have hyt : ys.map (·.1) = bitsTo s 12 := hys
    have hyl : ys.map (fun y => (y.1 : Int)) = leftL s := by unfold leftL; rw [← hyt, List.map_map]; rfl
    rw [hyl] at hown
    obtain ⟨c1, c2, c3⟩ := hb.a1
    have HOWN := hide hown
    have HKP := hide (HK0.out.trans' (S' := At w.heap.size) hkp fun b hb e => by unfold At at e; omega)
    have HD := hide hd
    have HDZ := hide hD
    clear hb hown hkp hyl hyt hys hd
    go_wp2
    refine leaves_marks' (Ds := [D]) (S := fun b => b = D) (lo := w.heap.size) ⟨by simp, fun E hE => by simp at hE; subst hE; exact ⟨by omega, HD.out⟩⟩ (fun E hE => by simpa using hE) fun W' hk' => ?_
    have hown := own_kp HOWN.out hk' fun b hb e => by
      subst e
      obtain ⟨ob, h1, h2⟩ := own_cells HOWN.out b hb
      rw [HD.out] at h1
      cases h1
      simp [Obj.isCells] at h2
    refine ⟨_, by simp [results, Tryd.results81, go_sem], v, rfl, ?_, ?_⟩
    · exact .of_own hown fun g hg => by have := (own_lt hown hg).1; unfold Hi; omega
    · exact HKP.out.trans' hk' fun b hb e => by have := HDZ.out; omega

theorem collect_any (s B : Nat) (hs : s < 4096) (w : World) (hb : Blk w B 3 #[.int .i64 s]) :
    Calls Tryd.prog 75 #[.func (.func 79) #[] #[.pointer (some ⟨B, 0, none⟩)]] w (NewInts w (leftL s)) := by
  have HB := hide hb
  clear hb
  go_enter Tryd.func75, Tryd.ntmps75
  go_wp2_with fail
  refine Calls.mono (appendSeq_any s B hs _ HB.out) ?_
  rintro e w1 ⟨v, rfl, h1, h2⟩
  have H1 := hide h1
  have H2 := hide h2
  clear h1 h2
  go_wp2
  go_ret
  exact ⟨v, rfl, H1.out, H2.out⟩
end Go.Proofs.YtgbdjidjbcbhjaaDoor
