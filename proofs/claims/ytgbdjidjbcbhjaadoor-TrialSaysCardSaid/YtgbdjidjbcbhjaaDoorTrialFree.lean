/- trial.Free, walked: what is free from one node on; or what is wrong. -/
import Derived.Test.YtgbdjidjbcbhjaaDoorTrialCounts
import Derived.Test.YtgbdjidjbcbhjaaDoorKeeps
import Derived.Test.YtgbdjidjbcbhjaaDoorReach
import Derived.Test.YtgbdjidjbcbhjaaDoorPushIn
namespace Go.Proofs.YtgbdjidjbcbhjaaDoor
open Go.RowKit Go.Shelf
attribute [local go_sem] Oper.semAt_some

theorem andnot_nat (a b : Nat) (ha : a < 4096) (hb : b < 4096) : bits BinOp.andNot IntKind.i64 (a : Int) (b : Int) = ((a &&& (4095 ^^^ b) : Nat) : Int) := by
  have e1 : (BitVec.ofInt 64 (a : Int)).toNat = a := by rw [BitVec.ofInt_natCast, BitVec.toNat_ofNat]; exact Nat.mod_eq_of_lt (by omega)
  have e2 : (BitVec.ofInt 64 (b : Int)).toNat = b := by rw [BitVec.ofInt_natCast, BitVec.toNat_ofNat]; exact Nat.mod_eq_of_lt (by omega)
  have hx : a &&& (4095 ^^^ b) < 4096 := Nat.lt_of_le_of_lt Nat.and_le_left ha
  have key : a &&& (2 ^ 64 - 1 - b) = a &&& (4095 ^^^ b) := by
    apply Nat.eq_of_testBit_eq
    intro i
    rw [Nat.testBit_and, Nat.testBit_and, Nat.testBit_xor]
    rcases Nat.lt_or_ge i 12 with hi | hi
    · have h1 : (2 ^ 64 - 1 - b).testBit i = !b.testBit i := by
        have := Nat.testBit_two_pow_sub_succ (x := b) (n := 64) (by omega) i
        rw [show 2 ^ 64 - 1 - b = 2 ^ 64 - (b + 1) by omega, this]
        simp; omega
      have h2 : (4095 : Nat).testBit i = true := by
        have := Nat.testBit_two_pow_sub_one 12 i
        rw [show (2 ^ 12 - 1 : Nat) = 4095 from rfl] at this
        rw [this]; simpa using hi
      rw [h1, h2]
      simp
    · have h3 : a.testBit i = false := Nat.testBit_lt_two_pow (Nat.lt_of_lt_of_le ha (Nat.pow_le_pow_right (n := 2) (by decide) hi))
      rw [h3]
      simp
  show IntKind.i64.wrap ((BitVec.ofInt 64 (a : Int) &&& ~~~ BitVec.ofInt 64 (b : Int)).toNat : Int) = _
  rw [BitVec.toNat_and, BitVec.toNat_not, e1, e2, key, IntKind.wrap_i64]
  omega

/-- what holds between two rounds of the first loop -/
def CntHeld (base g n : Nat) (C : Value) (xs : List Int) (outs : List (List Int)) (s : Nat) (W0 : World) (pre : List (BitOf s)) (W : World) : Prop :=
  W.ownsRow base 3 1 C n (iv (dif n xs (outOf outs (pre.map (·.1))))) ∧ Kp (At g) W0 W
theorem CntHeld.own {base g n : Nat} {C : Value} {xs : List Int} {outs : List (List Int)} {s : Nat} {W0 : World} : OwnFrom W0.heap.size (CntHeld base g n C xs outs s W0) :=
  fun _ _ _ _ hs hgr hr => ⟨own_row_from hs.1 hgr fun r e => (hr r e).2, hs.2.grown hgr fun k e hk => by have := (hr k e).1; omega⟩

/-- and of the second -/
def HeldTo (Bh : Nat) (cnts : List Int) (s : Nat) (W0 : World) (pre : List (BitOf s)) (W : World) : Prop :=
  ∃ vh, Blk W Bh 23 #[vh] ∧ W.ownsRow W0.heap.size 3 1 vh (heldTo cnts (pre.map (·.1))).length (iv (heldTo cnts (pre.map (·.1)))) ∧ Kp (At Bh) W0 W
theorem HeldTo.own {Bh : Nat} {cnts : List Int} {s : Nat} {W0 : World} (hB : Bh < W0.heap.size) : OwnFrom W0.heap.size (HeldTo Bh cnts s W0) := by
  rintro _ _ _ _ ⟨vh, h1, h2, h3⟩ hgr hr
  exact ⟨vh, h1.grown hgr fun e => by have := (hr _ e.symm).1; omega, own_row_from h2 hgr fun r e => (hr r e).2, h3.grown hgr fun k e hk => by have := (hr k e).1; omega⟩

set_option maxRecDepth 100000 in
set_option maxHeartbeats 4000000 in
theorem free_ok {F : Nat → Prop} (vo vr : Value) (outs : List (List Int)) (roots : List Int) (x : Int) (w : World) (ho : RowsIn w F vo outs) (hr : IntsIn w F vr roots) (hok : Ok outs roots) (hx : Ok outs [x]) :
    Calls Tryd.prog 24 #[.agg #[vo, vr], .int .i64 x] w fun e w' => e = .returned (.tuple #[.int .i64 (freeN outs roots x : Nat), .nilIface]) ∧ Kp No w w' := by
  have HO := hide (ho.mono (F' := Lo w.heap.size) fun k h _ => h)
  have HR := hide (hr.mono (F' := Lo w.heap.size) fun k h _ => h)
  have HOK := hide hok
  have HX := hide hx
  have HL := hide hok.n12
  have HE := hide (chk_of_ok hok)
  have hx0 : 0 ≤ x ∧ x < outs.length := hx.root x (by simp)
  have HBT := hide (show btw x 0 ((outs.length : Int) - 1) = true from btw_iff.2 ⟨hx0.1, by omega⟩)
  clear ho hr hok hx
  refine (callsIn_wide (n := 8)).1 ?_
  refine callsIn_of_wp_marks Tryd.func24 rfl trivial ?_ rfl
  refine wpIn_wide.2 ?_
  simp only [Tryd.ntmps24, List.size_toArray, List.length_cons, List.length_nil, Nat.reduceAdd, Nat.reduceSub, Array.replicate_succ, Array.replicate_zero, List.push_toArray, List.append_toArray, List.nil_append, List.cons_append]
  go_wp2_with fail
  refine Calls.mono (counts_ok vo vr outs roots _ (HO.out.no ((Kp.refl No _).alloc _)) (HR.out.no ((Kp.refl No _).alloc _)) HOK.out) ?_
  unfold CountsPost
  rintro e w1 ⟨C, rfl, hC, hk1⟩
  rw [World.size_alloc] at hC
  obtain ⟨g0, cc, hCv, hcc, hmc, _, _, hg0, hg1⟩ := own_cap hC (k := 0) (by rw [iv_length, dif_length]; omega)
  rw [iv_length, dif_length] at hCv hcc
  subst hCv
  have hb1 := (Blk.new w 25 #[vo, vr]).kp hk1 id
  have HK1 := hide (((Kp.refl No w).alloc (.cells #[vo, vr] 25)).trans' hk1 fun _ _ h => h)
  obtain ⟨a1, a2, a3, a4, a5⟩ := hb1.a2
  have HB1 := hide hb1
  have HC := hide hC
  clear hk1 hb1 hC
  obtain ⟨Ar, cr, rfl, hcr, hmr, _⟩ := id HR.out
  obtain ⟨Ao, co, rfl, hco, hmo, _⟩ := RowsIn.form HO.out
  go_wp2_with fail
  refine Calls.mono (within_any x 0 ((outs.length : Int) - 1) _) ?_
  rw [HBT.out]
  rintro e w2 ⟨rfl, rfl⟩
  go_wp2_with fail
  have HKW := hide ((HK1.out.alloc (.cells #[.slice (some ⟨g0, 0, none⟩) outs.length cc] 23)).alloc (.cells #[.int .i64 x] 3))
  have hBx : Blk ((w1.alloc (.cells #[.slice (some ⟨g0, 0, none⟩) outs.length cc] 23)).alloc (.cells #[.int .i64 x] 3)) (w1.heap.size + 1) 3 #[.int .i64 x] := Blk.at_ _ _ (by simp)
  refine Calls.mono (reach_ok (F := fun _ => True) _ _ outs [x] _ ((HO.out.no HKW.out).mono fun _ _ _ => trivial) (one_blk hBx trivial) HX.out) ?_
  rintro e w3 ⟨rfl, hk3⟩
  have HK13 := hide ((((Kp.refl No w1).alloc (.cells #[.slice (some ⟨g0, 0, none⟩) outs.length cc] 23)).alloc (.cells #[.int .i64 x] 3)).trans' hk3 fun _ _ h => h)
  have HB6 := hide ((((Blk.new w1 23 #[.slice (some ⟨g0, 0, none⟩) outs.length cc]).alloc (.cells #[.int .i64 x] 3))).kp hk3 id)
  have HN := hide (reachN_lt HX.out)
  have HRB := hide (fun i : Nat => (reachN_bit HX.out (i := i)).1)
  have hHz := hide (show w1.heap.size + 2 ≤ w3.heap.size by have := hk3.size; simp at this; omega)
  clear hk3 hBx a1 a2 a3 a4
  obtain ⟨s, hs⟩ : ∃ s, s = reachN outs [x] := ⟨_, rfl⟩
  rw [← hs] at HN HRB ⊢
  have HS := hide hs
  clear hs
  go_wp2_with fail
  refine Calls.mono (bits_any _ _) ?_
  rintro e w4 ⟨rfl, rfl⟩
  go_wp2_with fail
  obtain ⟨W0, hW0⟩ : ∃ W0, w3.alloc (.cells #[.int .i64 (s : Nat)] 3) = W0 := ⟨_, rfl⟩
  have hz1 : W0.heap.size = w3.heap.size + 1 := by rw [← hW0]; simp
  have hz3 : w1.heap.size + 2 ≤ w3.heap.size := by
    have h1 := hHz.out
    exact h1
  have HKW0 := hide (show Kp No w1 W0 by rw [← hW0]; exact HK13.out.alloc _)
  have HB6W := hide (show Blk W0 w1.heap.size 23 #[.slice (some ⟨g0, 0, none⟩) outs.length cc] by rw [← hW0]; exact HB6.out.alloc _)
  have HSB := hide (show Blk W0 w3.heap.size 3 #[.int .i64 (s : Nat)] by rw [← hW0]; exact Blk.new w3 _ _)
  rw [hW0]
  clear hW0
  refine (wpIn_wide (n := 8)).1 ?_
  refine wpIn_rangeFunc_ownG rfl (by decide) (gf := 79) (lb := #[.pointer (some ⟨w3.heap.size, 0, none⟩)]) rfl trivial (enters_of Tryd.func79 (by kernel_rfl) rfl)
    (bits_stops 7 (by decide) w3.heap.size s HN.out W0 HSB.out (by omega)) SetKept.trans (fun W l _ o' hl _ _ _ => SetKept.put (n := W0.heap.size) (by omega) W l o' hl) (Below.refl _ _) (fun _ => rfl)
    (CntHeld (w.heap.size + 1) g0 outs.length (.slice (some ⟨g0, 0, none⟩) outs.length cc) (roots ++ outs.flatten) outs s W0) (fun _ _ _ => False) CntHeld.own (fun _ _ _ _ _ h _ _ => h) ⟨own_kp HC.out HKW0.out fun _ _ h => h, Kp.refl _ _⟩ ?a1 ?assign ?body ?done ?stop
  case assign =>
    intro l x W K hK
    gi_wp2
    exact hK
  case stop =>
    rintro D c pre W _ _ h _
    exact h.elim
  case body =>
    rintro l pre y W ⟨hCn, hKp⟩ hpl
    have hxr := (HRB.out y.1 y.2.2).range HX.out
    have hxl : y.1 < outs.length := by omega
    have hy12 : y.1 < 12 := by have := HL.out; omega
    have HCN := hide hCn
    have HKP := hide hKp
    have HKW := hide ((HK1.out.trans HKW0.out).trans' (S' := At g0) hKp fun k hk e => by unfold At at e; omega)
    obtain ⟨a1, a2, a3, a4, _⟩ := (((HB1.out.kp HKW0.out id).kp hKp (fun e => by unfold At at e; omega))).a2
    obtain ⟨b1, b2, b3⟩ := (HB6W.out.kp hKp (fun e => by unfold At at e; omega)).a1
    obtain ⟨_, _, e, _, _, hrow⟩ := RowsIn.form (HO.out.no HKW.out)
    cases e
    obtain ⟨bo, oo, A', c', rfl, _, hrc, hri⟩ := hrow y.1 hxl
    clear hrow
    obtain ⟨_, _, e, hl', hm', _⟩ := id hri
    cases e
    have hadj : adj outs (y.1 : Int) = outs[y.1] := by
      unfold adj
      rw [Int.toNat_natCast, List.getD_eq_getElem?_getD, List.getElem?_eq_getElem hxl]
      rfl
    rw [← hadj] at hrc hri hl'
    clear hadj
    have HRW := hide (hri.mono (F' := fun b => b ≠ g0) fun b _ hb e => by subst e; unfold Lo at hb; omega)
    have HT := hide (show outOf outs ((pre ++ [y]).map (·.1)) = outOf outs (pre.map (·.1)) ++ adj outs (y.1 : Int) by rw [List.map_append, List.map_cons, List.map_nil, outOf_snoc])
    have HPL := hide (show (outOf outs (pre.map (·.1))).length ≤ 4 * (pre.map (·.1)).length by
      unfold outOf
      rw [List.flatMap_def]
      have := flat_len (n := 4) (ls := (pre.map (·.1)).map fun i : Nat => adj outs (i : Int)) fun l hl => by
        obtain ⟨i, _, rfl⟩ := List.mem_map.1 hl
        exact HOK.out.adjFew
      rwa [List.length_map] at this)
    have hfa := HOK.out.adjFew (x := (y.1 : Int))
    have HXL := hide (show (roots ++ outs.flatten).length ≤ 100 by
      rw [List.length_append]
      have h1 := flat_len (n := 4) (ls := outs) HOK.out.few
      have h2 := HOK.out.r12
      have h3 : 4 * outs.length ≤ 4 * 12 := Nat.mul_le_mul_left _ HL.out
      omega)
    clear hCn hKp hri
    gi_wp2
    gi_loopw [52] (fun p wv => ∃ k : Nat, p = .int .i64 k ∧ k ≤ (adj outs (y.1 : Int)).length ∧ wv.ownsRow (w.heap.size + 1) 3 1 (.slice (some ⟨g0, 0, none⟩) outs.length cc) outs.length (iv (dif outs.length (roots ++ outs.flatten) (outOf outs (pre.map (·.1)) ++ (adj outs (y.1 : Int)).take k))) ∧ Kp (At g0) W wv)
      (fun p _ => (adj outs (y.1 : Int)).length - (intOf p).toNat)
    case atStart => exact ⟨0, rfl, Nat.zero_le _, by rw [List.take_zero, List.append_nil]; exact HCN.out, Kp.refl _ _⟩
    case round =>
      obtain ⟨k, rfl, hk, hc, hkp⟩ := hrel
      have HCV := hide hc
      have HKV := hide hkp
      clear hc b1 b2 b3
      obtain ⟨b1, b2, b3⟩ := ((HB6W.out.kp HKP.out (fun e => by unfold At at e; omega)).kp hkp (fun e => by unfold At at e; omega)).a1
      clear hkp
      by_cases hlt : k < (adj outs (y.1 : Int)).length
      · obtain ⟨_, _, e, _, _, hcell⟩ := HRW.out.kp HKV.out fun _ h => h
        cases e
        obtain ⟨b, o, rfl, _, hcx⟩ := hcell k hlt
        clear hcell
        have hx := HOK.out.adjIn _ (List.getElem_mem hlt)
        obtain ⟨z, hze⟩ : ∃ z : Nat, (z : Int) = (adj outs (y.1 : Int))[k] := ⟨_, Int.toNat_of_nonneg hx.1⟩
        have hzl : z < outs.length := by omega
        have HS := hide (dif_sub (roots ++ outs.flatten) (outOf outs (pre.map (·.1)) ++ (adj outs (y.1 : Int)).take k) hx.1 hx.2)
        have HTK := hide (show outOf outs (pre.map (·.1)) ++ (adj outs (y.1 : Int)).take (k + 1) = (outOf outs (pre.map (·.1)) ++ (adj outs (y.1 : Int)).take k) ++ [(adj outs (y.1 : Int))[k]] by rw [List.take_succ_eq_append_getElem hlt, List.append_assoc])
        have hbd := dif_bd (roots ++ outs.flatten) (outOf outs (pre.map (·.1)) ++ (adj outs (y.1 : Int)).take k) hzl
        have hlen : (outOf outs (pre.map (·.1)) ++ (adj outs (y.1 : Int)).take k).length ≤ 1000 := by
          rw [List.length_append, List.length_take]
          have h2 := HPL.out
          rw [List.length_map] at h2
          omega
        have hlen2 := HXL.out
        rw [← hze] at hcx HTK
        simp only [← hze, Int.toNat_natCast] at HS
        obtain ⟨g2, c2, e, _, _, hcl, hfr, _, hg2, hset⟩ := own_int HCV.out (k := z) (by rw [dif_length]; exact hzl)
        injection e with e1 e2 e3
        clear e2 e3
        injection e1 with e1
        injection e1 with e1
        subst e1
        obtain ⟨d, hd⟩ : ∃ d, d = (dif outs.length (roots ++ outs.flatten) (outOf outs (pre.map (·.1)) ++ (adj outs (y.1 : Int)).take k))[z]'(by rw [dif_length]; exact hzl) := ⟨_, rfl⟩
        rw [← hd] at hcl hbd HS
        have hb0 : -1000 ≤ d := by omega
        have hb1 : d ≤ 1000 := by omega
        have hset := hset (d - 1)
        rw [← HS.out, ← HTK.out] at hset
        have HSET := hide hset
        clear hset hbd hlen hze hd hx HS HTK hlen2
        gi_wp2
        exact ⟨⟨k + 1, by go_num, hlt, HSET.out, HKV.out.setCell (p := ⟨g0, z, none⟩) (fun _ => rfl) _⟩, by simp [intOf]; omega⟩
      · obtain rfl : k = (adj outs (y.1 : Int)).length := by omega
        rw [List.take_length, ← HT.out] at HCV
        gi_wp2
        exact ⟨KeepsFrom.of_kp HKV.out (fun k e => by unfold At at e; omega), HKV.out.block _ (by have := HKP.out.size; omega) (fun e => by unfold At at e; omega), HCV.out, HKP.out.trans HKV.out⟩
  case done =>
    rintro D ys W hD hys ⟨hCn, hKp⟩ hd
    have hyt : ys.map (·.1) = bitsTo s 12 := hys
    rw [hyt] at hCn
    have HCN := hide hCn
    have HKP := hide hKp
    have HD := hide hd
    have HCT := hide (show dif outs.length (roots ++ outs.flatten) (outOf outs (bitsTo s 12)) = cntsN outs roots s from rfl)
    rw [HCT.out] at HCN
    clear hCn hKp hd hyt hys HCT
    go_wp2_with fail
    refine Calls.mono (bits_any _ _) ?_
    rintro e w4 ⟨rfl, rfl⟩
    go_wp2_with fail
    obtain ⟨V0, hV0⟩ : ∃ V0, (W.alloc (.cells #[.slice none 0 0] 23)).alloc (.cells #[.int .i64 (s : Nat)] 3) = V0 := ⟨_, rfl⟩
    have hv1 : V0.heap.size = W.heap.size + 1 + 1 := by rw [← hV0]; simp
    have hWz : W0.heap.size ≤ W.heap.size := HKP.out.size
    have HKV0 := hide (show Kp (At g0) W0 V0 by rw [← hV0]; exact (HKP.out.alloc _).alloc _)
    have HBH := hide (show Blk V0 W.heap.size 23 #[.slice none 0 0] by rw [← hV0]; exact (Blk.new W _ _).alloc _)
    have HSB2 := hide (show Blk V0 (W.heap.size + 1) 3 #[.int .i64 (s : Nat)] by rw [← hV0]; exact Blk.at_ _ _ (by simp))
    have HCV := hide (show V0.ownsRow (w.heap.size + 1) 3 1 (.slice (some ⟨g0, 0, none⟩) outs.length cc) outs.length (iv (cntsN outs roots s)) by rw [← hV0]; exact (HCN.out.alloc _).alloc _)
    have HDV := hide (show V0.heap[D]? = some (.deferred (some [])) by
      have hDl := (Array.getElem?_eq_some_iff.1 HD.out).1
      rw [← hV0]; exact (Below.heap_alloc _ _ _ (by simp; omega)).trans ((Below.heap_alloc _ _ _ hDl).trans HD.out))
    have hDl : D < W.heap.size := (Array.getElem?_eq_some_iff.1 HD.out).1
    rw [hV0]
    clear hV0
    refine (wpIn_wide (n := 8)).1 ?_
    refine wpIn_rangeFunc_ownG rfl (by decide) (gf := 79) (lb := #[.pointer (some ⟨W.heap.size + 1, 0, none⟩)]) rfl trivial (enters_of Tryd.func79 (by kernel_rfl) rfl)
      (bits_stops 7 (by decide) (W.heap.size + 1) s HN.out V0 HSB2.out (by omega)) SetKept.trans (fun W l _ o' hl _ _ _ => SetKept.put (n := V0.heap.size) (by omega) W l o' hl) (Below.refl _ _) (fun _ => rfl)
      (HeldTo W.heap.size (cntsN outs roots s) s V0) (fun _ _ _ => False) (HeldTo.own (by omega)) (fun _ _ _ _ _ h _ _ => h) ⟨_, HBH.out, World.ownsRow_nil _ _ _ _, Kp.refl _ _⟩ ?a1B ?assignB ?bodyB ?doneB ?stopB
    case assignB =>
      intro l x W K hK
      gi_wp2
      exact hK
    case stopB =>
      rintro D c pre W _ _ h _
      exact h.elim
    case bodyB =>
      rintro l pre y X ⟨vh, hb, hown, hKp⟩ hpl
      have hxr := (HRB.out y.1 y.2.2).range HX.out
      have hxl : y.1 < outs.length := by omega
      have hXz : V0.heap.size ≤ X.heap.size := hKp.size
      have HOWN := hide hown
      have HB := hide hb
      have HKX := hide hKp
      obtain ⟨b1, b2, b3⟩ := ((HB6W.out.kp HKV0.out (fun e => by unfold At at e; omega)).kp hKp (fun e => by unfold At at e; omega)).a1
      obtain ⟨c1, c2, c3⟩ := hb.a1
      obtain ⟨g2, cc2, e, _, _, hcl, hfr, _, _, _⟩ := own_int (own_kp HCV.out hKp (fun g hg e => by unfold At at e; simp [Value.ownBlock] at hg; omega)) (k := y.1) (by unfold cntsN; rw [dif_length]; exact hxl)
      injection e with e1 e2 e3
      clear e2 e3
      injection e1 with e1
      injection e1 with e1
      subst e1
      obtain ⟨d, hd⟩ : ∃ d, d = (cntsN outs roots s)[y.1]'(by unfold cntsN; rw [dif_length]; exact hxl) := ⟨_, rfl⟩
      rw [← hd] at hcl
      have HG := hide (show (cntsN outs roots s).getD y.1 0 = d by rw [hd, List.getD_eq_getElem?_getD, List.getElem?_eq_getElem (by unfold cntsN; rw [dif_length]; exact hxl)]; rfl)
      have HLEN := hide (show (heldTo (cntsN outs roots s) (pre.map (·.1))).length ≤ 12 by have := heldTo_length (cntsN outs roots s) (pre.map (·.1)); rw [List.length_map] at this; omega)
      have HM := hide (show (pre ++ [y]).map (·.1) = pre.map (·.1) ++ [y.1] by rw [List.map_append]; rfl)
      obtain ⟨hvn, Ah, ch, hvv, _⟩ := own_form hown
      have HVV := hide hvv
      clear hown hb hKp hd hvn hvv
      by_cases hp : 0 < d
      · have HY := hide (show heldTo (cntsN outs roots s) ((pre ++ [y]).map (·.1)) = heldTo (cntsN outs roots s) (pre.map (·.1)) ++ [(y.1 : Int)] by rw [HM.out]; exact heldTo_yes (by rw [HG.out]; exact hp))
        have hvv := HVV.out
        rw [iv_length] at hvv
        subst hvv
        have hX2 : V0.heap.size ≤ X.heap.size := hXz
        gi_wp2_with (gi_at_builtin; refine wpListIn_push _ rfl (.tmp 71) (.tmp 73) _ rfl V0.heap.size 3 _ 8 Tryd.underlying23 Tryd.infoInt rfl (.slice Ah (heldTo (cntsN outs roots s) (pre.map (·.1))).length ch) (heldTo (cntsN outs roots s) (pre.map (·.1))).length _ rfl HOWN.out _ rfl 1 _ rfl (by rfl) (by have := HLEN.out; omega) (by omega) hX2 ?_)
        intro g' c' w' ho' hgr' hat'
        have hrow : ∀ k, Value.ownBlock (.slice Ah (heldTo (cntsN outs roots s) (pre.map (·.1))).length ch) = some k → V0.heap.size ≤ k ∧ k < X.heap.size := fun k h => own_lt HOWN.out h
        have HB2 := hide (show Blk w' W.heap.size 23 #[.slice Ah (heldTo (cntsN outs roots s) (pre.map (·.1))).length ch] from (HB.out.alloc _).grown hgr' fun e => by have := (hrow _ e.symm).1; omega)
        have HKY := hide (show Kp (At W.heap.size) V0 w' from (HKX.out.alloc _).grown hgr' fun k e hk => by have := (hrow _ e).1; omega)
        have HKF := hide (show KeepsFrom V0.heap.size X w' from keeps_grown (keeps_alloc (KeepsFrom.refl _ X) _) hgr' (own_cells (HOWN.out.alloc _)))
        have HSK := hide (show SetKept (W.heap.size + 1) X w' from (hgr'.block _ (by simp; omega) (fun e => by have := (hrow _ e.symm).1; omega)).trans (Below.heap_alloc _ _ _ (by omega)))
        have HO' := hide ho'
        clear c1 c2 c3 ho' hgr' hat' hrow b1 b2 b3
        obtain ⟨c1, c2, c3⟩ := HB2.out.a1
        gi_wp2
        refine ⟨HKF.out.trans (KeepsFrom.of_kp (S := At W.heap.size) (Kp.setCell (S := At W.heap.size) (p := ⟨W.heap.size, 0, none⟩) (Kp.refl _ w') (fun _ => rfl) _) fun k e => by unfold At at e; omega), ?_, _, HB2.out.set_ 0 _, ?_, HKY.out.setCell (p := ⟨W.heap.size, 0, none⟩) (fun _ => rfl) _⟩
        · exact ((Below.heap_setCell w' ⟨W.heap.size, 0, none⟩ _ _ (by simp)).trans HSK.out)
        · rw [HY.out, List.length_append, List.length_singleton, iv_snoc]
          rw [hv1]
          exact own_kp HO'.out (Kp.setCell (S := At W.heap.size) (p := ⟨W.heap.size, 0, none⟩) (Kp.refl _ _) (fun _ => rfl) _) fun b hb e => by unfold At at e; have := (own_lt HO'.out hb).1; omega
      · have HY := hide (show heldTo (cntsN outs roots s) ((pre ++ [y]).map (·.1)) = heldTo (cntsN outs roots s) (pre.map (·.1)) by rw [HM.out]; exact heldTo_no (by rw [HG.out]; exact hp))
        gi_wp2
        exact ⟨KeepsFrom.refl _ _, rfl, vh, HB.out, by rw [HY.out]; exact HOWN.out, HKX.out⟩
    case doneB =>
      rintro D2 zs X hD2 hzs ⟨vh, hb, hown, hKp⟩ hd2
      have hzt : zs.map (·.1) = bitsTo s 12 := hzs
      rw [hzt] at hown
      have HH := hide (show heldTo (cntsN outs roots s) (bitsTo s 12) = heldN outs roots (reachN outs [x]) by rw [← HS.out]; rfl)
      rw [HH.out] at hown
      have HHK := hide (held_ok HOK.out HX.out)
      have HOWN := hide hown
      obtain ⟨c1, c2, c3⟩ := hb.a1
      have hXz : V0.heap.size ≤ X.heap.size := hKp.size
      have HKX := hide (show Kp No w X from ((HK1.out.trans HKW0.out).trans' HKV0.out fun k hk e => by unfold At at e; omega).trans' hKp fun k hk e => by unfold At at e; have := HK1.out.size; have := HKW0.out.size; omega)
      obtain ⟨a1, a2, a3, a4, _⟩ := (((HB1.out.kp HKW0.out id).kp HKV0.out (fun e => by unfold At at e; omega)).kp hKp (fun e => by unfold At at e; have := HK1.out.size; have := HKW0.out.size; omega)).a2
      obtain ⟨hvn, Ah, ch, hvv, _⟩ := own_form hown
      rw [iv_length] at hvv
      have HDX := hide (show X.heap[D]? = some (.deferred (some [])) from (hKp.block D (by omega) (fun e => by unfold At at e; omega)).trans HDV.out)
      have HD2 := hide hd2
      have HHI := hide (show IntsIn X (fun _ => True) vh (heldN outs roots (reachN outs [x])) from (own_ints hown).mono fun _ _ _ => trivial)
      subst hvv
      clear hzs hown hzt hb hvn hd2 hKp
      go_wp2_with fail
      refine Calls.mono (reach_ok (F := fun _ => True) _ _ outs (heldN outs roots (reachN outs [x])) _ ((HO.out.no HKX.out).mono fun _ _ _ => trivial) HHI.out HHK.out) ?_
      rintro e w9 ⟨rfl, hk9⟩
      have HK9 := hide (HKX.out.trans hk9)
      have HM := hide (show Marks w1.heap.size [D2, D] w9 from ⟨List.nodup_cons.2 ⟨by simp; omega, List.nodup_cons.2 ⟨by simp, List.nodup_nil⟩⟩, fun E hE => by
        simp only [List.mem_cons, List.not_mem_nil, or_false] at hE
        rcases hE with rfl | rfl
        · exact ⟨by omega, (hk9.block _ (Array.getElem?_eq_some_iff.1 HD2.out).1 id).trans HD2.out⟩
        · exact ⟨by omega, (hk9.block _ (Array.getElem?_eq_some_iff.1 HDX.out).1 id).trans HDX.out⟩⟩)
      clear hk9
      have HAN := hide (andnot_nat s (reachN outs (heldN outs roots (reachN outs [x]))) HN.out (reachN_lt HHK.out))
      have HFN := hide (show freeN outs roots x = s &&& (4095 ^^^ reachN outs (heldN outs roots (reachN outs [x]))) by unfold freeN; rw [← HS.out])
      go_wp2
      rw [HAN.out, ← HFN.out]
      refine leaves_marks (Ds := [D2, D]) HM.out fun W' hk' => ?_
      exact ⟨_, by simp [results, Tryd.results24, go_sem], rfl, HK9.out.trans' hk' fun k hk e => by have := HK1.out.size; exact absurd e (by omega)⟩
end Go.Proofs.YtgbdjidjbcbhjaaDoor
