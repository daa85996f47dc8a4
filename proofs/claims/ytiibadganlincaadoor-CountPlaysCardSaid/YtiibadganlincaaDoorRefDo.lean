/- The document's answer: Do of a heap that counts: make; and whatever is asked for. -/
import Derived.Test.YtiibadganlincaaDoorRefDo1
import Derived.Test.YtiibadganlincaaDoorSet
namespace Go.Proofs.YtiibadganlincaaDoor
open Go.RowKit
set_option linter.unusedSimpArgs false

theorem makeE_full {s : Cn} (h : s.outs.length = 12 ∨ s.roots.length = 12) : makeE s = 4 ∧ makeS s = s := by
  have e : makeE s = 4 := by unfold makeE; rw [if_pos h]
  exact ⟨e, by unfold makeS; rw [e, if_neg (by decide)]⟩
theorem makeE_room {s : Cn} (h1 : s.outs.length < 12) (h2 : s.roots.length < 12) : makeE s = 0 ∧ rcOf (makeS s) = ⟨s.outs ++ [[]], s.roots ++ [(s.outs.length : Int)], (rcOf s).here ++ [true]⟩ := by
  have e : makeE s = 0 := by unfold makeE; rw [if_neg (by omega)]
  refine ⟨e, ?_⟩
  unfold makeS
  rw [if_pos e]
  unfold rcOf
  simp
/-- the number that is told of what is made -/
def makeN (s : Cn) : Nat := if makeE s = 0 then s.outs.length else 0

set_option maxRecDepth 100000 in
set_option maxHeartbeats 8000000 in
theorem rdo_make {F : Nat → Prop} (vo vr vh : Value) (s : Cn) (i j : Int) (w : World) (h : RcIs w F vo vr vh (rcOf s)) (hP : PInv s []) (hF : ∀ b, w.heap.size ≤ b → F b) :
    Calls Tryd.prog 6 #[.agg #[vo, vr, vh], .int .i64 0, .int .i64 i, .int .i64 j] w (RDoPost F w (makeS s) (makeN s) (makeE s)) := by
  obtain ⟨Ao, co, Ar, cr, Ah, ch, rfl, rfl, rfl⟩ := h.slices
  have HS := hide (DoSt.start h)
  have HP := hide hP
  have HF := hide hF
  have HHL := hide (rc_here_len hP)
  obtain ⟨W, hW⟩ : ∃ W, (w.alloc (.cells #[.slice Ao (rcOf s).outs.length co, .slice Ar (rcOf s).roots.length cr, .slice Ah (rcOf s).here.length ch] 28)).alloc (.cells #[.slice none 0 0, .slice none 0 0, .slice none 0 0] 28) = W := ⟨_, rfl⟩
  rw [hW] at HS
  have HW := hide hW
  obtain ⟨x1, x2, x3, x4, x5, x6, x7⟩ := HS.out.box.a3
  clear h hP hF hW
  by_cases h1 : (rcOf s).here.length < 12
  · by_cases h2 : (rcOf s).roots.length < 12
    · have h1' : ¬ (12 : Int) ≤ ((rcOf s).here.length : Int) := by omega
      have h2' : ¬ (12 : Int) ≤ ((rcOf s).roots.length : Int) := by omega
      have hon : (rcOf s).outs.length < 12 := by have := HHL.out; show s.outs.length < 12; omega
      have HE := hide (makeE_room (s := s) hon h2)
      -- what was there stays as it was
      have HRC := hide (HS.out.rc.mono (F' := fun b => (F b ∧ b ≠ w.heap.size ∧ b ≠ w.heap.size + 1) ∧ b < W.heap.size) fun b h1 h2 => ⟨h2, h1⟩)
      have HXS := hide HS.out.size
      obtain ⟨vs, hc, hvl, hrow⟩ := HRC.out.out
      have HC := hide hc
      have HVL := hide hvl
      have HROW := hide hrow
      have HONE := hide (one_rows hvl hrow)
      have HL := hide (show 0 + vs.length ≤ 1073741824 by omega)
      have HBL := hide (show (bv (rcOf s).here).length = (rcOf s).here.length from bv_length _)
      have HLB := hide (show 0 + (bv (rcOf s).here).length ≤ 1073741824 by rw [bv_length]; omega)
      clear hc hvl hrow
      go_enter Tryd.func6, Tryd.ntmps6
      go_upto_region 1 with fail
      rw [HW.out]
      go_upto_region 6 with (at_builtin; refine wpList_add (F := fun b => (F b ∧ b ≠ w.heap.size ∧ b ≠ w.heap.size + 1) ∧ b < W.heap.size) _ rfl (.tmp 26) (.tmp 28) _ rfl W.heap.size 25 _ 24 Tryd.underlying22 Tryd.infoRow rfl _ 0 [] rfl (World.ownsRow_nil _ _ _ _) _ rfl vs HC.out HONE.out HL.out (by decide) (Nat.le_refl _) ?_; intro v5 w5 ho5 hgr5 hat5; have HK5 := hide ((Kp.refl No W).grown hgr5 (fun k e hk => by cases e)); have HO5 := hide (show w5.ownsRow W.heap.size 25 1 v5 vs.length vs by rw [Nat.zero_add, List.nil_append] at ho5; exact ho5); clear ho5 hgr5 hat5)
      obtain ⟨e5, A5, c5, hv5, _, _, _⟩ := own_form HO5.out
      clear e5
      subst hv5
      clear x1 x2 x3 x4 x5 x6 x7
      obtain ⟨x1, x2, x3, x4, x5, x6, x7⟩ := (HS.out.box.kp HK5.out id).a3
      have HH5 := hide (HRC.out.here.no HK5.out)
      go_upto_region 8 with (at_builtin; refine wpList_add (F := fun b => (F b ∧ b ≠ w.heap.size ∧ b ≠ w.heap.size + 1) ∧ b < W.heap.size) _ rfl (.tmp 30) (.tmp 32) _ rfl w5.heap.size 4 _ 1 Tryd.underlying26 Tryd.infoBool rfl _ 0 [] rfl (World.ownsRow_nil _ _ _ _) _ rfl (bv (rcOf s).here) HH5.out (one_bv _) HLB.out (by decide) (Nat.le_refl _) ?_; intro v7 w7 ho7 hgr7 hat7; have HK7 := hide ((Kp.refl No w5).grown hgr7 (fun k e hk => by cases e)); have HO7 := hide (show w7.ownsRow w5.heap.size 4 1 v7 (rcOf s).here.length (bv (rcOf s).here) by rw [HBL.out, Nat.zero_add, List.nil_append] at ho7; exact ho7); clear ho7 hgr7 hat7)
      obtain ⟨e7, A7, c7, hv7, _, _, _⟩ := own_form HO7.out
      rw [HBL.out] at hv7
      clear e7
      subst hv7
      have HO57 := hide (own_kp HO5.out HK7.out fun _ _ h => h)
      have HK57 := hide (HK5.out.trans HK7.out)
      have hs57 : W.heap.size ≤ w7.heap.size := HK57.out.size
      have hs55 : W.heap.size ≤ w5.heap.size := HK5.out.size
      have hvl : vs.length < 12 := by rw [HVL.out]; exact hon
      clear x1 x2 x3 x4 x5 x6 x7
      obtain ⟨x1, x2, x3, x4, x5, x6, x7⟩ := (HS.out.box.kp HK57.out id).a3
      have HX57 := hide (show ∀ b, (Value.slice A5 vs.length c5).ownBlock = some b → b ≠ w.heap.size from fun b hb e => by have := (own_lt HO57.out hb).1; have := HXS.out; omega)
      go_upto_region 9 with (at_builtin; refine wpList_push _ rfl (.tmp 34) (.tmp 35) _ rfl W.heap.size 25 _ 24 Tryd.underlying22 Tryd.infoRow rfl (.slice A5 vs.length c5) vs.length vs rfl HO57.out (.slice none 0 0) rfl 1 _ rfl (by simp) (by omega) (by decide) hs57 ?_; intro g8 c8 w8 ho8 hgr8 hat8; have HK8 := hide (((Kp.refl (fun b => (Value.slice A5 vs.length c5).ownBlock = some b) w7).alloc _).grown hgr8 fun k e _ => e); have HO8 := hide ho8; clear ho8 hgr8 hat8; have HB8 := hide ((HS.out.box.kp HK57.out id).kp HK8.out fun e => HX57.out _ e rfl); have x1 := HB8.out.a3.1; have x4 := HB8.out.a3.2.2.2.1)
      obtain ⟨W8, hW8⟩ : ∃ W8, w8.setCell ⟨w.heap.size, 0, none⟩ (.slice (some ⟨g8, 0, none⟩) (vs.length + 1) c8) = W8 := ⟨_, rfl⟩
      have hk8 : Kp (At w.heap.size) w8 W8 := by rw [← hW8]; exact kp_set _ _ _ _
      have HKW8 := hide (show Kp (At w.heap.size) W W8 from (HK57.out.of_no.trans' HK8.out fun b hb e => by have := (own_lt HO57.out e).1; omega).trans' hk8 fun b _ e => e)
      have HO88 := hide (own_kp HO8.out hk8 fun b hb e => by have := (own_lt HO8.out hb).1; unfold At at e; have := HXS.out; omega)
      have HO78 := hide (own_kp (own_kp HO7.out HK8.out fun b hb e => own_ne_own HO57.out HO7.out (by decide) e hb) hk8 fun b hb e => by have := (own_lt HO7.out hb).1; unfold At at e; have := HXS.out; omega)
      have HB88 := hide (show Blk W8 w.heap.size 28 #[.slice (some ⟨g8, 0, none⟩) (vs.length + 1) c8, .slice Ar (rcOf s).roots.length cr, .slice Ah (rcOf s).here.length ch] by rw [← hW8]; exact HB8.out.set_ 0 _)
      have HR88 := hide (((HS.out.res.kp HK57.out id).kp HK8.out fun e => by have := (own_lt HO57.out e).1; have := HXS.out; omega).kp hk8 fun e => by unfold At at e; omega)
      have hs88 : w5.heap.size ≤ W8.heap.size := Nat.le_trans HK7.out.size (Nat.le_trans HK8.out.size hk8.size)
      rw [hW8]
      clear hW8 hk8 x1 x4 HB8
      clear x1 x2 x3 x4 x5 x6 x7
      have x2 := HB88.out.a3.2.1
      have HX78 := hide (show ∀ b, (Value.slice A7 (rcOf s).here.length c7).ownBlock = some b → b ≠ w.heap.size ∧ b ≠ w.heap.size + 1 from fun b hb => by have := (own_lt HO78.out hb).1; have := HXS.out; exact ⟨by omega, by omega⟩)
      go_upto_region 10 with (at_builtin; refine wpList_push _ rfl (.tmp 38) (.tmp 39) _ rfl w5.heap.size 4 _ 1 Tryd.underlying26 Tryd.infoBool rfl (.slice A7 (rcOf s).here.length c7) (rcOf s).here.length (bv (rcOf s).here) rfl HO78.out (.bool true) rfl 1 _ rfl (by simp) (by omega) (by decide) hs88 ?_; intro g9 c9 w9 ho9 hgr9 hat9; have HK9 := hide (((Kp.refl (fun b => (Value.slice A7 (rcOf s).here.length c7).ownBlock = some b) W8).alloc _).grown hgr9 fun k e _ => e); have HO9 := hide ho9; clear ho9 hgr9 hat9; have HB9 := hide (HB88.out.kp HK9.out fun e => (HX78.out _ e).1 rfl); have x3 := HB9.out.a3.2.2.1; have x6 := HB9.out.a3.2.2.2.2.2.1)
      obtain ⟨W9, hW9⟩ : ∃ W9, w9.setCell ⟨w.heap.size, 2, none⟩ (.slice (some ⟨g9, 0, none⟩) ((rcOf s).here.length + 1) c9) = W9 := ⟨_, rfl⟩
      have hk9 : Kp (At w.heap.size) w9 W9 := by rw [← hW9]; exact kp_set _ _ _ _
      have HKW9 := hide (show Kp (At w.heap.size) W W9 from (HKW8.out.trans' HK9.out fun b hb e => by have := (own_lt HO78.out e).1; omega).trans hk9)
      have HO89 := hide (own_kp (own_kp HO88.out HK9.out fun b hb e => own_ne_own HO78.out HO88.out (by decide) e hb) hk9 fun b hb e => by have := (own_lt HO88.out hb).1; unfold At at e; have := HXS.out; omega)
      have HO99 := hide (own_kp HO9.out hk9 fun b hb e => by have := (own_lt HO9.out hb).1; unfold At at e; have := HXS.out; omega)
      have HB99 := hide (show Blk W9 w.heap.size 28 #[.slice (some ⟨g8, 0, none⟩) (vs.length + 1) c8, .slice Ar (rcOf s).roots.length cr, .slice (some ⟨g9, 0, none⟩) ((rcOf s).here.length + 1) c9] by rw [← hW9]; exact HB9.out.set_ 2 _)
      have HR99 := hide ((HR88.out.kp HK9.out fun e => (HX78.out _ e).2 rfl).kp hk9 fun e => by unfold At at e; omega)
      have HRT9 := hide (HRC.out.root.kp HKW9.out fun b hb e => by unfold At at e; exact hb.1.2.1 e)
      rw [hW9]
      clear hW9 hk9 x2 x3 x6 HB9
      obtain ⟨x1, x2, x3, x4, x5, x6, x7⟩ := HB99.out.a3
      have HPUT := hide (put_any _ (rcOf s).roots (rcOf s).roots.length ((rcOf s).here.length : Int) W9 HRT9.out (Nat.le_refl _) (by omega))
      go_wp2_with fail
      refine Calls.mono HPUT.out ?_
      rintro e w10 ⟨v10, rfl, hi10, hk10⟩
      have HPE := hide (putI_end (rcOf s).roots ((rcOf s).here.length : Int))
      rw [HPE.out] at hi10
      have HRL := hide (show ((rcOf s).roots ++ [((rcOf s).here.length : Int)]).length = (rcOf s).roots.length + 1 by rw [List.length_append, List.length_singleton])
      obtain ⟨A10, c10, rfl, _⟩ := id hi10
      rw [HRL.out] at hi10
      rw [HRL.out]
      have HI10 := hide hi10
      have HK10 := hide hk10
      clear hi10 hk10 HPUT x1 x2 x3 x4 x5 x6 x7
      obtain ⟨x1, x2, x3, x4, x5, x6, x7⟩ := (HB99.out.kp HK10.out id).a3
      go_upto_region 11 with fail
      obtain ⟨W10, hW10⟩ : ∃ W10, w10.setCell ⟨w.heap.size, 1, none⟩ (.slice A10 ((rcOf s).roots.length + 1) c10) = W10 := ⟨_, rfl⟩
      have hk10 : Kp (At w.heap.size) w10 W10 := by rw [← hW10]; exact kp_set _ _ _ _
      have HKW10 := hide (show Kp (At w.heap.size) W W10 from (HKW9.out.trans HK10.out.of_no).trans hk10)
      have HOA := hide (own_kp (own_kp HO89.out HK10.out fun _ _ h => h) hk10 fun b hb e => by have := (own_lt HO88.out hb).1; unfold At at e; have := HXS.out; omega)
      have HOB := hide (own_kp (own_kp HO99.out HK10.out fun _ _ h => h) hk10 fun b hb e => by have := (own_lt HO99.out hb).1; unfold At at e; have := HXS.out; omega)
      have HN := hide (show ∀ b, W.heap.size ≤ b → F b ∧ b ≠ w.heap.size ∧ b ≠ w.heap.size + 1 from HS.out.new HF.out)
      have HSW9 := hide HKW9.out.size
      have HD := hide (show DoSt w F w.heap.size (.slice (some ⟨g8, 0, none⟩) (vs.length + 1) c8) (.slice A10 ((rcOf s).roots.length + 1) c10) (.slice (some ⟨g9, 0, none⟩) ((rcOf s).here.length + 1) c9) ⟨s.outs ++ [[]], s.roots ++ [(s.outs.length : Int)], (rcOf s).here ++ [true]⟩ W10 by
        refine ⟨⟨⟨vs ++ [.slice none 0 0], ?_, ?_, ?_⟩, ?_, ?_⟩, ?_, ?_, ?_, rfl⟩
        · exact CellsIn.of_own HOA.out fun b hb => HN.out b (own_lt HOA.out hb).1
        · simp only [List.length_append, List.length_singleton]; rw [HVL.out]; rfl
        · intro k h1 h2
          by_cases hk : k < vs.length
          · rw [List.getElem_append_left hk]
            have hk' : k < (rcOf s).outs.length := by rw [← HVL.out]; exact hk
            rw [List.getElem_append_left (show k < s.outs.length from hk')]
            exact ((HROW.out k hk hk').kp HKW10.out fun b hb e => by unfold At at e; exact hb.1.2.1 e).mono fun b _ hb => hb.1
          · have h3 : k = vs.length := by simp at h1; omega
            subst h3
            have h4 : s.outs.length = vs.length := HVL.out.symm
            rw [List.getElem_append_right (Nat.le_refl _), List.getElem_append_right (by omega)]
            simp only [Nat.sub_self, h4, List.getElem_singleton]
            exact IntsIn.nil_ _ _
        · have := HHL.out
          rw [← this]
          exact (HI10.out.mono (F' := fun b => F b ∧ b ≠ w.heap.size ∧ b ≠ w.heap.size + 1) fun b _ hb => HN.out b (Nat.le_trans HSW9.out hb)).kp hk10 fun b hb e => hb.2.1 e
        · have h := HOB.out
          rw [show bv (rcOf s).here ++ [Value.bool true] = bv ((rcOf s).here ++ [true]) by simp [bv]] at h
          exact CellsIn.of_own h fun b hb => HN.out b (Nat.le_trans hs55 (own_lt h hb).1)
        · rw [← hW10]; exact (HB99.out.kp HK10.out id).set_ 1 _
        · exact (HR99.out.kp HK10.out id).kp hk10 fun e => by unfold At at e; omega
        · exact HS.out.kp.trans' HKW10.out fun b hb e => by unfold At at e; omega)
      rw [hW10]
      clear hW10 hk10 x1 x2 x3 x4 x5 x6 x7
      obtain ⟨x1, x2, x3, x4, x5, x6, x7⟩ := HD.out.box.a3
      obtain ⟨y1, y2, y3, y4, y5, y6, y7⟩ := HD.out.res.a3
      go_wp2_with fail
      obtain ⟨t1, t2, t3, t4, t5⟩ := HD.out.tell
      refine bodyPost_ret (v := .tuple #[.agg #[.slice (some ⟨g8, 0, none⟩) (vs.length + 1) c8, .slice A10 ((rcOf s).roots.length + 1) c10, .slice (some ⟨g9, 0, none⟩) ((rcOf s).here.length + 1) c9], .int .i64 ((rcOf s).here.length : Nat), .int .i64 0]) (by simp [results, Tryd.results6, go_sem, t2, t3, t4]) rfl ?_
      exact ⟨_, _, _, by rw [show makeN s = (rcOf s).here.length by unfold makeN; rw [if_pos HE.out.1, HHL.out], HE.out.1]; rfl, by rw [HE.out.2]; exact t1, t5⟩
    · have h1' : ¬ (12 : Int) ≤ ((rcOf s).here.length : Int) := by omega
      have h2' : (12 : Int) ≤ ((rcOf s).roots.length : Int) := by omega
      obtain ⟨y1, y2, y3, y4, y5, y6, y7⟩ := HS.out.res.a3
      have HE := hide (makeE_full (s := s) (.inr (by have h : ¬ s.roots.length < 12 := h2; have := HP.out.r12; omega)))
      go_enter Tryd.func6, Tryd.ntmps6
      go_upto_region 1 with fail
      rw [HW.out]
      go_wp2_with fail
      obtain ⟨t1, t2, t3, t4, t5⟩ := HS.out.tell
      refine bodyPost_ret (v := .tuple #[.agg #[.slice Ao (rcOf s).outs.length co, .slice Ar (rcOf s).roots.length cr, .slice Ah (rcOf s).here.length ch], .int .i64 0, .int .i64 4]) (by simp [results, Tryd.results6, go_sem, t2, t3, t4]) rfl ?_
      exact ⟨_, _, _, by rw [show makeN s = 0 by unfold makeN; rw [HE.out.1]; rfl, HE.out.1]; rfl, by rw [HE.out.2]; exact t1, t5⟩
  · have h1' : (12 : Int) ≤ ((rcOf s).here.length : Int) := by omega
    obtain ⟨y1, y2, y3, y4, y5, y6, y7⟩ := HS.out.res.a3
    have HE := hide (makeE_full (s := s) (.inl (by have := HHL.out; have := HP.out.n12; omega)))
    go_enter Tryd.func6, Tryd.ntmps6
    go_upto_region 1 with fail
    rw [HW.out]
    go_wp2_with fail
    obtain ⟨t1, t2, t3, t4, t5⟩ := HS.out.tell
    refine bodyPost_ret (v := .tuple #[.agg #[.slice Ao (rcOf s).outs.length co, .slice Ar (rcOf s).roots.length cr, .slice Ah (rcOf s).here.length ch], .int .i64 0, .int .i64 4]) (by simp [results, Tryd.results6, go_sem, t2, t3, t4]) rfl ?_
    exact ⟨_, _, _, by rw [show makeN s = 0 by unfold makeN; rw [HE.out.1]; rfl, HE.out.1]; rfl, by rw [HE.out.2]; exact t1, t5⟩

def doE (s : Cn) (k i j : Int) : Nat := if k = 0 then makeE s else if k = 1 then rootE s i else if k = 2 then dropE s i else if k = 3 then linkE s i j else cutE s i j
def doN (s : Cn) (k : Int) : Nat := if k = 0 then makeN s else 0
theorem doE_le (s : Cn) (k i j : Int) : doE s k i j ≤ 100 := by
  unfold doE makeE rootE dropE linkE cutE
  repeat' split
  all_goals omega
theorem root_off {s : Cn} {i : Int} (h : isB s i = false) : rootE s i = 1 ∧ rootS s i = s := by
  have e : rootE s i = 1 := by unfold rootE; rw [if_neg (by rw [h]; decide)]
  exact ⟨e, by unfold rootS; rw [e, if_neg (by decide)]⟩
theorem drop_off {s : Cn} {i : Int} (h : isB s i = false) : dropE s i = 1 ∧ dropS s i = s := by
  have e : dropE s i = 1 := by unfold dropE; rw [if_neg (by rw [h]; decide)]
  exact ⟨e, by unfold dropS; rw [e, if_neg (by decide)]⟩
theorem link_off {s : Cn} {i j : Int} (h : isB s i = false ∨ isB s j = false) : linkE s i j = 1 ∧ linkS s i j = s := by
  have e : linkE s i j = 1 := by unfold linkE; rw [if_neg (by intro h'; rcases h with h | h; rw [h] at h'; exact absurd h'.1 (by decide); rw [h] at h'; exact absurd h'.2 (by decide))]
  exact ⟨e, by unfold linkS; rw [e, if_neg (by decide)]⟩
theorem cut_off {s : Cn} {i j : Int} (h : isB s i = false ∨ isB s j = false) : cutE s i j = 1 ∧ cutS s i j = s := by
  have e : cutE s i j = 1 := by unfold cutE; rw [if_neg (by intro h'; rcases h with h | h; rw [h] at h'; exact absurd h'.1 (by decide); rw [h] at h'; exact absurd h'.2 (by decide))]
  exact ⟨e, by unfold cutS; rw [e, if_neg (by decide)]⟩
theorem doS_out {s : Cn} {k i j : Int} (h : btw k 0 4 = false) : doS s [k, i, j] = s := by
  have : ¬ (0 ≤ k ∧ k ≤ 4) := fun h' => by rw [btw_iff.2 h'] at h; cases h
  rw [doS_three, if_neg (by omega), if_neg (by omega), if_neg (by omega), if_neg (by omega), if_neg (by omega)]

theorem rdo_any {F : Nat → Prop} (vo vr vh : Value) (s : Cn) (k i j : Int) (w : World) (h : RcIs w F vo vr vh (rcOf s)) (hP : PInv s []) (hF : ∀ b, w.heap.size ≤ b → F b) (hk : btw k 0 4 = true) :
    Calls Tryd.prog 6 #[.agg #[vo, vr, vh], .int .i64 k, .int .i64 i, .int .i64 j] w (RDoPost F w (doS s [k, i, j]) (doN s k) (doE s k i j)) := by
  have hk' := btw_iff.1 hk
  rw [doS_three]
  unfold doN doE
  by_cases e0 : k = 0
  · subst e0
    exact rdo_make vo vr vh s i j w h hP hF
  · rw [if_neg e0, if_neg e0, if_neg e0]
    by_cases e1 : k = 1
    · subst e1
      rw [if_pos rfl, if_pos rfl]
      cases hi : isB s i with
      | true => exact rdo_root vo vr vh s i j w h hP hF hi
      | false =>
        rw [(root_off hi).1, (root_off hi).2]
        exact rdo_away vo vr vh s 1 i j w h hP e0 (.inl hi)
    · rw [if_neg e1, if_neg e1]
      by_cases e2 : k = 2
      · subst e2
        rw [if_pos rfl, if_pos rfl]
        cases hi : isB s i with
        | true => exact rdo_drop vo vr vh s i j w h hP hF hi
        | false =>
          rw [(drop_off hi).1, (drop_off hi).2]
          exact rdo_away vo vr vh s 2 i j w h hP e0 (.inl hi)
      · rw [if_neg e2, if_neg e2]
        by_cases e3 : k = 3
        · subst e3
          rw [if_pos rfl, if_pos rfl]
          by_cases hij : isB s i = true ∧ isB s j = true
          · exact rdo_link vo vr vh s i j w h hP hF hij.1 hij.2
          · have h' : isB s i = false ∨ isB s j = false := by
              cases hi : isB s i
              · exact .inl rfl
              · cases hj : isB s j
                · exact .inr rfl
                · exact absurd ⟨hi, hj⟩ hij
            rw [(link_off h').1, (link_off h').2]
            exact rdo_away vo vr vh s 3 i j w h hP e0 (h'.imp id fun h => ⟨by omega, h⟩)
        · have e4 : k = 4 := by omega
          subst e4
          rw [if_neg e3, if_neg e3, if_pos rfl]
          by_cases hij : isB s i = true ∧ isB s j = true
          · exact rdo_cut vo vr vh s i j w h hP hF hij.1 hij.2
          · have h' : isB s i = false ∨ isB s j = false := by
              cases hi : isB s i
              · exact .inl rfl
              · cases hj : isB s j
                · exact .inr rfl
                · exact absurd ⟨hi, hj⟩ hij
            rw [(cut_off h').1, (cut_off h').2]
            exact rdo_away vo vr vh s 4 i j w h hP e0 (h'.imp id fun h => ⟨by omega, h⟩)

/-! ### Which nodes are here, as a list, and as bits -/
def hereI (s : Cn) : Nat → List Int
  | 0 => []
  | k + 1 => if gAt s.gone k = true then hereI s k else hereI s k ++ [(k : Int)]
theorem hereI_len (s : Cn) : ∀ k, (hereI s k).length ≤ k
  | 0 => Nat.le_refl _
  | k + 1 => by
    unfold hereI
    have := hereI_len s k
    split
    · omega
    · rw [List.length_append, List.length_singleton]; omega
theorem hereI_in (s : Cn) : ∀ k, ∀ x ∈ hereI s k, 0 ≤ x ∧ x < (k : Int)
  | 0 => fun x h => by cases h
  | k + 1 => fun x h => by
    unfold hereI at h
    split at h
    · have := hereI_in s k x h; omega
    · rcases List.mem_append.1 h with h | h
      · have := hereI_in s k x h; omega
      · rw [List.mem_singleton] at h; omega
theorem hereI_sum (s : Cn) : ∀ k, k ≤ 12 → sumP (hereI s k) = hereTo s k
  | 0, _ => rfl
  | k + 1, hk => by
    have ih := hereI_sum s k (by omega)
    unfold hereI hereTo
    split
    · exact ih
    · rw [sumP_snoc, ih, Int.toNat_natCast]
      have hlt := hereTo_lt s k
      refine add_or _ _ (Nat.lt_of_lt_of_le hlt (Nat.pow_le_pow_right (by decide) (by omega))) (by omega) (Nat.testBit_lt_two_pow hlt)
theorem count_all {s : Cn} (h : PInv s []) {i : Nat} (hi : i < s.outs.length) : countB s (i : Int) = (refs s (i : Int) : Nat) := (count_true h hi).1
theorem gone_none {s : Cn} (h : PInv s []) {i : Nat} (hi : i < s.outs.length) (hg : gAt s.gone i = true) : refs s (i : Int) = 0 := (h.away i hi hg).2.1
theorem count_far {s : Cn} (h : PInv s []) {x : Int} (hx : x < 0 ∨ 12 ≤ x) : countB s x = 0 := by
  unfold countB
  rw [if_neg]
  intro hb
  have := (isB_iff.1 hb).1
  have := h.n12
  omega
end Go.Proofs.YtiibadganlincaaDoor
