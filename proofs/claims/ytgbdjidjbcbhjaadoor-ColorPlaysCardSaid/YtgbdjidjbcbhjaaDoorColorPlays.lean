/- The law ColorPlays, walked: of all heaps, and all steps and changes. -/
import Derived.Test.YtgbdjidjbcbhjaaDoorRefPoint
import Derived.Test.YtgbdjidjbcbhjaaDoorCheneySays
import Derived.Test.YtgbdjidjbcbhjaaDoorColorPoint
namespace Go.Proofs.YtgbdjidjbcbhjaaDoor
open Go.RowKit
set_option linter.unusedSimpArgs false

/-- away from the mark, and from where the answer's mark lies -/
def Gz (p X : Nat) (vo vr vc : Value) (vs : List Value) (b : Nat) : Prop := ¬ MkF p vo vr vc vs b ∧ b ≠ X
/-- both marks are alike -/
structure Alike (W : World) (p base X : Nat) (vo vr vc : Value) (vs : List Value) (vo' vr' vc' : Value) (O : List (List Int)) (roots C : List Int) : Prop where
  mark : MarkAt W p base vo vr vc vs O roots C
  ok : Ok O roots
  len : C.length = O.length
  blk : Blk W X 66 #[vo', vr', vc']
  rows : RowsIn W (Gz p X vo vr vc vs) vo' O
  rts : IntsIn W (Gz p X vo vr vc vs) vr' roots
  cols : IntsIn W (Gz p X vo vr vc vs) vc' C
  far : ¬ MkF p vo vr vc vs X
section
variable {W W' : World} {p base X : Nat} {vo vr vc : Value} {vs : List Value} {vo' vr' vc' : Value} {O : List (List Int)} {roots C : List Int}
theorem Alike.no (h : Alike W p base X vo vr vc vs vo' vr' vc' O roots C) (hk : Kp No W W') : Alike W' p base X vo vr vc vs vo' vr' vc' O roots C :=
  ⟨h.mark.no hk, h.ok, h.len, h.blk.kp hk id, h.rows.no hk, h.rts.no hk, h.cols.no hk, h.far⟩
theorem Alike.new_ (h : Alike W p base X vo vr vc vs vo' vr' vc' O roots C) : ∀ b, W.heap.size ≤ b → Gz p X vo vr vc vs b := fun b hb => ⟨fun e => by have := h.mark.lt e; omega, by have := h.blk.lt; omega⟩
theorem MarkAt.kpCo {S : Nat → Prop} (h : MarkAt W p base vo vr vc vs O roots C) (hk : Kp S W W') (hs : ∀ b, MkF p vo vr vc vs b → ¬ S b) : MarkAt W' p base vo vr vc vs O roots C := h.kp hk hs
end
theorem pointE_le (O : List (List Int)) (roots : List Int) (i k j : Int) : pointE O roots i k j ≤ 7 := by
  unfold pointE
  split
  · split <;> omega
  · omega

set_option maxRecDepth 100000 in
set_option maxHeartbeats 8000000 in
theorem colorPlays_any {F : Nat → Prop} (vo vr vt : Value) (outs : List (List Int)) (roots : List Int) (steps : List (List Int)) (w : World) (ho : RowsIn w F vo outs) (hr : IntsIn w F vr roots) (ht : RowsIn w F vt steps) (hh : Handle w) :
    Calls Tryd.prog 7 #[.agg #[vo, vr], vt] w fun e w' => e = .returned (.bool true) ∧ Kp No w w' := by
  have HO := hide (ho.mono (F' := Lo w.heap.size) fun k h _ => h)
  have HR := hide (hr.mono (F' := Lo w.heap.size) fun k h _ => h)
  have HT := hide (ht.mono (F' := Lo w.heap.size) fun k h _ => h)
  have HH := hide hh
  clear ho hr ht hh
  obtain ⟨Ao, co, rfl, hco, hmo, _⟩ := RowsIn.form HO.out
  obtain ⟨Ar, cr, rfl, hcr, hmr, _⟩ := id HR.out
  obtain ⟨At_, ct, rfl, hct, hmt, _⟩ := RowsIn.form HT.out
  go_enter Tryd.func7, Tryd.ntmps7
  go_wp2_with fail
  refine Calls.mono (rheap_any _ _ outs roots _ (HO.out.no ((Kp.refl No w).alloc _)) (HR.out.no ((Kp.refl No w).alloc _))) ?_
  rintro e w1 ⟨rfl, hk1⟩
  have HB1 := hide ((Blk.new w 25 #[.slice Ao outs.length co, .slice Ar roots.length cr]).kp hk1 id)
  have HK1 := hide (((Kp.refl No w).alloc (.cells #[.slice Ao outs.length co, .slice Ar roots.length cr] 25)).trans hk1)
  have hw1 := HB1.out.lt
  clear hk1
  obtain ⟨a1, a2, a3, a4, a5⟩ := HB1.out.a2
  by_cases hc : chk outs roots = 0
  · have HOK := hide (ok_of_chk hc)
    have HL12 := hide (ok_of_chk hc).n12
    rw [hc, show ((0 : Nat) : Int) = 0 from rfl]
    clear hc
    go_wp2_with fail
    refine Calls.mono (new_ok _ _ outs roots _ (HO.out.no HK1.out) (HR.out.no HK1.out) HOK.out) ?_
    rintro e w2 ⟨p, mo, mr, mc, ms, rfl, hm2, hp2, hk2⟩
    have HM2 := hide hm2
    have HK2 := hide (HK1.out.trans hk2)
    have HB2 := hide (HB1.out.kp hk2 id)
    have hz2 := hk2.size
    clear hm2 hk2 a1 a2 a3 a4 a5
    obtain ⟨a1, a2, a3, a4, a5⟩ := HB2.out.a2
    go_wp2_with fail
    refine Calls.mono (newColored_any _ _ outs roots _ (HO.out.no HK2.out) (HR.out.no HK2.out) HOK.out) ?_
    rintro e w3 ⟨vc, rfl, hi3, hk3⟩
    obtain ⟨Ac, cc, rfl, _⟩ := id hi3
    have HI3 := hide (hi3.mono (F' := fun b => w2.heap.size ≤ b ∧ b < w3.heap.size) fun b h1 h2 => ⟨h2, h1⟩)
    have HM3 := hide (HM2.out.no hk3)
    have HK3 := hide (HK2.out.trans hk3)
    have hz3 := hk3.size
    clear hi3 hk3 a1 a2 a3 a4 a5
    go_wp2_with fail
    have HMG := hide (show ∀ b, MkF p mo mr mc ms b → w1.heap.size ≤ b ∧ b < w2.heap.size from fun b hb => ⟨by
      rcases hb with rfl | hb | hb | hb
      · exact hp2
      · exact (own_lt HM2.out.out hb).1
      · exact (own_lt HM2.out.root hb).1
      · rcases hb with hb | ⟨u, hu, hb⟩
        · exact (own_lt HM2.out.col hb).1
        · obtain ⟨i, hi, rfl⟩ := List.getElem_of_mem hu
          exact (own_lt (HM2.out.row i hi (by rw [← HM2.out.len]; exact hi)) hb).1, HM2.out.lt hb⟩)
    have HFG := hide (show ∀ b, Lo w.heap.size b → Gz p w3.heap.size mo mr mc ms b from fun b hb => ⟨fun e => by have := (HMG.out b e).1; unfold Lo at hb; omega, by unfold Lo at hb; omega⟩)
    have HA4 := hide (show Alike (w3.alloc (.cells #[.slice Ao outs.length co, .slice Ar roots.length cr, .slice Ac (newC outs roots).length cc] 66)) p w1.heap.size w3.heap.size mo mr mc ms (.slice Ao outs.length co) (.slice Ar roots.length cr) (.slice Ac (newC outs roots).length cc) outs roots (newC outs roots) from
      ⟨HM3.out.no ((Kp.refl No w3).alloc _), HOK.out, newC_length _ _, Blk.new _ _ _, ((HO.out.no HK3.out).mono fun b _ hb => HFG.out b hb).no ((Kp.refl No w3).alloc _), ((HR.out.no HK3.out).mono fun b _ hb => HFG.out b hb).no ((Kp.refl No w3).alloc _),
        (HI3.out.mono fun b _ hb => ⟨fun e => by have := (HMG.out b e).2; omega, by omega⟩).no ((Kp.refl No w3).alloc _), fun e => by have := (HMG.out _ e).2; omega⟩)
    have HK4 := hide (HK3.out.alloc (.cells #[.slice Ao outs.length co, .slice Ar roots.length cr, .slice Ac (newC outs roots).length cc] 66))
    obtain ⟨X, hX⟩ : ∃ X, w3.heap.size = X := ⟨_, rfl⟩
    have HX := hide hX
    rw [hX] at HA4 HFG ⊢
    obtain ⟨W4, hW4⟩ : ∃ W4, w3.alloc (.cells #[.slice Ao outs.length co, .slice Ar roots.length cr, .slice Ac (newC outs roots).length cc] 66) = W4 := ⟨_, rfl⟩
    rw [hW4] at HA4 HK4 ⊢
    clear hW4 hX
    go_loopw [9] (fun q W => ∃ (k : Nat) (vo' vc' : Value) (O : List (List Int)) (C : List Int), q = .int .i64 k ∧ k ≤ steps.length ∧ k ≤ 60 ∧ Hid (Alike W p w1.heap.size X mo mr mc ms vo' (.slice Ar roots.length cr) vc' O roots C) ∧ Hid (Kp No w W)) (fun q _ => 60 - (intOf q).toNat)
    case atStart => exact ⟨0, _, _, outs, newC outs roots, rfl, Nat.zero_le _, by decide, HA4.out, HK4.out⟩
    case round =>
      obtain ⟨k, vo', vc', O, C, rfl, hk, hk60, HA, HKW⟩ := hrel
      have hpx := HA.out.blk.lt
      have hx1 : w2.heap.size ≤ X := by have := HX.out; omega
      have HNEW := hide HA.out.new_
      have HGL := hide (show ∀ b, CoW mc ms b → w1.heap.size ≤ b from fun b hb => (HMG.out b hb.fp).1)
      by_cases hlt : k < steps.length
      · by_cases h60 : k < 60
        · obtain ⟨_, _, e, _, _, hrow⟩ := RowsIn.form (HT.out.no HKW.out)
          cases e
          obtain ⟨bt, ot, A', c', rfl, hFb, hrc, hri⟩ := hrow k hlt
          obtain ⟨l, hl⟩ : ∃ l, steps[k] = l := ⟨_, rfl⟩
          rw [hl] at hrc hri
          obtain ⟨Av, cv, hvv, hcv, hmv, _⟩ := RowsIn.form HA.out.rows
          subst hvv
          obtain ⟨Aw, cw, hvw, hcw, hmw, _⟩ := id HA.out.cols
          subst hvw
          obtain ⟨x1, x2, x3, x4, x5, x6, x7⟩ := HA.out.blk.a3
          clear hrow hl
          by_cases h3 : l.length = 3
          case' pos =>
            obtain ⟨i, kk, j, rfl⟩ : ∃ x0 x1 x2, l = [x0, x1, x2] := by
              match l, h3 with
              | [a, b, c], _ => exact ⟨a, b, c, rfl⟩
            obtain ⟨_, _, e, _, _, hcell⟩ := id hri
            cases e
            obtain ⟨b3, o3, rfl, hF3, i0⟩ := hcell 0 (by simp)
            obtain ⟨_, _, e, _, i1⟩ := hcell 1 (by simp)
            cases e
            obtain ⟨_, _, e, _, i2⟩ := hcell 2 (by simp)
            cases e
            simp only [List.getElem_cons_zero, List.getElem_cons_succ, Nat.add_zero, List.length_cons, List.length_nil, Nat.reduceAdd] at i0 i1 i2 hrc
            clear hcell h3
            go_wp2_with fail
            refine plan_start 17 (by kernel_rfl) rfl (fun hPT => ?_)
            refine plan_take (i := 1) (v := ?_) rfl (by kernel_rfl) (by kernel_rfl) (by kernel_rfl) (fun _ _ _ h => h) hPT (by rfl) ?_ ?_
            rotate_left
            · (intro w; go_simp; with_reducible rfl)
            (clear hPT; intro hPT; simp only [List.getElem_toArray, List.getElem_cons_zero, List.getElem_cons_succ, Act.put, List.setIfInBounds_toArray, List.set_cons_zero, List.set_cons_succ])
            refine plan_take (i := 2) (v := ?_) rfl (by kernel_rfl) (by kernel_rfl) (by kernel_rfl) (fun _ _ _ h => h) hPT (by rfl) ?_ ?_
            rotate_left
            · (intro w; go_simp; with_reducible rfl)
            (clear hPT; intro hPT; simp only [List.getElem_toArray, List.getElem_cons_zero, List.getElem_cons_succ, Act.put, List.setIfInBounds_toArray, List.set_cons_zero, List.set_cons_succ])
            refine plan_take (i := 4) (v := ?_) rfl (by kernel_rfl) (by kernel_rfl) (by kernel_rfl) (fun _ _ _ h => h) hPT (by rfl) ?_ ?_
            rotate_left
            · (intro w; go_simp; with_reducible rfl)
            (clear hPT; intro hPT; simp only [List.getElem_toArray, List.getElem_cons_zero, List.getElem_cons_succ, Act.put, List.setIfInBounds_toArray, List.set_cons_zero, List.set_cons_succ])
            refine plan_take (i := 5) (v := ?_) rfl (by kernel_rfl) (by kernel_rfl) (by kernel_rfl) (fun _ _ _ h => h) hPT (by rfl) ?_ ?_
            rotate_left
            · (intro w; go_simp; with_reducible rfl)
            (clear hPT; intro hPT; simp only [List.getElem_toArray, List.getElem_cons_zero, List.getElem_cons_succ, Act.put, List.setIfInBounds_toArray, List.set_cons_zero, List.set_cons_succ])
            refine plan_take (i := 7) (v := ?_) rfl (by kernel_rfl) (by kernel_rfl) (by kernel_rfl) (fun _ _ _ h => h) hPT (by rfl) ?_ ?_
            rotate_left
            · (intro w; go_simp; with_reducible rfl)
            (clear hPT; intro hPT; simp only [List.getElem_toArray, List.getElem_cons_zero, List.getElem_cons_succ, Act.put, List.setIfInBounds_toArray, List.set_cons_zero, List.set_cons_succ])
            refine plan_take (i := 8) (v := ?_) rfl (by kernel_rfl) (by kernel_rfl) (by kernel_rfl) (fun _ _ _ h => h) hPT (by rfl) ?_ ?_
            rotate_left
            · (intro w; go_simp; with_reducible rfl)
            (clear hPT; intro hPT; simp only [List.getElem_toArray, List.getElem_cons_zero, List.getElem_cons_succ, Act.put, List.setIfInBounds_toArray, List.set_cons_zero, List.set_cons_succ])
            refine plan_load (fun w' => w'.cell? ⟨X, 0, none⟩ = some (.slice Av O.length cv) ∧ w'.cell? ⟨X, 1, none⟩ = some (.slice Ar roots.length cr) ∧ w'.cell? ⟨X, 2, none⟩ = some (.slice Aw C.length cw)) (i := 0) (v := ?_) rfl (by kernel_rfl) (by kernel_rfl) (by kernel_rfl) (fun _ _ _ h => h) hPT (by rfl) ?_ ?_ ?_
            rotate_left
            · (first | exact ⟨by assumption, by assumption, by assumption⟩ | (go_simp; done))
            · (intro w hSw; (try dsimp only at hSw); obtain ⟨hSw1, hSw2, hSw3⟩ := hSw; go_simp; with_reducible rfl)
            (clear hPT; intro hPT; simp only [List.getElem_toArray, List.getElem_cons_zero, List.getElem_cons_succ, Act.put, List.setIfInBounds_toArray, List.set_cons_zero, List.set_cons_succ])
            refine plan_load (fun w' => w'.cell? ⟨b3, o3, none⟩ = some (.int .i64 i)) (i := 3) (v := ?_) rfl (by kernel_rfl) (by kernel_rfl) (by kernel_rfl) (fun _ _ _ h => h) hPT (by rfl) ?_ ?_ ?_
            rotate_left
            · (first | assumption | (go_simp; done))
            · (intro w hSw; (try dsimp only at hSw); go_simp; with_reducible rfl)
            (clear hPT; intro hPT; simp only [List.getElem_toArray, List.getElem_cons_zero, List.getElem_cons_succ, Act.put, List.setIfInBounds_toArray, List.set_cons_zero, List.set_cons_succ])
            refine plan_load (fun w' => w'.cell? ⟨b3, o3 + 1, none⟩ = some (.int .i64 kk)) (i := 6) (v := ?_) rfl (by kernel_rfl) (by kernel_rfl) (by kernel_rfl) (fun _ _ _ h => h) hPT (by rfl) ?_ ?_ ?_
            rotate_left
            · (first | assumption | (go_simp; done))
            · (intro w hSw; (try dsimp only at hSw); go_simp; with_reducible rfl)
            (clear hPT; intro hPT; simp only [List.getElem_toArray, List.getElem_cons_zero, List.getElem_cons_succ, Act.put, List.setIfInBounds_toArray, List.set_cons_zero, List.set_cons_succ])
            refine plan_load (fun w' => w'.cell? ⟨b3, o3 + 2, none⟩ = some (.int .i64 j)) (i := 9) (v := ?_) rfl (by kernel_rfl) (by kernel_rfl) (by kernel_rfl) (fun _ _ _ h => h) hPT (by rfl) ?_ ?_ ?_
            rotate_left
            · (first | assumption | (go_simp; done))
            · (intro w hSw; (try dsimp only at hSw); go_simp; with_reducible rfl)
            (clear hPT; intro hPT; simp only [List.getElem_toArray, List.getElem_cons_zero, List.getElem_cons_succ, Act.put, List.setIfInBounds_toArray, List.set_cons_zero, List.set_cons_succ])
            refine plan_two (i := 10) (j := 14) (by kernel_rfl) rfl rfl (by rfl) (by rfl) (fun K hK => ?ordA) (fun K hK => ?ordB)
            case' ordA =>
              (try simp only [List.getElem_toArray, List.getElem_cons_zero, List.getElem_cons_succ, Act.put, List.setIfInBounds_toArray, List.set_cons_zero, List.set_cons_succ])
              go_simp
              refine Calls.mono (rpoint_any (F := Gz p X mo mr mc ms) _ _ _ O roots C i kk j _ (HA.out.rows.no (by (repeat (first | exact Kp.refl _ _ | with_reducible refine Kp.drewN ?_ _ | with_reducible refine Kp.drew ?_ | with_reducible refine Kp.alloc ?_ _ | with_reducible refine Kp.setCell ?_ (fun _ => ?_) _)); all_goals (simp_all; omega))) (HA.out.rts.no (by (repeat (first | exact Kp.refl _ _ | with_reducible refine Kp.drewN ?_ _ | with_reducible refine Kp.drew ?_ | with_reducible refine Kp.alloc ?_ _ | with_reducible refine Kp.setCell ?_ (fun _ => ?_) _)); all_goals (simp_all; omega))) (HA.out.cols.no (by (repeat (first | exact Kp.refl _ _ | with_reducible refine Kp.drewN ?_ _ | with_reducible refine Kp.drew ?_ | with_reducible refine Kp.alloc ?_ _ | with_reducible refine Kp.setCell ?_ (fun _ => ?_) _)); all_goals (simp_all; omega))) HA.out.ok HA.out.len (fun b hb => HNEW.out b (by simpa using hb))) ?_
              rintro e w5 ⟨v5, u5, rfl, ho5, hi5, hk5⟩
              have HO5 := hide ho5
              have HI5 := hide hi5
              have HK5 := hide ((show Kp No wr _ from (by (repeat (first | exact Kp.refl _ _ | with_reducible refine Kp.drewN ?_ _ | with_reducible refine Kp.drew ?_ | with_reducible refine Kp.alloc ?_ _ | with_reducible refine Kp.setCell ?_ (fun _ => ?_) _)); all_goals (simp_all; omega))).trans hk5)
              obtain ⟨A5, c5, hv5, _⟩ := RowsIn.form ho5
              rw [pointO_length] at hv5
              subst hv5
              obtain ⟨A6, c6, hv6, _⟩ := id hi5
              rw [pointC_length] at hv6
              subst hv6
              clear ho5 hi5 hk5 x1 x2 x3 x4 x5 x6 x7
              refine hK.out [] _ _ (t_nil _) (k_drop (by kernel_rfl) (k_drop (by kernel_rfl) (k_drop (by kernel_rfl) (k_drop (by kernel_rfl) k_nil)))) (fun hPT' => ?_)
              (clear hPT hK K; have hPT := hPT'; clear hPT'; try simp only [List.getElem_toArray, List.getElem_cons_zero, List.getElem_cons_succ, Act.put, List.setIfInBounds_toArray, List.set_cons_zero, List.set_cons_succ])
              refine plan_take (i := 11) (v := ?_) rfl (by kernel_rfl) (by kernel_rfl) (by kernel_rfl) (fun _ _ _ h => h) hPT (by rfl) ?_ ?_
              rotate_left
              · (intro w; go_simp; with_reducible rfl)
              (clear hPT; intro hPT; simp only [List.getElem_toArray, List.getElem_cons_zero, List.getElem_cons_succ, Act.put, List.setIfInBounds_toArray, List.set_cons_zero, List.set_cons_succ])
              refine plan_take (i := 12) (v := ?_) rfl (by kernel_rfl) (by kernel_rfl) (by kernel_rfl) (fun _ _ _ h => h) hPT (by rfl) ?_ ?_
              rotate_left
              · (intro w; go_simp; with_reducible rfl)
              (clear hPT; intro hPT; simp only [List.getElem_toArray, List.getElem_cons_zero, List.getElem_cons_succ, Act.put, List.setIfInBounds_toArray, List.set_cons_zero, List.set_cons_succ])
              refine plan_take (i := 13) (v := ?_) rfl (by kernel_rfl) (by kernel_rfl) (by kernel_rfl) (fun _ _ _ h => h) hPT (by rfl) ?_ ?_
              rotate_left
              · (intro w; go_simp; with_reducible rfl)
              (clear hPT; intro hPT; simp only [List.getElem_toArray, List.getElem_cons_zero, List.getElem_cons_succ, Act.put, List.setIfInBounds_toArray, List.set_cons_zero, List.set_cons_succ])
              refine plan_one (i := 14) (by kernel_rfl) rfl (by rfl) (fun K hK => ?_)
              (try simp only [List.getElem_toArray, List.getElem_cons_zero, List.getElem_cons_succ, Act.put, List.setIfInBounds_toArray, List.set_cons_zero, List.set_cons_succ])
              go_simp
              refine hK.out [] _ _ (t_nil _) k_nil (fun hPT' => ?_)
              (clear hPT hK K; have hPT := hPT'; clear hPT'; try simp only [List.getElem_toArray, List.getElem_cons_zero, List.getElem_cons_succ, Act.put, List.setIfInBounds_toArray, List.set_cons_zero, List.set_cons_succ])
              refine plan_one (i := 15) (by kernel_rfl) rfl (by rfl) (fun K hK => ?_)
              (try simp only [List.getElem_toArray, List.getElem_cons_zero, List.getElem_cons_succ, Act.put, List.setIfInBounds_toArray, List.set_cons_zero, List.set_cons_succ])
              go_simp
              refine hK.out [] _ _ (t_nil _) k_nil (fun hPT' => ?_)
              (clear hPT hK K; have hPT := hPT'; clear hPT'; try simp only [List.getElem_toArray, List.getElem_cons_zero, List.getElem_cons_succ, Act.put, List.setIfInBounds_toArray, List.set_cons_zero, List.set_cons_succ])
              refine plan_take (i := 16) (v := ?_) rfl (by kernel_rfl) (by kernel_rfl) (by kernel_rfl) (fun _ _ _ h => h) hPT (by rfl) ?_ ?_
              rotate_left
              · (intro w; go_simp; with_reducible rfl)
              (clear hPT; intro hPT; simp only [List.getElem_toArray, List.getElem_cons_zero, List.getElem_cons_succ, Act.put, List.setIfInBounds_toArray, List.set_cons_zero, List.set_cons_succ])
              refine plan_done (by kernel_rfl) ?_ _
              clear hPT
              obtain ⟨t, htt⟩ : ∃ t, w5.heap.size = t := ⟨_, rfl⟩
              have HQ6 := hide (show Blk (w5.alloc (.cells #[.slice A5 O.length c5, .slice Ar roots.length cr, .slice A6 C.length c6] 66)) t 66 #[.slice A5 O.length c5, .slice Ar roots.length cr, .slice A6 C.length c6] from Blk.at_ _ _ htt)
              have HK6 := hide (HK5.out.alloc (.cells #[.slice A5 O.length c5, .slice Ar roots.length cr, .slice A6 C.length c6] 66))
              have HO6 := hide ((HO5.out.mono (F' := fun b => Gz p X mo mr mc ms b ∧ b ≠ t) fun b h1 h2 => ⟨h2, by omega⟩).no ((Kp.refl No w5).alloc (.cells #[.slice A5 O.length c5, .slice Ar roots.length cr, .slice A6 C.length c6] 66)))
              have HI6 := hide ((HI5.out.mono (F' := fun b => Gz p X mo mr mc ms b ∧ b ≠ t) fun b h1 h2 => ⟨h2, by omega⟩).no ((Kp.refl No w5).alloc (.cells #[.slice A5 O.length c5, .slice Ar roots.length cr, .slice A6 C.length c6] 66)))
              have htx : X < t := by have := HK5.out.size; omega
              have htw : wr.heap.size ≤ t := by have := HK5.out.size; omega
              obtain ⟨W6, hW6⟩ : ∃ W6, w5.alloc (.cells #[.slice A5 O.length c5, .slice Ar roots.length cr, .slice A6 C.length c6] 66) = W6 := ⟨_, rfl⟩
              rw [hW6] at HQ6 HK6 HO6 HI6
              rw [htt, hW6]
              clear HO5 HI5 HK5 htt hW6
            case' ordB =>
              (try simp only [List.getElem_toArray, List.getElem_cons_zero, List.getElem_cons_succ, Act.put, List.setIfInBounds_toArray, List.set_cons_zero, List.set_cons_succ])
              go_simp
              obtain ⟨t, htt⟩ : ∃ t, wr.heap.size = t := ⟨_, rfl⟩
              have HQ0 := hide (show Blk (wr.alloc (.cells #[.slice none 0 0, .slice none 0 0, .slice none 0 0] 66)).drew t 66 #[.slice none 0 0, .slice none 0 0, .slice none 0 0] from (Blk.at_ _ _ htt).drew)
              have HKB := hide (show Kp No wr (wr.alloc (.cells #[.slice none 0 0, .slice none 0 0, .slice none 0 0] 66)).drew from ((Kp.refl No wr).alloc _).drew)
              have htx : X < t := by omega
              have htw : wr.heap.size ≤ t := by omega
              have HGG := hide (show ∀ W' : World, t < W'.heap.size → ∀ b, W'.heap.size ≤ b → Gz p X mo mr mc ms b ∧ b ≠ t from fun W' h b hb => ⟨HNEW.out b (by omega), by omega⟩)
              have HRO := hide ((HA.out.rows.mono (F' := fun b => Gz p X mo mr mc ms b ∧ b ≠ t) fun b h1 h2 => ⟨h2, by omega⟩).no HKB.out)
              have HRR := hide ((HA.out.rts.mono (F' := fun b => Gz p X mo mr mc ms b ∧ b ≠ t) fun b h1 h2 => ⟨h2, by omega⟩).no HKB.out)
              have HRC := hide ((HA.out.cols.mono (F' := fun b => Gz p X mo mr mc ms b ∧ b ≠ t) fun b h1 h2 => ⟨h2, by omega⟩).no HKB.out)
              refine hK.out _ _ _ (t_cons (HKB.out.cell i2 id) (t_cons (HKB.out.cell i1 id) (t_cons (HKB.out.cell i0 id) (t_cons ⟨HKB.out.cell x1 id, HKB.out.cell x2 id, HKB.out.cell x3 id⟩ (t_nil _))))) k_same (fun hPT' => ?_)
              (clear hPT hK K; have hPT := hPT'; clear hPT'; try simp only [List.getElem_toArray, List.getElem_cons_zero, List.getElem_cons_succ, Act.put, List.setIfInBounds_toArray, List.set_cons_zero, List.set_cons_succ])
              refine plan_one (i := 10) (by kernel_rfl) rfl (by rfl) (fun K hK => ?_)
              (try simp only [List.getElem_toArray, List.getElem_cons_zero, List.getElem_cons_succ, Act.put, List.setIfInBounds_toArray, List.set_cons_zero, List.set_cons_succ])
              go_simp
              refine Calls.mono (rpoint_any (F := fun b => Gz p X mo mr mc ms b ∧ b ≠ t) _ _ _ O roots C i kk j _ HRO.out HRR.out HRC.out HA.out.ok HA.out.len (HGG.out _ HQ0.out.lt)) ?_
              rintro e w5 ⟨v5, u5, rfl, ho5, hi5, hk5⟩
              have HO5 := hide ho5
              have HI5 := hide hi5
              have HK5 := hide (HKB.out.trans hk5)
              have HQ5 := hide (HQ0.out.kp hk5 id)
              obtain ⟨A5, c5, hv5, _⟩ := RowsIn.form ho5
              rw [pointO_length] at hv5
              subst hv5
              obtain ⟨A6, c6, hv6, _⟩ := id hi5
              rw [pointC_length] at hv6
              subst hv6
              obtain ⟨y1, y2, y3, y4, y5, y6, y7⟩ := HQ5.out.a3
              clear ho5 hi5 hk5 x1 x2 x3 x4 x5 x6 x7
              refine hK.out [] _ _ (t_nil _) (k_drop (by kernel_rfl) (k_drop (by kernel_rfl) (k_drop (by kernel_rfl) (k_drop (by kernel_rfl) k_nil)))) (fun hPT' => ?_)
              (clear hPT hK K; have hPT := hPT'; clear hPT'; try simp only [List.getElem_toArray, List.getElem_cons_zero, List.getElem_cons_succ, Act.put, List.setIfInBounds_toArray, List.set_cons_zero, List.set_cons_succ])
              refine plan_take (i := 11) (v := ?_) rfl (by kernel_rfl) (by kernel_rfl) (by kernel_rfl) (fun _ _ _ h => h) hPT (by rfl) ?_ ?_
              rotate_left
              · (intro w; go_simp; with_reducible rfl)
              (clear hPT; intro hPT; simp only [List.getElem_toArray, List.getElem_cons_zero, List.getElem_cons_succ, Act.put, List.setIfInBounds_toArray, List.set_cons_zero, List.set_cons_succ])
              refine plan_take (i := 12) (v := ?_) rfl (by kernel_rfl) (by kernel_rfl) (by kernel_rfl) (fun _ _ _ h => h) hPT (by rfl) ?_ ?_
              rotate_left
              · (intro w; go_simp; with_reducible rfl)
              (clear hPT; intro hPT; simp only [List.getElem_toArray, List.getElem_cons_zero, List.getElem_cons_succ, Act.put, List.setIfInBounds_toArray, List.set_cons_zero, List.set_cons_succ])
              refine plan_take (i := 13) (v := ?_) rfl (by kernel_rfl) (by kernel_rfl) (by kernel_rfl) (fun _ _ _ h => h) hPT (by rfl) ?_ ?_
              rotate_left
              · (intro w; go_simp; with_reducible rfl)
              (clear hPT; intro hPT; simp only [List.getElem_toArray, List.getElem_cons_zero, List.getElem_cons_succ, Act.put, List.setIfInBounds_toArray, List.set_cons_zero, List.set_cons_succ])
              refine plan_one (i := 15) (by kernel_rfl) rfl (by rfl) (fun K hK => ?_)
              (try simp only [List.getElem_toArray, List.getElem_cons_zero, List.getElem_cons_succ, Act.put, List.setIfInBounds_toArray, List.set_cons_zero, List.set_cons_succ])
              go_simp
              refine hK.out [] _ _ (t_nil _) k_nil (fun hPT' => ?_)
              (clear hPT hK K; have hPT := hPT'; clear hPT'; try simp only [List.getElem_toArray, List.getElem_cons_zero, List.getElem_cons_succ, Act.put, List.setIfInBounds_toArray, List.set_cons_zero, List.set_cons_succ])
              refine plan_take (i := 16) (v := ?_) rfl (by kernel_rfl) (by kernel_rfl) (by kernel_rfl) (fun _ _ _ h => h) hPT (by rfl) ?_ ?_
              rotate_left
              · (intro w; go_simp; with_reducible rfl)
              (clear hPT; intro hPT; simp only [List.getElem_toArray, List.getElem_cons_zero, List.getElem_cons_succ, Act.put, List.setIfInBounds_toArray, List.set_cons_zero, List.set_cons_succ])
              refine plan_done (by kernel_rfl) ?_ _
              clear hPT
              obtain ⟨W6, hW6⟩ : ∃ W6, ((w5.setCell ⟨t, 0, none⟩ (.slice A5 O.length c5)).setCell ⟨t, 1, none⟩ (.slice Ar roots.length cr)).setCell ⟨t, 2, none⟩ (.slice A6 C.length c6) = W6 := ⟨_, rfl⟩
              have hk3 : Kp (At t) w5 W6 := by rw [← hW6]; exact kp_three _ _ _ _ _
              have HQ6 := hide (show Blk W6 t 66 #[.slice A5 O.length c5, .slice Ar roots.length cr, .slice A6 C.length c6] by rw [← hW6]; exact ((HQ5.out.set_ 0 _).set_ 1 _).set_ 2 _)
              have HK6 := hide (HK5.out.trans' hk3 fun b hb e => by unfold At at e; omega)
              have HO6 := hide (HO5.out.kp hk3 fun b hb e => hb.2 e)
              have HI6 := hide (HI5.out.kp hk3 fun b hb e => hb.2 e)
              rw [hW6]
              clear hW6 hk3 HO5 HI5 HK5 HQ5 HQ0 HKB HGG HRO HRR HRC htt y1 y2 y3 y4 y5 y6 y7
            all_goals
              have HB6 := hide (HA.out.blk.kp HK6.out id)
              obtain ⟨x1, x2, x3, x4, x5, x6, x7⟩ := HB6.out.a3
              obtain ⟨y1, y2, y3, y4, y5, y6, y7⟩ := HQ6.out.a3
              go_wp2_with fail
              have hk7 := kp_three W6 X (.slice A5 O.length c5) (.slice Ar roots.length cr) (.slice A6 C.length c6)
              have hb7 : Blk (((W6.setCell ⟨X, 0, none⟩ (.slice A5 O.length c5)).setCell ⟨X, 1, none⟩ (.slice Ar roots.length cr)).setCell ⟨X, 2, none⟩ (.slice A6 C.length c6)) X 66 #[.slice A5 O.length c5, .slice Ar roots.length cr, .slice A6 C.length c6] := ((HB6.out.set_ 0 _).set_ 1 _).set_ 2 _
              obtain ⟨W7, hW7⟩ : ∃ W7, ((W6.setCell ⟨X, 0, none⟩ (.slice A5 O.length c5)).setCell ⟨X, 1, none⟩ (.slice Ar roots.length cr)).setCell ⟨X, 2, none⟩ (.slice A6 C.length c6) = W7 := ⟨_, rfl⟩
              rw [hW7] at hk7 hb7 ⊢
              have HB7 := hide hb7
              have HK7 := hide (show Kp (At X) wr W7 from HK6.out.of_no.trans hk7)
              have HO7 := hide ((HO6.out.kp hk7 fun b hb e => hb.1.2 e).mono (F' := Gz p X mo mr mc ms) fun b _ h => h.1)
              have HI7 := hide ((HI6.out.kp hk7 fun b hb e => hb.1.2 e).mono (F' := Gz p X mo mr mc ms) fun b _ h => h.1)
              have HM7 := hide (HA.out.mark.kp HK7.out fun b hb e => by unfold At at e; subst e; exact HA.out.far hb)
              have HR7 := hide (HA.out.rts.kp HK7.out fun b hb e => hb.2 e)
              have HKF := hide (HKW.out.trans' HK7.out fun b hb e => by unfold At at e; omega)
              have j0 := HK7.out.cell i0 (fun e => by unfold At at e; unfold Lo at hF3; simp only at e; omega)
              have j1 := HK7.out.cell i1 (fun e => by unfold At at e; unfold Lo at hF3; simp only at e; omega)
              have j2 := HK7.out.cell i2 (fun e => by unfold At at e; unfold Lo at hF3; simp only at e; omega)
              clear hk7 hb7 hW7 x1 x2 x3 x4 x5 x6 x7 y1 y2 y3 y4 y5 y6 y7 i0 i1 i2 HQ6 HK6 HO6 HI6 HB6
              refine plan_start 14 (by kernel_rfl) rfl (fun hPT => ?_)
              refine plan_take (i := 0) (v := ?_) rfl (by kernel_rfl) (by kernel_rfl) (by kernel_rfl) (fun _ _ _ h => h) hPT (by rfl) ?_ ?_
              rotate_left
              · (intro w; go_simp; with_reducible rfl)
              (clear hPT; intro hPT; simp only [List.getElem_toArray, List.getElem_cons_zero, List.getElem_cons_succ, Act.put, List.setIfInBounds_toArray, List.set_cons_zero, List.set_cons_succ])
              refine plan_take (i := 1) (v := ?_) rfl (by kernel_rfl) (by kernel_rfl) (by kernel_rfl) (fun _ _ _ h => h) hPT (by rfl) ?_ ?_
              rotate_left
              · (intro w; go_simp; with_reducible rfl)
              (clear hPT; intro hPT; simp only [List.getElem_toArray, List.getElem_cons_zero, List.getElem_cons_succ, Act.put, List.setIfInBounds_toArray, List.set_cons_zero, List.set_cons_succ])
              refine plan_take (i := 2) (v := ?_) rfl (by kernel_rfl) (by kernel_rfl) (by kernel_rfl) (fun _ _ _ h => h) hPT (by rfl) ?_ ?_
              rotate_left
              · (intro w; go_simp; with_reducible rfl)
              (clear hPT; intro hPT; simp only [List.getElem_toArray, List.getElem_cons_zero, List.getElem_cons_succ, Act.put, List.setIfInBounds_toArray, List.set_cons_zero, List.set_cons_succ])
              refine plan_take (i := 4) (v := ?_) rfl (by kernel_rfl) (by kernel_rfl) (by kernel_rfl) (fun _ _ _ h => h) hPT (by rfl) ?_ ?_
              rotate_left
              · (intro w; go_simp; with_reducible rfl)
              (clear hPT; intro hPT; simp only [List.getElem_toArray, List.getElem_cons_zero, List.getElem_cons_succ, Act.put, List.setIfInBounds_toArray, List.set_cons_zero, List.set_cons_succ])
              refine plan_take (i := 5) (v := ?_) rfl (by kernel_rfl) (by kernel_rfl) (by kernel_rfl) (fun _ _ _ h => h) hPT (by rfl) ?_ ?_
              rotate_left
              · (intro w; go_simp; with_reducible rfl)
              (clear hPT; intro hPT; simp only [List.getElem_toArray, List.getElem_cons_zero, List.getElem_cons_succ, Act.put, List.setIfInBounds_toArray, List.set_cons_zero, List.set_cons_succ])
              refine plan_take (i := 7) (v := ?_) rfl (by kernel_rfl) (by kernel_rfl) (by kernel_rfl) (fun _ _ _ h => h) hPT (by rfl) ?_ ?_
              rotate_left
              · (intro w; go_simp; with_reducible rfl)
              (clear hPT; intro hPT; simp only [List.getElem_toArray, List.getElem_cons_zero, List.getElem_cons_succ, Act.put, List.setIfInBounds_toArray, List.set_cons_zero, List.set_cons_succ])
              refine plan_take (i := 8) (v := ?_) rfl (by kernel_rfl) (by kernel_rfl) (by kernel_rfl) (fun _ _ _ h => h) hPT (by rfl) ?_ ?_
              rotate_left
              · (intro w; go_simp; with_reducible rfl)
              (clear hPT; intro hPT; simp only [List.getElem_toArray, List.getElem_cons_zero, List.getElem_cons_succ, Act.put, List.setIfInBounds_toArray, List.set_cons_zero, List.set_cons_succ])
              refine plan_take (i := 11) (v := ?_) rfl (by kernel_rfl) (by kernel_rfl) (by kernel_rfl) (fun _ _ _ h => h) hPT (by rfl) ?_ ?_
              rotate_left
              · (intro w; go_simp; with_reducible rfl)
              (clear hPT; intro hPT; simp only [List.getElem_toArray, List.getElem_cons_zero, List.getElem_cons_succ, Act.put, List.setIfInBounds_toArray, List.set_cons_zero, List.set_cons_succ])
              refine plan_load (fun w' => w'.cell? ⟨b3, o3, none⟩ = some (.int .i64 i)) (i := 3) (v := ?_) rfl (by kernel_rfl) (by kernel_rfl) (by kernel_rfl) (fun _ _ _ h => h) hPT (by rfl) ?_ ?_ ?_
              rotate_left
              · (first | assumption | (go_simp; done))
              · (intro w hSw; (try dsimp only at hSw); go_simp; with_reducible rfl)
              (clear hPT; intro hPT; simp only [List.getElem_toArray, List.getElem_cons_zero, List.getElem_cons_succ, Act.put, List.setIfInBounds_toArray, List.set_cons_zero, List.set_cons_succ])
              refine plan_load (fun w' => w'.cell? ⟨b3, o3 + 1, none⟩ = some (.int .i64 kk)) (i := 6) (v := ?_) rfl (by kernel_rfl) (by kernel_rfl) (by kernel_rfl) (fun _ _ _ h => h) hPT (by rfl) ?_ ?_ ?_
              rotate_left
              · (first | assumption | (go_simp; done))
              · (intro w hSw; (try dsimp only at hSw); go_simp; with_reducible rfl)
              (clear hPT; intro hPT; simp only [List.getElem_toArray, List.getElem_cons_zero, List.getElem_cons_succ, Act.put, List.setIfInBounds_toArray, List.set_cons_zero, List.set_cons_succ])
              refine plan_load (fun w' => w'.cell? ⟨b3, o3 + 2, none⟩ = some (.int .i64 j)) (i := 9) (v := ?_) rfl (by kernel_rfl) (by kernel_rfl) (by kernel_rfl) (fun _ _ _ h => h) hPT (by rfl) ?_ ?_ ?_
              rotate_left
              · (first | assumption | (go_simp; done))
              · (intro w hSw; (try dsimp only at hSw); go_simp; with_reducible rfl)
              (clear hPT; intro hPT; simp only [List.getElem_toArray, List.getElem_cons_zero, List.getElem_cons_succ, Act.put, List.setIfInBounds_toArray, List.set_cons_zero, List.set_cons_succ])
              refine plan_one (i := 10) (by kernel_rfl) rfl (by rfl) (fun K hK => ?_)
              (try simp only [List.getElem_toArray, List.getElem_cons_zero, List.getElem_cons_succ, Act.put, List.setIfInBounds_toArray, List.set_cons_zero, List.set_cons_succ])
              go_simp
              refine Calls.mono (point_any i kk j _ (HM7.out.no (Kp.refl No _).drew) HA.out.ok HA.out.len) ?_
              rintro e w8 ⟨rfl, hm8, hk8⟩
              have HM8 := hide hm8
              have HK8 := hide ((Kp.refl _ W7).drew.trans hk8)
              clear hm8 hk8
              refine hK.out [] _ _ (t_nil _) (k_drop (by kernel_rfl) (k_drop (by kernel_rfl) (k_drop (by kernel_rfl) k_nil))) (fun hPT' => ?_)
              (clear hPT hK K; have hPT := hPT'; clear hPT'; try simp only [List.getElem_toArray, List.getElem_cons_zero, List.getElem_cons_succ, Act.put, List.setIfInBounds_toArray, List.set_cons_zero, List.set_cons_succ])
              refine plan_one (i := 12) (by kernel_rfl) rfl (by rfl) (fun K hK => ?_)
              (try simp only [List.getElem_toArray, List.getElem_cons_zero, List.getElem_cons_succ, Act.put, List.setIfInBounds_toArray, List.set_cons_zero, List.set_cons_succ])
              go_simp
              have hk8w : Kp No w w8 := HKF.out.trans' HK8.out fun b hb e => by have := HGL.out b e; omega
              refine Calls.mono (same_err (pointE O roots i kk j) (by have := pointE_le O roots i kk j; omega) _ (HH.out.no hk8w)) ?_
              rintro e w9 ⟨rfl, hk9⟩
              have hfarG : ∀ b, Gz p X mo mr mc ms b → ¬ CoW mc ms b := fun b hb e => hb.1 e.fp
              have HA9 := hide (show Alike w9 p w1.heap.size X mo mr mc ms (.slice A5 O.length c5) (.slice Ar roots.length cr) (.slice A6 C.length c6) (pointO O roots i kk j) roots (pointC O roots i kk j C) from
                (⟨HM8.out, HA.out.ok.point i kk j, by rw [pointO_length, pointC_length]; exact HA.out.len, HB7.out.kp HK8.out fun e => HA.out.far e.fp, HO7.out.kp HK8.out hfarG, HR7.out.kp HK8.out hfarG, HI7.out.kp HK8.out hfarG, HA.out.far⟩ : Alike w8 p w1.heap.size X mo mr mc ms (.slice A5 O.length c5) (.slice Ar roots.length cr) (.slice A6 C.length c6) (pointO O roots i kk j) roots (pointC O roots i kk j C)).no hk9)
              have HK9 := hide (hk8w.trans hk9)
              refine hK.out [] _ _ (t_nil _) k_nil (fun hPT' => ?_)
              (clear hPT hK K; have hPT := hPT'; clear hPT'; try simp only [List.getElem_toArray, List.getElem_cons_zero, List.getElem_cons_succ, Act.put, List.setIfInBounds_toArray, List.set_cons_zero, List.set_cons_succ])
              refine plan_take (i := 13) (v := ?_) rfl (by kernel_rfl) (by kernel_rfl) (by kernel_rfl) (fun _ _ _ h => h) hPT (by rfl) ?_ ?_
              rotate_left
              · (intro w; go_simp; with_reducible rfl)
              (clear hPT; intro hPT; simp only [List.getElem_toArray, List.getElem_cons_zero, List.getElem_cons_succ, Act.put, List.setIfInBounds_toArray, List.set_cons_zero, List.set_cons_succ])
              refine plan_done (by kernel_rfl) ?_ _
              clear hPT
              clear hk9 hk8w HM8 HK8 HB7 HO7 HI7 HM7 HR7 HKF HK7 j0 j1 j2 hfarG HGL HNEW
              go_wp2_with fail
              obtain ⟨O2, hO2⟩ : ∃ O2, pointO O roots i kk j = O2 := ⟨_, rfl⟩
              obtain ⟨C2, hC2⟩ : ∃ C2, pointC O roots i kk j C = C2 := ⟨_, rfl⟩
              have hl1 : O.length = O2.length := by rw [← hO2, pointO_length]
              have hl2 : C.length = C2.length := by rw [← hC2, pointC_length]
              rw [hO2, hC2, hl1, hl2] at HA9
              clear hO2 hC2
              have HA10 := hide (show ∃ A5 c5 A6 c6, Alike w9 p w1.heap.size X mo mr mc ms (.slice A5 O2.length c5) (.slice Ar roots.length cr) (.slice A6 C2.length c6) O2 roots C2 from ⟨_, _, _, _, HA9.out⟩)
              clear HA9
          case' neg =>
            have hl3 : ¬ ((l.length : Int) = 3) := by omega
            clear h3
            go_wp2_with fail
            refine Calls.mono (rstep_any (F := Gz p X mo mr mc ms) _ _ _ O roots C _ HA.out.rows HA.out.rts HA.out.cols HA.out.ok HA.out.len HNEW.out) ?_
            rintro e w5 ⟨u5, rfl, hi5, hk5⟩
            obtain ⟨A6, c6, hv6, _⟩ := id hi5
            rw [stepC_length] at hv6
            subst hv6
            have HK5 := hide hk5
            have HI5 := hide (hi5.mono (F' := fun b => Gz p X mo mr mc ms b ∧ b < w5.heap.size) fun b h1 h2 => ⟨h2, h1⟩)
            have HB5 := hide (HA.out.blk.kp hk5 id)
            clear hi5 hk5 x1 x2 x3 x4 x5 x6 x7
            obtain ⟨x1, x2, x3, x4, x5, x6, x7⟩ := HB5.out.a3
            obtain ⟨d, hd⟩ : ∃ d, decide ((1 : Int) ∈ C) = d := ⟨_, rfl⟩
            have HD := hide hd
            rw [hd]
            clear hd
            go_wp2_with fail
            have hk7 := kp_three w5 X (.slice Av O.length cv) (.slice Ar roots.length cr) (.slice A6 C.length c6)
            have hb7 : Blk (((w5.setCell ⟨X, 0, none⟩ (.slice Av O.length cv)).setCell ⟨X, 1, none⟩ (.slice Ar roots.length cr)).setCell ⟨X, 2, none⟩ (.slice A6 C.length c6)) X 66 #[.slice Av O.length cv, .slice Ar roots.length cr, .slice A6 C.length c6] := ((HB5.out.set_ 0 _).set_ 1 _).set_ 2 _
            have hfx : ∀ b, Gz p X mo mr mc ms b → ¬ At X b := fun b hb e => hb.2 e
            have ha7 : Alike (((w5.setCell ⟨X, 0, none⟩ (.slice Av O.length cv)).setCell ⟨X, 1, none⟩ (.slice Ar roots.length cr)).setCell ⟨X, 2, none⟩ (.slice A6 C.length c6)) p w1.heap.size X mo mr mc ms (.slice Av O.length cv) (.slice Ar roots.length cr) (.slice A6 C.length c6) O roots C → True := fun _ => trivial
            clear ha7
            have HM7 := hide (show MarkAt ((((w5.setCell ⟨X, 0, none⟩ (.slice Av O.length cv)).setCell ⟨X, 1, none⟩ (.slice Ar roots.length cr)).setCell ⟨X, 2, none⟩ (.slice A6 C.length c6)).alloc (.cells #[.slice Av O.length cv, .slice Ar roots.length cr, .slice A6 C.length c6] 66)) p w1.heap.size mo mr mc ms O roots C from
              ((HA.out.mark.no HK5.out).kp hk7 fun b hb e => by unfold At at e; subst e; exact HA.out.far hb).no ((Kp.refl No _).alloc _))
            have HB7 := hide (hb7.alloc (.cells #[.slice Av O.length cv, .slice Ar roots.length cr, .slice A6 C.length c6] 66))
            have HO7 := hide ((((HA.out.rows.no HK5.out).kp hk7 hfx).no ((Kp.refl No _).alloc (.cells #[.slice Av O.length cv, .slice Ar roots.length cr, .slice A6 C.length c6] 66))))
            have HR7 := hide ((((HA.out.rts.no HK5.out).kp hk7 hfx).no ((Kp.refl No _).alloc (.cells #[.slice Av O.length cv, .slice Ar roots.length cr, .slice A6 C.length c6] 66))))
            have HI7 := hide ((((HI5.out.mono (F' := Gz p X mo mr mc ms) fun b _ h => h.1).kp hk7 hfx).no ((Kp.refl No _).alloc (.cells #[.slice Av O.length cv, .slice Ar roots.length cr, .slice A6 C.length c6] 66))))
            have HKF := hide (((HKW.out.trans HK5.out).trans' hk7 fun b hb e => by unfold At at e; omega).alloc (.cells #[.slice Av O.length cv, .slice Ar roots.length cr, .slice A6 C.length c6] 66))
            obtain ⟨W7, hW7⟩ : ∃ W7, (((w5.setCell ⟨X, 0, none⟩ (.slice Av O.length cv)).setCell ⟨X, 1, none⟩ (.slice Ar roots.length cr)).setCell ⟨X, 2, none⟩ (.slice A6 C.length c6)).alloc (.cells #[.slice Av O.length cv, .slice Ar roots.length cr, .slice A6 C.length c6] 66) = W7 := ⟨_, rfl⟩
            rw [hW7] at HM7 HB7 HO7 HR7 HI7 HKF ⊢
            clear hW7 hk7 hb7 hfx x1 x2 x3 x4 x5 x6 x7 HB5 HI5 HK5
            refine Calls.mono (step_any _ HM7.out HA.out.ok HA.out.len) ?_
            rw [HD.out]
            rintro e w9 ⟨rfl, hm9, hk9⟩
            have hfarC : ∀ b, Gz p X mo mr mc ms b → ¬ (mc.ownBlock = some b) := fun b hb e => hb.1 (CoW.fp (.inl e))
            have HA9 := hide (show Alike w9 p w1.heap.size X mo mr mc ms (.slice Av O.length cv) (.slice Ar roots.length cr) (.slice A6 C.length c6) O roots (stepC O C) from
              ⟨hm9, HA.out.ok, by rw [stepC_length]; exact HA.out.len, HB7.out.kp hk9 fun e => HA.out.far (CoW.fp (.inl e)), HO7.out.kp hk9 hfarC, HR7.out.kp hk9 hfarC, HI7.out.kp hk9 hfarC, HA.out.far⟩)
            have HK9 := hide (show Kp No w w9 from HKF.out.trans' hk9 fun b hb e => by have := HGL.out b (.inl e); omega)
            clear hm9 hk9 HM7 HB7 HO7 HR7 HI7 HKF hfarC HGL HNEW
            cases d
            all_goals
              go_wp2_with fail
              obtain ⟨O2, hO2⟩ : ∃ O2, O = O2 := ⟨_, rfl⟩
              obtain ⟨C2, hC2⟩ : ∃ C2, stepC O C = C2 := ⟨_, rfl⟩
              have hl2 : C.length = C2.length := by rw [← hC2, stepC_length]
              have HA10 := hide (show ∃ A5 c5 A6 c6, Alike w9 p w1.heap.size X mo mr mc ms (.slice A5 O2.length c5) (.slice Ar roots.length cr) (.slice A6 C2.length c6) O2 roots C2 from ⟨_, _, _, _, by have := HA9.out; rw [hC2, hl2, hO2] at this; exact this⟩)
              clear HA9 hC2 hO2
          all_goals
            obtain ⟨A5, c5, A6, c6, ha10⟩ := HA10.out
            have HAT := hide ha10
            clear HA10 ha10
            have HL12 := hide (show C2.length ≤ 12 by rw [HAT.out.len]; exact HAT.out.ok.n12)
            obtain ⟨x1, x2, x3, x4, x5, x6, x7⟩ := HAT.out.blk.a3
            refine plan_start 14 (by kernel_rfl) rfl (fun hPT => ?_)
            refine plan_take (i := 0) (v := ?_) rfl (by kernel_rfl) (by kernel_rfl) (by kernel_rfl) (fun _ _ _ h => h) hPT (by rfl) ?_ ?_
            rotate_left
            · (intro w; go_simp; with_reducible rfl)
            (clear hPT; intro hPT; simp only [List.getElem_toArray, List.getElem_cons_zero, List.getElem_cons_succ, Act.put, List.setIfInBounds_toArray, List.set_cons_zero, List.set_cons_succ])
            refine plan_take (i := 2) (v := ?_) rfl (by kernel_rfl) (by kernel_rfl) (by kernel_rfl) (fun _ _ _ h => h) hPT (by rfl) ?_ ?_
            rotate_left
            · (intro w; go_simp; with_reducible rfl)
            (clear hPT; intro hPT; simp only [List.getElem_toArray, List.getElem_cons_zero, List.getElem_cons_succ, Act.put, List.setIfInBounds_toArray, List.set_cons_zero, List.set_cons_succ])
            refine plan_load (fun w' => w'.cell? ⟨X, 2, none⟩ = some (.slice A6 C2.length c6)) (i := 3) (v := ?_) rfl (by kernel_rfl) (by kernel_rfl) (by kernel_rfl) (fun _ _ _ h => h) hPT (by rfl) ?_ ?_ ?_
            rotate_left
            · (first | assumption | (go_simp; done))
            · (intro w hSw; (try dsimp only at hSw); go_simp; with_reducible rfl)
            (clear hPT; intro hPT; simp only [List.getElem_toArray, List.getElem_cons_zero, List.getElem_cons_succ, Act.put, List.setIfInBounds_toArray, List.set_cons_zero, List.set_cons_succ])
            refine plan_one (i := 1) (by kernel_rfl) rfl (by rfl) (fun K hK => ?_)
            (try simp only [List.getElem_toArray, List.getElem_cons_zero, List.getElem_cons_succ, Act.put, List.setIfInBounds_toArray, List.set_cons_zero, List.set_cons_succ])
            go_simp
            refine Calls.mono (colors_any _ (HAT.out.mark.no (Kp.refl No _).drew) HL12.out) ?_
            rintro e w10 ⟨v10, rfl, hown, hk10⟩
            have HK10 := hide ((Kp.refl No w9).drew.trans hk10)
            have HI10 := hide (own_ints hown)
            have HX10 := hide (HAT.out.no HK10.out)
            clear hown hk10 x1 x2 x3 x4 x5 x6 x7
            obtain ⟨x1, x2, x3, x4, x5, x6, x7⟩ := HX10.out.blk.a3
            refine hK.out _ _ _ (t_cons x3 (t_nil _)) k_same (fun hPT' => ?_)
            (clear hPT hK K; have hPT := hPT'; clear hPT'; try simp only [List.getElem_toArray, List.getElem_cons_zero, List.getElem_cons_succ, Act.put, List.setIfInBounds_toArray, List.set_cons_zero, List.set_cons_succ])
            refine plan_one (i := 4) (by kernel_rfl) rfl (by rfl) (fun K hK => ?_)
            (try simp only [List.getElem_toArray, List.getElem_cons_zero, List.getElem_cons_succ, Act.put, List.setIfInBounds_toArray, List.set_cons_zero, List.set_cons_succ])
            go_simp
            refine Calls.mono (ints_any _ _ C2 C2 _ HI10.out HX10.out.cols) ?_
            rw [eqB_self]
            rintro e w11 ⟨rfl, n11, rfl⟩
            refine hK.out [] _ _ (t_nil _) (k_drop (by kernel_rfl) k_nil) (fun hPT' => ?_)
            (clear hPT hK K; have hPT := hPT'; clear hPT'; try simp only [List.getElem_toArray, List.getElem_cons_zero, List.getElem_cons_succ, Act.put, List.setIfInBounds_toArray, List.set_cons_zero, List.set_cons_succ])
            refine plan_take (i := 5) (v := ?_) rfl (by kernel_rfl) (by kernel_rfl) (by kernel_rfl) (fun _ _ _ h => h) hPT (by rfl) ?_ ?_
            rotate_left
            · (intro w; go_simp; with_reducible rfl)
            (clear hPT; intro hPT; simp only [List.getElem_toArray, List.getElem_cons_zero, List.getElem_cons_succ, Act.put, List.setIfInBounds_toArray, List.set_cons_zero, List.set_cons_succ])
            refine plan_take (i := 6) (v := ?_) rfl (by kernel_rfl) (by kernel_rfl) (by kernel_rfl) (fun _ _ _ h => h) hPT (by rfl) ?_ ?_
            rotate_left
            · (intro w; go_simp; with_reducible rfl)
            (clear hPT; intro hPT; simp only [List.getElem_toArray, List.getElem_cons_zero, List.getElem_cons_succ, Act.put, List.setIfInBounds_toArray, List.set_cons_zero, List.set_cons_succ])
            refine plan_take (i := 7) (v := ?_) rfl (by kernel_rfl) (by kernel_rfl) (by kernel_rfl) (fun _ _ _ h => h) hPT (by rfl) ?_ ?_
            rotate_left
            · (intro w; go_simp; with_reducible rfl)
            (clear hPT; intro hPT; simp only [List.getElem_toArray, List.getElem_cons_zero, List.getElem_cons_succ, Act.put, List.setIfInBounds_toArray, List.set_cons_zero, List.set_cons_succ])
            refine plan_take (i := 9) (v := ?_) rfl (by kernel_rfl) (by kernel_rfl) (by kernel_rfl) (fun _ _ _ h => h) hPT (by rfl) ?_ ?_
            rotate_left
            · (intro w; go_simp; with_reducible rfl)
            (clear hPT; intro hPT; simp only [List.getElem_toArray, List.getElem_cons_zero, List.getElem_cons_succ, Act.put, List.setIfInBounds_toArray, List.set_cons_zero, List.set_cons_succ])
            refine plan_load (fun w' => w'.cell? ⟨X, 0, none⟩ = some (.slice A5 O2.length c5) ∧ w'.cell? ⟨X, 1, none⟩ = some (.slice Ar roots.length cr)) (i := 10) (v := ?_) rfl (by kernel_rfl) (by kernel_rfl) (by kernel_rfl) (fun _ _ _ h => h) hPT (by rfl) ?_ ?_ ?_
            rotate_left
            · (first | exact ⟨by assumption, by assumption⟩ | (go_simp; done))
            · (intro w hSw; (try dsimp only at hSw); obtain ⟨hSw1, hSw2⟩ := hSw; go_simp; with_reducible rfl)
            (clear hPT; intro hPT; simp only [List.getElem_toArray, List.getElem_cons_zero, List.getElem_cons_succ, Act.put, List.setIfInBounds_toArray, List.set_cons_zero, List.set_cons_succ])
            refine plan_one (i := 8) (by kernel_rfl) rfl (by rfl) (fun K hK => ?_)
            (try simp only [List.getElem_toArray, List.getElem_cons_zero, List.getElem_cons_succ, Act.put, List.setIfInBounds_toArray, List.set_cons_zero, List.set_cons_succ])
            go_simp
            refine Calls.mono (mheap_any _ (HX10.out.mark.no ((Kp.refl No _).drewN n11)) HX10.out.ok) ?_
            rintro e w12 ⟨v12, r12, rfl, ho12, hr12, hk12⟩
            have HK12 := hide ((Kp.refl No w10).drewN n11 |>.trans hk12)
            have HO12 := hide ho12
            have HR12 := hide hr12
            have HX12 := hide (HX10.out.no HK12.out)
            clear ho12 hr12 hk12 x1 x2 x3 x4 x5 x6 x7
            obtain ⟨x1, x2, x3, x4, x5, x6, x7⟩ := HX12.out.blk.a3
            refine hK.out _ _ _ (t_cons ⟨x1, x2⟩ (t_nil _)) k_same (fun hPT' => ?_)
            (clear hPT hK K; have hPT := hPT'; clear hPT'; try simp only [List.getElem_toArray, List.getElem_cons_zero, List.getElem_cons_succ, Act.put, List.setIfInBounds_toArray, List.set_cons_zero, List.set_cons_succ])
            refine plan_one (i := 11) (by kernel_rfl) rfl (by rfl) (fun K hK => ?_)
            (try simp only [List.getElem_toArray, List.getElem_cons_zero, List.getElem_cons_succ, Act.put, List.setIfInBounds_toArray, List.set_cons_zero, List.set_cons_succ])
            go_simp
            have HEQ := hide (show eqHB O2 O2 roots roots = true from eqHB_self _ _)
            refine Calls.mono (heaps_any _ _ _ _ O2 O2 roots roots _ HO12.out HR12.out HX12.out.rows HX12.out.rts) ?_
            rw [HEQ.out]
            rintro e w13 ⟨rfl, hk13⟩
            have HX13 := hide (HX12.out.no hk13)
            have HK13 := hide (((HK9.out.trans HK10.out).trans HK12.out).trans hk13)
            clear hk13 x1 x2 x3 x4 x5 x6 x7
            refine hK.out [] _ _ (t_nil _) (k_drop (by kernel_rfl) k_nil) (fun hPT' => ?_)
            (clear hPT hK K; have hPT := hPT'; clear hPT'; try simp only [List.getElem_toArray, List.getElem_cons_zero, List.getElem_cons_succ, Act.put, List.setIfInBounds_toArray, List.set_cons_zero, List.set_cons_succ])
            refine plan_take (i := 12) (v := ?_) rfl (by kernel_rfl) (by kernel_rfl) (by kernel_rfl) (fun _ _ _ h => h) hPT (by rfl) ?_ ?_
            rotate_left
            · (intro w; go_simp; with_reducible rfl)
            (clear hPT; intro hPT; simp only [List.getElem_toArray, List.getElem_cons_zero, List.getElem_cons_succ, Act.put, List.setIfInBounds_toArray, List.set_cons_zero, List.set_cons_succ])
            refine plan_take (i := 13) (v := ?_) rfl (by kernel_rfl) (by kernel_rfl) (by kernel_rfl) (fun _ _ _ h => h) hPT (by rfl) ?_ ?_
            rotate_left
            · (intro w; go_simp; with_reducible rfl)
            (clear hPT; intro hPT; simp only [List.getElem_toArray, List.getElem_cons_zero, List.getElem_cons_succ, Act.put, List.setIfInBounds_toArray, List.set_cons_zero, List.set_cons_succ])
            refine plan_done (by kernel_rfl) ?_ _
            clear hPT
            go_wp2_with fail
            go_roundw
            case rel => exact ⟨k + 1, _, _, O2, C2, by go_num, hlt, h60, HX13.out, HK13.out⟩
            case measure => (simp [intOf]; omega)
        · obtain rfl : k = 60 := by omega
          rw [show ((60 : Nat) : Int) = 60 from rfl]
          have h60' : (60 : Int) < steps.length := by omega
          go_wp2_with fail
          go_ret
          exact ⟨rfl, HKW.out⟩
      · obtain rfl : k = steps.length := by omega
        go_wp2_with fail
        go_ret
        exact ⟨rfl, HKW.out⟩
  · have HBAD := hide hc
    obtain ⟨c, hcc⟩ : ∃ c, chk outs roots = c := ⟨_, rfl⟩
    have HCC := hide hcc
    have HSE := hide (fun (w : World) (h : Handle w) => show Calls Tryd.prog 13 #[.iface 84 (.int .i64 c), .int .i64 (c : Int)] w fun r w' => r = .returned (.bool true) ∧ Kp No w w' by
      have := same_err c (by have := chk_le outs roots; omega) w h
      rwa [errV_pos (by rw [← hcc]; exact hc)] at this)
    rw [hcc] at hc ⊢
    have hc0 : ¬ ((c : Int) = 0) := by omega
    clear hcc hc
    go_wp2_with fail
    refine Calls.mono (new_bad _ _ outs roots _ (HO.out.no HK1.out) (HR.out.no HK1.out) HBAD.out) ?_
    rw [HCC.out]
    rintro e w2 ⟨rfl, hk2⟩
    have HK2 := hide (HK1.out.trans hk2)
    clear hk2 a1 a2 a3 a4 a5
    go_wp2_with fail
    refine Calls.mono (HSE.out _ (HH.out.no HK2.out)) ?_
    rintro e w3 ⟨rfl, hk3⟩
    have HK3 := hide (HK2.out.trans hk3)
    clear hk3
    go_wp2_with fail
    go_ret
    exact ⟨rfl, HK3.out⟩
end Go.Proofs.YtgbdjidjbcbhjaaDoor
