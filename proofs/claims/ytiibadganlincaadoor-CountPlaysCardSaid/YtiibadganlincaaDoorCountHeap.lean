/- counts: Heap, walked: a fresh heap that is as the counting one is. -/
import Derived.Test.YtiibadganlincaaDoorCountRoot
namespace Go.Proofs.YtiibadganlincaaDoor
open Go.RowKit
set_option linter.unusedSimpArgs false

set_option maxRecDepth 100000 in
set_option maxHeartbeats 2000000 in
theorem cheap_any {p : Nat} {S : Nat → Prop} {s : Cn} (w : World) (hP : PInv s []) (hC : CnIs w p S s) :
    Calls Tryd.prog 18 #[.pointer (some ⟨p, 0, none⟩)] w (FreshHeap w s.outs s.roots) := by
  obtain ⟨vo, vr, vc, vg, vs, hm, hF⟩ := hC
  have hok := hP.ok
  obtain ⟨outs, roots, q2, q3⟩ := s
  simp only at hok ⊢
  clear hP hF
  have HM := hide hm
  have HOK := hide hok
  have HL := hide hok.n12
  have HR12 := hide hok.r12
  obtain ⟨e0, Ao, co, hvo, hco, hmo, _⟩ := own_form hm.out
  rw [hm.len] at hvo hco
  subst hvo
  obtain ⟨b1, b2, b3, b4, b5, b6, b7, b8⟩ := hm.blk.a4
  have b9 := hm.blk.lt
  have HI := hide (own_ints hm.root)
  have HVL := hide hm.len
  clear hm hok e0
  go_enter Tryd.func18, Tryd.ntmps18
  go_wp2_with fail
  refine Calls.mono (clone_any _ roots _ (HI.out.no ((Kp.refl No w).alloc _)) (by have := HR12.out; omega)) ?_
  rintro e w2 ⟨v1, rfl, hv1, hk2⟩
  obtain ⟨e0, A1, c1, hvv, _⟩ := own_form hv1
  clear e0
  rw [iv_length] at hvv
  subst hvv
  have HK2 := hide (((Kp.refl No w).alloc (.cells #[.slice none 0 0, .slice none 0 0] 45)).trans' hk2 fun _ _ h => h)
  have HBR := hide ((Blk.new w 45 #[.slice none 0 0, .slice none 0 0]).kp hk2 id)
  have HV1 := hide hv1
  have HM2 := hide (HM.out.no HK2.out)
  clear hv1 hk2 b1 b2 b3 b4 b5 b6 b7 b8 b9
  obtain ⟨b1, b2, b3, b4, b5, b6, b7, b8⟩ := HM2.out.blk.a4
  have b9 := HM2.out.blk.lt
  go_wp2_with fail
  have HA0 := hide (show HeapAt (w2.alloc (.cells #[.slice none 0 0, .slice A1 roots.length c1] 45)) w2.heap.size w.heap.size (.slice none 0 0) (.slice A1 roots.length c1) [] [] roots from
    ⟨Blk.new w2 _ _, World.ownsRow_nil _ _ _ _, fun i h _ => by simp at h, own_base (HV1.out.alloc _) fun b hb => by have := (own_lt HV1.out hb).1; simp at this; omega⟩)
  have hw2 : w.heap.size < w2.heap.size := HBR.out.lt
  have HBR2 := hide (HBR.out.alloc (.cells #[.slice none 0 0, .slice A1 roots.length c1] 45))
  have HK2a := hide (HK2.out.alloc (.cells #[.slice none 0 0, .slice A1 roots.length c1] 45))
  go_loopw [17] (fun q wr => ∃ k : Nat, q = .int .i64 k ∧ k ≤ outs.length ∧ Blk wr w.heap.size 45 #[.slice none 0 0, .slice none 0 0] ∧ Kp No w wr ∧ ∃ vo' vs', HeapAt wr w2.heap.size w.heap.size vo' (.slice A1 roots.length c1) vs' (outs.take k) roots)
    (fun q _ => outs.length - (intOf q).toNat)
  case atStart => exact ⟨0, rfl, Nat.zero_le _, HBR2.out, HK2a.out, _, _, HA0.out⟩
  case round =>
    obtain ⟨k, rfl, hk, hbr, hkr, vo', vs', hak⟩ := hrel
    have HBK := hide hbr
    have HKR := hide hkr
    have HAK := hide hak
    clear hbr hkr
    by_cases hlt : k < outs.length
    · have hmk := HM.out.no HKR.out
      obtain ⟨e9, _, _, e, _, _, hoc⟩ := own_form hmk.out
      clear e9
      injection e with e1 e2 e3
      subst e1 e3
      clear e2
      obtain ⟨go, rfl, hrc⟩ := hoc k (by rw [HVL.out]; exact hlt)
      have hrow := hmk.row k (by rw [HVL.out]; exact hlt) hlt
      have hri := own_ints hrow
      obtain ⟨A2, c2, hv2, hl2, hm2, hx2⟩ := id hri
      clear hx2
      rw [hv2] at hrc hri
      have HRI := hide (hri.mono (F' := fun _ => True) fun _ _ _ => trivial)
      have hOl : (outs.take k).length = k := by rw [List.length_take]; omega
      obtain ⟨e0, Av, cv, hvo, hcv, hmv, _⟩ := own_form hak.out
      rw [hak.len, hOl] at hvo hcv
      subst hvo
      obtain ⟨p1, p2, p3, p4, p5⟩ := hak.blk.a2
      have HOL := hide hOl
      have HFW := hide (HOK.out.few _ (List.getElem_mem hlt))
      have HTK := hide (show outs.take (k + 1) = outs.take k ++ [outs[k]] from List.take_succ_eq_append_getElem hlt)
      have HWZ := hide (show w.heap.size ≤ wr.heap.size from HKR.out.size)
      clear hri hrow hmk hv2 hak hOl e0 hoc
      go_wp2_with fail
      refine plan_start 8 (by kernel_rfl) rfl (fun hPT => ?_)
      refine plan_take (i := 0) (v := ?_) rfl (by kernel_rfl) (by kernel_rfl) (by kernel_rfl) (fun _ _ _ h => h) hPT (by rfl) ?_ ?_
      rotate_left
      · (intro w; go_simp; with_reducible rfl)
      (clear hPT; intro hPT; simp only [List.getElem_toArray, List.getElem_cons_zero, List.getElem_cons_succ, Act.put, List.setIfInBounds_toArray, List.set_cons_zero, List.set_cons_succ])
      refine plan_load (fun w' => w'.cell? ⟨w2.heap.size, 0, none⟩ = some (.slice Av k cv)) (i := 1) (v := ?_) rfl (by kernel_rfl) (by kernel_rfl) (by kernel_rfl) (fun _ _ _ h => h) hPT (by rfl) ?_ ?_ ?_
      rotate_left
      · (first | assumption | (go_simp; done))
      · (intro w hSw; (try dsimp only at hSw); go_simp; with_reducible rfl)
      (clear hPT; intro hPT; simp only [List.getElem_toArray, List.getElem_cons_zero, List.getElem_cons_succ, Act.put, List.setIfInBounds_toArray, List.set_cons_zero, List.set_cons_succ])
      refine plan_take (i := 2) (v := ?_) rfl (by kernel_rfl) (by kernel_rfl) (by kernel_rfl) (fun _ _ _ h => h) hPT (by rfl) ?_ ?_
      rotate_left
      · (intro w; go_simp; with_reducible rfl)
      (clear hPT; intro hPT; simp only [List.getElem_toArray, List.getElem_cons_zero, List.getElem_cons_succ, Act.put, List.setIfInBounds_toArray, List.set_cons_zero, List.set_cons_succ])
      refine plan_one (i := 3) (by kernel_rfl) rfl (by rfl) (fun K hK => ?_)
      (try simp only [List.getElem_toArray, List.getElem_cons_zero, List.getElem_cons_succ, Act.put, List.setIfInBounds_toArray, List.set_cons_zero, List.set_cons_succ])
      go_simp
      refine Calls.mono (clone_any _ outs[k] _ (HRI.out.no (Kp.refl No _).drew) (by have := HFW.out; omega)) ?_
      rintro e w3 ⟨v, rfl, hown, hk3⟩
      obtain ⟨e0, A3, c3', hv3, _⟩ := own_form hown
      clear e0
      rw [iv_length] at hv3
      subst hv3
      have HK3 := hide ((Kp.refl No wr).drew.trans hk3)
      have HA3 := hide (HAK.out.no HK3.out)
      have HOW := hide hown
      clear p1 p2 p3 p4 p5 hown hk3
      obtain ⟨p1, p2, p3, p4, p5⟩ := HA3.out.blk.a2
      refine hK.out _ _ _ (t_cons p1 (t_nil _)) k_same (fun hPT' => ?_)
      (clear hPT hK K; have hPT := hPT'; clear hPT'; try simp only [List.getElem_toArray, List.getElem_cons_zero, List.getElem_cons_succ, Act.put, List.setIfInBounds_toArray, List.set_cons_zero, List.set_cons_succ])
      refine plan_one (i := 4) (by kernel_rfl) rfl (by rfl) (fun K hK => ?_)
      (try simp only [List.getElem_toArray, List.getElem_cons_zero, List.getElem_cons_succ, Act.put, List.setIfInBounds_toArray, List.set_cons_zero, List.set_cons_succ])
      go_simp
      refine hK.out _ _ _ (t_cons (by go_simp) (t_nil _)) k_same (fun hPT' => ?_)
      (clear hPT hK K; have hPT := hPT'; clear hPT'; try simp only [List.getElem_toArray, List.getElem_cons_zero, List.getElem_cons_succ, Act.put, List.setIfInBounds_toArray, List.set_cons_zero, List.set_cons_succ])
      refine plan_one (i := 5) (by kernel_rfl) rfl (by rfl) (fun K hK => ?_)
      (try simp only [List.getElem_toArray, List.getElem_cons_zero, List.getElem_cons_succ, Act.put, List.setIfInBounds_toArray, List.set_cons_zero, List.set_cons_succ])
      refine wp_push _ (.tmp 22) (.tmp 25) _ rfl w.heap.size 25 _ 24 Tryd.underlying22 Tryd.infoRow rfl (.slice Av k cv) k vs' rfl (by have := HA3.out.out; rw [HOL.out] at this; exact this.alloc _) _ rfl 1 _ rfl ((Blk.new _ _ _).cell 0) (by have := HL.out; omega) (by decide) (by have := HWZ.out; have := HK3.out.size; simp; omega) ?_
      intro g' c' w4 ho' hgr hat
      have HA4 := hide (HAK.out.more HK3.out (by simpa using HOW.out) (by rw [HOL.out]; exact ho') hgr HWZ.out)
      have b4 := (HA3.out.blk.alloc (.cells #[.slice A3 (outs[k]).length c3'] 25)).grown hgr (own_ne_blk HA3.out.out HA3.out.blk (by decide)).symm
      obtain ⟨q1, q2, q3, q4, q5⟩ := b4.a2
      have HK4 := hide (show Kp No w w4 from (HKR.out.trans (HK3.out.alloc _)).grown hgr fun j e hj => by have := (own_lt HA3.out.out e).1; omega)
      have HB4 := hide (show Blk w4 w.heap.size 45 #[.slice none 0 0, .slice none 0 0] from ((HBK.out.kp HK3.out id).alloc _).grown hgr (own_ne_blk HA3.out.out (HBK.out.kp HK3.out id) (by decide)).symm)
      clear ho' hgr hat b4
      refine hK.out [] _ _ (t_nil _) (k_drop (by kernel_rfl) k_nil) (fun hPT' => ?_)
      (clear hPT hK K; have hPT := hPT'; clear hPT'; try simp only [List.getElem_toArray, List.getElem_cons_zero, List.getElem_cons_succ, Act.put, List.setIfInBounds_toArray, List.set_cons_zero, List.set_cons_succ])
      refine plan_take (i := 6) (v := ?_) rfl (by kernel_rfl) (by kernel_rfl) (by kernel_rfl) (fun _ _ _ h => h) hPT (by rfl) ?_ ?_
      rotate_left
      · (intro w; go_simp; with_reducible rfl)
      (clear hPT; intro hPT; simp only [List.getElem_toArray, List.getElem_cons_zero, List.getElem_cons_succ, Act.put, List.setIfInBounds_toArray, List.set_cons_zero, List.set_cons_succ])
      refine plan_one (i := 7) (by kernel_rfl) rfl (by rfl) (fun K hK => ?_)
      (try simp only [List.getElem_toArray, List.getElem_cons_zero, List.getElem_cons_succ, Act.put, List.setIfInBounds_toArray, List.set_cons_zero, List.set_cons_succ])
      go_simp
      refine hK.out [] _ _ (t_nil _) k_nil (fun hPT' => ?_)
      (clear hPT hK K; have hPT := hPT'; clear hPT'; try simp only [List.getElem_toArray, List.getElem_cons_zero, List.getElem_cons_succ, Act.put, List.setIfInBounds_toArray, List.set_cons_zero, List.set_cons_succ])
      refine plan_done (by kernel_rfl) ?_ _
      clear hPT
      go_wp2
      go_roundw
      case rel =>
        have hm := HA4.out
        rw [HOL.out, ← HTK.out] at hm
        refine ⟨k + 1, by go_num, hlt, ?_, ?_, _, _, hm⟩
        · exact HB4.out.kp (kp_set _ _ _ _) (fun e => by unfold At at e; omega)
        · exact HK4.out.setCell (p := ⟨w2.heap.size, 0, none⟩) (fun h => by simp only at h; omega) _
      case measure => simp [intOf]; omega
    · obtain rfl : k = outs.length := by omega
      rw [List.take_length] at HAK
      clear hak
      obtain ⟨e0, Av, cv, hvo, hcv, hmv, _⟩ := own_form HAK.out.out
      rw [HAK.out.len] at hvo hcv
      subst hvo
      clear e0
      obtain ⟨p1, p2, p3, p4, p5⟩ := HAK.out.blk.a2
      obtain ⟨q1, q2, q3, q4, q5⟩ := HBK.out.a2
      go_wp2
      have q : Blk ((wr.setCell ⟨w.heap.size, 0, none⟩ (.slice Av outs.length cv)).setCell ⟨w.heap.size, 1, none⟩ (.slice A1 roots.length c1)) w.heap.size 45 #[.slice Av outs.length cv, .slice A1 roots.length c1] := (HBK.out.set_ 0 _).set_ 1 _
      have hkk : Kp (At w.heap.size) wr ((wr.setCell ⟨w.heap.size, 0, none⟩ (.slice Av outs.length cv)).setCell ⟨w.heap.size, 1, none⟩ (.slice A1 roots.length c1)) := (kp_set _ _ _ _).trans (kp_set _ _ _ _)
      obtain ⟨q0, q1⟩ := q.c2
      have hne : ∀ {u : Value} {n : Nat} {e : TypeId} {us : List Value}, wr.ownsRow w.heap.size e 1 u n us → e ≠ 45 → ((wr.setCell ⟨w.heap.size, 0, none⟩ (.slice Av outs.length cv)).setCell ⟨w.heap.size, 1, none⟩ (.slice A1 roots.length c1)).ownsRow w.heap.size e 1 u n us :=
        fun h hn => own_kp h hkk fun b hb e => by unfold At at e; subst e; exact own_ne_blk h HBK.out hn hb
      refine bodyPost_ret (v := .agg #[.slice Av outs.length cv, .slice A1 roots.length c1]) (by simp [results, Tryd.results18, go_sem, q0, q1]) rfl ⟨_, _, rfl, own_rows_in (hne HAK.out.out (by decide)) (fun i a b => hne (HAK.out.row i a b) (by decide)), .of_own (hne HAK.out.root (by decide)) fun g hg => (own_lt HAK.out.root hg).1, ?_⟩
      exact HKR.out.trans' hkk fun b hb e => by unfold At at e; omega
end Go.Proofs.YtiibadganlincaaDoor
