/- fit: Lend, walked. -/
import Derived.Test.YtibdddkcjijlaaaDoorFitWalk
import Derived.BigQuiet
namespace Go.Proofs.YtibdddkcjijlaaaDoor
open Go.RowKit
set_option linter.unusedSimpArgs false

/-- what Lend tells: what is wrong, the place; what it leaves -/
def flE (bs : List (Nat × Nat)) (x : Int) : Nat := if btw x 1 64 = false then 1 else match lendIx x.toNat 0 bs with
  | none => 4
  | some _ => 0
def flP (bs : List (Nat × Nat)) (x : Int) : Nat := if btw x 1 64 = false then 0 else match lendIx x.toNat 0 bs with
  | none => 0
  | some y => y.2
def flB (bs : List (Nat × Nat)) (x : Int) : List (Nat × Nat) := if btw x 1 64 = false then bs else match lendIx x.toNat 0 bs with
  | none => bs
  | some y => insAt bs y.1 (y.2, x.toNat)
theorem fl_range {bs : List (Nat × Nat)} {x : Int} (h : btw x 1 64 = false) : flE bs x = 1 ∧ flP bs x = 0 ∧ flB bs x = bs := by
  unfold flE flP flB; rw [if_pos h, if_pos h, if_pos h]; exact ⟨rfl, rfl, rfl⟩
theorem fl_none {bs : List (Nat × Nat)} {n : Nat} (h : btw (n : Int) 1 64 = true) (e : lendIx n 0 bs = none) : flE bs n = 4 ∧ flP bs n = 0 ∧ flB bs n = bs := by
  unfold flE flP flB; rw [h, if_neg (by simp), if_neg (by simp), if_neg (by simp), Int.toNat_natCast, e]; exact ⟨rfl, rfl, rfl⟩
theorem fl_some {bs : List (Nat × Nat)} {n i x : Nat} (h : btw (n : Int) 1 64 = true) (e : lendIx n 0 bs = some (i, x)) : flE bs n = 0 ∧ flP bs n = x ∧ flB bs n = insAt bs i (x, n) := by
  unfold flE flP flB; rw [h, if_neg (by simp), if_neg (by simp), if_neg (by simp), Int.toNat_natCast, e]; exact ⟨rfl, rfl, rfl⟩

set_option maxRecDepth 100000 in
set_option maxHeartbeats 8000000 in
theorem flend_any {p : Nat} {S : Nat → Prop} {bs : List (Nat × Nat)} (x : Int) (w : World) (hF : FitIs w p S bs) (hL : Lie 0 bs) (hS : ∀ b, w.heap.size ≤ b → S b) :
    Calls Tryd.prog 7 #[.pointer (some ⟨p, 0, none⟩), .int .i64 x] w fun e w' => e = .returned (.tuple #[.int .i64 (flP bs x : Nat), errV (flE bs x)]) ∧ FitIs w' p S (flB bs x) ∧ Kp S w w' := by
  have HF := hide hF
  cases hbt : btw x 1 64 with
  | false =>
    have HR := hide (fl_range (bs := bs) hbt)
    have HBT := hide hbt
    clear hbt hF hL hS
    go_enter Tryd.func7, Tryd.ntmps7
    go_wp2_with fail
    refine Calls.mono (within_any _ _ _ _) ?_
    rw [HBT.out]
    rintro e w1 ⟨rfl, rfl⟩
    go_wp2
    go_ret2
    exact ⟨by rw [HR.out.1, HR.out.2.1]; rfl, by rw [HR.out.2.2]; exact HF.out, Kp.refl _ _⟩
  | true =>
    obtain ⟨n, rfl⟩ : ∃ n : Nat, x = n := ⟨x.toNat, by have := btw_iff.1 hbt; omega⟩
    have hn1 : 1 ≤ n := by have := btw_iff.1 hbt; omega
    have hn64 : n ≤ 64 := by have := btw_iff.1 hbt; omega
    have HBT := hide hbt
    have HL := hide hL
    have HS := hide hS
    obtain ⟨hp, v, h, hvS⟩ := hF
    have HP := hide hp
    have HVS := hide hvS
    have H := hide h
    obtain ⟨A, c, rfl, hc, hm, _, hcell⟩ := h.form
    have HC := hide hcell
    obtain ⟨b1, f1, z1⟩ := h.blk.a1
    have hl64 : bs.length ≤ 64 := by have := hL.len; omega
    clear hbt hL hS hp h hvS hcell
    go_enter Tryd.func7, Tryd.ntmps7
    go_wp2_with fail
    refine Calls.mono (within_any _ _ _ _) ?_
    rw [HBT.out]
    rintro e w1 ⟨rfl, rfl⟩
    go_wp2_with fail
    go_loopw [6, 19] (fun s6 s19 wr => ∃ k q nq : Nat, s6 = .int .i64 q ∧ s19 = .int .i64 k ∧ k ≤ bs.length + 1 ∧ q ≤ 64 ∧ wr = w.drewN nq ∧ Hid ((k ≤ bs.length ∧ Lie q (bs.drop k) ∧ lendIx n 0 bs = (lendIx n q (bs.drop k)).map fun x => (x.1 + k, x.2)) ∨ (k = bs.length + 1 ∧ lendIx n 0 bs = none))) (fun _ s19 _ => bs.length + 1 - (intOf s19).toNat)
    case atStart => exact ⟨0, 0, 0, rfl, rfl, by omega, by omega, rfl, .inl ⟨Nat.zero_le _, HL.out, by simp⟩⟩
    case round =>
      obtain ⟨k, q, nq, rfl, rfl, hk, hq, rfl, hinv⟩ := hrel
      by_cases hk1 : k < bs.length + 1
      · have hI : k ≤ bs.length ∧ Lie q (bs.drop k) ∧ lendIx n 0 bs = (lendIx n q (bs.drop k)).map fun x => (x.1 + k, x.2) := by
          rcases hinv.out with h | h
          · exact h
          · omega
        have HI := hide hI
        clear hinv hI
        -- what is left when it fits here
        have fits : lendIx n 0 bs = some (k, q) → ∀ (W : World) (v' : Value), InsPost ((w.drewN nq).alloc (.cells #[.int .i64 q, .int .i64 n] 56)) 0 56 2 (.slice A bs.length c) bs.length (bkv bs) [.int .i64 q, .int .i64 n] k (.returned v') W →
            (flE bs n = 0 ∧ flP bs n = q) ∧ FitIs (W.setCell ⟨p, 0, none⟩ v') p S (flB bs n) ∧ Kp S w (W.setCell ⟨p, 0, none⟩ v') := by
          rintro hl W v' ⟨v2, e, ho, hkp, hat⟩
          injection e with e
          subst e
          have hr := fl_some HBT.out hl
          have hk0 : Kp No w ((w.drewN nq).alloc (.cells #[.int .i64 q, .int .i64 n] 56)) := ((Kp.refl _ _).drewN _).alloc _
          have h1 : FitAt ((w.drewN nq).alloc (.cells #[.int .i64 q, .int .i64 n] 56)) p 0 (.slice A bs.length c) bs := ⟨H.out.blk.kp hk0 id, own_kp H.out.own hk0 fun _ _ h => h⟩
          have hlen : (insAt bs k (q, n)).length = bs.length + 1 := insAt_length _ _ HI.out.1
          have ho' : W.ownsRow 0 56 2 v' (insAt bs k (q, n)).length (bkv (insAt bs k (q, n))) := by
            rw [hlen, ← bkv_ins]
            exact ho
          have hA := h1.put hkp ho'
          refine ⟨⟨hr.1, hr.2.1⟩, ?_, ?_⟩
          · rw [hr.2.2]
            refine ⟨HP.out, v', hA, fun b hb => ?_⟩
            rcases hat b hb with h | h
            · exact HVS.out b h
            · exact HS.out b (by have := hk0.size; omega)
          · exact (hk0.of_no.trans' hkp fun b _ hb => HVS.out b hb).trans' (kp_put _ _ _ _) fun b _ e => by unfold At at e; subst e; exact HP.out
        have FITS := hide fits
        clear fits
        have hins : Hid (∀ (N : Nat), N = w.heap.size → ∀ W, W = (w.drewN nq).alloc (.cells #[.int .i64 q, .int .i64 n] 56) → Calls Tryd.prog 27 #[.slice A bs.length c, .int .i64 k, .slice (some ⟨N, 0, none⟩) 1 1] W (InsPost W 0 56 2 (.slice A bs.length c) bs.length (bkv bs) [.int .i64 q, .int .i64 n] k)) := by
          rintro N rfl W rfl
          have hk0 : Kp No w ((w.drewN nq).alloc (.cells #[.int .i64 q, .int .i64 n] 56)) := ((Kp.refl _ _).drewN _).alloc _
          refine insInsBlk_any _ (own_kp H.out.own hk0 fun _ _ h => h) HI.out.1 (by omega) (Nat.zero_le _) (Blk.new (w.drewN nq) 56 #[.int .i64 q, .int .i64 n]) rfl (bkv_one bs) (fun u hu => ?_) fun e => ?_
          · simp only [List.mem_cons, List.not_mem_nil, or_false] at hu
            rcases hu with rfl | rfl <;> rfl
          · have := (own_lt H.out.own e).2
            omega
        by_cases hlt : k < bs.length
        · obtain ⟨g, rfl, c1, c2, _, _, hg⟩ := HC.out k hlt
          obtain ⟨m1, m2, m3⟩ := HI.out.2.1.at_ hlt
          have m4 := m3.le
          have HM3 := hide m3
          have HAD := hide (show lendIx n q (bs.drop k) = if q + n ≤ (bs[k]).1 then some (0, q) else (lendIx n ((bs[k]).1 + (bs[k]).2) (bs.drop (k + 1))).map fun x => (x.1 + 1, x.2) by rw [List.drop_eq_getElem_cons hlt]; rfl)
          clear m3
          obtain ⟨a, ha⟩ : ∃ a, (bs[k]).1 = a := ⟨_, rfl⟩
          obtain ⟨s, hs⟩ : ∃ s, (bs[k]).2 = s := ⟨_, rfl⟩
          rw [ha] at c1 m1 m4 HM3 HAD
          rw [hs] at c2 m2 m4 HM3 HAD
          clear ha hs
          by_cases hfit : q + n ≤ a
          · have HFF := hide (FITS.out (by rw [HI.out.2.2, HAD.out, if_pos hfit]; simp))
            go_wp2_with fail
            refine Calls.mono (hins.out _ rfl _ rfl) ?_
            rintro e W ⟨v', rfl, hpost⟩
            have HPO := hide (HFF.out W v' ⟨v', rfl, hpost⟩)
            obtain ⟨b2, f2, z2⟩ := ((H.out.blk.kp (((Kp.refl No w).drewN nq).alloc (.cells #[.int .i64 q, .int .i64 n] 56)) id).kp hpost.2.1 H.out.ne).a1
            rcases hpost.1.2 with ⟨_, h0⟩ | ⟨g', c', cur', rfl, _⟩
            · omega
            clear hpost
            go_wp2
            go_ret2
            exact ⟨by rw [HPO.out.1.1, HPO.out.1.2]; rfl, HPO.out.2.1, HPO.out.2.2⟩
          · have HNX := hide (show lendIx n 0 bs = (lendIx n (a + s) (bs.drop (k + 1))).map fun x => (x.1 + (k + 1), x.2) by
              rw [HI.out.2.2, HAD.out, if_neg hfit, Option.map_map]
              congr 1
              funext x
              simp only [Function.comp_def]
              congr 1
              omega)
            clear hins
            go_wp2
            go_quiet (fail)
            go_wp2
            go_roundw
            case rel => exact ⟨k + 1, a + s, _, by go_num, by go_num, by omega, by omega, rfl, .inl ⟨hlt, HM3.out, HNX.out⟩⟩
            case measure => simp [intOf]; omega
        · obtain rfl : k = bs.length := by omega
          have HAD := hide (show lendIx n q (bs.drop bs.length) = if q + n ≤ 64 then some (0, q) else none by rw [List.drop_length]; rfl)
          by_cases hfit : q + n ≤ 64
          · have HFF := hide (FITS.out (by rw [HI.out.2.2, HAD.out, if_pos hfit]; simp))
            go_wp2_with fail
            refine Calls.mono (hins.out _ rfl _ rfl) ?_
            rintro e W ⟨v', rfl, hpost⟩
            have HPO := hide (HFF.out W v' ⟨v', rfl, hpost⟩)
            obtain ⟨b2, f2, z2⟩ := ((H.out.blk.kp (((Kp.refl No w).drewN nq).alloc (.cells #[.int .i64 q, .int .i64 n] 56)) id).kp hpost.2.1 H.out.ne).a1
            rcases hpost.1.2 with ⟨_, h0⟩ | ⟨g', c', cur', rfl, _⟩
            · omega
            clear hpost
            go_wp2
            go_ret2
            exact ⟨by rw [HPO.out.1.1, HPO.out.1.2]; rfl, HPO.out.2.1, HPO.out.2.2⟩
          · have HNX := hide (show lendIx n 0 bs = none by rw [HI.out.2.2, HAD.out, if_neg hfit]; rfl)
            clear hins
            go_wp2
            go_roundw
            case rel => exact ⟨bs.length + 1, q, _, rfl, by go_num, by omega, by omega, rfl, .inr ⟨rfl, HNX.out⟩⟩
            case measure => (simp [intOf]; try omega)
      · have hno : lendIx n 0 bs = none := by
          rcases hinv.out with h | h
          · omega
          · exact h.2
        have HR := hide (fl_none HBT.out hno)
        clear hno hinv
        go_wp2
        go_ret2
        exact ⟨by rw [HR.out.1, HR.out.2.1]; rfl, by rw [HR.out.2.2]; exact HF.out.no ((Kp.refl _ _).drewN _), (Kp.refl _ _).drewN _⟩
end Go.Proofs.YtibdddkcjijlaaaDoor
