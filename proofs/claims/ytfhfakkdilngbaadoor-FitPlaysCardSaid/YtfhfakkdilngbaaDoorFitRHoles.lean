/- The reference's arena that lends where it fits first: Holes. -/
import Derived.Test.YtfhfakkdilngbaaDoorFitRef2
namespace Go.Proofs.YtfhfakkdilngbaaDoor
open Go.RowKit
set_option linter.unusedSimpArgs false

def natsI (l : List Nat) : List Int := l.map fun (n : Nat) => (n : Int)
theorem natsI_length (l : List Nat) : (natsI l).length = l.length := by simp [natsI]
theorem natsI_snoc (l : List Nat) (x : Nat) : iv (natsI (l ++ [x])) = iv (natsI l) ++ [.int .i64 (x : Nat)] := by simp [natsI, iv]
theorem natsI_set (l : List Nat) (m x : Nat) : natsI (l.set m x) = (natsI l).set m (x : Int) := by unfold natsI; rw [List.map_set]
/-- a number of the second is another -/
theorem Two.put2 {lo : Nat} {w0 w : World} {v1 v2 : Value} {n1 : Nat} {us1 : List Value} {xs : List Int} (h : Two lo w0 w v1 v2 n1 xs.length us1 (iv xs)) {m : Nat} (hm : m < xs.length) (x : Int) :
    ∃ g c, v2 = .slice (some ⟨g, 0, none⟩) xs.length c ∧ xs.length ≤ c ∧ c ≤ 9223372036854775807 ∧ w.cell? ⟨g, m, none⟩ = some (.int .i64 xs[m]) ∧ w.frozen? ⟨g, m, none⟩ = false ∧ Two lo w0 (w.setCell ⟨g, m, none⟩ (.int .i64 x)) v1 v2 n1 xs.length us1 (iv (xs.set m x)) := by
  obtain ⟨g, c, e, h1, h2, h3, h4, h5, h6, h7⟩ := own_int h.o2 hm
  refine ⟨g, c, e, h1, h2, h3, h4, ?_⟩
  have hlo := h.lo_
  have k : Kp (At g) w (w.setCell ⟨g, m, none⟩ (.int .i64 x)) := kp_put _ _ _ _
  subst e
  exact ⟨h.lo_, h.kp.trans' k fun b hb e => by unfold At at e; omega, own_kp h.o1 k fun b hb e => by unfold At at e; exact h.ap b hb (by rw [e]; rfl), h7 x, h.ap⟩

set_option maxRecDepth 100000 in
set_option maxHeartbeats 8000000 in
theorem rholes_any {F : Nat → Prop} (v : Value) (bs : List (Nat × Nat)) (w : World) (h : ArIs w F v bs) (hL : Lie 0 bs) :
    Calls Tryd.prog 21 #[v] w (TwoPost w (fsts (holesOf bs)) (snds (holesOf bs))) := by
  have HH := hide h
  have HL := hide hL
  have HLE := hide (show ∀ b ∈ bs, b.1 + b.2 ≤ 64 from fun b hb => (hL.all b hb).2.2)
  obtain ⟨Aa, ca, Ab, cb, rfl⟩ := ar_slices h
  obtain ⟨W1, hW1⟩ : ∃ W1, w.alloc (.cells #[.slice Aa bs.length ca, .slice Ab bs.length cb] 37) = W1 := ⟨_, rfl⟩
  have HW1 := hide (show W1.heap.size = w.heap.size + 1 by rw [← hW1]; simp)
  have HK1 := hide (show Kp No w W1 by rw [← hW1]; exact (Kp.refl No w).alloc _)
  have HB1 := hide (show Blk W1 w.heap.size 37 #[.slice Aa bs.length ca, .slice Ab bs.length cb] by rw [← hW1]; exact Blk.new w _ _)
  have HH1 := hide (HH.out.no HK1.out)
  have HE1 := hide hW1
  obtain ⟨fr, hfr⟩ : ∃ fr : Nat → Bool, (fun x => fitsF bs x 1) = fr := ⟨_, rfl⟩
  have HFR := hide (show ∀ x, fitsF bs x 1 = fr x from fun x => by rw [← hfr])
  have HALL := hide (rho_all hL)
  rw [hfr] at HALL
  have HINV := hide (rho_inv fr)
  have HSUC := hide (rho_succ fr)
  clear hW1 h hL hfr
  go_enter Tryd.func21, Tryd.ntmps21
  go_upto_region 1 with fail
  rw [HE1.out]
  go_wp2_with fail
  go_loopw [4, 5, 6, 7] (fun a z n q wr => ∃ (k : Nat) (A Z : List Nat) (m : Nat), q = .int .i64 k ∧ k ≤ 64 ∧ n = .int .i64 m ∧ Hid (runF fr k 0 ⟨[], [], 0⟩ = ⟨A, Z, m⟩) ∧ Hid (Two (w.heap.size + 1) W1 wr a z A.length Z.length (iv (natsI A)) (iv (natsI Z)))) (fun _ _ _ q _ => 64 - (intOf q).toNat)
  case atStart => exact ⟨0, [], [], 0, rfl, by omega, rfl, rfl, Two.start W1 (by have := HW1.out; omega)⟩
  case round =>
    obtain ⟨k, A, Z, m, rfl, hk, rfl, hrun, htwo⟩ := hrel
    obtain ⟨p0, p1⟩ : wr.cell? ⟨w.heap.size, 0, none⟩ = some (.slice Aa bs.length ca) ∧ wr.cell? ⟨w.heap.size, 1, none⟩ = some (.slice Ab bs.length cb) := ⟨(HB1.out.kp htwo.out.kp id).cell 0, (HB1.out.kp htwo.out.kp id).cell 1⟩
    obtain ⟨hi1, hi2, hi3, hi4⟩ := HINV.out k
    rw [hrun.out] at hi1 hi2 hi3 hi4
    simp only at hi1 hi2 hi3 hi4
    by_cases hlt : k < 64
    · have hlt' : (k : Int) < 64 := by omega
      have HST := hide (show runF fr (k + 1) 0 ⟨[], [], 0⟩ = Run.step ⟨A, Z, m⟩ (fr k) k by rw [HSUC.out, hrun.out])
      have HI4 := hide hi4
      clear hi4
      go_wp2_with fail
      refine Calls.mono (fits_any _ bs k 1 wr (HH1.out.no htwo.out.kp) (by omega) (by omega) HLE.out) ?_
      rintro e w5 ⟨rfl, hk5⟩
      have HT5 := hide (htwo.out.no hk5)
      rw [HFR.out k]
      clear hk5 p0 p1
      cases hf : fr k with
      | false =>
        rw [hf] at HST
        clear hf
        go_wp2_with fail
        exact ⟨⟨k + 1, A, Z, 0, by go_num, hlt, rfl, by rw [HST.out]; exact hide rfl, HT5⟩, by simp [intOf]; omega⟩
      | true =>
        rw [hf] at HST
        clear hf
        by_cases hm : m = 0
        · subst hm
          have hsz : w.heap.size + 1 ≤ w5.heap.size := by have := HT5.out.kp.size; have := HW1.out; omega
          have HSZ := hide hsz
          go_wp2_with (first
            | (at_builtin
               refine wpList_push _ rfl (.tmp 18) (.tmp 20) _ rfl (w.heap.size + 1) 3 _ 8 Tryd.underlying22 Tryd.infoInt rfl u4 A.length (iv (natsI A)) rfl HT5.out.o1 (.int .i64 (k : Nat)) rfl 1 _ rfl (by simp) (by omega) (by decide) hsz ?_
               intro g0 c0' w6 ho' hgr hat
               have HT6 := hide ((HT5.out.no ((Kp.refl No w5).alloc _)).push1 ho' hgr (by simpa using hat))
               have hs6 : w.heap.size + 1 ≤ w6.heap.size := by have := hgr.size; simp at this; have := HSZ.out; omega
               clear ho' hgr hat hsz)
            | (at_builtin
               refine wpList_push _ rfl (.tmp 22) (.tmp 23) _ rfl (w.heap.size + 1) 3 _ 8 Tryd.underlying22 Tryd.infoInt rfl u5 Z.length (iv (natsI Z)) rfl HT6.out.o2 (.int .i64 0) rfl 1 _ rfl (by simp) (by omega) (by decide) hs6 ?_
               intro g1 c1' w7 ho' hgr hat
               have HT7 := hide ((HT6.out.no ((Kp.refl No w6).alloc _)).push2 ho' hgr (by simpa using hat))
               clear ho' hgr hat
               have HZ7 := hide (show Two (w.heap.size + 1) W1 w7 (.slice (some ⟨g0, 0, none⟩) (A.length + 1) c0') (.slice (some ⟨g1, 0, none⟩) (Z.length + 1) c1') (A.length + 1) (natsI (Z ++ [0])).length (iv (natsI (A ++ [k]))) (iv (natsI (Z ++ [0]))) by
                 rw [natsI_length, List.length_append, List.length_singleton, natsI_snoc, natsI_snoc]; exact HT7.out)
               obtain ⟨g2, c2', e2, hc1, hc2, hcc, hff, HP⟩ := HZ7.out.put2 (m := Z.length) (by rw [natsI_length]; simp) 1
               rw [natsI_length, List.length_append, List.length_singleton] at e2 hc1
               cases e2
               have HP := hide HP))
          have HP2 := hide (show Two (w.heap.size + 1) W1 (w7.setCell ⟨g1, Z.length, none⟩ (.int .i64 1)) (.slice (some ⟨g0, 0, none⟩) (Z.length + 1) c0') (.slice (some ⟨g1, 0, none⟩) (Z.length + 1) c1') (A ++ [k]).length (Z ++ [1]).length (iv (natsI (A ++ [k]))) (iv (natsI (Z ++ [1]))) by
            have h := HP.out
            rw [show (natsI (Z ++ [0])).set Z.length 1 = natsI (Z ++ [1]) by
              have := natsI_set (Z ++ [0]) Z.length 1
              rw [show ((1 : Nat) : Int) = 1 from rfl] at this
              rw [← this]
              simp, natsI_length, hi1] at h
            simpa [hi1] using h)
          exact ⟨⟨k + 1, A ++ [k], Z ++ [1], 1, by go_num, hlt, rfl, by rw [HST.out]; exact hide rfl, HP2⟩, by simp [intOf]; omega⟩
        · obtain ⟨l, hl⟩ : ∃ l, Z.length = l + 1 := ⟨Z.length - 1, by have := HI4.out hm; omega⟩
          have HS2 := hide (show Run.step ⟨A, Z, m⟩ true k = ⟨A, Z.set l (m + 1), m + 1⟩ by
            unfold Run.step
            rw [if_neg (by decide), if_neg hm]
            simp [hl])
          have ht := HT5.out
          rw [← natsI_length Z] at ht
          obtain ⟨g2, c2', e2, hc1, hc2, hcc, hff, HP⟩ := ht.put2 (m := l) (by rw [natsI_length]; omega) ((m : Int) + 1)
          rw [natsI_length] at e2 hc1
          rw [hl] at e2 hc1
          subst e2
          have HP2 := hide (show Two (w.heap.size + 1) W1 (w5.setCell ⟨g2, l, none⟩ (.int .i64 ((m : Int) + 1))) u4 (.slice (some ⟨g2, 0, none⟩) (l + 1) c2') A.length (Z.set l (m + 1)).length (iv (natsI A)) (iv (natsI (Z.set l (m + 1)))) by
            have h := HP
            rw [natsI_length] at h
            rw [natsI_set, List.length_set]
            exact h)
          have hmz : (((m : Nat) : Int) == 0) = false := by rw [beq_eq_false_iff_ne]; omega
          obtain ⟨y, hcy⟩ : ∃ y : Int, w5.cell? ⟨g2, l, none⟩ = some (.int .i64 y) := ⟨_, hcc⟩
          clear ht HP hcc hl hi1
          go_wp2_with fail
          exact ⟨⟨k + 1, A, Z.set l (m + 1), m + 1, by go_num, hlt, by go_num, by rw [HST.out, HS2.out]; exact hide rfl, HP2⟩, by simp [intOf]; omega⟩
    · obtain rfl : k = 64 := by omega
      obtain ⟨n, hn⟩ := HALL.out
      rw [hrun.out] at hn
      injection hn with e1 e2 e3
      have HT := hide htwo.out
      rw [e1, e2] at HT
      clear hi1 hi2 e3
      go_wp2_with fail
      refine bodyPost_ret (v := .tuple #[u4, u5]) (by simp [results, Tryd.results21, go_sem]) rfl ?_
      refine ⟨u4, u5, rfl, ?_, ?_, HK1.out.trans HT.out.kp⟩
      · have h : IntsIn wr (Hi w.heap.size) u4 (natsI ((holesOf bs).map (·.1))) := .of_own HT.out.o1 fun b hb => by have := (own_lt HT.out.o1 hb).1; unfold Hi; omega
        rw [show fsts (holesOf bs) = natsI ((holesOf bs).map (·.1)) by simp [fsts, natsI]]
        exact h
      · have h : IntsIn wr (Hi w.heap.size) u5 (natsI ((holesOf bs).map (·.2))) := .of_own HT.out.o2 fun b hb => by have := (own_lt HT.out.o2 hb).1; unfold Hi; omega
        rw [show snds (holesOf bs) = natsI ((holesOf bs).map (·.2)) by simp [snds, natsI]]
        exact h
end Go.Proofs.YtfhfakkdilngbaaDoor
