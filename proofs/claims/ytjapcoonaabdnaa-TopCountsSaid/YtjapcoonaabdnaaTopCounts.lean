/- The law TopCounts, walked. -/
import Derived.Test.YtjapcoonaabdnaaTopPlain
import Derived.Test.YtjapcoonaabdnaaHeavySp
namespace Go.Proofs.Ytjapcoonaabdnaa
open Go.RowKit
set_option linter.unusedSimpArgs false

theorem cin_any (n lo hi : Int) (w : World) : Calls Try.prog 14 #[.int .i64 n, .int .i64 lo, .int .i64 hi] w fun e w' => e = .returned (.bool (btw n lo hi)) ∧ w = w' := by
  go_enter Try.func14, Try.ntmps14
  go_wp2
  · have h : lo ≤ n := by assumption
    go_ret
    exact ⟨ret_bool (by simp [btw, h]), rfl⟩
  · have h : n < lo := by assumption
    go_ret
    exact ⟨ret_bool (by simp [btw]; omega), rfl⟩

theorem allB_each {xs : List Int} {lo hi : Int} : allB xs lo hi = true ↔ ∀ x ∈ xs, lo ≤ x ∧ x ≤ hi := by
  unfold allB
  rw [List.all_eq_true]
  simp only [btw_iff]
/-- one key, of one -/
theorem keep4_any (w w0 : World) (h : w0 = w.alloc (.cells #[.int .i64 4] 3)) : Calls Try.prog 12 #[.slice (some ⟨w.heap.size, 0, none⟩) 1 1, .int .i64 1] w0 fun e w' => ∃ g c, e = .returned (.tuple #[.slice (some ⟨g, 0, none⟩) 1 c, .nilIface]) ∧ w'.cell? ⟨g, 0, none⟩ = some (.int .i64 4) ∧ c ≤ 9223372036854775807 ∧ 1 ≤ c ∧ Kp No w w' := by
  subst h
  have hb := Blk.new w 3 #[.int .i64 4]
  have hi : IntsIn (w.alloc (.cells #[.int .i64 4] 3)) (fun _ => True) (.slice (some ⟨w.heap.size, 0, none⟩) 1 1) (ni [4]) := by
    refine ⟨some ⟨w.heap.size, 0, none⟩, 1, rfl, by simp [ni], by simp [ni], fun k hk => ?_⟩
    obtain rfl : k = 0 := by simp [ni] at hk; omega
    exact ⟨w.heap.size, 0, rfl, trivial, hb.cell 0⟩
  refine (keep_any _ [4] 1 _ hi (by decide)).mono ?_
  rintro e w' ⟨v', rfl, hr, hk⟩
  rw [keep_four] at hr
  obtain ⟨A, c, e, hc, hm, hcell⟩ := hr.form
  obtain ⟨g, rfl, c1, _⟩ := hcell 0 (by decide)
  exact ⟨g, c, by rw [e]; rfl, c1, hm, hc, ((Kp.refl No w).alloc _).trans hk⟩

set_option maxRecDepth 100000 in
set_option maxHeartbeats 8000000 in
theorem topCounts_any {F : Nat → Prop} (v : Value) (xs : List Int) (keep ask : Int) (w : World) (hv : IntsIn w F v xs) (_b1 : -9223372036854775808 ≤ keep ∧ keep ≤ 9223372036854775807) (_b2 : -9223372036854775808 ≤ ask ∧ ask ≤ 9223372036854775807) :
    Calls Try.prog 4 #[v, .int .i64 keep, .int .i64 ask] w fun e w' => e = .returned (.bool true) ∧ Kp No w w' := by
  have HV := hide (hv.mono (F' := Lo w.heap.size) fun k h _ => h)
  obtain ⟨A, c, rfl, hc, hm, _⟩ := id hv
  clear hv
  go_enter Try.func4, Try.ntmps4
  go_wp2_with fail
  refine Calls.mono (bnew_any _) ?_
  rintro e w1 ⟨pf, vf, rfl, hfl, hpf, hvf, hk1⟩
  have HFL1 := hide hfl
  have HK1 := hide hk1
  have HVF := hide (show ∀ b, vf.ownBlock = some b → w.heap.size ≤ b ∧ b < w1.heap.size from fun b hb => ⟨hvf b hb, (own_lt hfl.own hb).2⟩)
  have HPF := hide (show w.heap.size ≤ pf ∧ pf < w1.heap.size from ⟨hpf, hfl.blk.lt⟩)
  clear hfl hk1 hvf hpf
  go_wp2_with fail
  refine Calls.mono (snew_any _) ?_
  rintro e w2 ⟨ps, gg, co, g, cc, rfl, hsk, hps, hgg, hg, hk2⟩
  have HSK2 := hide hsk
  have HFL2 := hide (HFL1.out.kp (S := No) hk2 id fun _ _ => id)
  have HS1 := hide HK1.out.size
  have HS2 := hide hk2.size
  have HK2 := hide (HK1.out.trans hk2)
  have HSF := hide (show ∀ b, SkF ps g b → w1.heap.size ≤ b ∧ b < w2.heap.size from fun b hb => by
    rcases hb with rfl | ⟨i, hi, rfl⟩
    · exact ⟨hps, hsk.ltg.2⟩
    · exact ⟨hg i hi, (hsk.cell hi (m := 0) (by decide)).2.2.2.2⟩)
  have HGG := hide (show w1.heap.size ≤ gg ∧ gg < w2.heap.size from ⟨hgg, hsk.ltg.1⟩)
  have HV2 := hide (HV.out.no HK2.out)
  clear hsk hps hgg hg hk2 HFL1 HK1
  go_wp2_with fail
  by_cases hok : hchk xs keep = 0
  · obtain ⟨ks, kn, rfl, rfl, hks, hkl, hkn⟩ : ∃ (ks : List Nat) (kn : Nat), xs = ni ks ∧ keep = (kn : Int) ∧ (∀ x ∈ ks, x ≤ 1000000) ∧ ks.length ≤ 40 ∧ 1 ≤ kn := by
      unfold hchk at hok
      split at hok
      · cases hok
      · split at hok
        · rename_i h1 h2
          simp only [Bool.and_eq_true, btw_iff] at h2
          have h3 := allB_each.1 h2.1
          obtain ⟨ks, rfl⟩ := ni_of fun x hx => (h3 x hx).1
          rw [ni_length] at h1
          refine ⟨ks, keep.toNat, rfl, by omega, fun x hx => ?_, by omega, by omega⟩
          have := (h3 x (List.mem_map.2 ⟨x, hx, rfl⟩)).2
          omega
        · cases hok
    rw [ni_length] at hc
    rw [ni_length]
    refine Calls.mono (keep_any _ ks kn _ (by have := HV2.out; rw [ni_length] at this; exact this) hok) ?_
    rintro e w3 ⟨vl, rfl, hl, hk3⟩
    have HL3 := hide hl
    have HK3 := hide hk3
    have HS3 := hide hk3.size
    have HV3 := hide (HV2.out.no hk3)
    clear hl hk3
    go_wp2_with fail
    refine Calls.mono (space_any _ ks kn _ (by have := HV3.out; rw [ni_length] at this; exact this) hok) ?_
    rintro e w4 ⟨vm, rfl, hm', hk4⟩
    have HM4 := hide hm'
    have HK4 := hide hk4
    have HS4 := hide hk4.size
    clear hm' hk4 hok HV3
    go_wp2_with fail
    refine Calls.mono (keep4_any w4 _ rfl) ?_
    rintro e w5 ⟨g4, c4, rfl, hc4, hm4, hn4, hk5⟩
    have HL5 := hide (HL3.out.no (HK4.out.trans hk5))
    have HM5 := hide (HM4.out.no hk5)
    have HKF := hide (HK3.out.trans (HK4.out.trans hk5))
    have HFL5 := hide (HFL2.out.kp (S := No) HKF.out id fun _ _ => id)
    have HSK5 := hide (HSK2.out.no HKF.out)
    have HK5 := hide (HK2.out.trans HKF.out)
    have HS5 := hide hk5.size
    have HLB := hide (show ∀ b, vl.ownBlock = some b → w2.heap.size ≤ b from fun b hb => (own_lt HL3.out hb).1)
    have HMB := hide (show ∀ b, vm.ownBlock = some b → w2.heap.size ≤ b from fun b hb => by have := (own_lt HM4.out hb).1; have := HS3.out; omega)
    clear hk5
    cases hask : btw ask 0 1000000 with
    | false =>
      have HAK := hide hask
      clear hask
      go_wp2_with fail
      refine Calls.mono (cin_any _ _ _ _) ?_
      rw [HAK.out]
      rintro e w6 ⟨rfl, rfl⟩
      go_wp2
      go_ret
      exact ⟨rfl, HK5.out⟩
    | true =>
      have HAK := hide hask
      obtain ⟨a, rfl, ha⟩ : ∃ a : Nat, ask = (a : Int) ∧ a ≤ 1000000 := ⟨ask.toNat, by rw [btw_iff] at hask; omega, by rw [btw_iff] at hask; omega⟩
      clear hask
      go_wp2_with fail
      refine Calls.mono (cin_any _ _ _ _) ?_
      rw [HAK.out]
      rintro e w6 ⟨rfl, rfl⟩
      go_wp2_with fail
      go_loopw [17, 18] (fun t i wr => ∃ k : Nat, i = .int .i64 k ∧ k ≤ ks.length ∧ t = .int .i64 ((ks.take k).count a) ∧ Hid (FlAt wr pf vf (bitsRun (ks.take k))) ∧ Hid (Sk wr ps gg co g cc (rowsRun (ks.take k)) k) ∧ Hid (Kp (fun b => vf.ownBlock = some b ∨ SkF ps g b) w5 wr)) (fun _ i _ => ks.length - (intOf i).toNat)
      case atStart => exact ⟨0, rfl, Nat.zero_le _, rfl, HFL5.out, HSK5.out, Kp.refl _ _⟩
      case round =>
        obtain ⟨k, rfl, hk, rfl, hfl, hsk, hkr⟩ := hrel
        have HKN := hide (show Kp No w wr from HK5.out.trans' hkr.out fun b hb e => by
          rcases e with e | e
          · have := (HVF.out b e).1; omega
          · have := (HSF.out b e).1; have := HS1.out; omega)
        by_cases hlt : k < ks.length
        · obtain ⟨_, _, e, _, _, hcell⟩ := HV.out.no HKN.out
          rw [ni_length] at e
          cases e
          obtain ⟨b, o, rfl, hbl, hcx⟩ := hcell k (by rw [ni_length]; exact hlt)
          rw [ni_get hlt] at hcx
          have hx6 := hks ks[k] (List.getElem_mem hlt)
          have HTK := hide (show ks.take (k + 1) = ks.take k ++ [ks[k]] from List.take_succ_eq_append_getElem hlt)
          have HCX := hide hcx
          obtain ⟨x, hx⟩ : ∃ x, ks[k] = x := ⟨_, rfl⟩
          rw [hx] at hcx hx6 HTK HCX
          obtain ⟨L, hL⟩ : ∃ L, ks.take k = L := ⟨_, rfl⟩
          have hLk : L.length = k := by rw [← hL, List.length_take]; omega
          rw [hL] at HTK hfl hsk ⊢
          clear hcell hx hL
          go_wp2_with fail
          refine Calls.mono (badd_any x hx6 wr hfl.out) ?_
          rintro e w6 ⟨rfl, hf6, hk6⟩
          have HF6 := hide hf6
          have HSK6 := hide (hsk.out.kp hk6 (fun e => by have := (HVF.out _ e).2; have := (HSF.out ps (.inl rfl)).1; omega) (fun e => by have := (HVF.out _ e).2; have := HGG.out.1; omega) (fun i hi e => by have := (HVF.out _ e).2; have := (HSF.out (g i) (.inr ⟨i, hi, rfl⟩)).1; omega))
          have HK6 := hide (hkr.out.trans (hk6.mono fun b _ h => .inl h))
          have hc6 := hk6.cell HCX.out (fun e => by have h1 : w.heap.size ≤ b := (HVF.out _ e).1; have h2 : b < w.heap.size := hbl; omega)
          have HC6 := hide hc6
          clear hf6 hk6 hcx
          go_wp2_with fail
          refine Calls.mono (sadd_any x hx6 w6 HSK6.out (by omega) (by omega) (fun i _ m _ => ⟨((skOk_run L).rng i m).1, by have := ((skOk_run L).rng i m).2; omega⟩)) ?_
          rintro e w7 ⟨rfl, hs7, hk7⟩
          have HSK7 := hide hs7
          have HF7 := hide (HF6.out.kp hk7 (fun e => by have := (HSF.out _ e).1; have := HPF.out.2; omega) (fun b hb e => by have := (HSF.out _ e).1; have := (HVF.out _ hb).2; omega))
          have HK7 := hide (HK6.out.trans (hk7.mono fun b _ h => .inr h))
          have hc7 := hk7.cell HC6.out (fun e => by have h1 : w1.heap.size ≤ b := (HSF.out _ e).1; have := HS1.out; have h2 : b < w.heap.size := hbl; omega)
          clear hs7 hk7 hc6
          by_cases hxa : x = a
          · have hxa' : ((x : Int) == (a : Int)) = true := by subst hxa; simp
            have HCN := hide (show ((L.count a : Nat) : Int) + 1 = ((L ++ [x]).count a : Nat) by rw [count_snoc, if_pos hxa]; push_cast; rfl)
            have hc40 : L.count a ≤ 40 := Nat.le_trans List.count_le_length (by omega)
            go_wp2_with fail
            go_roundw
            case rel => exact ⟨k + 1, by go_num, hlt, by rw [HTK.out, HCN.out], by rw [HTK.out, bitsRun_snoc]; exact HF7, by rw [HTK.out, rowsRun_snoc]; exact HSK7, HK7.out⟩
            case measure => (simp [intOf]; omega)
          · have hxa' : ((x : Int) == (a : Int)) = false := by rw [beq_eq_false_iff_ne]; omega
            have HCN := hide (show (L.count a : Nat) = (L ++ [x]).count a by rw [count_snoc, if_neg hxa]; rfl)
            go_wp2_with fail
            go_roundw
            case rel => exact ⟨k + 1, by go_num, hlt, by rw [HTK.out, ← HCN.out], by rw [HTK.out, bitsRun_snoc]; exact HF7, by rw [HTK.out, rowsRun_snoc]; exact HSK7, HK7.out⟩
            case measure => (simp [intOf]; omega)
        · obtain rfl : k = ks.length := by omega
          rw [List.take_length] at hfl hsk ⊢
          go_wp2_with fail
          refine Calls.mono (bhas_any a ha _ hfl.out) ?_
          rintro e w6 ⟨rfl, hk6⟩
          have HSK6 := hide (hsk.out.no hk6)
          have HK6 := hide (hkr.out.trans hk6.of_no)
          have HKN6 := hide (HKN.out.trans hk6)
          clear hk6
          go_wp2_with fail
          refine Calls.mono (scount_any a ha _ HSK6.out) ?_
          rintro e w7 ⟨rfl, hk7⟩
          have HKN7 := hide (HKN6.out.trans hk7)
          have HK7 := hide (HK6.out.trans hk7.of_no)
          have HL7 := hide (HL5.out.kp HK7.out fun b hb e => by
            have := HLB.out b hb
            rcases e with e | e
            · have := (HVF.out b e).2; have := HS2.out; omega
            · have := (HSF.out b e).2; omega)
          have HM7 := hide (HM5.out.kp HK7.out fun b hb e => by
            have := HMB.out b hb
            rcases e with e | e
            · have := (HVF.out b e).2; have := HS2.out; omega
            · have := (HSF.out b e).2; omega)
          have HHS := hide (fun h => has_run (ks := ks) (a := a) h)
          have HLE := hide (least_run (ks := ks) a hkl)
          have HT40 := hide (show ks.count a ≤ ks.length from List.count_le_length)
          have HLOW := hide (low_all kn ks)
          have HHIG := hide (high_all kn hkn ks)
          obtain ⟨t, ht⟩ : ∃ t, ks.count a = t := ⟨_, rfl⟩
          obtain ⟨n, hn⟩ : ∃ n, leastR (rowsRun ks) a 3 = n := ⟨_, rfl⟩
          obtain ⟨is, his⟩ : ∃ is, hasBits (bitsRun ks) a = is := ⟨_, rfl⟩
          rw [ht] at HT40 HHS HLE ⊢
          rw [hn] at HLE ⊢
          rw [his] at HHS ⊢
          have hT40 := HT40.out
          have hLE : ¬ n < (t : Int) := Int.not_lt.2 HLE.out
          have HTT := hide ht
          clear hk7 hfl hsk hkr hn his ht
          obtain ⟨b, hb⟩ : ∃ b, (decide (0 < t) && !is) = b := ⟨_, rfl⟩
          obtain rfl : b = false := by
            rw [← hb]
            by_cases h0 : 0 < t
            · rw [HHS.out h0]; simp
            · rw [decide_eq_false h0]; rfl
          have HB := hide hb
          clear hb
          obtain ⟨Al, cl, el, hcl, hml, _⟩ := HL7.out.form
          obtain ⟨Am, cm, em, hcm, hmm, _⟩ := HM7.out.form
          subst el em
          by_cases h0 : 0 < t
          · have h0' : (0 : Int) < (t : Int) := by omega
            obtain rfl : is = true := HHS.out h0
            go_wp2_with fail
            go_loopw [23, 25] (fun lo i wr => ∃ k z : Nat, i = .int .i64 k ∧ k ≤ (keepRun kn ks).length ∧ lo = .int .i64 z ∧ z ≤ t ∧ Hid (Kp No w7 wr)) (fun _ i _ => (keepRun kn ks).length - (intOf i).toNat)
            case atStart => exact ⟨0, 0, rfl, Nat.zero_le _, rfl, Nat.zero_le _, Kp.refl _ _⟩
            case round =>
              obtain ⟨k, z, rfl, hk, rfl, hzt, hkq⟩ := hrel
              by_cases hlt : k < (keepRun kn ks).length
              · obtain ⟨_, _, e, _, _, hcell⟩ := (HL7.out.no hkq.out).form
                cases e
                obtain ⟨gb, e1, c1, c2, -⟩ := hcell k hlt
                subst e1
                have HBT := hide ((HLOW.out.2 _ (List.getElem_mem hlt)).2)
                obtain ⟨y, hy⟩ : ∃ y, (keepRun kn ks)[k].1 = y := ⟨_, rfl⟩
                obtain ⟨u, hu⟩ : ∃ u, (keepRun kn ks)[k].2 = u := ⟨_, rfl⟩
                rw [hy] at c1 HBT
                rw [hu] at c2 HBT
                clear hcell hy hu
                by_cases hya : y = a
                · have hya' : ((y : Int) == (a : Int)) = true := by subst hya; simp
                  have hut : u ≤ t := by rw [← HTT.out, ← hya]; exact HBT.out
                  go_wp2_with fail
                  exact ⟨⟨k + 1, u, by go_num, hlt, rfl, hut, hkq⟩, by simp [intOf]; omega⟩
                · have hya' : ((y : Int) == (a : Int)) = false := by rw [beq_eq_false_iff_ne]; omega
                  go_wp2_with fail
                  exact ⟨⟨k + 1, z, by go_num, hlt, rfl, hzt, hkq⟩, by simp [intOf]; omega⟩
              · obtain rfl : k = (keepRun kn ks).length := by omega
                have HM8 := hide (HM7.out.no hkq.out)
                have HKN8 := hide (HKN7.out.trans hkq.out)
                have hzt' : (z : Int) ≤ (t : Int) := by omega
                have hzn' : (z : Int) ≤ n := by omega
                clear hkq
                go_wp2_with fail
                go_loopw [24, 26] (fun hi i wq => ∃ k u : Nat, i = .int .i64 k ∧ k ≤ (spaceRun kn ks).length ∧ hi = .int .i64 u ∧ t ≤ u ∧ Hid (Kp No wr wq)) (fun _ i _ => (spaceRun kn ks).length - (intOf i).toNat)
                case atStart => exact ⟨0, ks.length, rfl, Nat.zero_le _, rfl, hT40, Kp.refl _ _⟩
                case round =>
                  obtain ⟨k, u, rfl, hk, rfl, htu, hkq⟩ := hrel
                  by_cases hlt : k < (spaceRun kn ks).length
                  · obtain ⟨_, _, e, _, _, hcell⟩ := (HM8.out.no hkq.out).form
                    cases e
                    obtain ⟨gb, e1, c1, c2, -⟩ := hcell k hlt
                    subst e1
                    have HBT := hide ((HHIG.out.2.2.1 _ (List.getElem_mem hlt)).1)
                    obtain ⟨y, hy⟩ : ∃ y, (spaceRun kn ks)[k].1 = y := ⟨_, rfl⟩
                    obtain ⟨u', hu⟩ : ∃ u', (spaceRun kn ks)[k].2 = u' := ⟨_, rfl⟩
                    rw [hy] at c1 HBT
                    rw [hu] at c2 HBT
                    clear hcell hy hu
                    by_cases hya : y = a
                    · have hya' : ((y : Int) == (a : Int)) = true := by subst hya; simp
                      have hut : t ≤ u' := by rw [← HTT.out, ← hya]; exact HBT.out
                      go_wp2_with fail
                      exact ⟨⟨k + 1, u', by go_num, hlt, rfl, hut, hkq⟩, by simp [intOf]; omega⟩
                    · have hya' : ((y : Int) == (a : Int)) = false := by rw [beq_eq_false_iff_ne]; omega
                      go_wp2_with fail
                      exact ⟨⟨k + 1, u, by go_num, hlt, rfl, htu, hkq⟩, by simp [intOf]; omega⟩
                  · obtain rfl : k = (spaceRun kn ks).length := by omega
                    have HKN9 := hide (HKN8.out.trans hkq.out)
                    have htu' : (t : Int) ≤ (u : Int) := by omega
                    clear hkq
                    go_wp2_with fail
                    go_ret
                    exact ⟨rfl, HKN9.out⟩
          · have h0' : ¬ (0 : Int) < (t : Int) := by omega
            go_wp2_with fail
            go_loopw [23, 25] (fun lo i wr => ∃ k z : Nat, i = .int .i64 k ∧ k ≤ (keepRun kn ks).length ∧ lo = .int .i64 z ∧ z ≤ t ∧ Hid (Kp No w7 wr)) (fun _ i _ => (keepRun kn ks).length - (intOf i).toNat)
            case atStart => exact ⟨0, 0, rfl, Nat.zero_le _, rfl, Nat.zero_le _, Kp.refl _ _⟩
            case round =>
              obtain ⟨k, z, rfl, hk, rfl, hzt, hkq⟩ := hrel
              by_cases hlt : k < (keepRun kn ks).length
              · obtain ⟨_, _, e, _, _, hcell⟩ := (HL7.out.no hkq.out).form
                cases e
                obtain ⟨gb, e1, c1, c2, -⟩ := hcell k hlt
                subst e1
                have HBT := hide ((HLOW.out.2 _ (List.getElem_mem hlt)).2)
                obtain ⟨y, hy⟩ : ∃ y, (keepRun kn ks)[k].1 = y := ⟨_, rfl⟩
                obtain ⟨u, hu⟩ : ∃ u, (keepRun kn ks)[k].2 = u := ⟨_, rfl⟩
                rw [hy] at c1 HBT
                rw [hu] at c2 HBT
                clear hcell hy hu
                by_cases hya : y = a
                · have hya' : ((y : Int) == (a : Int)) = true := by subst hya; simp
                  have hut : u ≤ t := by rw [← HTT.out, ← hya]; exact HBT.out
                  go_wp2_with fail
                  exact ⟨⟨k + 1, u, by go_num, hlt, rfl, hut, hkq⟩, by simp [intOf]; omega⟩
                · have hya' : ((y : Int) == (a : Int)) = false := by rw [beq_eq_false_iff_ne]; omega
                  go_wp2_with fail
                  exact ⟨⟨k + 1, z, by go_num, hlt, rfl, hzt, hkq⟩, by simp [intOf]; omega⟩
              · obtain rfl : k = (keepRun kn ks).length := by omega
                have HM8 := hide (HM7.out.no hkq.out)
                have HKN8 := hide (HKN7.out.trans hkq.out)
                have hzt' : (z : Int) ≤ (t : Int) := by omega
                have hzn' : (z : Int) ≤ n := by omega
                clear hkq
                go_wp2_with fail
                go_loopw [24, 26] (fun hi i wq => ∃ k u : Nat, i = .int .i64 k ∧ k ≤ (spaceRun kn ks).length ∧ hi = .int .i64 u ∧ t ≤ u ∧ Hid (Kp No wr wq)) (fun _ i _ => (spaceRun kn ks).length - (intOf i).toNat)
                case atStart => exact ⟨0, ks.length, rfl, Nat.zero_le _, rfl, hT40, Kp.refl _ _⟩
                case round =>
                  obtain ⟨k, u, rfl, hk, rfl, htu, hkq⟩ := hrel
                  by_cases hlt : k < (spaceRun kn ks).length
                  · obtain ⟨_, _, e, _, _, hcell⟩ := (HM8.out.no hkq.out).form
                    cases e
                    obtain ⟨gb, e1, c1, c2, -⟩ := hcell k hlt
                    subst e1
                    have HBT := hide ((HHIG.out.2.2.1 _ (List.getElem_mem hlt)).1)
                    obtain ⟨y, hy⟩ : ∃ y, (spaceRun kn ks)[k].1 = y := ⟨_, rfl⟩
                    obtain ⟨u', hu⟩ : ∃ u', (spaceRun kn ks)[k].2 = u' := ⟨_, rfl⟩
                    rw [hy] at c1 HBT
                    rw [hu] at c2 HBT
                    clear hcell hy hu
                    by_cases hya : y = a
                    · have hya' : ((y : Int) == (a : Int)) = true := by subst hya; simp
                      have hut : t ≤ u' := by rw [← HTT.out, ← hya]; exact HBT.out
                      go_wp2_with fail
                      exact ⟨⟨k + 1, u', by go_num, hlt, rfl, hut, hkq⟩, by simp [intOf]; omega⟩
                    · have hya' : ((y : Int) == (a : Int)) = false := by rw [beq_eq_false_iff_ne]; omega
                      go_wp2_with fail
                      exact ⟨⟨k + 1, u, by go_num, hlt, rfl, htu, hkq⟩, by simp [intOf]; omega⟩
                  · obtain rfl : k = (spaceRun kn ks).length := by omega
                    have HKN9 := hide (HKN8.out.trans hkq.out)
                    have htu' : (t : Int) ≤ (u : Int) := by omega
                    clear hkq
                    go_wp2_with fail
                    go_ret
                    exact ⟨rfl, HKN9.out⟩
  · refine Calls.mono (keep_bad _ _ _ _ HV2.out hok) ?_
    rintro e w3 ⟨⟨c3, rfl⟩, rfl⟩
    go_wp2_with fail
    refine Calls.mono (space_bad _ _ _ _ HV2.out hok) ?_
    rintro e w4 ⟨⟨c4, rfl⟩, rfl⟩
    go_wp2_with fail
    refine Calls.mono (keep4_any w2 _ rfl) ?_
    rintro e w5 ⟨g4, c4', rfl, hc4, hm4, hn4, hk5⟩
    have HK5 := hide (HK2.out.trans hk5)
    clear hk5
    go_wp2_with fail
    go_ret
    exact ⟨rfl, HK5.out⟩
end Go.Proofs.Ytjapcoonaabdnaa
