/- The law TrialAll, walked: of every heap and every node. -/
import Derived.Test.YtkfibfacfgiplaaTrialSafe
namespace Go.Proofs.Ytkfibfacfgiplaa
open Go.RowKit

/-- what is without -/
def heldA (s k : Nat) : List Int := ((List.range k).filter fun i => !bt s i).map fun i : Nat => (i : Int)
theorem heldA_yes {s k : Nat} (h : bt s k = false) : heldA s (k + 1) = heldA s k ++ [(k : Int)] := by simp [heldA, List.range_succ, h]
theorem heldA_no {s k : Nat} (h : bt s k = true) : heldA s (k + 1) = heldA s k := by simp [heldA, List.range_succ, h]
theorem mem_heldA {s k : Nat} {x : Int} : x ∈ heldA s k ↔ (0 ≤ x ∧ x < k) ∧ bt s x.toNat = false := by
  unfold heldA
  rw [List.mem_map]
  constructor
  · rintro ⟨i, hi, rfl⟩
    rw [List.mem_filter, List.mem_range] at hi
    exact ⟨by omega, by simpa using hi.2⟩
  · rintro ⟨h1, h2⟩
    exact ⟨x.toNat, by rw [List.mem_filter, List.mem_range]; exact ⟨by omega, by simpa using h2⟩, by omega⟩
theorem heldA_nodup (s k : Nat) : (heldA s k).Nodup := by
  induction k with
  | zero => simp [heldA]
  | succ k ih =>
    cases h : bt s k with
    | true => rw [heldA_no h]; exact ih
    | false =>
      rw [heldA_yes h, List.nodup_append]
      refine ⟨ih, by simp, fun a ha b hb => ?_⟩
      simp at hb
      have := (mem_heldA.1 ha).1
      omega
theorem heldA_length (s k : Nat) : (heldA s k).length ≤ k := nodup_le (heldA_nodup s k) fun x hx => (mem_heldA.1 hx).1

section
variable {outs : List (List Int)} {roots : List Int}
theorem heldB_range (hok : Ok outs roots) (s i : Nat) : ∀ y ∈ fwd (heldA s outs.length) (roots.take i), 0 ≤ y ∧ y < (outs.length : Int) := by
  intro y hy
  rcases mem_fwd.1 hy with h | h
  · exact (mem_heldA.1 h).1
  · exact hok.root y (List.mem_of_mem_take h)
theorem heldB_length (hok : Ok outs roots) (s i : Nat) : (fwd (heldA s outs.length) (roots.take i)).length ≤ outs.length := nodup_le (nodup_fwd (heldA_nodup _ _) _) (heldB_range hok s i)
theorem heldB_ok (hok : Ok outs roots) (s i : Nat) : Ok outs (fwd (heldA s outs.length) (roots.take i)) :=
  ⟨hok.n12, Nat.le_trans (heldB_length hok s i) hok.n12, heldB_range hok s i, hok.few, hok.out⟩
theorem heldB_mem (hok : Ok outs roots) {x : Int} (hx : Ok outs [x]) {i : Nat} (he : i = roots.length ∨ 12 ≤ (fwd (heldA (reachN outs [x]) outs.length) (roots.take i)).length) :
    ∀ y : Int, 0 ≤ y → y < outs.length → (y ∈ fwd (heldA (reachN outs [x]) outs.length) (roots.take i) ↔ ¬ Comes outs [x] y ∨ y ∈ roots) := by
  intro y h0 h1
  have hb : bt (reachN outs [x]) y.toNat = false ↔ ¬ Comes outs [x] y := by
    unfold bt
    rw [← Bool.not_eq_true, reachN_bit hx, Int.toNat_of_nonneg h0]
  constructor
  · intro h
    rcases mem_fwd.1 h with h | h
    · exact .inl (hb.1 (mem_heldA.1 h).2)
    · exact .inr (List.mem_of_mem_take h)
  · intro h
    rcases he with rfl | he
    · rw [List.take_length, mem_fwd, mem_heldA, hb]
      exact h.imp (fun h => ⟨⟨h0, h1⟩, h⟩) id
    · exact full_has (nodup_fwd (heldA_nodup _ _) _) (heldB_range hok _ i) (by have := hok.n12; omega) h0 h1
end

set_option maxRecDepth 100000 in
set_option maxHeartbeats 2000000 in
theorem trialAll_any {F : Nat → Prop} (vo vr : Value) (outs : List (List Int)) (roots : List Int) (x : Int) (w : World) (ho : RowsIn w F vo outs) (hr : IntsIn w F vr roots) (_ : -9223372036854775808 ≤ x ∧ x ≤ 9223372036854775807) :
    Calls Try.prog 8 #[.agg #[vo, vr], .int .i64 x] w fun e w' => e = .returned (.bool true) ∧ Kp No w w' := by
  have HO := hide ho
  have HR := hide hr
  clear ho hr
  by_cases hc : chkF outs roots x = 0
  · obtain ⟨hok, hx⟩ := chkF_zero hc
    have HOK := hide hok
    have HX := hide hx
    have HL := hide hok.n12
    clear hc hok hx
    go_enter Try.func8, Try.ntmps8
    go_wp2_with fail
    refine Calls.mono (trialFact_any _) ?_
    rintro e w1 ⟨rfl, hk1⟩
    have hb1 := (Blk.new w 25 #[vo, vr]).kp hk1 id
    obtain ⟨a1, a2, a3, a4, a5⟩ := hb1.a2
    have HB1 := hide hb1
    have HK1 := hide (((Kp.refl No w).alloc (.cells #[vo, vr] 25)).trans' hk1 fun _ _ h => h)
    clear hk1 hb1
    obtain ⟨Ao, co, rfl, hco, hmo, _⟩ := RowsIn.form HO.out
    obtain ⟨Ar, cr, rfl, hcr, hmr, _⟩ := id HR.out
    go_wp2_with fail
    refine Calls.mono (free_ok _ _ outs roots x _ (HO.out.no HK1.out) (HR.out.no HK1.out) HOK.out HX.out) ?_
    rintro e w2 ⟨rfl, hk2⟩
    have HB2 := hide (HB1.out.kp hk2 id)
    have HK2 := hide (HK1.out.trans hk2)
    clear a1 a2 a3 a4 hk2
    obtain ⟨a1, a2, a3, a4, _⟩ := HB2.out.a2
    go_wp2_with fail
    have HKx := hide (HK2.out.alloc (.cells #[.int .i64 x] 3))
    refine Calls.mono (reach_ok (F := fun _ => True) _ _ outs [x] _ ((HO.out.no HKx.out).mono fun _ _ _ => trivial) (one_blk (Blk.new _ _ _) trivial) HX.out) ?_
    rintro e w3 ⟨rfl, hk3⟩
    have HB3 := hide ((HB2.out.alloc _).kp hk3 id)
    have HK3 := hide (HKx.out.trans hk3)
    clear a1 a2 a3 a4 hk3
    obtain ⟨a1, a2, a3, a4, _⟩ := HB3.out.a2
    have HNF := hide (freeN_lt (roots := roots) HX.out)
    have HNP := hide (reachN_lt HX.out)
    obtain ⟨s, hs⟩ : ∃ s, s = reachN outs [x] := ⟨_, rfl⟩
    have HS := hide hs
    rw [← hs] at HNP ⊢
    clear hs
    have hw3 : w.heap.size < w3.heap.size := HB3.out.lt
    go_wp2_with fail
    go_loopw [10, 11] (fun v p wr => ∃ k : Nat, p = .int .i64 k ∧ k ≤ outs.length ∧ wr.ownsRow w3.heap.size 3 1 v (heldA s k).length (iv (heldA s k)) ∧ Kp No w3 wr) (fun _ p _ => outs.length - (intOf p).toNat)
    case atStart => exact ⟨0, rfl, Nat.zero_le _, World.ownsRow_nil _ _ _ _, Kp.refl _ _⟩
    case round =>
      obtain ⟨i, rfl, hi, hown, hkp⟩ := hrel
      clear a1 a2 a3 a4
      obtain ⟨a1, a2, a3, a4, _⟩ := (HB3.out.kp hkp id).a2
      have hsz := hkp.size
      have HO1 := hide hown
      have HKP := hide hkp
      clear hkp hown
      by_cases hil : i < outs.length
      · have hi12 : i < 12 := by have := HL.out; omega
        go_wp2_with fail
        refine Calls.mono (bit_any s i (by have := HNP.out; omega) (by omega) _) ?_
        rintro e w6 ⟨rfl, rfl⟩
        cases hb : bt s i with
        | true =>
          have HY := hide (heldA_no hb)
          clear hb
          go_wp2
          go_roundw
          case rel => exact ⟨i + 1, by go_num, hil, by rw [HY.out]; exact HO1.out, HKP.out⟩
          case measure => simp [intOf]; omega
        | false =>
          have HY := hide (heldA_yes hb)
          have HLN := hide (show (heldA s i).length ≤ 12 from by have := heldA_length s i; omega)
          clear hb
          go_wp2_with (at_builtin; refine wpList_push _ rfl (.tmp 51) (.tmp 53) _ rfl w3.heap.size 3 _ 8 Try.underlying23 Try.infoInt rfl u10 (heldA s i).length (iv (heldA s i)) rfl HO1.out _ rfl 1 _ rfl (by simp) (by have := HLN.out; omega) (by omega) hsz ?_; intro g' c' w5 ho' hgr hat; have HO2 := hide ho'; have HG := hide hgr; clear ho' hgr hat)
          go_roundw
          case rel =>
            refine ⟨i + 1, by go_num, hil, by rw [HY.out, List.length_append, List.length_singleton, iv_snoc]; exact HO2.out, ?_⟩
            exact (HKP.out.alloc _).grown HG.out fun b h hb => by have := (own_lt HO1.out h).1; omega
          case measure => simp [intOf]; omega
      · obtain rfl : i = outs.length := by omega
        obtain ⟨e0, A1, c1, hv1, _⟩ := own_form HO1.out
        rw [iv_length] at hv1
        subst hv1
        clear e0
        have HF0 := hide (show fwd (heldA s outs.length) (roots.take 0) = heldA s outs.length from rfl)
        go_wp2_with fail
        go_loopw [10, 12] (fun v p wq => ∃ k : Nat, p = .int .i64 k ∧ k ≤ roots.length ∧ (∃ A c, v = .slice A (fwd (heldA s outs.length) (roots.take k)).length c) ∧ wq.ownsRow w3.heap.size 3 1 v (fwd (heldA s outs.length) (roots.take k)).length (iv (fwd (heldA s outs.length) (roots.take k))) ∧ Kp No w3 wq) (fun _ p _ => roots.length - (intOf p).toNat)
        case atStart => exact ⟨0, rfl, Nat.zero_le _, ⟨_, _, by rw [HF0.out]⟩, by rw [HF0.out]; exact HO1.out, HKP.out⟩
        case round =>
          obtain ⟨k, rfl, hk, ⟨A2, c2, rfl⟩, hown, hkq⟩ := hrel
          clear a1 a2 a3 a4
          obtain ⟨a1, a2, a3, a4, _⟩ := (HB3.out.kp hkq id).a2
          have hsz2 := hkq.size
          have HO2 := hide hown
          have HKQ := hide hkq
          have HLB := hide (heldB_length HOK.out s k)
          clear hkq hown
          have rest : ∀ (hex : k = roots.length ∨ 12 ≤ (fwd (heldA s outs.length) (roots.take k)).length), Hid (∀ i, bt (freeN outs roots x) i = (bt s i && !bt (reachN outs (fwd (heldA s outs.length) (roots.take k))) i)) := fun hex i => by
            have := free_all HOK.out HX.out (heldB_ok HOK.out (reachN outs [x]) k) (heldB_mem HOK.out HX.out (by rw [← HS.out]; exact hex)) i
            rw [← HS.out] at this
            exact this
          have REST := hide rest
          clear rest
          have hfl := HLB.out
          have hl12 := HL.out
          by_cases hkl : k < roots.length ∧ (fwd (heldA s outs.length) (roots.take k)).length < 12
          · obtain ⟨hkl, hf12⟩ := hkl
            obtain ⟨_, _, e, _, _, hcell⟩ := HR.out.no (HK3.out.trans HKQ.out)
            cases e
            obtain ⟨b', o', rfl, _, hc⟩ := hcell k hkl
            clear hcell
            have hd1 : ((k : Int) < (roots.length : Int)) := by omega
            have HTK := hide (show roots.take (k + 1) = roots.take k ++ [roots[k]] from List.take_succ_eq_append_getElem hkl)
            obtain ⟨L, hL⟩ : ∃ L, L = fwd (heldA s outs.length) (roots.take k) := ⟨_, rfl⟩
            have HFS := hide (show fwd (heldA s outs.length) (roots.take (k + 1)) = fwdStep L roots[k] by rw [HTK.out, fwd_snoc, hL])
            rw [← hL] at HO2 hf12 hfl ⊢
            clear hL REST HLB
            go_wp2_with fail
            refine Calls.mono (has_any _ L roots[k] _ (own_ints HO2.out)) ?_
            rintro e w6 ⟨rfl, rfl⟩
            by_cases hm : roots[k] ∈ L
            · have HM := hide (show hasB L roots[k] = true by unfold hasB; simpa using hm)
              have HFE := hide (show fwd (heldA s outs.length) (roots.take (k + 1)) = L by rw [HFS.out, fwdStep, if_pos hm])
              clear hm
              rw [HM.out]
              go_wp2
              go_roundw
              case rel => exact ⟨k + 1, by go_num, hkl, ⟨_, _, by rw [HFE.out]⟩, by rw [HFE.out]; exact HO2.out, HKQ.out⟩
              case measure => simp [intOf]; omega
            · have HM := hide (show hasB L roots[k] = false by unfold hasB; simpa using hm)
              have HFE := hide (show fwd (heldA s outs.length) (roots.take (k + 1)) = L ++ [roots[k]] by rw [HFS.out, fwdStep, if_neg hm])
              clear hm
              rw [HM.out]
              go_wp2_with (at_builtin; refine wpList_push _ rfl (.tmp 75) (.tmp 81) _ rfl w3.heap.size 3 _ 8 Try.underlying23 Try.infoInt rfl (.slice A2 L.length c2) L.length (iv L) rfl HO2.out _ rfl 1 _ rfl (by simp) (by omega) (by omega) hsz2 ?_; intro g' c' w5 ho' hgr hat; have HO3 := hide ho'; have HG := hide hgr; clear ho' hgr hat)
              go_roundw
              case rel =>
                refine ⟨k + 1, by go_num, hkl, ⟨_, _, by rw [HFE.out, List.length_append, List.length_singleton]⟩, by rw [HFE.out, List.length_append, List.length_singleton, iv_snoc]; exact HO3.out, ?_⟩
                exact (HKQ.out.alloc _).grown HG.out fun b h hb => by have := (own_lt HO2.out h).1; omega
              case measure => simp [intOf]; omega
          · have hex : k = roots.length ∨ 12 ≤ (fwd (heldA s outs.length) (roots.take k)).length := by omega
            have HFA := hide ((REST.out hex).out)
            have HOB := hide (heldB_ok HOK.out s k)
            obtain ⟨L, hL⟩ : ∃ L, L = fwd (heldA s outs.length) (roots.take k) := ⟨_, rfl⟩
            rw [← hL] at HO2 HFA HOB hfl hex ⊢
            have HHI := hide (show IntsIn wr (fun _ => True) (.slice A2 L.length c2) L from (own_ints HO2.out).mono fun _ _ _ => trivial)
            have HNK := hide (reachN_lt HOB.out)
            clear hL REST HLB hkl
            by_cases hkl : k < roots.length
            all_goals
              go_wp2_with fail
              refine Calls.mono (reach_ok (F := fun _ => True) _ _ outs L _ ((HO.out.no (HK3.out.trans HKQ.out)).mono fun _ _ _ => trivial) HHI.out HOB.out) ?_
              rintro e w7 ⟨rfl, hk7⟩
              have HK7 := hide (HKQ.out.trans hk7)
              clear a1 a2 a3 a4 hk7
              obtain ⟨a1, a2, a3, a4, _⟩ := (HB3.out.kp HK7.out id).a2
              go_wp2_with fail
              go_loop [15] (fun p => ∃ i : Nat, p = .int .i64 i ∧ i ≤ outs.length) (fun p => outs.length - (intOf p).toNat)
              case atStart => exact ⟨0, rfl, Nat.zero_le _⟩
              case round =>
                obtain ⟨i, rfl, hi⟩ := hrel
                by_cases hil : i < outs.length
                · have hi12 : i < 12 := by omega
                  have HFB := hide (HFA.out i)
                  go_wp2_with fail
                  refine Calls.mono (bit_any (freeN outs roots x) i (by have := HNF.out; omega) (by omega) _) ?_
                  rintro e w8 ⟨rfl, rfl⟩
                  go_wp2_with fail
                  refine Calls.mono (bit_any s i (by have := HNP.out; omega) (by omega) _) ?_
                  rintro e w8 ⟨rfl, rfl⟩
                  rw [HFB.out]
                  cases hb : bt s i with
                  | true =>
                    clear hb
                    go_wp2_with fail
                    refine Calls.mono (bit_any (reachN outs L) i (by have := HNK.out; omega) (by omega) _) ?_
                    rintro e w8 ⟨rfl, rfl⟩
                    cases hb2 : bt (reachN outs L) i with
                    | true =>
                      clear hb2
                      go_wp2
                      go_round
                      case rel => exact ⟨i + 1, by go_num, hil⟩
                      case measure => simp [intOf]; omega
                    | false =>
                      clear hb2
                      go_wp2
                      go_round
                      case rel => exact ⟨i + 1, by go_num, hil⟩
                      case measure => simp [intOf]; omega
                  | false =>
                    clear hb
                    go_wp2
                    go_round
                    case rel => exact ⟨i + 1, by go_num, hil⟩
                    case measure => simp [intOf]; omega
                · obtain rfl : i = outs.length := by omega
                  go_wp2
                  go_ret
                  exact ⟨rfl, HK3.out.trans HK7.out⟩
  · have HC := hide hc
    clear hc
    go_enter Try.func8, Try.ntmps8
    go_wp2_with fail
    refine Calls.mono (trialFact_any _) ?_
    rintro e w1 ⟨rfl, hk1⟩
    have hb1 := (Blk.new w 25 #[vo, vr]).kp hk1 id
    obtain ⟨a1, a2, a3, a4, a5⟩ := hb1.a2
    have HB1 := hide hb1
    have HK1 := hide (((Kp.refl No w).alloc (.cells #[vo, vr] 25)).trans' hk1 fun _ _ h => h)
    clear hk1 hb1
    go_wp2_with fail
    refine Calls.mono (free_bad _ _ outs roots x _ (HO.out.no HK1.out) (HR.out.no HK1.out) HC.out) ?_
    rintro e w2 ⟨rfl, hk2⟩
    have HK2 := hide (HK1.out.trans hk2)
    clear hk2
    go_wp2
    go_ret
    exact ⟨rfl, HK2.out⟩
end Go.Proofs.Ytkfibfacfgiplaa
