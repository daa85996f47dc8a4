/- larderwickref1.Without: a list without the first that is a number. Condition: a list of 1000 at most. -/
import Derived.Test.YtgbdjidjbcbhjaaDoorSame
namespace Go.Proofs.YtgbdjidjbcbhjaaDoor
open Go.RowKit

theorem erase_snoc {xs : List Int} {n x : Int} : (xs ++ [x]).erase n = if x = n ∧ n ∉ xs then xs.erase n else xs.erase n ++ [x] := by
  rw [List.erase_append]
  by_cases h : n ∈ xs
  · rw [if_pos h, if_neg (fun h' => h'.2 h)]
  · rw [if_neg h]
    by_cases e : x = n
    · rw [if_pos ⟨e, h⟩, e]
      simp [List.erase_of_not_mem h]
    · rw [if_neg (fun h' => e h'.1), List.erase_of_not_mem h]
      simp [List.erase_cons, e]

theorem without_any {F : Nat → Prop} (v : Value) (xs : List Int) (n : Int) (w : World) (hv : IntsIn w F v xs) (hl : xs.length ≤ 1000) :
    Calls Tryd.prog 62 #[v, .int .i64 n] w (FreshInts w (xs.erase n)) := by
  obtain ⟨A, c, rfl, hc, hm, hcell⟩ := id hv
  clear hcell
  have HV := hide (hv.mono (F' := Lo w.heap.size) fun k h _ => h)
  clear hv
  go_enter Tryd.func62, Tryd.ntmps62
  go_wp2
  go_loopw [5, 6, 7] (fun v g i wr => ∃ k : Nat, k ≤ xs.length ∧ i = .int .i64 k ∧ g = .bool (decide (n ∈ xs.take k)) ∧ wr.ownsRow w.heap.size 3 1 v ((xs.take k).erase n).length (iv ((xs.take k).erase n)) ∧ Kp No w wr) (fun _ _ i _ => xs.length - (intOf i).toNat)
  case atStart => exact ⟨0, Nat.zero_le _, rfl, by simp, World.ownsRow_nil _ _ _ _, .refl _ _⟩
  case round =>
    obtain ⟨k, hk, rfl, rfl, hown, hkp⟩ := hrel
    have hsz := hkp.size
    have HO := hide hown
    have HK := hide hkp
    clear hown hkp
    by_cases hlt : k < xs.length
    · obtain ⟨_, _, e, _, _, hcell⟩ := HV.out.no HK.out
      cases e
      obtain ⟨b, o, rfl, _, hc'⟩ := hcell k hlt
      clear hcell
      have hsnoc : (xs.take (k + 1)).erase n = if xs[k] = n ∧ n ∉ xs.take k then (xs.take k).erase n else (xs.take k).erase n ++ [xs[k]] := by
        rw [List.take_succ_eq_append_getElem hlt, erase_snoc]
      have hmem : decide (n ∈ xs.take (k + 1)) = (decide (n ∈ xs.take k) || (xs[k] == n)) := by
        rw [List.take_succ_eq_append_getElem hlt, Bool.eq_iff_iff]
        simp only [List.mem_append, List.mem_singleton, decide_eq_true_eq, Bool.or_eq_true, beq_iff_eq]
        exact or_congr Iff.rfl eq_comm
      have hlen : ((xs.take k).erase n).length ≤ 1000 := Nat.le_trans List.erase_sublist.length_le (by rw [List.length_take]; omega)
      by_cases h1 : xs[k] = n ∧ n ∉ xs.take k
      · rw [if_pos h1] at hsnoc
        have hg : decide (n ∈ xs.take k) = false := by simpa using h1.2
        have he : (xs[k] == n) = true := by simpa using h1.1
        rw [hg, he] at hmem
        rw [hg]
        have HS := hide hsnoc
        have HM := hide hmem
        clear hsnoc hmem hg h1 hlen
        go_wp2
        go_roundw
        case rel => exact ⟨k + 1, hlt, by go_num, by rw [HM.out]; rfl, by rw [HS.out]; exact HO.out, HK.out⟩
        case measure => simp [intOf]; omega
      · rw [if_neg h1] at hsnoc
        have hg : ((xs[k] == n) && !decide (n ∈ xs.take k)) = false := by
          cases e : (xs[k] == n) with
          | false => rfl
          | true =>
            have : n ∈ xs.take k := Classical.byContradiction fun h => h1 ⟨by simpa using e, h⟩
            simp [this]
        have hm2 : decide (n ∈ xs.take (k + 1)) = decide (n ∈ xs.take k) := by
          rw [hmem]
          cases e : (xs[k] == n) with
          | false => simp
          | true => rw [e] at hg; cases e' : decide (n ∈ xs.take k) <;> simp_all
        have HS := hide hsnoc
        have HM := hide hm2
        clear hsnoc hmem h1 hm2
        cases e : (xs[k] == n) with
        | false =>
          go_wp2_with (at_builtin; refine wpList_push _ rfl (.tmp 24) (.tmp 29) _ rfl w.heap.size 3 _ 8 Tryd.underlying23 Tryd.infoInt rfl u5 ((xs.take k).erase n).length (iv ((xs.take k).erase n)) rfl HO.out _ rfl 1 _ rfl (by simp) (by omega) (by omega) hsz ?_; intro g' c' w1 ho' hgr hat; have HO1 := hide ho'; have HG := hide hgr; clear ho' hgr hat)
          go_roundw
          case rel =>
            exact ⟨k + 1, hlt, by go_num, by rw [HM.out], by rw [HS.out, iv_snoc, List.length_append]; exact HO1.out, (HK.out.alloc _).grown HG.out fun b h hb => by have := (own_lt HO.out h).1; omega⟩
          case measure => simp [intOf]; omega
        | true =>
          have hd : decide (n ∈ xs.take k) = true := by rw [e] at hg; simpa using hg
          rw [hd] at HM ⊢
          clear hg hd
          go_wp2_with (at_builtin; refine wpList_push _ rfl (.tmp 24) (.tmp 29) _ rfl w.heap.size 3 _ 8 Tryd.underlying23 Tryd.infoInt rfl u5 ((xs.take k).erase n).length (iv ((xs.take k).erase n)) rfl HO.out _ rfl 1 _ rfl (by simp) (by omega) (by omega) hsz ?_; intro g' c' w1 ho' hgr hat; have HO1 := hide ho'; have HG := hide hgr; clear ho' hgr hat)
          go_roundw
          case rel =>
            exact ⟨k + 1, hlt, by go_num, by rw [HM.out], by rw [HS.out, iv_snoc, List.length_append]; exact HO1.out, (HK.out.alloc _).grown HG.out fun b h hb => by have := (own_lt HO.out h).1; omega⟩
          case measure => simp [intOf]; omega
    · obtain rfl : k = xs.length := by omega
      rw [List.take_length] at HO
      go_wp2
      go_ret
      exact FreshInts.of_own HO.out HK.out
end Go.Proofs.YtgbdjidjbcbhjaaDoor
