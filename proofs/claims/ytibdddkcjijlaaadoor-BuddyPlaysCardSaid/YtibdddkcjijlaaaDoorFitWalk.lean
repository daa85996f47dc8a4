/- fit: New, Lend, Back, Pack, walked. -/
import Derived.Test.YtibdddkcjijlaaaDoorFitMem
import Derived.Test.YtibdddkcjijlaaaDoorPush
namespace Go.Proofs.YtibdddkcjijlaaaDoor
open Go.RowKit
set_option linter.unusedSimpArgs false

theorem fnew_any (w : World) : Calls Tryd.prog 5 #[] w fun e w' => e = .returned (.pointer (some ⟨w.heap.size, 0, none⟩)) ∧ FitIs w' w.heap.size (Hi w.heap.size) [] ∧ Kp No w w' := by
  go_enter Tryd.func5, Tryd.ntmps5
  go_wp2
  go_ret
  refine ⟨rfl, ⟨Nat.le_refl _, _, ⟨Blk.new _ _ _, World.ownsRow_nil _ _ _ _⟩, fun b hb => by simp [Value.ownBlock] at hb⟩, (Kp.refl _ _).alloc _⟩

/-- which block begins there -/
def ixB (bs : List (Nat × Nat)) (x : Int) : Int := match bs.findIdx? fun b => decide ((b.1 : Int) = x) with
  | some i => (i : Int)
  | none => -1
theorem ixB_at {bs : List (Nat × Nat)} {x : Int} {k : Nat} (hk : k < bs.length) (hx : ((bs[k]).1 : Int) = x) (hb : ∀ j (hj : j < k), ¬ ((bs[j]'(by omega)).1 : Int) = x) : ixB bs x = k := by
  unfold ixB
  rw [(List.findIdx?_eq_some_iff_getElem).2 ⟨hk, by simpa using hx, fun j hj => by simpa using hb j hj⟩]
theorem ixB_none {bs : List (Nat × Nat)} {x : Int} (hb : ∀ j (hj : j < bs.length), ¬ ((bs[j]).1 : Int) = x) : ixB bs x = -1 := by
  unfold ixB
  rw [List.findIdx?_eq_none_iff.2 fun b hm => by
    obtain ⟨j, hj, rfl⟩ := List.getElem_of_mem hm
    simpa using hb j hj]

theorem isB_any (a s x : Int) (g : Nat) (w : World) (hg : w.cell? ⟨g, 0, none⟩ = some (.int .i64 x)) :
    Calls Tryd.prog 32 #[.agg #[.int .i64 a, .int .i64 s], .pointer (some ⟨g, 0, none⟩)] w fun e w' => e = .returned (.bool (decide (a = x))) ∧ Kp No w w' := by
  have hlt := World.block_lt_of_cell? w _ hg
  have hg2 : (w.alloc (.cells #[.int .i64 a, .int .i64 s] 56)).cell? ⟨g, 0, none⟩ = some (.int .i64 x) := by rw [World.cell?_alloc_lt _ _ _ hlt]; exact hg
  go_enter Tryd.func32, Tryd.ntmps32
  go_wp2
  go_ret
  exact ⟨ret_bool (by simp [Bool.beq_eq_decide_eq]), (Kp.refl _ _).alloc _⟩

set_option maxHeartbeats 4000000 in
theorem findB_any {p base : Nat} (v : Value) (bs : List (Nat × Nat)) (x : Int) (g : Nat) (w : World) (h : FitAt w p base v bs) (hg : w.cell? ⟨g, 0, none⟩ = some (.int .i64 x)) :
    Calls Tryd.prog 31 #[v, .func (.func 32) #[] #[.pointer (some ⟨g, 0, none⟩)]] w fun e w' => e = .returned (.int .i64 (ixB bs x)) ∧ Kp No w w' := by
  obtain ⟨A, c, rfl, hc, hm, _, hcell⟩ := h.form
  have H := hide (show ∀ W, Kp No w W → ∀ k (hk : k < bs.length), ∃ b, A = some ⟨b, 0, none⟩ ∧ W.cell? ⟨b, k * 2, none⟩ = some (.int .i64 (bs[k]).1) ∧ W.cell? ⟨b, k * 2 + 1, none⟩ = some (.int .i64 (bs[k]).2) from fun W hk k hlt => by
    obtain ⟨b, e, c1, c2, _⟩ := hcell k hlt
    exact ⟨b, e, hk.cell c1 (fun h => h), hk.cell c2 (fun h => h)⟩)
  have HG := hide hg
  clear hcell h hg
  go_enter Tryd.func31, Tryd.ntmps31
  go_wp2
  go_loopw [5, 8] (fun _ i wr => ∃ k : Nat, k ≤ bs.length ∧ i = .int .i64 k ∧ Kp No w wr ∧ Hid (∀ j (_ : j < k) (hj : j < bs.length), ¬ ((bs[j]).1 : Int) = x)) (fun _ i _ => bs.length - (intOf i).toNat)
  case atStart => exact ⟨0, Nat.zero_le _, rfl, Kp.refl _ _, fun j h => absurd h (by omega)⟩
  case round =>
    obtain ⟨k, hk, rfl, hkp, hb⟩ := hrel
    have HK := hide hkp
    clear hkp
    by_cases hlt : k < bs.length
    · obtain ⟨b, rfl, c1, c2⟩ := H.out _ HK.out k hlt
      have HX := hide (isB_any (bs[k]).1 (bs[k]).2 x g wr (HK.out.cell HG.out (fun h => h)))
      by_cases hx : ((bs[k]).1 : Int) = x
      · have HF := hide (ixB_at hlt hx fun j hj => hb.out j hj (by omega))
        have hd : decide (((bs[k]).1 : Int) = x) = true := by simpa using hx
        rw [hd] at HX
        clear hx hd
        go_wp2_with fail
        refine Calls.mono HX.out ?_
        rintro e w1 ⟨rfl, hk1⟩
        have HK1 := hide (HK.out.trans hk1)
        clear hk1
        go_wp2
        go_ret
        exact ⟨ret_int HF.out.symm, HK1.out⟩
      · have hd : decide (((bs[k]).1 : Int) = x) = false := by simpa using hx
        have HN := hide hx
        rw [hd] at HX
        clear hx hd
        go_wp2_with fail
        refine Calls.mono HX.out ?_
        rintro e w1 ⟨rfl, hk1⟩
        have HK1 := hide (HK.out.trans hk1)
        clear hk1
        go_wp2
        go_roundw
        case rel =>
          refine ⟨k + 1, by omega, by go_num, HK1.out, ?_⟩
          intro j h hj
          rcases Nat.lt_or_ge j k with h' | h'
          · exact hb.out j h' hj
          · obtain rfl : j = k := by omega
            exact HN.out
        case measure => simp [intOf]; omega
    · have HF := hide (ixB_none fun j hj => hb.out j (by omega) hj)
      go_wp2
      go_ret
      exact ⟨ret_int HF.out.symm, HK.out⟩

/-- what Back tells; what it leaves -/
def backE (bs : List (Nat × Nat)) (x : Int) : Nat := if ixB bs x < 0 then 5 else 0
def backB (bs : List (Nat × Nat)) (x : Int) : List (Nat × Nat) := if ixB bs x < 0 then bs else bs.eraseIdx (ixB bs x).toNat
theorem ixB_lt (bs : List (Nat × Nat)) (x : Int) : ixB bs x < 0 ∨ ∃ k : Nat, k < bs.length ∧ ixB bs x = k := by
  unfold ixB
  cases e : bs.findIdx? fun b => decide ((b.1 : Int) = x) with
  | none => exact .inl (by decide)
  | some i => exact .inr ⟨i, (List.findIdx?_eq_some_iff_getElem.1 e).1, rfl⟩

set_option maxRecDepth 100000 in
set_option maxHeartbeats 4000000 in
theorem fback_any {p : Nat} {S : Nat → Prop} {bs : List (Nat × Nat)} (x : Int) (w : World) (hF : FitIs w p S bs) (hl : bs.length ≤ 64) :
    Calls Tryd.prog 13 #[.pointer (some ⟨p, 0, none⟩), .int .i64 x] w fun e w' => e = .returned (errV (backE bs x)) ∧ FitIs w' p S (backB bs x) ∧ Kp S w w' := by
  have HF := hide hF
  obtain ⟨hp, v, h, hS⟩ := hF
  have hb0 := h.blk
  have k1 : Kp No w (w.alloc (.cells #[.int .i64 x] 3)) := (Kp.refl _ w).alloc _
  have h1 : FitAt (w.alloc (.cells #[.int .i64 x] 3)) p 0 v bs := ⟨h.blk.alloc _, h.own.alloc _⟩
  have HB := hide (findB_any v bs x w.heap.size _ h1 ((Blk.new w 3 #[.int .i64 x]).cell 0))
  obtain ⟨b1, f1, z1⟩ := h1.blk.a1
  have H1 := hide h1
  rcases ixB_lt bs x with hx | ⟨k, hk, hx⟩
  · have HR := hide (show backE bs x = 5 ∧ backB bs x = bs by unfold backE backB; rw [if_pos hx, if_pos hx]; exact ⟨rfl, rfl⟩)
    clear h h1 hS hp hb0 k1
    go_enter Tryd.func13, Tryd.ntmps13
    go_wp2_with fail
    refine Calls.mono HB.out ?_
    rintro e w1 ⟨rfl, hk1⟩
    have HK1 := hide (((Kp.refl No w).alloc (.cells #[.int .i64 x] 3)).trans hk1)
    clear hk1
    go_wp2
    go_ret
    exact ⟨by rw [HR.out.1]; rfl, by rw [HR.out.2]; exact HF.out.no HK1.out, HK1.out.of_no⟩
  · have hn : ¬ ixB bs x < 0 := by omega
    have HR := hide (show backE bs x = 0 ∧ backB bs x = bs.eraseIdx k by unfold backE backB; rw [if_neg hn, if_neg hn, hx]; exact ⟨rfl, rfl⟩)
    obtain ⟨m, hm⟩ : ∃ m, bs.length = m + 1 := ⟨bs.length - 1, by omega⟩
    obtain ⟨A, c, hv, hc, hmx, hA, _⟩ := h1.form
    obtain ⟨g, hAg, hvg⟩ := hA (by omega)
    subst hAg
    subst hv
    have HM := hide hm
    have HS := hide hS
    have HP := hide hp
    rw [hx] at HB
    have hk65 : k < 64 := by omega
    rw [hm] at b1
    clear h h1 hS hp hb0 k1 hm hn hx hA hvg hc
    go_enter Tryd.func13, Tryd.ntmps13
    go_wp2_with fail
    rw [← HM.out]
    refine Calls.mono HB.out ?_
    rw [HM.out]
    rintro e w1 ⟨rfl, hk1⟩
    have h2 : FitAt w1 p 0 (.slice (some ⟨g, 0, none⟩) bs.length c) bs := ⟨H1.out.blk.kp hk1 id, own_kp H1.out.own hk1 fun _ _ h => h⟩
    have HK1 := hide (((Kp.refl No w).alloc (.cells #[.int .i64 x] 3)).trans hk1)
    have H2 := hide h2
    have h2' := h2.own
    rw [HM.out] at h2'
    have HD := hide (delBlk_any (i := k) w1 h2' (by have := HM.out; omega) (by have := HM.out; omega) (bkv_one bs))
    obtain ⟨b2, f2, z2⟩ := h2.blk.a1
    rw [HM.out] at b2
    clear hk1 h2 h2' b1 f1 z1
    go_wp2_with fail
    refine Calls.mono HD.out ?_
    rintro e w2 ⟨rfl, ho, hk2⟩
    have hlen : (bs.eraseIdx k).length = m := by rw [List.length_eraseIdx_of_lt (by omega)]; have := HM.out; omega
    rw [bkv_del] at ho
    have hkv : Kp (fun b => (Value.slice (some ⟨g, 0, none⟩) bs.length c).ownBlock = some b) w1 w2 := hk2.mono fun b _ e => by unfold At at e; rw [e]; rfl
    have HA := hide (H2.out.put (v' := .slice (some ⟨g, 0, none⟩) m c) (bs' := bs.eraseIdx k) hkv (by rw [hlen]; exact ho))
    obtain ⟨b3, f3, z3⟩ := (H2.out.blk.kp hkv H2.out.ne).a1
    have HK2 := hide hk2
    clear hk2 ho hkv b2 f2 z2 hlen
    go_wp2
    go_ret
    refine ⟨by rw [HR.out.1]; rfl, ?_, ?_⟩
    · rw [HR.out.2]
      exact ⟨HP.out, _, HA.out, fun b hb => HS.out b hb⟩
    · exact (HK1.out.of_no.trans' HK2.out fun b _ e => by unfold At at e; subst e; exact HS.out b rfl).trans' (kp_put _ _ _ _) fun b _ e => by unfold At at e; subst e; exact HP.out
end Go.Proofs.YtibdddkcjijlaaaDoor
