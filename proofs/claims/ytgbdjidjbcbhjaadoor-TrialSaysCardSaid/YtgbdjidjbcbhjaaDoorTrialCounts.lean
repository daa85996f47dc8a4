/- trial.Counts, walked: how often each node is pointed to; or what is wrong. -/
import Derived.Test.YtgbdjidjbcbhjaaDoorTrialPlain
import Derived.Test.YtgbdjidjbcbhjaaDoorOwn
import Derived.Test.YtgbdjidjbcbhjaaDoorPush
import Derived.Test.YtgbdjidjbcbhjaaDoorCheney
import Derived.Deep.OwnRows
import Derived.Laws.OwnMore
import Derived.Outline
namespace Go.Proofs.YtgbdjidjbcbhjaaDoor
open Go.RowKit

theorem flat_len {n : Nat} {ls : List (List Int)} (h : ∀ l ∈ ls, l.length ≤ n) : ls.flatten.length ≤ n * ls.length := by
  induction ls with
  | nil => simp
  | cons a r ih =>
    have h1 := ih fun l hl => h l (by simp [hl])
    have h2 := h a (by simp)
    rw [List.flatten_cons, List.length_append, List.length_cons, Nat.mul_add]
    omega
theorem dif_bd {n : Nat} (xs ys : List Int) {i : Nat} (h : i < n) : -(ys.length : Int) ≤ (dif n xs ys)[i]'(by rw [dif_length]; exact h) ∧ (dif n xs ys)[i]'(by rw [dif_length]; exact h) ≤ xs.length := by
  rw [dif_at _ _ h]
  have h1 : xs.count (i : Int) ≤ xs.length := List.count_le_length
  have h2 : ys.count (i : Int) ≤ ys.length := List.count_le_length
  omega

/-- a fresh row of counts -/
def CountsPost (w : World) (outs : List (List Int)) (roots : List Int) (e : Ending) (w' : World) : Prop :=
  ∃ v, e = .returned (.tuple #[v, .nilIface]) ∧ w'.ownsRow w.heap.size 3 1 v outs.length (iv (dif outs.length (roots ++ outs.flatten) [])) ∧ Kp No w w'

set_option maxRecDepth 100000 in
set_option maxHeartbeats 2000000 in
theorem counts_ok {F : Nat → Prop} (vo vr : Value) (outs : List (List Int)) (roots : List Int) (w : World) (ho : RowsIn w F vo outs) (hr : IntsIn w F vr roots) (hok : Ok outs roots) :
    Calls Tryd.prog 21 #[.agg #[vo, vr]] w (CountsPost w outs roots) := by
  have HO := hide ho
  have HR := hide hr
  have HOK := hide hok
  have HE := hide (chk_of_ok hok)
  have HL := hide hok.n12
  clear ho hr hok
  have hmk := run_make_row' (P := Tryd.prog) 23 3 (.int .i64 0) 8 Tryd.underlying23 Tryd.infoInt rfl .i64 .i64 outs.length (by have := HL.out; omega) (by have := HL.out; omega)
  go_enter Tryd.func21, Tryd.ntmps21
  go_wp2_with fail
  refine Calls.mono (check_any vo vr outs roots _ (HO.out.no ((Kp.refl No _).alloc _)) (HR.out.no ((Kp.refl No _).alloc _))) ?_
  rw [HE.out]
  rintro e w1 ⟨rfl, hk1⟩
  have hb1 := (Blk.new w 25 #[vo, vr]).kp hk1 id
  have HK1 := hide (((Kp.refl No w).alloc (.cells #[vo, vr] 25)).trans' hk1 fun _ _ h => h)
  obtain ⟨a1, a2, a3, a4, a5⟩ := hb1.a2
  have HB1 := hide hb1
  clear hk1 hb1
  unfold errV
  obtain ⟨vs, hcs, hvl, hvi⟩ := id HO.out
  obtain ⟨Ao, co, rfl, hco, hmo, _⟩ := id hcs
  rw [hvl] at a1 hco
  obtain ⟨Ar, cr, rfl, hcr, hmr, _⟩ := id HR.out
  have HCS := hide hcs
  have HVL := hide hvl
  have HVI := hide hvi
  rw [hvl] at HO HCS
  clear hcs hvl hvi
  have hone : ∀ u ∈ vs, u.oneCell' = true := by
    intro u hu
    obtain ⟨i, hi, rfl⟩ := List.getElem_of_mem hu
    obtain ⟨_, _, e, _⟩ := HVI.out i hi (by have := HVL.out; omega)
    rw [e]; rfl
  have HONE := hide hone
  have HKA := hide (((HK1.out.alloc (.cells (madeCells #[.int .i64 0] outs.length) 3)).alloc (.cells #[.slice Ar roots.length cr] 23)))
  clear hone
  have hA1 := hide (show 1 + vs.length ≤ 1073741824 by have := HVL.out; have := HL.out; omega)
  have how := (own_new (w1.alloc (.cells (madeCells #[.int .i64 0] outs.length) 3)) [.slice Ar roots.length cr] #[.slice Ar roots.length cr] 23 w1.heap.size (by simp) (by simp only [List.length_cons, List.length_nil]; omega) rfl)
  rw [World.size_alloc] at how
  have HOW := hide how
  clear how
  have HCA := hide (HCS.out.no HKA.out)
  go_wp2_with (at_builtin; refine wpList_add (F := F) _ rfl (.tmp 21) (.tmp 23) _ rfl w1.heap.size 23 _ 24 Tryd.underlying22 Tryd.infoRow rfl _ 1 [.slice Ar roots.length cr] rfl HOW.out _ rfl vs HCA.out HONE.out hA1.out (by decide) ?_ ?_)
  · simp; omega
  · intro v' w3 ho3 hgr3 _
    obtain ⟨hvn, A3, c3, rfl, _⟩ := own_form ho3
    have hl3 : (Value.slice Ar roots.length cr :: vs).length = outs.length + 1 := by rw [List.length_cons, HVL.out]
    rw [hl3] at ho3 hvn ⊢
    rw [hvn] at ho3
    have hk3 : Kp No w1 w3 := ((((Kp.refl No w1).alloc _).alloc _).grown hgr3 fun j e _ => by simp [Value.ownBlock] at e; omega)
    have hcn : w3.ownsRow w1.heap.size 3 1 (.slice (some ⟨w1.heap.size, 0, none⟩) outs.length outs.length) outs.length (iv (dif outs.length [] [])) := by
      have h0 := own_made w1 outs.length w1.heap.size (Nat.le_refl _) (by have := HL.out; omega)
      rw [← dif_zero] at h0
      exact (h0.alloc _).kept hgr3 (.inr (by simp [Value.ownBlock]))
    -- the lists, one behind the other
    obtain ⟨vals, hvals⟩ : ∃ vals, Value.slice Ar roots.length cr :: vs = vals := ⟨_, rfl⟩
    have hV : ∀ k (h : k < vals.length) (h' : k < (roots :: outs).length), IntsIn w (Lo w.heap.size) vals[k] (roots :: outs)[k] := by
      subst hvals
      intro k h h'
      cases k with
      | zero => exact HR.out.mono fun k h _ => h
      | succ k => exact (HVI.out k (by simpa using h) (by simpa using h')).mono fun k h _ => h
    have hLin : ∀ l ∈ roots :: outs, l.length ≤ 12 ∧ ∀ x ∈ l, 0 ≤ x ∧ x < outs.length := by
      intro l hl
      rcases List.mem_cons.1 hl with rfl | hl
      · exact ⟨HOK.out.r12, HOK.out.root⟩
      · exact ⟨by have := HOK.out.few l hl; omega, HOK.out.out l hl⟩
    rw [hvals] at ho3 hl3
    clear hvals HVI HONE HCS HCA HKA HOW hmk
    obtain ⟨L, hL⟩ : ∃ L, roots :: outs = L := ⟨_, rfl⟩
    have hLl : L.length = outs.length + 1 := by rw [← hL]; simp
    have HLF := hide (show L.flatten = roots ++ outs.flatten by rw [← hL]; simp)
    rw [hL] at hV hLin
    clear hL
    have HV := hide hV
    have HLI := hide hLin
    have HLL := hide hLl
    have HVN := hide hl3
    have HO3 := hide ho3
    have HK3 := hide hk3
    have HCN := hide hcn
    clear ho3 hgr3 hl3 hvn hV hLin hLl hk3 hcn a1 a2 a3 a4
    go_wp2_with fail
    go_loopw [26] (fun p wr => ∃ k : Nat, p = .int .i64 k ∧ k ≤ outs.length + 1 ∧ wr.ownsRow w1.heap.size 3 1 (.slice (some ⟨w1.heap.size, 0, none⟩) outs.length outs.length) outs.length (iv (dif outs.length (L.take k).flatten [])) ∧ Kp (At w1.heap.size) w3 wr)
      (fun p _ => outs.length + 1 - (intOf p).toNat)
    case atStart => exact ⟨0, rfl, Nat.zero_le _, HCN.out, Kp.refl _ _⟩
    case round =>
      obtain ⟨k, rfl, hk, hc, hkp⟩ := hrel
      have HC := hide hc
      have HKP := hide hkp
      clear hc hkp
      by_cases hlt : k < outs.length + 1
      · have hne3 : ∀ b, (Value.slice A3 (outs.length + 1) c3).ownBlock = some b → ¬ At w1.heap.size b := by
          rintro b hb rfl
          exact own_ne_own HO3.out HCN.out (by decide) hb rfl
        obtain ⟨_, _, _, e, _, _, hcell⟩ := own_form (own_kp HO3.out HKP.out hne3)
        injection e with e1 _ e3
        subst e1 e3
        obtain ⟨g, rfl, hck⟩ := hcell k (by rw [HVN.out]; exact hlt)
        clear hcell hne3
        have hri := (((HV.out k (by rw [HVN.out]; exact hlt) (by rw [HLL.out]; exact hlt)).no (HK1.out.trans HK3.out)).kp HKP.out fun b hb e => by unfold At at e; unfold Lo at hb; omega)
        obtain ⟨A', c', hv', hla, hma, _⟩ := id hri
        rw [hv'] at hri hck
        have HRI := hide hri
        clear hri hv'
        have HLK := hide (HLI.out _ (List.getElem_mem (show k < L.length by rw [HLL.out]; exact hlt)))
        go_wp2_with fail
        obtain ⟨wo, rfl⟩ : ∃ wo : World, wo = wr := ⟨_, rfl⟩
        go_loopw [32] (fun p wq => ∃ j : Nat, p = .int .i64 j ∧ j ≤ (L[k]'(by rw [HLL.out]; exact hlt)).length ∧ wq.ownsRow w1.heap.size 3 1 (.slice (some ⟨w1.heap.size, 0, none⟩) outs.length outs.length) outs.length (iv (dif outs.length ((L.take k).flatten ++ (L[k]'(by rw [HLL.out]; exact hlt)).take j) [])) ∧ Kp (At w1.heap.size) wo wq)
          (fun p _ => (L[k]'(by rw [HLL.out]; exact hlt)).length - (intOf p).toNat)
        case atStart => exact ⟨0, rfl, Nat.zero_le _, by rw [List.take_zero, List.append_nil]; exact HC.out, Kp.refl _ _⟩
        case round =>
          obtain ⟨j, rfl, hj, hc, hkq⟩ := hrel
          have HCQ := hide hc
          have HKQ := hide hkq
          clear hc hkq
          by_cases hjl : j < (L[k]'(by rw [HLL.out]; exact hlt)).length
          · obtain ⟨_, _, e, _, _, hcell⟩ := HRI.out.kp HKQ.out fun b hb e => by unfold At at e; unfold Lo at hb; omega
            cases e
            obtain ⟨b, o, rfl, _, hcx⟩ := hcell j hjl
            clear hcell
            have hx := HLK.out.2 _ (List.getElem_mem hjl)
            obtain ⟨x, hxe⟩ : ∃ x : Nat, (x : Int) = (L[k]'(by rw [HLL.out]; exact hlt))[j] := ⟨_, Int.toNat_of_nonneg hx.1⟩
            have hxl : x < outs.length := by omega
            have HS := hide (dif_add ((L.take k).flatten ++ (L[k]'(by rw [HLL.out]; exact hlt)).take j) [] hx.1 hx.2)
            have HT := hide (show (L.take k).flatten ++ (L[k]'(by rw [HLL.out]; exact hlt)).take (j + 1) = ((L.take k).flatten ++ (L[k]'(by rw [HLL.out]; exact hlt)).take j) ++ [(L[k]'(by rw [HLL.out]; exact hlt))[j]] by rw [List.take_succ_eq_append_getElem hjl, List.append_assoc])
            have hbd := dif_bd ((L.take k).flatten ++ (L[k]'(by rw [HLL.out]; exact hlt)).take j) [] hxl
            have hlen : ((L.take k).flatten ++ (L[k]'(by rw [HLL.out]; exact hlt)).take j).length ≤ 1000 := by
              rw [List.length_append, List.length_take]
              have h1 := flat_len (n := 12) (ls := L.take k) fun l hl => (HLI.out l (List.mem_of_mem_take hl)).1
              have h2 := HLK.out.1
              have h3 : (L.take k).length ≤ 13 := by rw [List.length_take]; have := HL.out; omega
              have h4 : 12 * (L.take k).length ≤ 12 * 13 := Nat.mul_le_mul_left _ h3
              omega
            rw [← hxe] at hcx HT
            simp only [← hxe, Int.toNat_natCast] at HS
            obtain ⟨g2, c2, e, _, _, hcl, hfr, _, hg2, hset⟩ := own_int HCQ.out (k := x) (by rw [dif_length]; exact hxl)
            injection e with e1 e2 e3
            clear e2 e3
            injection e1 with e1
            injection e1 with e1
            subst e1
            obtain ⟨d, hd⟩ : ∃ d, d = (dif outs.length ((L.take k).flatten ++ (L[k]'(by rw [HLL.out]; exact hlt)).take j) [])[x]'(by rw [dif_length]; exact hxl) := ⟨_, rfl⟩
            rw [← hd] at hcl hbd HS
            have hb0 : 0 ≤ d := by simpa using hbd.1
            have hb1 : d ≤ 1000 := by omega
            have hset := hset (d + 1)
            rw [← HS.out, ← HT.out] at hset
            have HSET := hide hset
            clear hset hbd hlen hxe hd hx HS HT
            go_wp2
            go_roundw
            case rel => exact ⟨j + 1, by go_num, hjl, HSET.out, HKQ.out.setCell (p := ⟨w1.heap.size, x, none⟩) (fun _ => rfl) _⟩
            case measure => simp [intOf]; omega
          · obtain rfl : j = (L[k]'(by rw [HLL.out]; exact hlt)).length := by omega
            rw [List.take_length] at HCQ
            have HT := hide (show (L.take (k + 1)).flatten = (L.take k).flatten ++ L[k]'(by rw [HLL.out]; exact hlt) by rw [List.take_succ_eq_append_getElem (by rw [HLL.out]; exact hlt), List.flatten_append]; simp)
            rw [← HT.out] at HCQ
            go_wp2
            go_roundw
            case rel => exact ⟨k + 1, by go_num, hlt, HCQ.out, HKP.out.trans HKQ.out⟩
            case measure => simp [intOf]; omega
      · obtain rfl : k = outs.length + 1 := by omega
        have HT := hide (show L.take (outs.length + 1) = L by rw [← HLL.out, List.take_length])
        rw [HT.out, HLF.out] at HC
        go_wp2
        refine bodyPost_ret (v := .tuple #[.slice (some ⟨w1.heap.size, 0, none⟩) outs.length outs.length, .nilIface]) (by simp [results, Tryd.results21, go_sem]) rfl ⟨_, rfl, own_base HC.out (fun b hb => by simp [Value.ownBlock] at hb; omega), ?_⟩
        exact (HK1.out.trans HK3.out).trans' HKP.out fun b hb e => by unfold At at e; have := HK1.out.size; omega
end Go.Proofs.YtgbdjidjbcbhjaaDoor
