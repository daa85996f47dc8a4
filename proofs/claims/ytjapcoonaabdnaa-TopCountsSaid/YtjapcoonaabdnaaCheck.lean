/- graph.Check: what it returns, for every heap. No condition. -/
import Derived.Test.YtjapcoonaabdnaaRead
namespace Go.Proofs.Ytjapcoonaabdnaa
open Go.RowKit

set_option maxHeartbeats 1000000

def chkRow (n : Nat) (l : List Int) : Nat := if 4 < l.length then 4 else if allB l 0 ((n : Int) - 1) = false then 1 else 0
def chkRows (n : Nat) : List (List Int) → Nat
  | [] => 0
  | l :: r => if chkRow n l = 0 then chkRows n r else chkRow n l
def chk (outs : List (List Int)) (roots : List Int) : Nat :=
  if 12 < outs.length ∨ 12 < roots.length then 4 else if allB roots 0 ((outs.length : Int) - 1) = false then 1 else chkRows outs.length outs
/-- an error by its number -/
def errV (k : Nat) : Value := if k = 0 then .nilIface else .iface 65 (.int .i64 k)

theorem chkRows_drop {n : Nat} {outs : List (List Int)} {k : Nat} (h : k < outs.length) : chkRows n (outs.drop k) = if chkRow n outs[k] = 0 then chkRows n (outs.drop (k + 1)) else chkRow n outs[k] := by
  rw [List.drop_eq_getElem_cons h]; rfl

theorem check_any {F : Nat → Prop} (vo vr : Value) (outs : List (List Int)) (roots : List Int) (w : World) (ho : RowsIn w F vo outs) (hr : IntsIn w F vr roots) :
    Calls Try.prog 21 #[.agg #[vo, vr]] w fun e w' => e = .returned (errV (chk outs roots)) ∧ Kp No w w' := by
  have hk : Kp No w (w.alloc (.cells #[vo, vr] 25)) := (Kp.refl No w).alloc _
  have hro := hide (ho.no hk)
  have hri := hide (hr.no hk)
  clear ho hr
  obtain ⟨A, c, rfl, hc, hm, hcell⟩ := RowsIn.form hro.out
  have H := hide hcell
  clear hcell
  obtain ⟨A', c', rfl, hc', hm', hcell'⟩ := id hri.out
  clear hcell'
  have HK := hide hk
  clear hk
  by_cases h1 : 12 < outs.length
  · have Hf := hide (show chk outs roots = 4 by unfold chk; rw [if_pos (.inl h1)])
    go_enter Try.func21, Try.ntmps21
    go_wp2
    go_ret
    exact ⟨by rw [Hf.out]; rfl, HK.out⟩
  by_cases h2 : 12 < roots.length
  · have Hf := hide (show chk outs roots = 4 by unfold chk; rw [if_pos (.inr h2)])
    go_enter Try.func21, Try.ntmps21
    go_wp2
    go_ret
    exact ⟨by rw [Hf.out]; rfl, HK.out⟩
  have h12 := hide (show ¬ (12 < outs.length ∨ 12 < roots.length) by omega)
  by_cases h3 : allB roots 0 ((outs.length : Int) - 1) = true
  · have Hs := hide (show chk outs roots = chkRows outs.length outs by unfold chk; rw [if_neg h12.out, if_neg (by rw [h3]; simp)])
    clear h12
    go_enter Try.func21, Try.ntmps21
    go_wp2_with (go_at_call 40; refine (all_any (F := F) _ _ _ _ _ hri.out).mono ?_; rintro e w' ⟨rfl, rfl⟩)
    go_loop [28] (fun i => ∃ k : Nat, k ≤ outs.length ∧ i = .int .i64 k ∧ Hid (chkRows outs.length outs = chkRows outs.length (outs.drop k))) (fun i => outs.length - (intOf i).toNat)
    case atStart => exact ⟨0, Nat.zero_le _, rfl, rfl⟩
    case round =>
      obtain ⟨k, hk, rfl, hb⟩ := hrel
      by_cases hlt : k < outs.length
      · obtain ⟨b, o, A2, c2, rfl, _, hcl, hin⟩ := H.out k hlt
        have hin := hide hin
        have hd := hide (chkRows_drop (n := outs.length) hlt)
        by_cases h4 : 4 < outs[k].length
        · have Hf := hide (show chk outs roots = 4 by
            have h0 : chkRow outs.length outs[k] = 4 := by unfold chkRow; rw [if_pos h4]
            rw [Hs.out, hb.out, hd.out, h0]; rfl)
          go_wp2
          go_ret
          exact ⟨by rw [Hf.out]; rfl, HK.out⟩
        · by_cases h5 : allB outs[k] 0 ((outs.length : Int) - 1) = true
          · have h0 := hide (show chkRow outs.length outs[k] = 0 by unfold chkRow; rw [if_neg h4, if_neg (by rw [h5]; simp)])
            have hnext := hide (show chkRows outs.length outs = chkRows outs.length (outs.drop (k + 1)) by rw [hb.out, hd.out, if_pos h0.out])
            go_wp2_with (go_at_call 40; refine (all_any (F := F) _ _ _ _ _ hin.out).mono ?_; rintro e w' ⟨rfl, rfl⟩)
            go_round
            case rel => exact ⟨k + 1, by omega, by go_num, hnext.out⟩
            case measure => simp [intOf]; omega
          · have h5' : allB outs[k] 0 ((outs.length : Int) - 1) = false := by simpa using h5
            have Hf := hide (show chk outs roots = 1 by
              have h0 : chkRow outs.length outs[k] = 1 := by unfold chkRow; rw [if_neg h4, if_pos h5']
              rw [Hs.out, hb.out, hd.out, h0]; rfl)
            clear h5
            go_wp2_with (go_at_call 40; refine (all_any (F := F) _ _ _ _ _ hin.out).mono ?_; rintro e w' ⟨rfl, rfl⟩)
            go_ret
            exact ⟨by rw [Hf.out]; rfl, HK.out⟩
      · have Hf := hide (show chk outs roots = 0 by rw [Hs.out, hb.out, List.drop_eq_nil_of_le (by omega)]; rfl)
        go_wp2
        go_ret
        exact ⟨by rw [Hf.out]; rfl, HK.out⟩
  · have h3' : allB roots 0 ((outs.length : Int) - 1) = false := by simpa using h3
    have Hs := hide (show chk outs roots = 1 by unfold chk; rw [if_neg h12.out, if_pos h3'])
    clear h12 h3
    go_enter Try.func21, Try.ntmps21
    go_wp2_with (go_at_call 40; refine (all_any (F := F) _ _ _ _ _ hri.out).mono ?_; rintro e w' ⟨rfl, rfl⟩)
    go_ret
    exact ⟨by rw [Hs.out]; rfl, HK.out⟩

end Go.Proofs.Ytjapcoonaabdnaa
