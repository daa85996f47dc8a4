/- The document's answer, walked: Rising. -/
import Derived.Test.YtgbdjidjbcbhjaaDoorRisePlain
import Derived.Test.YtgbdjidjbcbhjaaDoorWithout
import Derived.Test.YtgbdjidjbcbhjaaDoorOwn
namespace Go.Proofs.YtgbdjidjbcbhjaaDoor
open Go.RowKit
set_option linter.unusedSimpArgs false

/-- how long a slice is -/
def lenV : Value → Nat
  | .slice _ n _ => n
  | _ => 0

set_option maxRecDepth 100000 in
set_option maxHeartbeats 4000000 in
theorem rising_any {F : Nat → Prop} (v : Value) (xs : List Int) (w : World) (hv : IntsIn w F v xs) (hl : xs.length ≤ 1000) :
    Calls Tryd.prog 45 #[v] w (FreshInts w (risN xs)) := by
  have HV := hide (hv.mono (F' := fun b => b < w.heap.size ∧ True) fun b h _ => ⟨h, trivial⟩)
  obtain ⟨A, c, rfl, hc, hm, _⟩ := id hv
  clear hv
  go_enter Tryd.func45, Tryd.ntmps45
  go_wp2_with fail
  go_loopw [0, 3] (fun lv ov wr => ∃ (l o : List Int) (A : Option Addr) (c : Nat), lv = .slice A l.length c ∧ l.length ≤ 1000 ∧ Hid (o ++ risN l = risN xs) ∧ o.length + l.length = xs.length ∧ Hid (IntsIn wr (fun b => ov.ownBlock ≠ some b) (.slice A l.length c) l) ∧ Hid (wr.ownsRow w.heap.size 3 1 ov o.length (iv o)) ∧ Hid (Kp No w wr)) (fun lv _ _ => lenV lv)
  case atStart => exact ⟨xs, [], A, c, rfl, hl, rfl, by simp, HV.out.mono fun b _ _ => by simp [Value.ownBlock], World.ownsRow_nil _ _ _ _, Kp.refl _ _⟩
  case round =>
    obtain ⟨l, o, A, c, rfl, hl', he, hlen, hi, hown, hkp⟩ := hrel
    have hws := hkp.out.size
    have HI := hide hi.out
    obtain ⟨_, Av, cv, hvv, hcv, hmv, _⟩ := own_form hown.out
    rw [iv_length] at hvv hcv
    subst hvv
    rcases l with _ | ⟨x, r⟩
    · go_wp2_with fail
      go_ret
      have e := he.out
      rw [risN_nil, List.append_nil] at e
      rw [← e]
      exact FreshInts.of_own hown.out hkp.out
    · obtain ⟨L, hL⟩ : ∃ L, x :: r = L := ⟨_, rfl⟩
      have HX := hide (show ∃ h : 0 < L.length, L[0] = x by subst hL; exact ⟨by simp, rfl⟩)
      have HR := hide (show o ++ [lst x L] ++ risN (L.erase (lst x L)) = risN xs by rw [← he.out, ← hL, risN_cons]; simp)
      have HM := hide (show (L.erase (lst x L)).length + 1 = L.length by rw [← hL, List.length_erase_of_mem (lst_mem x r)]; simp)
      rw [hL] at hl' hlen HI ⊢
      have hi0 := hi
      rw [hL] at hi0
      clear he hi hL
      obtain ⟨hL0, hLx⟩ := HX.out
      obtain ⟨_, _, e, hc1, hm1, hcell⟩ := HI.out
      cases e
      obtain ⟨b, ob, rfl, _, hcx⟩ := hcell 0 hL0
      rw [hLx] at hcx
      clear hcell hLx
      have hcx' : wr.cell? ⟨b, ob, none⟩ = some (.int .i64 x) := by simpa using hcx
      clear hcx
      go_wp2_with fail
      go_loopw [4, 5] (fun t q wq => ∃ k : Nat, t = .int .i64 (lst x (L.take k)) ∧ q = .int .i64 k ∧ k ≤ L.length ∧ wq = wr) (fun _ q _ => L.length - (intOf q).toNat)
      case atStart => exact ⟨0, rfl, rfl, Nat.zero_le _, rfl⟩
      case round =>
        obtain ⟨k, rfl, rfl, hk, rfl⟩ := hrel
        by_cases hlt : k < L.length
        · obtain ⟨_, _, e, _, _, hcell⟩ := HI.out
          cases e
          obtain ⟨b2, o2, e2, _, hcy⟩ := hcell k hlt
          cases e2
          have HT := hide (show lst x (L.take (k + 1)) = if L[k] < lst x (L.take k) then L[k] else lst x (L.take k) by rw [List.take_succ_eq_append_getElem hlt, lst_snoc])
          obtain ⟨y, hy⟩ : ∃ y, L[k] = y := ⟨_, rfl⟩
          obtain ⟨m, hm⟩ : ∃ m, lst x (L.take k) = m := ⟨_, rfl⟩
          rw [hy, hm] at HT
          rw [hy] at hcy
          rw [hm]
          clear hcell hy hm
          by_cases hym : y < m
          · rw [if_pos hym] at HT
            go_wp2_with fail
            go_roundw
            case rel => exact ⟨k + 1, by rw [HT.out], by go_num, hlt, trivial⟩
            case measure => (simp [intOf]; omega)
          · rw [if_neg hym] at HT
            go_wp2_with fail
            go_roundw
            case rel => exact ⟨k + 1, by rw [HT.out], by go_num, hlt, trivial⟩
            case measure => (simp [intOf]; omega)
        · obtain rfl : k = L.length := by omega
          rw [List.take_length]
          obtain ⟨m, hm⟩ : ∃ m, lst x L = m := ⟨_, rfl⟩
          rw [hm] at HR HM
          rw [hm]
          clear hm
          go_wp2_with (at_builtin; refine wpList_push _ rfl (.tmp 28) (.tmp 30) _ rfl w.heap.size 3 _ 8 Tryd.underlying23 Tryd.infoInt rfl (.slice Av o.length cv) o.length (iv o) rfl hown.out _ rfl 1 _ rfl (by simp) (by omega) (by decide) hws ?_; intro g' c' w3 ho' hgr hat; have HO1 := hide ho'; have HG := hide hgr; clear ho' hgr hat)
          have HK3 := hide (show Kp (fun b => (Value.slice Av o.length cv).ownBlock = some b) wr w3 from ((Kp.refl _ wr).alloc _).grown HG.out fun b e _ => e)
          have HKN := hide (show Kp No w w3 from hkp.out.trans' HK3.out fun b hb e => by have := (own_lt hown.out e).1; omega)
          refine Calls.mono (without_any _ L m _ (HI.out.kp HK3.out fun b hb e => hb e) hl') ?_
          rintro e w5 ⟨A5, c5, rfl, hi5, hk5⟩
          have HI5 := hide hi5
          have HK5 := hide (HKN.out.trans hk5)
          have HO5 := hide (own_kp HO1.out hk5 fun _ _ h => h)
          clear hi5 hk5 hcx'
          go_wp2_with fail
          go_roundw
          case rel =>
            refine ⟨L.erase m, o ++ [m], A5, c5, rfl, by have := HM.out; omega, HR.out, by have := HM.out; simp; omega, HI5.out.mono fun b _ hb e => ?_, by rw [iv_snoc, List.length_append, iv_length]; exact HO5.out, HK5.out⟩
            have := (own_lt HO1.out e).2
            unfold Hi at hb
            omega
          case measure => (have := HM.out; simp [lenV]; omega)
end Go.Proofs.YtgbdjidjbcbhjaaDoor
