/- The law BuddyFull, walked: of all steps and orders. -/
import Derived.Test.YtfhfakkdilngbaaDoorBuddyFact
import Derived.Test.YtfhfakkdilngbaaDoorAs
namespace Go.Proofs.YtfhfakkdilngbaaDoor
open Go.RowKit
set_option linter.unusedSimpArgs false

/-! ### What is lent and given back at once -/
theorem putN_nil (x : Nat) : putN [] x = [x] := rfl
theorem splitF_at (a o : Nat) : ∀ (n : Nat) (fr : Nat → List Nat) (j : Nat), splitF fr a n o j = if o ≤ j ∧ j < o + n then putN (fr j) (a + 2 ^ j) else fr j
  | 0, fr, j => by rw [if_neg (by omega)]; rfl
  | n + 1, fr, j => by
    unfold splitF
    rw [splitF_at a o n]
    by_cases h : j = o + n
    · subst h
      rw [if_neg (by omega), if_pos (by omega), upd_same]
    · rw [upd_other _ _ h]
      by_cases h2 : o ≤ j ∧ j < o + n
      · rw [if_pos h2, if_pos (by omega)]
      · rw [if_neg h2, if_neg (by omega)]
theorem merge_all (a K : Nat) (hK : K ≤ 6) (ha : a < 64) (hal : a % 2 ^ K = 0) : ∀ (d k m : Nat) (f : Nat → List Nat), k + d = K → 6 ≤ k + m → (∀ j, k ≤ j → j < K → f j = [a + 2 ^ j]) → (K < 6 → a ^^^ 2 ^ K ∉ f K) →
    mergeF f a m k = fun j => if k ≤ j ∧ j < K then [] else if j = K then putN (f K) a else f j
  | 0, k, m, f, hd, hm, h1, h2 => by
    obtain rfl : k = K := by omega
    rw [merge_stop (fun h => h2 h.1 h.2)]
    funext j
    rw [if_neg (by omega)]
    rfl
  | d + 1, k, m, f, hd, hm, h1, h2 => by
    have hk : k < 6 := by omega
    have hmod : a % 2 ^ (k + 1) = 0 := by
      have : 2 ^ (k + 1) ∣ 2 ^ K := Nat.pow_dvd_pow 2 (by omega)
      exact Nat.mod_eq_zero_of_dvd (Nat.dvd_trans this (Nat.dvd_of_mod_eq_zero hal))
    have hx := (al_half k hk a ha hmod).2.2.2.2
    have hfk := h1 k (Nat.le_refl _) (by omega)
    have hmem : a ^^^ 2 ^ k ∈ f k := by rw [hx, hfk]; simp
    obtain ⟨m', hm', e⟩ := merge_go (a := a) (f := f) (n := m) hk hmem hm
    rw [e, hmod, Nat.sub_zero, hx, hfk]
    rw [merge_all a K hK ha hal d (k + 1) m' _ (by omega) hm' (fun j h3 h4 => by rw [upd_other _ _ (by omega)]; exact h1 j (by omega) h4) (fun h => by rw [upd_other _ _ (by omega)]; exact h2 h)]
    funext j
    by_cases hj : j = k
    · subst hj
      rw [if_neg (by omega), if_neg (by omega), if_pos (by omega), upd_same]
      simp
    · by_cases h3 : k + 1 ≤ j ∧ j < K
      · rw [if_pos h3, if_pos (by omega)]
      · have h4 : ¬ (k ≤ j ∧ j < K) := by omega
        rw [if_neg h3, if_neg h4, upd_other _ _ (by omega : K ≠ k), upd_other _ _ hj]
theorem lend_back {fr : Nat → List Nat} {ln : Nat → Option Nat} (H : Bud fr ln []) {o : Nat} (he : lendE fr (o : Int) = 0) (ho : o ≤ 6) :
    backBE (lendL fr ln (o : Int)) (lendAt fr (o : Int) : Nat) = 0 ∧ backBF (lendF fr (o : Int)) (lendL fr ln (o : Int)) (lendAt fr (o : Int) : Nat) = fr := by
  have hK : ¬ kF fr o = 7 := by
    unfold lendE at he
    split at he
    · cases he
    · split at he
      · cases he
      · rename_i h; rwa [Int.toNat_natCast] at h
  obtain ⟨h1, h2, h3, h4⟩ := kF_spec (fr := fr) (7 - o) o (by omega)
  have hne := h3 (by omega)
  obtain ⟨K, hKe⟩ : ∃ K, kF fr o = K := ⟨_, rfl⟩
  rw [hKe] at hK h1 h2 hne h4
  rcases e : fr K with _ | ⟨a, r⟩
  · rw [e] at hne; simp at hne
  · have hat : lendAt fr (o : Int) = a := by unfold lendAt; rw [if_pos he, Int.toNat_natCast, hKe, e]; rfl
    have hF : lendF fr (o : Int) = splitF (upd fr K r) a (K - o) o := by unfold lendF; rw [if_pos he, hat, Int.toNat_natCast, hKe, e]; rfl
    have hLn : lendL fr ln (o : Int) = upd ln a (some o) := by unfold lendL; rw [if_pos he, hat, Int.toNat_natCast]
    have hln : lnI (lendL fr ln (o : Int)) (a : Int) = some o := by rw [hLn, lnI_nat, upd_same]
    rw [hat]
    have hr := H.rising K
    rw [e] at hr
    have hfal := H.fal K (by omega) a (by rw [e]; simp)
    refine ⟨by unfold backBE; rw [hln]; rfl, ?_⟩
    have hbf : backBF (lendF fr (o : Int)) (lendL fr ln (o : Int)) (a : Int) = mergeF (lendF fr (o : Int)) a 6 o := by unfold backBF; rw [hln, Int.toNat_natCast]
    rw [hbf, hF, merge_all a K (by omega) hfal.2 hfal.1 (K - o) o 6 _ (by omega) (by omega) (fun j h5 h6 => by
        rw [splitF_at, if_pos (by omega), upd_other _ _ (by omega), List.eq_nil_of_length_eq_zero (h4 j h5 h6)]
        rfl) (fun h => by
        rw [splitF_at, if_neg (by omega), upd_same]
        have := H.apart K h a (by rw [e]; simp)
        rw [e] at this
        exact fun hm => this (List.mem_cons_of_mem _ hm))]
    funext j
    by_cases h5 : o ≤ j ∧ j < K
    · rw [if_pos h5, List.eq_nil_of_length_eq_zero (h4 j h5.1 h5.2)]
    · rw [if_neg h5]
      by_cases h6 : j = K
      · subst h6
        rw [if_pos rfl, splitF_at, if_neg (by omega), upd_same, e]
        exact putN_first (List.pairwise_cons.1 hr).1
      · rw [if_neg h6, splitF_at, if_neg (by omega), upd_other _ _ h6]

/-! ### Is there room? -/
def roomTo (fr : Nat → List Nat) (o k : Nat) : Bool := (List.range k).any fun j => decide (o ≤ j) && decide (0 < (fr j).length)
theorem roomTo_zero (fr : Nat → List Nat) (o : Nat) : roomTo fr o 0 = false := rfl
theorem roomTo_succ (fr : Nat → List Nat) (o k : Nat) : roomTo fr o (k + 1) = (roomTo fr o k || (decide (o ≤ k) && decide (0 < (fr k).length))) := by
  unfold roomTo; rw [List.range_succ, List.any_append]; simp
theorem roomTo_all {fr : Nat → List Nat} {o : Nat} (ho : o ≤ 6) : (roomTo fr o 7 = true ∧ lendE fr (o : Int) = 0) ∨ (roomTo fr o 7 = false ∧ lendE fr (o : Int) = 4) := by
  obtain ⟨h1, h2, h3, h4⟩ := kF_spec (fr := fr) (7 - o) o (by omega)
  have hb : btw (o : Int) 0 6 = true := btw_iff.2 ⟨by omega, by omega⟩
  by_cases hK : kF fr o = 7
  · right
    refine ⟨?_, by unfold lendE; rw [if_neg (by rw [hb]; simp), Int.toNat_natCast, if_pos hK]⟩
    unfold roomTo
    rw [List.any_eq_false]
    intro j hj
    have hj := List.mem_range.1 hj
    by_cases h5 : o ≤ j
    · have := h4 j h5 (by omega); simp [this]
    · simp [h5]
  · left
    refine ⟨?_, by unfold lendE; rw [if_neg (by rw [hb]; simp), Int.toNat_natCast, if_neg hK]⟩
    unfold roomTo
    rw [List.any_eq_true]
    exact ⟨kF fr o, List.mem_range.2 (by omega), by have := h3 (by omega); simp [h1]; omega⟩

/-- what was free, kept -/
def WasAt (w0 w : World) (s : Value) (fr : Nat → List Nat) (k : Nat) (vs : List Value) : Prop :=
  Kp No w0 w ∧ vs.length = k ∧ w.ownsRow w0.heap.size 22 1 s k vs ∧ ∀ j (h : j < vs.length), w.ownsRow w0.heap.size 3 1 vs[j] (ni (fr j)).length (iv (ni (fr j)))
theorem WasAt.start (w : World) (fr : Nat → List Nat) : WasAt w w (.slice none 0 0) fr 0 [] := ⟨Kp.refl _ _, rfl, World.ownsRow_nil _ _ _ _, fun j h => by cases h⟩
theorem WasAt.no {w0 w w' : World} {s : Value} {fr : Nat → List Nat} {k : Nat} {vs : List Value} (h : WasAt w0 w s fr k vs) (hk : Kp No w w') : WasAt w0 w' s fr k vs := by
  obtain ⟨h0, h1, h2, h3⟩ := h
  exact ⟨h0.trans hk, h1, own_kp h2 hk fun _ _ h => h, fun j hj => own_kp (h3 j hj) hk fun _ _ h => h⟩
theorem WasAt.more {w0 w w' : World} {s v : Value} {fr : Nat → List Nat} {k g c : Nat} {vs : List Value} (h : WasAt w0 w s fr k vs) (hv : w.ownsRow w0.heap.size 3 1 v (ni (fr k)).length (iv (ni (fr k))))
    (ho : w'.ownsRow w0.heap.size 22 1 (.slice (some ⟨g, 0, none⟩) (k + 1) c) (k + 1) (vs ++ [v])) (hg : (w.alloc (.cells #[v] 22)).grownBy w' s.ownBlock) :
    WasAt w0 w' (.slice (some ⟨g, 0, none⟩) (k + 1) c) fr (k + 1) (vs ++ [v]) := by
  obtain ⟨h0, h1, h2, h3⟩ := h
  have hk : Kp (fun b => s.ownBlock = some b) w w' := ((Kp.refl _ w).alloc _).grown hg fun b e _ => e
  refine ⟨h0.trans' hk fun b hb e => by have := (own_lt h2 e).1; omega, by rw [List.length_append, h1]; rfl, ho, fun j hj => ?_⟩
  rw [List.length_append] at hj
  by_cases hlt : j < vs.length
  · rw [List.getElem_append_left hlt]
    exact own_kp (h3 j hlt) hk fun b hb e => own_ne_own (h3 j hlt) h2 (by decide) hb e
  · obtain rfl : j = vs.length := by simp at hj; omega
    rw [List.getElem_append_right (Nat.le_refl _)]
    simp only [Nat.sub_self, List.getElem_cons_zero]
    rw [h1]
    exact own_kp hv hk fun b hb e => own_ne_own hv h2 (by decide) hb e
/-- .. as rows -/
theorem WasAt.rows {w0 w : World} {s : Value} {fr : Nat → List Nat} {k : Nat} {vs : List Value} (h : WasAt w0 w s fr k vs) : RowsIn w (fun b => w0.heap.size ≤ b ∧ b < w.heap.size) s ((List.range k).map fun j => ni (fr j)) := by
  obtain ⟨_, h1, h2, h3⟩ := h
  refine ⟨vs, .of_own h2 fun b hb => own_lt h2 hb, by simp [h1], fun i a b => ?_⟩
  rw [List.getElem_map, List.getElem_range]
  exact .of_own (h3 i a) fun g hg => own_lt (h3 i a) hg

set_option maxRecDepth 100000 in
set_option maxHeartbeats 16000000 in
theorem buddyFull_any {F : Nat → Prop} (v : Value) (steps : List Int) (x : Int) (w : World) (hv : IntsIn w F v steps) (hr : ∀ x ∈ steps, -9223372036854775808 ≤ x ∧ x ≤ 9223372036854775807) (hh : Handle w) :
    Calls Tryd.prog 5 #[v, .int .i64 x] w fun e w' => e = .returned (.bool true) ∧ Kp No w w' := by
  have HV := hide hv
  have HR := hide hr
  have HH := hide hh
  clear hv hr hh
  go_enter Tryd.func5, Tryd.ntmps5
  go_wp2_with fail
  refine Calls.mono (buddyFact_any _) ?_
  rintro e w1 ⟨rfl, hk1⟩
  have HK1 := hide hk1
  clear hk1
  go_wp2_with fail
  refine Calls.mono (lent_any v steps w1 (HV.out.no HK1.out) HR.out) ?_
  rintro e w2 ⟨p, m, rfl, hm, hf2, hk2⟩
  have HL := hide (bud_all steps)
  obtain ⟨bs, hbs⟩ : ∃ bs, budAll steps = bs := ⟨_, rfl⟩
  rw [hbs] at HL hf2
  clear hbs
  obtain ⟨fr, ln⟩ := bs
  simp only at HL hf2
  have HF2 := hide hf2
  have HK2 := hide (HK1.out.trans hk2)
  have hs1 := HK1.out.size
  have hs2 := hk2.size
  clear hf2 hk2
  cases hbt : btw x 0 6 with
  | false =>
    have HBT := hide hbt
    have hE : lendE fr x = 1 := by unfold lendE; rw [if_pos hbt]
    have HEE := hide hE
    have HE := hide (fun (w : World) (h : Handle w) => error_any 1 1 w h (by omega))
    obtain ⟨er, her⟩ : ∃ er, errV 1 = er := ⟨_, rfl⟩
    have HER := hide her
    rw [her] at HE
    clear hbt hE her
    go_wp2_with fail
    refine Calls.mono (in_any _ _ _ _) ?_
    rw [HBT.out]
    rintro e w5 ⟨rfl, rfl⟩
    go_wp2_with fail
    refine Calls.mono (blend_any x w2 HF2.out HL.out (by omega) fun b hb => by show w1.heap.size ≤ b; omega) ?_
    rw [HEE.out, HER.out]
    rintro e w4 ⟨rfl, hf4, hk4⟩
    have HK4 := hide (show Kp No w w4 from (HK2.out.of_no.trans (hk4.mono (S' := Hi w.heap.size) fun b _ h => Nat.le_trans hs1 h)).mono fun b hb h => by unfold Hi at h; omega)
    have HG := hide (HH.out.no HK4.out)
    clear hf4 hk4
    go_wp2_with fail
    refine Calls.mono (HE.out _ HG.out) ?_
    rintro e w6 ⟨rfl, hk6⟩
    have HK6 := hide (HK4.out.trans hk6)
    clear hk6
    go_wp2
    go_ret
    exact ⟨by simp, HK6.out⟩
  | true =>
    obtain ⟨o, rfl⟩ : ∃ o : Nat, x = o := ⟨x.toNat, by have := btw_iff.1 hbt; omega⟩
    have ho6 : o ≤ 6 := by have := btw_iff.1 hbt; omega
    have HBT := hide hbt
    have HLB := hide (fun he => lend_back HL.out (o := o) he ho6)
    have HRA := hide (roomTo_all (fr := fr) ho6)
    have HLN := hide (HL.out.lent (o : Int))
    clear hbt
    go_wp2_with fail
    refine Calls.mono (in_any _ _ _ _) ?_
    rw [HBT.out]
    rintro e w5 ⟨rfl, rfl⟩
    go_wp2_with fail
    have HW0 := hide (WasAt.start w2 fr)
    go_loopw [9, 10, 11] (fun s9 s10 s11 wr => ∃ (k : Nat) (vs : List Value), s9 = .bool (roomTo fr o k) ∧ s11 = .int .i64 k ∧ k ≤ 7 ∧ Hid (WasAt w2 wr s10 fr k vs)) (fun _ _ s11 _ => 7 - (intOf s11).toNat)
    case atStart => exact ⟨0, [], rfl, rfl, by omega, HW0.out⟩
    case round =>
      obtain ⟨k, vs, rfl, rfl, hk7, hW⟩ := hrel
      have HW := hide hW.out
      clear hW
      by_cases hk : k ≤ 6
      · have hk6 : (k : Int) ≤ 6 := by omega
        have hws := HW.out.1.size
        have HN := hide (roomTo_succ fr o k)
        obtain ⟨rk, hrk⟩ : ∃ rk, roomTo fr o k = rk := ⟨_, rfl⟩
        rw [hrk] at HN ⊢
        have HCASE : ∃ b : Bool, Hid (roomTo fr o (k + 1) = b) := ⟨_, rfl⟩
        obtain ⟨b, HB⟩ := HCASE
        have hbb := HB.out
        rw [HN.out] at hbb
        have HFR := hide (fun (w' : World) (hk' : Kp No w2 w') => bfree_any (k : Int) w' (HF2.out.no hk') fun k hk => HL.out.len hk)
        rw [show btw (k : Int) 0 6 = true from btw_iff.2 ⟨by omega, by omega⟩] at HFR
        simp only [if_true, Int.toNat_natCast] at HFR
        clear hrk
        have HC : (rk = true ∧ b = true) ∨ (rk = false ∧ k < o ∧ b = false) ∨ (rk = false ∧ o ≤ k ∧ ((fr k).length = 0 ∧ b = false ∨ 0 < (fr k).length ∧ b = true)) := by
          cases rk with
          | true => left; simpa using hbb.symm
          | false =>
            right
            rcases Nat.lt_or_ge k o with h | h
            · left; refine ⟨rfl, h, ?_⟩; rw [← hbb]; simp; omega
            · right; refine ⟨rfl, h, ?_⟩
              rcases Nat.eq_zero_or_pos (fr k).length with h0 | h0
              · left; refine ⟨h0, ?_⟩; rw [← hbb]; simp [h0]
              · right; refine ⟨h0, ?_⟩; rw [← hbb]; simp [h, h0]
        clear hbb
        rcases HC with ⟨rfl, rfl⟩ | ⟨rfl, hko, rfl⟩ | ⟨rfl, hok, hcc⟩
        · go_wp2_with fail
          refine Calls.mono (HFR.out _ (HW.out.1)) ?_
          rintro e w5 ⟨u, rfl, ho5, hk5⟩
          have HW5 := hide (HW.out.no (hk5))
          have HU := hide (show w5.ownsRow w2.heap.size 3 1 u (ni (fr k)).length (iv (ni (fr k))) by rw [ni_length]; exact own_base ho5 fun b hb => by have := (own_lt ho5 hb).1; omega)
          have h5s := HW5.out.1.size
          have HOV := hide HW5.out.2.2.1
          obtain ⟨A5, c5, rfl, _⟩ := IntsIn.of_own (F := fun _ => True) ho5 fun _ _ => trivial
          clear ho5 hk5
          go_wp2_with (at_builtin
                       refine wpList_push _ rfl (.tmp 48) (.tmp 52) _ rfl w2.heap.size 22 _ 24 Tryd.underlying50 Tryd.infoRow rfl u10 k vs rfl HOV.out _ rfl 1 _ rfl (by simp) (by omega) (by decide) h5s ?_
                       intro g1 c1 w6 ho hgr hat
                       have HW6 := hide (HW5.out.more HU.out ho hgr)
                       clear ho hgr hat)
          go_roundw
          case rel => exact ⟨k + 1, _, by rw [HB.out], by go_num, by omega, HW6.out⟩
          case measure => (simp [intOf]; omega)
        · go_wp2_with fail
          refine Calls.mono (HFR.out _ (HW.out.1)) ?_
          rintro e w5 ⟨u, rfl, ho5, hk5⟩
          have HW5 := hide (HW.out.no (hk5))
          have HU := hide (show w5.ownsRow w2.heap.size 3 1 u (ni (fr k)).length (iv (ni (fr k))) by rw [ni_length]; exact own_base ho5 fun b hb => by have := (own_lt ho5 hb).1; omega)
          have h5s := HW5.out.1.size
          have HOV := hide HW5.out.2.2.1
          obtain ⟨A5, c5, rfl, _⟩ := IntsIn.of_own (F := fun _ => True) ho5 fun _ _ => trivial
          clear ho5 hk5
          go_wp2_with (at_builtin
                       refine wpList_push _ rfl (.tmp 48) (.tmp 52) _ rfl w2.heap.size 22 _ 24 Tryd.underlying50 Tryd.infoRow rfl u10 k vs rfl HOV.out _ rfl 1 _ rfl (by simp) (by omega) (by decide) h5s ?_
                       intro g1 c1 w6 ho hgr hat
                       have HW6 := hide (HW5.out.more HU.out ho hgr)
                       clear ho hgr hat)
          go_roundw
          case rel => exact ⟨k + 1, _, by rw [HB.out], by go_num, by omega, HW6.out⟩
          case measure => (simp [intOf]; omega)
        · go_wp2_with fail
          refine Calls.mono (HFR.out _ HW.out.1) ?_
          rintro e w4 ⟨u4, rfl, ho4, hk4⟩
          have HK4 := hide hk4
          have h4s := hk4.size
          obtain ⟨A4, c4, rfl, _⟩ := IntsIn.of_own (F := fun _ => True) ho4 fun _ _ => trivial
          clear ho4 hk4
          rw [ni_length]
          rcases hcc with ⟨h0, rfl⟩ | ⟨h0, rfl⟩
          · rw [h0]
            clear h0
            go_wp2_with fail
            refine Calls.mono (HFR.out _ (HW.out.1.trans HK4.out)) ?_
            rintro e w5 ⟨u, rfl, ho5, hk5⟩
            have HW5 := hide (HW.out.no (HK4.out.trans hk5))
            have HU := hide (show w5.ownsRow w2.heap.size 3 1 u (ni (fr k)).length (iv (ni (fr k))) by rw [ni_length]; exact own_base ho5 fun b hb => by have := (own_lt ho5 hb).1; omega)
            have h5s := HW5.out.1.size
            have HOV := hide HW5.out.2.2.1
            obtain ⟨A5, c5, rfl, _⟩ := IntsIn.of_own (F := fun _ => True) ho5 fun _ _ => trivial
            clear ho5 hk5
            go_wp2_with (at_builtin
                         refine wpList_push _ rfl (.tmp 48) (.tmp 52) _ rfl w2.heap.size 22 _ 24 Tryd.underlying50 Tryd.infoRow rfl u10 k vs rfl HOV.out _ rfl 1 _ rfl (by simp) (by omega) (by decide) h5s ?_
                         intro g1 c1 w6 ho hgr hat
                         have HW6 := hide (HW5.out.more HU.out ho hgr)
                         clear ho hgr hat)
            go_roundw
            case rel => exact ⟨k + 1, _, by rw [HB.out], by go_num, by omega, HW6.out⟩
            case measure => (simp [intOf]; omega)
          · go_wp2_with fail
            refine Calls.mono (HFR.out _ (HW.out.1.trans HK4.out)) ?_
            rintro e w5 ⟨u, rfl, ho5, hk5⟩
            have HW5 := hide (HW.out.no (HK4.out.trans hk5))
            have HU := hide (show w5.ownsRow w2.heap.size 3 1 u (ni (fr k)).length (iv (ni (fr k))) by rw [ni_length]; exact own_base ho5 fun b hb => by have := (own_lt ho5 hb).1; omega)
            have h5s := HW5.out.1.size
            have HOV := hide HW5.out.2.2.1
            obtain ⟨A5, c5, rfl, _⟩ := IntsIn.of_own (F := fun _ => True) ho5 fun _ _ => trivial
            clear ho5 hk5
            go_wp2_with (at_builtin
                         refine wpList_push _ rfl (.tmp 48) (.tmp 52) _ rfl w2.heap.size 22 _ 24 Tryd.underlying50 Tryd.infoRow rfl u10 k vs rfl HOV.out _ rfl 1 _ rfl (by simp) (by omega) (by decide) h5s ?_
                         intro g1 c1 w6 ho hgr hat
                         have HW6 := hide (HW5.out.more HU.out ho hgr)
                         clear ho hgr hat)
            go_roundw
            case rel => exact ⟨k + 1, _, by rw [HB.out], by go_num, by omega, HW6.out⟩
            case measure => (simp [intOf]; omega)
      · obtain rfl : k = 7 := by omega
        have HB2 := hide (show BudIs wr p (fun b => w1.heap.size ≤ b ∧ (b < w2.heap.size ∨ wr.heap.size ≤ b)) fr ln m from (HF2.out.mono fun b hb h => ⟨h, .inl hb⟩).no HW.out.1)
        have HRW := hide HW.out.rows
        have HKZ := hide (HK2.out.trans HW.out.1.of_no)
        have hzs := HW.out.1.size
        obtain ⟨rs, hrs⟩ : ∃ rs, (List.range 7).map (fun j => ni (fr j)) = rs := ⟨_, rfl⟩
        have HRG := hide (fun (j : Nat) (hj : j < 7) => show rs[j]? = some (ni (fr j)) by rw [← hrs]; simp [hj])
        have hrl : rs.length = 7 := by rw [← hrs]; simp
        rw [hrs] at HRW
        obtain ⟨As, cs, rfl, hcs, hms, _⟩ := RowsIn.form HRW.out
        rw [hrl] at HRW hcs ⊢
        rw [show ((7 : Nat) : Int) = 7 from rfl]
        have HRL := hide hrl
        clear hrl HW
        obtain ⟨rm, hrm⟩ : ∃ rm, roomTo fr o 7 = rm := ⟨_, rfl⟩
        rw [hrm] at HRA ⊢
        obtain ⟨le, hle⟩ : ∃ le, lendE fr (o : Int) = le := ⟨_, rfl⟩
        have HLE := hide hle
        have HHB := hide (fun b (hb : wr.heap.size ≤ b) => show w1.heap.size ≤ b ∧ (b < w2.heap.size ∨ wr.heap.size ≤ b) from ⟨by omega, .inr hb⟩)
        have HE4 := hide (fun (w : World) (h : Handle w) => error_any 4 4 w h (by omega))
        obtain ⟨er4, her4⟩ : ∃ er, errV 4 = er := ⟨_, rfl⟩
        have HER4 := hide her4
        rw [her4] at HE4
        obtain ⟨z, hz⟩ : ∃ z, wr.heap.size = z := ⟨_, rfl⟩
        clear hrs hrm hle her4
        go_wp2_with fail
        refine Calls.mono (blend_any (o : Int) wr HB2.out HL.out (by omega) HHB.out) ?_
        rw [HLE.out]
        rintro e w4 ⟨rfl, hf4, hk4⟩
        have HF4 := hide hf4
        have HR4 := hide (HRW.out.kp hk4 fun b h1 h2 => by omega)
        have HK4 := hide (show Kp (Hi w.heap.size) w w4 from HKZ.out.of_no.trans (hk4.mono fun b _ e => Nat.le_trans hs1 e.1))
        have h4s := hk4.size
        clear hf4 hk4
        rcases HRA.out with ⟨rfl, hE⟩ | ⟨rfl, hE⟩
        · rw [HLE.out] at hE
          subst hE
          have hn : ∀ k : Nat, errV 0 = .nilIface := fun _ => rfl
          rw [hn 0]
          clear hn
          have HX := hide (HLB.out HLE.out)
          have hat := (HLN.out.2 HLE.out).1
          go_wp2_with fail
          refine Calls.mono (bback_any (lendAt fr (o : Int) : Nat) w4 HF4.out HLN.out.1 ⟨by omega, by omega⟩ fun b hb => ⟨by omega, .inr (by omega)⟩) ?_
          rw [HX.out.1, HX.out.2]
          rintro e w5 ⟨rfl, hf5, hk5⟩
          have hn : ∀ k : Nat, errV 0 = .nilIface := fun _ => rfl
          rw [hn 0]
          have HF5 := hide hf5
          have HR5 := hide (HR4.out.kp hk5 fun b h1 h2 => by omega)
          have HK5 := hide (HK4.out.trans (hk5.mono fun b _ e => Nat.le_trans hs1 e.1))
          have h5s := hk5.size
          clear hf5 hk5 hn
          go_wp2_with fail
          go_loopw [14] (fun q wq => ∃ k : Nat, q = .int .i64 k ∧ k ≤ 7 ∧ Hid (Kp No w5 wq)) (fun q _ => 7 - (intOf q).toNat)
          case atStart => exact ⟨0, rfl, by omega, Kp.refl _ _⟩
          case round =>
            obtain ⟨k, rfl, hk7', hkp⟩ := hrel
            by_cases hk : k ≤ 6
            · have hk6 : (k : Int) ≤ 6 := by omega
              have hk67 : (k : Int) < 7 := by omega
              have hq := hkp.out.size
              obtain ⟨e7, _, _, hrow⟩ := RowsIn.lit (HR5.out.no hkp.out)
              clear e7
              have hkl : k < rs.length := by rw [HRL.out]; omega
              obtain ⟨bo, oo, A', c', rfl, _, hrc, hri⟩ := hrow k hkl
              have hrk : rs[k] = ni (fr k) := by have := HRG.out k (by omega); rwa [List.getElem?_eq_getElem hkl, Option.some_inj] at this
              rw [hrk] at hrc hri
              have HRI := hide hri
              have HFR := hide (bfree_any (k : Int) wr.drew (HF5.out.no hkp.out.drew) fun k hk => HL.out.len hk)
              rw [show btw (k : Int) 0 6 = true from btw_iff.2 ⟨by omega, by omega⟩] at HFR
              simp only [if_true, Int.toNat_natCast] at HFR
              obtain ⟨L, hL⟩ : ∃ L, ni (fr k) = L := ⟨_, rfl⟩
              rw [hL] at HFR hrc HRI
              clear hrow hri hrk hL hkl
              go_wp2_with fail
              refine plan_start 9 (by kernel_rfl) rfl (fun hPT => ?_)
              refine plan_take (i := 0) (v := ?_) rfl (by kernel_rfl) (by kernel_rfl) (by kernel_rfl) (fun _ _ _ h => h) hPT (by rfl) ?_ ?_
              rotate_left
              · (intro w; go_simp; with_reducible rfl)
              (clear hPT; intro hPT; simp only [List.getElem_toArray, List.getElem_cons_zero, List.getElem_cons_succ, Act.put, List.setIfInBounds_toArray, List.set_cons_zero, List.set_cons_succ])
              refine plan_take (i := 1) (v := ?_) rfl (by kernel_rfl) (by kernel_rfl) (by kernel_rfl) (fun _ _ _ h => h) hPT (by rfl) ?_ ?_
              rotate_left
              · (intro w; go_simp; with_reducible rfl)
              (clear hPT; intro hPT; simp only [List.getElem_toArray, List.getElem_cons_zero, List.getElem_cons_succ, Act.put, List.setIfInBounds_toArray, List.set_cons_zero, List.set_cons_succ])
              refine plan_take (i := 3) (v := ?_) rfl (by kernel_rfl) (by kernel_rfl) (by kernel_rfl) (fun _ _ _ h => h) hPT (by rfl) ?_ ?_
              rotate_left
              · (intro w; go_simp; with_reducible rfl)
              (clear hPT; intro hPT; simp only [List.getElem_toArray, List.getElem_cons_zero, List.getElem_cons_succ, Act.put, List.setIfInBounds_toArray, List.set_cons_zero, List.set_cons_succ])
              refine plan_take (i := 4) (v := ?_) rfl (by kernel_rfl) (by kernel_rfl) (by kernel_rfl) (fun _ _ _ h => h) hPT (by rfl) ?_ ?_
              rotate_left
              · (intro w; go_simp; with_reducible rfl)
              (clear hPT; intro hPT; simp only [List.getElem_toArray, List.getElem_cons_zero, List.getElem_cons_succ, Act.put, List.setIfInBounds_toArray, List.set_cons_zero, List.set_cons_succ])
              refine plan_take (i := 5) (v := ?_) rfl (by kernel_rfl) (by kernel_rfl) (by kernel_rfl) (fun _ _ _ h => h) hPT (by rfl) ?_ ?_
              rotate_left
              · (intro w; go_simp; with_reducible rfl)
              (clear hPT; intro hPT; simp only [List.getElem_toArray, List.getElem_cons_zero, List.getElem_cons_succ, Act.put, List.setIfInBounds_toArray, List.set_cons_zero, List.set_cons_succ])
              refine plan_load (fun w' => w'.cell? ⟨bo, oo + k, none⟩ = some (.slice A' L.length c')) (i := 6) (v := ?_) rfl (by kernel_rfl) (by kernel_rfl) (by kernel_rfl) (fun _ _ _ h => h) hPT (by rfl) ?_ ?_ ?_
              rotate_left
              · (first | assumption | (go_simp; done))
              · (intro w hSw; (try dsimp only at hSw); go_simp; with_reducible rfl)
              (clear hPT; intro hPT; simp only [List.getElem_toArray, List.getElem_cons_zero, List.getElem_cons_succ, Act.put, List.setIfInBounds_toArray, List.set_cons_zero, List.set_cons_succ])
              refine plan_one (i := 2) (by kernel_rfl) rfl (by rfl) (fun K hK => ?_)
              (try simp only [List.getElem_toArray, List.getElem_cons_zero, List.getElem_cons_succ, Act.put, List.setIfInBounds_toArray, List.set_cons_zero, List.set_cons_succ])
              go_simp
              refine Calls.mono HFR.out ?_
              rintro e w6 ⟨u, rfl, hu, hk6'⟩
              have HU := hide (IntsIn.of_own (F := fun _ => True) hu fun _ _ => trivial)
              have hk6' := (Kp.refl No wr).drew.trans hk6'
              have HK6 := hide hk6'
              have HRI6 := hide (HRI.out.no hk6')
              have hrc6 := hk6'.cell hrc id
              clear hu hk6'
              refine hK.out _ _ _ (t_cons hrc6 (t_nil _)) k_same (fun hPT' => ?_)
              (clear hPT hK K; have hPT := hPT'; clear hPT'; try simp only [List.getElem_toArray, List.getElem_cons_zero, List.getElem_cons_succ, Act.put, List.setIfInBounds_toArray, List.set_cons_zero, List.set_cons_succ])
              refine plan_one (i := 7) (by kernel_rfl) rfl (by rfl) (fun K hK => ?_)
              (try simp only [List.getElem_toArray, List.getElem_cons_zero, List.getElem_cons_succ, Act.put, List.setIfInBounds_toArray, List.set_cons_zero, List.set_cons_succ])
              go_simp
              refine Calls.mono (ints_any _ _ L L _ HU.out HRI6.out) ?_
              rw [show eqB L L = true from decide_eq_true rfl]
              rintro e w7 ⟨rfl, n7, rfl⟩
              refine hK.out [] _ _ (t_nil _) (k_drop (by kernel_rfl) k_nil) (fun hPT' => ?_)
              (clear hPT hK K; have hPT := hPT'; clear hPT'; try simp only [List.getElem_toArray, List.getElem_cons_zero, List.getElem_cons_succ, Act.put, List.setIfInBounds_toArray, List.set_cons_zero, List.set_cons_succ])
              refine plan_take (i := 8) (v := ?_) rfl (by kernel_rfl) (by kernel_rfl) (by kernel_rfl) (fun _ _ _ h => h) hPT (by rfl) ?_ ?_
              rotate_left
              · (intro w; go_simp; with_reducible rfl)
              (clear hPT; intro hPT; simp only [List.getElem_toArray, List.getElem_cons_zero, List.getElem_cons_succ, Act.put, List.setIfInBounds_toArray, List.set_cons_zero, List.set_cons_succ])
              refine plan_done (by kernel_rfl) ?_ _
              clear hPT
              go_wp2_with fail
              go_roundw
              case rel => exact ⟨k + 1, by go_num, by omega, (hkp.out.trans HK6.out).trans (by (repeat (first | exact Kp.refl _ _ | with_reducible refine Kp.drewN ?_ _ | with_reducible refine Kp.drew ?_ | with_reducible refine Kp.alloc ?_ _ | with_reducible refine Kp.setCell ?_ (fun _ => ?_) _)); all_goals (simp_all; omega))⟩
              case measure => (simp [intOf]; omega)
            · obtain rfl : k = 7 := by omega
              go_wp2
              go_ret
              exact ⟨rfl, ((HK5.out.trans hkp.out.of_no).mono fun b hb h => by unfold Hi at h; omega)⟩
        · rw [HLE.out] at hE
          subst hE
          rw [HER4.out]
          have HG := hide (HH.out.no (show Kp No w w4 from HK4.out.mono fun b hb h => by unfold Hi at h; omega))
          clear HER4
          go_wp2_with fail
          refine Calls.mono (HE4.out _ HG.out) ?_
          rintro e w6 ⟨rfl, hk6⟩
          have HK6 := hide ((show Kp No w w4 from HK4.out.mono fun b hb h => by unfold Hi at h; omega).trans hk6)
          clear hk6
          go_wp2
          go_ret
          exact ⟨by simp, HK6.out⟩
end Go.Proofs.YtfhfakkdilngbaaDoor
