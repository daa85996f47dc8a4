/- buddy: Lend, walked. -/
import Derived.Test.YtibdddkcjijlaaaDoorBuddyWalk
namespace Go.Proofs.YtibdddkcjijlaaaDoor
open Go.RowKit
set_option linter.unusedSimpArgs false

/-- the least order from k on that has a free block; 7: none has -/
def kFrom (fr : Nat → List Nat) : Nat → Nat → Nat
  | 0, k => k
  | n + 1, k => if (fr k).length = 0 then kFrom fr n (k + 1) else k
def kF (fr : Nat → List Nat) (k : Nat) : Nat := kFrom fr (7 - k) k
theorem kF_free {fr : Nat → List Nat} {k : Nat} (hk : k ≤ 6) (h : (fr k).length = 0) : kF fr k = kF fr (k + 1) := by
  unfold kF
  rw [show 7 - k = (7 - (k + 1)) + 1 by omega]
  show (if (fr k).length = 0 then kFrom fr (7 - (k + 1)) (k + 1) else k) = _
  rw [if_pos h]
theorem kF_here {fr : Nat → List Nat} {k : Nat} (hk : k ≤ 6) (h : ¬ (fr k).length = 0) : kF fr k = k := by
  unfold kF
  rw [show 7 - k = (7 - (k + 1)) + 1 by omega]
  show (if (fr k).length = 0 then kFrom fr (7 - (k + 1)) (k + 1) else k) = _
  rw [if_neg h]
theorem kF_seven (fr : Nat → List Nat) : kF fr 7 = 7 := rfl
theorem kF_spec {fr : Nat → List Nat} : ∀ (n k : Nat), k + n = 7 → k ≤ kF fr k ∧ kF fr k ≤ 7 ∧ (kF fr k ≤ 6 → ¬ (fr (kF fr k)).length = 0) ∧ ∀ j, k ≤ j → j < kF fr k → (fr j).length = 0
  | 0, k, h => by obtain rfl : k = 7 := by omega
                  exact ⟨Nat.le_refl _, Nat.le_refl _, fun h => absurd h (by rw [kF_seven]; decide), fun j h1 h2 => absurd h2 (by rw [kF_seven]; omega)⟩
  | n + 1, k, h => by
    by_cases h0 : (fr k).length = 0
    · rw [kF_free (by omega) h0]
      obtain ⟨h1, h2, h3, h4⟩ := kF_spec (fr := fr) n (k + 1) (by omega)
      refine ⟨by omega, h2, h3, fun j hj hj2 => ?_⟩
      rcases Nat.eq_or_lt_of_le hj with e | hj
      · exact e ▸ h0
      · exact h4 j hj hj2
    · rw [kF_here (by omega) h0]
      exact ⟨Nat.le_refl _, by omega, fun _ => h0, fun j h1 h2 => by omega⟩

theorem shl64 {a j : Nat} (ha : a ≤ 1000) (hj : j ≤ 6) : wrap64 ((a : Int) + wrap64 ((2 : Int) ^ j)) = ((a + 2 ^ j : Nat) : Int) := by
  have h1 : ((2 : Int) ^ j) = ((2 ^ j : Nat) : Int) := by simp
  have h2 : 2 ^ j ≤ 2 ^ 6 := Nat.pow_le_pow_right (by decide) hj
  rw [h1]
  generalize 2 ^ j = q at *
  unfold wrap64
  omega
/-- what is in hand is halved, down to an order -/
def splitF (fr : Nat → List Nat) (a : Nat) : Nat → Nat → (Nat → List Nat)
  | 0, _ => fr
  | n + 1, o => splitF (upd fr (o + n) (putN (fr (o + n)) (a + 2 ^ (o + n)))) a n o
theorem Bud.splits {ln : Nat → Option Nat} {a o : Nat} : ∀ (n : Nat) (fr : Nat → List Nat), Bud fr ln [(a, o + n)] → Bud (splitF fr a n o) ln [(a, o)]
  | 0, fr, h => h
  | n + 1, fr, h => Bud.splits n _ h.split

def lendE (fr : Nat → List Nat) (x : Int) : Nat := if btw x 0 6 = false then 1 else if kF fr x.toNat = 7 then 4 else 0
def lendAt (fr : Nat → List Nat) (x : Int) : Nat := if lendE fr x = 0 then (fr (kF fr x.toNat)).headD 0 else 0
def lendF (fr : Nat → List Nat) (x : Int) : Nat → List Nat :=
  if lendE fr x = 0 then splitF (upd fr (kF fr x.toNat) (fr (kF fr x.toNat)).tail) (lendAt fr x) (kF fr x.toNat - x.toNat) x.toNat else fr
def lendL (fr : Nat → List Nat) (ln : Nat → Option Nat) (x : Int) : Nat → Option Nat := if lendE fr x = 0 then upd ln (lendAt fr x) (some x.toNat) else ln

theorem Bud.len {fr : Nat → List Nat} {ln : Nat → Option Nat} {h : List (Nat × Nat)} (H : Bud fr ln h) {k : Nat} (hk : k ≤ 6) : (fr k).length ≤ 64 := by
  have hge : ∀ i (hi : i < (fr k).length), i ≤ (fr k)[i] := by
    intro i
    induction i with
    | zero => intro _; exact Nat.zero_le _
    | succ i ih =>
      intro hi
      have h1 := ih (by omega)
      have h2 := List.pairwise_iff_getElem.1 (H.rising k) i (i + 1) (by omega) hi (by omega)
      omega
  rcases Nat.lt_or_ge 64 (fr k).length with h' | h'
  · have h1 := hge 64 h'
    have h2 := (H.fal k hk _ (List.getElem_mem h')).2
    omega
  · exact h'
theorem Bud.lent {fr : Nat → List Nat} {ln : Nat → Option Nat} (H : Bud fr ln []) (x : Int) : Bud (lendF fr x) (lendL fr ln x) [] ∧ (lendE fr x = 0 → lendAt fr x < 64 ∧ ln (lendAt fr x) = none) := by
  by_cases h : lendE fr x = 0
  · have hx : btw x 0 6 = true ∧ ¬ kF fr x.toNat = 7 := by
      unfold lendE at h
      split at h
      · cases h
      · rename_i h1
        split at h
        · cases h
        · rename_i h2
          exact ⟨by simpa using h1, h2⟩
    have hx6 := btw_iff.1 hx.1
    obtain ⟨h1, h2, h3, h4⟩ := kF_spec (fr := fr) (7 - x.toNat) x.toNat (by omega)
    have hne := h3 (by omega)
    have hat : lendAt fr x = (fr (kF fr x.toNat)).headD 0 := by unfold lendAt; rw [if_pos h]
    rcases e : fr (kF fr x.toNat) with _ | ⟨a, r⟩
    · rw [e] at hne; simp at hne
    · have ea : lendAt fr x = a := by rw [hat, e]; rfl
      have b1 := H.take (by omega) e
      have b2 : Bud (splitF (upd fr (kF fr x.toNat) r) a (kF fr x.toNat - x.toNat) x.toNat) ln [(a, x.toNat)] := Bud.splits _ _ (by rw [show x.toNat + (kF fr x.toNat - x.toNat) = kF fr x.toNat by omega]; exact b1)
      have b3 := b2.lend
      have a64 := (b2.hal _ (List.mem_singleton.2 rfl)).2.2
      refine ⟨?_, fun _ => by rw [ea]; exact ⟨a64, b3.1⟩⟩
      unfold lendF lendL
      rw [if_pos h, if_pos h, ea, e]
      exact b3.2
  · refine ⟨?_, fun h' => absurd h' h⟩
    unfold lendF lendL
    rw [if_neg h, if_neg h]
    exact H


set_option maxRecDepth 100000 in
set_option maxHeartbeats 8000000 in
theorem blend_any {p m : Nat} {S : Nat → Prop} {fr : Nat → List Nat} {ln : Nat → Option Nat} (x : Int) (w : World) (hB : BudIs w p S fr ln m) (H : Bud fr ln []) (hm : m ≤ 900) (hS : ∀ b, w.heap.size ≤ b → S b) :
    Calls Tryd.prog 19 #[.pointer (some ⟨p, 0, none⟩), .int .i64 x] w fun e w' => e = .returned (.tuple #[.int .i64 (lendAt fr x : Nat), errV (lendE fr x)]) ∧ BudIs w' p S (lendF fr x) (lendL fr ln x) (m + 1) ∧ Kp S w w' := by
  have HBB := hide hB
  cases hbt : btw x 0 6 with
  | false =>
    have hE : lendE fr x = 1 := by unfold lendE; rw [if_pos hbt]
    have HR := hide (show lendE fr x = 1 ∧ lendAt fr x = 0 ∧ lendF fr x = fr ∧ lendL fr ln x = ln by unfold lendAt lendF lendL; rw [hE]; exact ⟨rfl, rfl, rfl, rfl⟩)
    have HBT := hide hbt
    clear hbt hB hS H hE
    go_enter Tryd.func19, Tryd.ntmps19
    go_wp2_with fail
    refine Calls.mono (within_any _ _ _ _) ?_
    rw [HBT.out]
    rintro e w1 ⟨rfl, rfl⟩
    go_wp2
    go_ret2
    exact ⟨by rw [HR.out.1, HR.out.2.1]; rfl, by rw [HR.out.2.2.1, HR.out.2.2.2]; exact HBB.out.more (by omega), Kp.refl _ _⟩
  | true =>
    obtain ⟨o, rfl⟩ : ∃ o : Nat, x = o := ⟨x.toNat, by have := btw_iff.1 hbt; omega⟩
    have ho6 : o ≤ 6 := by have := btw_iff.1 hbt; omega
    have HBT := hide hbt
    have HH := hide H
    have HS := hide hS
    obtain ⟨hp, vf, bm, h, hbm, hvS⟩ := hB
    have HP := hide hp
    have HM := hide hbm
    have HVS := hide hvS
    have HA := hide h
    have hform : Hid (∀ k, k ≤ 6 → ∃ A c, vf k = .slice A (fr k).length c ∧ (fr k).length ≤ c ∧ c ≤ 9223372036854775807 ∧ w.cell? ⟨p, k, none⟩ = some (.slice A (fr k).length c) ∧ w.frozen? ⟨p, k, none⟩ = false ∧ ∀ j (hj : j < (fr k).length), ∃ g, A = some ⟨g, 0, none⟩ ∧ w.cell? ⟨g, j, none⟩ = some (.int .i64 ((fr k)[j] : Int))) := by
      intro k hk
      obtain ⟨e0, A, c, hv, hc, hmx, hcell⟩ := own_form (h.own k hk)
      have hcl := h.cell hk
      rw [hv] at hcl
      rw [iv_length, ni_length] at hv hc hcl
      refine ⟨A, c, hv, hc, hmx, hcl.1, hcl.2, fun j hj => ?_⟩
      obtain ⟨g, hA, h1⟩ := hcell j (by rw [iv_length, ni_length]; exact hj)
      exact ⟨g, hA, by rw [h1, iv_get (by rw [ni_length]; exact hj), ni_get hj]⟩
    have z1 := h.blk.lt
    clear hbt H hS hp hbm hvS h
    go_enter Tryd.func19, Tryd.ntmps19
    go_wp2_with fail
    refine Calls.mono (within_any _ _ _ _) ?_
    rw [HBT.out]
    rintro e w1 ⟨rfl, rfl⟩
    go_wp2_with fail
    go_loop [6] (fun s6 => ∃ k : Nat, s6 = .int .i64 k ∧ o ≤ k ∧ k ≤ 7 ∧ Hid (kF fr o = kF fr k)) (fun s6 => 7 - (intOf s6).toNat)
    case atStart => exact ⟨o, rfl, Nat.le_refl _, by omega, rfl⟩
    case round =>
      obtain ⟨k, rfl, hk1, hk7, hkF⟩ := hrel
      by_cases h7 : k = 7
      · subst h7
        have hE : lendE fr o = 4 := by unfold lendE; rw [HBT.out, if_neg (by simp), Int.toNat_natCast, hkF.out, kF_seven, if_pos rfl]
        have HR := hide (show lendE fr o = 4 ∧ lendAt fr o = 0 ∧ lendF fr o = fr ∧ lendL fr ln o = ln by unfold lendAt lendF lendL; rw [hE]; exact ⟨rfl, rfl, rfl, rfl⟩)
        clear hE hkF
        go_wp2
        go_ret2
        exact ⟨by rw [HR.out.1, HR.out.2.1]; rfl, by rw [HR.out.2.2.1, HR.out.2.2.2]; exact HBB.out.more (by omega), Kp.refl _ _⟩
      · have hk6 : k ≤ 6 := by omega
        have hk7' : (k : Int) < 7 := by omega
        have hk6' : (k : Int) ≤ 6 := by omega
        obtain ⟨A, c, hvk, hc, hmx, b1, f1, hcell⟩ := hform.out k hk6
        have HVK := hide hvk
        clear hvk
        by_cases h0 : (fr k).length = 0
        · have HN := hide (show kF fr o = kF fr (k + 1) by rw [hkF.out, kF_free hk6 h0])
          rw [h0] at b1
          clear hcell h0 hc hkF h7
          go_wp2
          go_round
          case rel => exact ⟨k + 1, by go_num, by omega, by omega, HN.out⟩
          case measure => (simp [intOf]; omega)
        · have HK := hide (show kF fr o = k by rw [hkF.out, kF_here hk6 h0])
          clear hkF h7
          rcases e : fr k with _ | ⟨a, r⟩
          · rw [e] at h0; simp at h0
          · have hlen : (fr k).length = r.length + 1 := by rw [e]; rfl
            obtain ⟨g, rfl, c1⟩ := hcell 0 (by omega)
            simp only [e, List.getElem_cons_zero] at c1
            have HE := hide e
            have HLE := hide hlen
            have hb2 : ((r.length : Int) + 1 == 0) = false := by rw [beq_eq_false_iff_ne]; omega
            rw [hlen] at b1 hc
            clear hcell h0 e hlen
            go_wp2_with fail
            have HTK := hide (HH.out.take hk6 HE.out)
            have hown : w.ownsRow 0 3 1 (.slice (some ⟨g, 0, none⟩) (r.length + 1) c) (ni (a :: r)).length (iv (ni (a :: r))) := by
              have := HA.out.own k hk6
              rw [HVK.out, HLE.out, HE.out] at this
              rw [ni_length]
              exact this
            have hdel := delete_any 0 w.drew (own_kp hown (Kp.refl No w).drew fun _ _ h => h) (by rw [ni_length]; simp)
            rw [show (((0 : Nat) : Int) + 1) = 1 from rfl, show ((0 : Nat) : Int) = 0 from rfl] at hdel
            have HD := hide hdel
            clear hdel hown c1
            refine plan_start 13 (by kernel_rfl) rfl (fun hPT => ?_)
            refine plan_take (i := 0) (v := ?_) rfl (by kernel_rfl) (by kernel_rfl) (by kernel_rfl) (fun _ _ _ h => h) hPT (by rfl) ?_ ?_
            rotate_left
            · (intro w; go_simp; with_reducible rfl)
            (clear hPT; intro hPT; simp only [List.getElem_toArray, List.getElem_cons_zero, List.getElem_cons_succ, Act.put, List.setIfInBounds_toArray, List.set_cons_zero, List.set_cons_succ])
            refine plan_take (i := 1) (v := ?_) rfl (by kernel_rfl) (by kernel_rfl) (by kernel_rfl) (fun _ _ _ h => h) hPT (by rfl) ?_ ?_
            rotate_left
            · (intro w; go_simp; with_reducible rfl)
            (clear hPT; intro hPT; simp only [List.getElem_toArray, List.getElem_cons_zero, List.getElem_cons_succ, Act.put, List.setIfInBounds_toArray, List.set_cons_zero, List.set_cons_succ])
            refine plan_take (i := 2) (v := ?_) rfl (by kernel_rfl) (by kernel_rfl) (by kernel_rfl) (fun _ _ _ h => h) hPT (by rfl) ?_ ?_
            rotate_left
            · (intro w; go_simp; with_reducible rfl)
            (clear hPT; intro hPT; simp only [List.getElem_toArray, List.getElem_cons_zero, List.getElem_cons_succ, Act.put, List.setIfInBounds_toArray, List.set_cons_zero, List.set_cons_succ])
            refine plan_take (i := 3) (v := ?_) rfl (by kernel_rfl) (by kernel_rfl) (by kernel_rfl) (fun _ _ _ h => h) hPT (by rfl) ?_ ?_
            rotate_left
            · (intro w; go_simp; with_reducible rfl)
            (clear hPT; intro hPT; simp only [List.getElem_toArray, List.getElem_cons_zero, List.getElem_cons_succ, Act.put, List.setIfInBounds_toArray, List.set_cons_zero, List.set_cons_succ])
            refine plan_take (i := 4) (v := ?_) rfl (by kernel_rfl) (by kernel_rfl) (by kernel_rfl) (fun _ _ _ h => h) hPT (by rfl) ?_ ?_
            rotate_left
            · (intro w; go_simp; with_reducible rfl)
            (clear hPT; intro hPT; simp only [List.getElem_toArray, List.getElem_cons_zero, List.getElem_cons_succ, Act.put, List.setIfInBounds_toArray, List.set_cons_zero, List.set_cons_succ])
            refine plan_take (i := 5) (v := ?_) rfl (by kernel_rfl) (by kernel_rfl) (by kernel_rfl) (fun _ _ _ h => h) hPT (by rfl) ?_ ?_
            rotate_left
            · (intro w; go_simp; with_reducible rfl)
            (clear hPT; intro hPT; simp only [List.getElem_toArray, List.getElem_cons_zero, List.getElem_cons_succ, Act.put, List.setIfInBounds_toArray, List.set_cons_zero, List.set_cons_succ])
            refine plan_take (i := 6) (v := ?_) rfl (by kernel_rfl) (by kernel_rfl) (by kernel_rfl) (fun _ _ _ h => h) hPT (by rfl) ?_ ?_
            rotate_left
            · (intro w; go_simp; with_reducible rfl)
            (clear hPT; intro hPT; simp only [List.getElem_toArray, List.getElem_cons_zero, List.getElem_cons_succ, Act.put, List.setIfInBounds_toArray, List.set_cons_zero, List.set_cons_succ])
            refine plan_take (i := 9) (v := ?_) rfl (by kernel_rfl) (by kernel_rfl) (by kernel_rfl) (fun _ _ _ h => h) hPT (by rfl) ?_ ?_
            rotate_left
            · (intro w; go_simp; with_reducible rfl)
            (clear hPT; intro hPT; simp only [List.getElem_toArray, List.getElem_cons_zero, List.getElem_cons_succ, Act.put, List.setIfInBounds_toArray, List.set_cons_zero, List.set_cons_succ])
            refine plan_take (i := 10) (v := ?_) rfl (by kernel_rfl) (by kernel_rfl) (by kernel_rfl) (fun _ _ _ h => h) hPT (by rfl) ?_ ?_
            rotate_left
            · (intro w; go_simp; with_reducible rfl)
            (clear hPT; intro hPT; simp only [List.getElem_toArray, List.getElem_cons_zero, List.getElem_cons_succ, Act.put, List.setIfInBounds_toArray, List.set_cons_zero, List.set_cons_succ])
            refine plan_load (fun w' => w'.cell? ⟨p, k, none⟩ = some (.slice (some ⟨g, 0, none⟩) (r.length + 1) c)) (i := 7) (v := ?_) rfl (by kernel_rfl) (by kernel_rfl) (by kernel_rfl) (fun _ _ _ h => h) hPT (by rfl) ?_ ?_ ?_
            rotate_left
            · (first | assumption | (go_simp; done))
            · (intro w hSw; (try dsimp only at hSw); go_simp; with_reducible rfl)
            (clear hPT; intro hPT; simp only [List.getElem_toArray, List.getElem_cons_zero, List.getElem_cons_succ, Act.put, List.setIfInBounds_toArray, List.set_cons_zero, List.set_cons_succ])
            refine plan_one (i := 8) (by kernel_rfl) rfl (by rfl) (fun K hK => ?_)
            (try simp only [List.getElem_toArray, List.getElem_cons_zero, List.getElem_cons_succ, Act.put, List.setIfInBounds_toArray, List.set_cons_zero, List.set_cons_succ])
            go_simp
            refine Calls.mono HD.out ?_
            rintro e w2 ⟨g', c', hv, rfl, ho, hk2⟩
            have e1 : (ni (a :: r)).length - 1 = r.length := by rw [ni_length]; rfl
            rw [e1] at ho ⊢
            injection hv with hv1 hv2 hv3
            injection hv1 with hv1
            injection hv1 with hv1
            subst hv1 hv3
            have hkp : Kp (fun b => (vf k).ownBlock = some b) w w2 := (Kp.refl No w).drew.of_no.trans' hk2 fun b _ e => by unfold At at e; subst e; rw [HVK.out]; rfl
            have HRP := hide (BudIs.rput (l := r) (w' := w2) (v' := .slice (some ⟨g, 0, none⟩) r.length c) HA.out HP.out HM.out HVS.out HS.out hk6 hkp ho fun b hb => .inl (by rw [HVK.out]; exact hb))
            have hb2 := HA.out.blk.kp hkp (HA.out.rowNe hk6)
            have z2 : w2.cell? ⟨p, k, none⟩ = some (.slice (some ⟨g, 0, none⟩) (r.length + 1) c) := by rw [hb2.cell, bcells_get hk6, HVK.out, HLE.out]
            have z3 : w2.frozen? ⟨p, k, none⟩ = false := hb2.free k
            clear ho hk2 hkp hb2 e1 hv2
            refine hK.out _ _ _ (t_cons z2 (t_nil _)) k_same (fun hPT' => ?_)
            (clear hPT hK K; have hPT := hPT'; clear hPT'; try simp only [List.getElem_toArray, List.getElem_cons_zero, List.getElem_cons_succ, Act.put, List.setIfInBounds_toArray, List.set_cons_zero, List.set_cons_succ])
            refine plan_take (i := 11) (v := ?_) rfl (by kernel_rfl) (by kernel_rfl) (by kernel_rfl) (fun _ _ _ h => h) hPT (by rfl) ?_ ?_
            rotate_left
            · (intro w; go_simp; with_reducible rfl)
            (clear hPT; intro hPT; simp only [List.getElem_toArray, List.getElem_cons_zero, List.getElem_cons_succ, Act.put, List.setIfInBounds_toArray, List.set_cons_zero, List.set_cons_succ])
            refine plan_one (i := 12) (by kernel_rfl) rfl (by rfl) (fun K hK => ?_)
            (try simp only [List.getElem_toArray, List.getElem_cons_zero, List.getElem_cons_succ, Act.put, List.setIfInBounds_toArray, List.set_cons_zero, List.set_cons_succ])
            go_simp
            refine hK.out [] _ _ (t_nil _) (k_drop (by kernel_rfl) k_nil) (fun hPT' => ?_)
            (clear hPT hK K; have hPT := hPT'; clear hPT'; try simp only [List.getElem_toArray, List.getElem_cons_zero, List.getElem_cons_succ, Act.put, List.setIfInBounds_toArray, List.set_cons_zero, List.set_cons_succ])
            refine plan_done (by kernel_rfl) ?_ _
            clear hPT
            obtain ⟨w3, hw3⟩ : ∃ w3, w2.setCell ⟨p, k, none⟩ (.slice (some ⟨g, 0, none⟩) r.length c) = w3 := ⟨_, rfl⟩
            rw [hw3] at HRP ⊢
            clear hw3 z2 z3 b1 f1
            obtain ⟨n, hn⟩ : ∃ n, k = o + n := ⟨k - o, by omega⟩
            subst hn
            have hlE : lendE fr o = 0 := by unfold lendE; rw [HBT.out, if_neg (by simp), Int.toNat_natCast, HK.out, if_neg (by omega)]
            have hlA : lendAt fr o = a := by unfold lendAt; rw [if_pos hlE, Int.toNat_natCast, HK.out, HE.out]; rfl
            have HR := hide (show lendE fr o = 0 ∧ lendAt fr o = a ∧ lendF fr o = splitF (upd fr (o + n) r) a n o ∧ lendL fr ln o = upd ln a (some o) from ⟨hlE, hlA, by unfold lendF; rw [if_pos hlE, hlA, Int.toNat_natCast, HK.out, HE.out, Nat.add_sub_cancel_left]; rfl, by unfold lendL; rw [if_pos hlE, hlA, Int.toNat_natCast]⟩)
            clear hlE hlA
            have ha64 := (HTK.out.hal _ (List.mem_singleton.2 rfl)).2.2
            simp only at ha64
            go_wp2_with fail
            go_loopw [6] (fun s6 wr => ∃ (n : Nat) (f : Nat → List Nat), s6 = .int .i64 ((o + n : Nat) : Int) ∧ o + n ≤ 6 ∧ Hid (BudIs wr p S f ln m) ∧ Hid (Bud f ln [(a, o + n)]) ∧ Hid (splitF f a n o = lendF fr o) ∧ Hid (Kp S w wr)) (fun s6 _ => (intOf s6).toNat - o)
            case atStart => exact ⟨n, _, rfl, hk6, HRP.out.1, HTK.out, HR.out.2.2.1.symm, HRP.out.2⟩
            case round =>
              obtain ⟨n, f, rfl, hn6, hf, hbud, hsp, hkw⟩ := hrel
              rcases n with _ | q
              · have HF := hide (show f = lendF fr o from hsp.out)
                obtain ⟨hp, vf2, bm2, h2, hbm2, hvS2⟩ := hf.out
                have c7 := h2.cellM
                obtain ⟨w4, hr, hmap, hk4⟩ := h2.map.put a o (by omega) (by omega) (by omega)
                have HLD := hide hbud.out.lend.2
                have HB4 := hide (show BudIs w4 p S f (upd ln a (some o)) (m + 1) from ⟨hp, vf2, bm2, ⟨h2.blk.kp hk4 (Ne.symm h2.mapNe), fun k hk => own_kp (h2.own k hk) hk4 fun b hb e => by unfold At at e; subst e; exact h2.mapNeRow hk hb, h2.ap, hmap⟩, hbm2, hvS2⟩)
                have HK4 := hide (hkw.out.trans' hk4 fun b _ e => by unfold At at e; subst e; exact hbm2)
                simp only [Nat.add_zero]
                clear h2 hp hbm2 hvS2 hmap hk4 hf hbud hsp hkw
                go_wp2
                go_ret2
                refine ⟨by rw [HR.out.1, HR.out.2.1]; rfl, ?_, HK4.out⟩
                rw [← HF.out, HR.out.2.2.2]
                exact HB4.out
              · obtain ⟨j, hj⟩ : ∃ j, o + q = j := ⟨_, rfl⟩
                have hj1 : o + (q + 1) = j + 1 := by omega
                rw [hj1] at hbud
                have HSP := hide (show splitF (upd f j (putN (f j) (a + 2 ^ j))) a q o = lendF fr o by have := hsp.out; simp only [splitF] at this; rw [hj] at this; exact this)
                have HBN := hide hbud.out.split
                have hoj : (o : Int) < (j : Int) + 1 := by omega
                have hj5 : j ≤ 5 := by omega
                have hws := hkw.out.size
                have HPUT := hide (bput_any j (a + 2 ^ j) wr hf.out (by omega) (by have : 2 ^ j ≤ 2 ^ 6 := Nat.pow_le_pow_right (by decide) (by omega); omega) (hbud.out.rising j) (hbud.out.len (by omega)) fun b hb => HS.out b (by omega))
                rw [hj1]
                clear hsp hj1
                have hsh := shl64 (a := a) (j := j) (by omega) (by omega)
                go_wp2_with fail
                rw [hsh]
                refine Calls.mono HPUT.out ?_
                rintro e w5 ⟨rfl, hf5, hk5⟩
                have HF5 := hide hf5
                have HK5 := hide (hkw.out.trans hk5)
                clear hf5 hk5 hsh
                go_wp2_with fail
                go_roundw
                case rel => exact ⟨q, _, by (try rw [hj]); (try go_num), by omega, HF5.out, by rw [hj]; exact HBN.out, HSP.out, HK5.out⟩
                case measure => (simp [intOf]; try omega)
end Go.Proofs.YtibdddkcjijlaaaDoor
