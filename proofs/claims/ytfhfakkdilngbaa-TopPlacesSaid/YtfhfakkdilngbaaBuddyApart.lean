/- The law BuddyApart, walked: of all steps. -/
import Derived.Test.YtfhfakkdilngbaaBuddyFact
namespace Go.Proofs.Ytfhfakkdilngbaa
open Go.RowKit
set_option linter.unusedSimpArgs false

/-- free blocks of the orders below one -/
def flatTo (fr : Nat → List Nat) (k : Nat) : List (Nat × Nat) := (List.range k).flatMap fun j => (fr j).map fun a => (a, j)
theorem flatTo_succ (fr : Nat → List Nat) (k : Nat) : flatTo fr (k + 1) = flatTo fr k ++ (fr k).map fun a => (a, k) := by
  unfold flatTo; rw [List.range_succ, List.flatMap_append]; simp
/-- blocks so far: those that are lent, free ones of the orders below one, and so many of it -/
def blks (fr : Nat → List Nat) (ln : Nat → Option Nat) (k i : Nat) : List (Nat × Nat) := lentL ln ++ (flatTo fr k ++ ((fr k).take i).map fun a => (a, k))
theorem blks_start (fr : Nat → List Nat) (ln : Nat → Option Nat) : blks fr ln 0 0 = lentL ln := by simp [blks, flatTo]
theorem blks_step {fr : Nat → List Nat} (ln : Nat → Option Nat) {k i : Nat} (h : i < (fr k).length) : blks fr ln k (i + 1) = blks fr ln k i ++ [((fr k)[i], k)] := by
  unfold blks; rw [List.take_succ_eq_append_getElem h, List.map_append]; simp only [List.append_assoc]; rfl
theorem blks_next (fr : Nat → List Nat) (ln : Nat → Option Nat) (k : Nat) : blks fr ln k (fr k).length = blks fr ln (k + 1) 0 := by
  unfold blks; rw [flatTo_succ]; simp
theorem cH_append (a b : List (Nat × Nat)) (p : Nat) : cH (a ++ b) p = cH a p + cH b p := by unfold cH; rw [List.countP_append]
theorem cH_lentTo (ln : Nat → Option Nat) (p : Nat) : ∀ k, cH (lentTo ln k) p = (List.range k).countP (lnc ln p)
  | 0 => rfl
  | k + 1 => by
    rw [List.range_succ, List.countP_append, ← cH_lentTo ln p k]
    cases h : ln k with
    | none => rw [lentTo_none h]; simp [lnc, h]
    | some o => rw [lentTo_some h, cH_append, cH_one]; simp [lnc, h, n1, List.countP_cons]
theorem cH_flatTo (fr : Nat → List Nat) (p : Nat) : ∀ k, cH (flatTo fr k) p = ((List.range k).map fun j => (fr j).countP fun a => cov p a j).sum
  | 0 => rfl
  | k + 1 => by
    rw [flatTo_succ, cH_append, cH_flatTo fr p k, List.range_succ, List.map_append, List.sum_append]
    unfold cH
    rw [List.countP_map]
    simp [Function.comp_def]
theorem blks_cover {fr : Nat → List Nat} {ln : Nat → Option Nat} (H : Bud fr ln []) {p : Nat} (hp : p < 64) : cH (blks fr ln 7 0) p = 1 := by
  have h := H.cover p hp
  unfold blks
  rw [cH_append, cH_append, cH_flatTo]
  unfold lentL
  rw [cH_lentTo]
  rw [cH_nil] at h
  unfold cF cL at h
  simp only [List.take_zero, List.map_nil, cH_nil]
  omega
theorem blks_all {fr : Nat → List Nat} {ln : Nat → Option Nat} (H : Bud fr ln []) : ∀ b ∈ blks fr ln 7 0, b.2 ≤ 6 ∧ b.1 % 2 ^ b.2 = 0 ∧ b.1 < 64 ∧ b.1 + 2 ^ b.2 ≤ 64 := by
  intro b hb
  unfold blks at hb
  simp only [List.take_zero, List.map_nil, List.append_nil] at hb
  rcases List.mem_append.1 hb with hb | hb
  · have h1 := (mem_lentTo.1 hb).2
    obtain ⟨h2, h3, h4⟩ := H.lal _ _ h1
    exact ⟨h2, h3, h4, al_top _ h2 _ h4 h3⟩
  · unfold flatTo at hb
    obtain ⟨j, hj, hb⟩ := List.mem_flatMap.1 hb
    obtain ⟨a, ha, rfl⟩ := List.mem_map.1 hb
    have hj6 : j ≤ 6 := by have := List.mem_range.1 hj; omega
    obtain ⟨h3, h4⟩ := H.fal j hj6 a ha
    exact ⟨hj6, h3, h4, al_top _ hj6 _ h4 h3⟩
theorem blks_len {fr : Nat → List Nat} {ln : Nat → Option Nat} (H : Bud fr ln []) {k i : Nat} (hk : k ≤ 6 ∨ k = 7 ∧ i = 0) : (blks fr ln k i).length ≤ 576 := by
  have hf : ∀ k, k ≤ 7 → (flatTo fr k).length ≤ 64 * k := by
    intro k
    induction k with
    | zero => intro _; simp [flatTo]
    | succ k ih => intro h; rw [flatTo_succ, List.length_append, List.length_map]; have := ih (by omega); have := H.len (show k ≤ 6 by omega); omega
  have h1 := hf k (by omega)
  have h2 := lentTo_len ln 64
  unfold blks lentL
  simp only [List.length_append, List.length_map, List.length_take]
  rcases hk with h7 | ⟨rfl, rfl⟩
  · have := H.len h7; omega
  · omega
/-- two halves of one block are not both free -/
theorem not_halves {fr : Nat → List Nat} {ln : Nat → Option Nat} (H : Bud fr ln []) {k i j : Nat} (hk : k ≤ 6) (hi : i < (fr k).length) (hj : j < (fr k).length) (he : (fr k)[i] = (fr k)[j] + 2 ^ k) : ¬ (fr k)[j] % 2 ^ (k + 1) = 0 := by
  intro hm
  have h1 := H.fal k hk _ (List.getElem_mem hj)
  have h2 := H.fal k hk _ (List.getElem_mem hi)
  by_cases h6 : k = 6
  · subst h6; omega
  · obtain ⟨_, _, _, _, g5⟩ := al_half k (by omega) _ h1.2 hm
    have := H.apart k (by omega) _ (List.getElem_mem hj)
    rw [g5, ← he] at this
    exact this (List.getElem_mem hi)

theorem pow2_q (i : Nat) (hi : i < 62) (w : World) : Calls Try.prog 21 #[.int .i64 (i : Int)] w fun e w' => e = .returned (.int .i64 ((2 ^ i : Nat) : Int)) ∧ ∃ n, w' = w.drewN n :=
  (pow2_any i hi w).mono fun _ _ h => ⟨h.1, 0, h.2.symm⟩
theorem in_q (n lo hi : Int) (h : btw n lo hi = true) (w : World) : Calls Try.prog 15 #[.int .i64 n, .int .i64 lo, .int .i64 hi] w fun e w' => e = .returned (.bool true) ∧ ∃ n, w' = w.drewN n :=
  (in_any n lo hi w).mono fun _ _ h' => ⟨h'.1.trans (ret_bool h), 0, h'.2.symm⟩
theorem mod_ne {x P : Nat} (h : ¬ x % P = 0) : ((x : Int) % (P : Int) == 0) = false := by
  rw [beq_eq_false_iff_ne]; omega
theorem mod_eq {x P : Nat} (h : x % P = 0) : (x : Int) % (P : Int) = 0 := by omega
/-- a row of sixty-four numbers -/
def row64 (g : Nat → Nat) : List Int := (List.range 64).map fun p => (g p : Int)
theorem row64_length (g : Nat → Nat) : (row64 g).length = 64 := by simp [row64]
theorem row64_get (g : Nat → Nat) {p : Nat} (h : p < 64) : (row64 g)[p]'(by rw [row64_length]; exact h) = (g p : Int) := by simp [row64]
theorem row64_set (g : Nat → Nat) {p : Nat} (n : Nat) : (row64 g).set p (n : Int) = row64 (upd g p n) := by
  apply List.ext_getElem
  · rw [List.length_set, row64_length, row64_length]
  · intro i h1 h2
    rw [List.getElem_set, row64_get _ (by simpa [row64_length] using h2), row64_get _ (by simpa [row64_length] using h2)]
    unfold upd
    split
    · rename_i e; rw [if_pos e.symm]
    · rename_i e; rw [if_neg (Ne.symm e)]
theorem row64_zero : List.replicate 64 (0 : Int) = row64 fun _ => 0 := by decide
theorem row64_put {w : World} {g : Nat} {f : Nat → Nat} (h : w.ownsRow g 3 1 (.slice (some ⟨g, 0, none⟩) 64 64) 64 (iv (row64 f))) {q : Nat} (hq : q < 64) (n : Nat) :
    (w.setCell ⟨g, q, none⟩ (.int .i64 (n : Int))).ownsRow g 3 1 (.slice (some ⟨g, 0, none⟩) 64 64) 64 (iv (row64 (upd f q n))) ∧ w.cell? ⟨g, q, none⟩ = some (.int .i64 (f q : Int)) ∧ w.frozen? ⟨g, q, none⟩ = false := by
  obtain ⟨g', c, hv, _, _, d5, f5, _, hg5, hset⟩ := own_int h (k := q) (by rw [row64_length]; omega)
  injection hv with hv1 hv2 hv3
  injection hv1 with hv1
  injection hv1 with hv1
  subst hv1
  rw [row64_get _ hq] at d5
  have := hset (n : Int)
  rw [row64_set] at this
  exact ⟨this, d5, f5⟩
theorem cH_le (h : List (Nat × Nat)) (p : Nat) : cH h p ≤ h.length := List.countP_le_length
/-- how often a place was met: in so many blocks, and in the first places of one more -/
def gq (B : List (Nat × Nat)) (i a q : Nat) (p : Nat) : Nat := cH (B.take i) p + n1 (decide (a ≤ p ∧ p < q))
theorem gq_start (B : List (Nat × Nat)) (i a : Nat) : gq B i a a = cH (B.take i) := by
  funext p; unfold gq n1; rw [if_neg (by simp), Nat.add_zero]
theorem gq_step (B : List (Nat × Nat)) (i : Nat) {a q : Nat} (h : a ≤ q) : upd (gq B i a q) q (gq B i a q q + 1) = gq B i a (q + 1) := by
  funext p
  unfold upd
  split
  · rename_i e; subst e
    unfold gq n1
    rw [if_neg (by simp), if_pos (by simp [h])]
  · rename_i e
    unfold gq n1
    by_cases h1 : a ≤ p ∧ p < q
    · rw [if_pos (by simpa using h1), if_pos (by simp; omega)]
    · rw [if_neg (by simpa using h1), if_neg (by simp; omega)]
theorem gq_end {B : List (Nat × Nat)} {i : Nat} (h : i < B.length) : gq B i (B[i]).1 ((B[i]).1 + 2 ^ (B[i]).2) = cH (B.take (i + 1)) := by
  funext p
  rw [List.take_succ_eq_append_getElem h, cH_append]
  unfold gq
  rw [show cH [B[i]] p = n1 (cov p (B[i]).1 (B[i]).2) from cH_one _ _ _]
  rfl

set_option maxRecDepth 100000 in
set_option maxHeartbeats 16000000 in
theorem buddyApart_any {F : Nat → Prop} (v : Value) (steps : List Int) (w : World) (hv : IntsIn w F v steps) (hr : ∀ x ∈ steps, -9223372036854775808 ≤ x ∧ x ≤ 9223372036854775807) :
    Calls Try.prog 5 #[v] w fun e w' => e = .returned (.bool true) ∧ Kp No w w' := by
  have HV := hide hv
  have HR := hide hr
  have hmk : ∀ w, (Instr.makeSlice 22 (.int .i64 64) (.int .i64 64)).run Try.prog w = .ok (.slice (some ⟨w.heap.size, 0, none⟩) 64 64) (w.alloc (.cells (madeCells #[.int .i64 0] 64) 3)) := fun _ => by kernel_rfl
  clear hv hr
  go_enter Try.func5, Try.ntmps5
  go_wp2_with fail
  refine Calls.mono (buddyFact_any _) ?_
  rintro e w1 ⟨rfl, hk1⟩
  have HK1 := hide hk1
  clear hk1
  go_wp2_with fail
  refine Calls.mono (lent_any v steps w1 (HV.out.no HK1.out) HR.out) ?_
  rintro e w2 ⟨p, m, rfl, hm, hf2, hk2⟩
  have HL := hide (bud_all steps)
  obtain ⟨bs, hbs⟩ : ∃ bs, budAll steps = bs := ⟨_, rfl⟩
  rw [hbs] at HL hf2
  clear hbs
  obtain ⟨fr, ln⟩ := bs
  simp only at HL hf2
  have HF2 := hide hf2
  have HK2 := hide (HK1.out.trans hk2)
  clear hf2 hk2
  go_wp2_with fail
  have HO64 := hide (own_made w2 64 w2.heap.size (Nat.le_refl _) (by omega))
  obtain ⟨g5, hg5⟩ : ∃ g, w2.heap.size = g := ⟨_, rfl⟩
  have HG5 := hide hg5
  obtain ⟨w3, hw3⟩ : ∃ w3, w2.alloc (.cells (madeCells #[.int .i64 0] 64) 3) = w3 := ⟨_, rfl⟩
  have HK3 := hide (show Kp No w2 w3 by rw [← hw3]; exact (Kp.refl No w2).alloc _)
  rw [hg5, row64_zero] at HO64
  rw [hw3] at HO64 ⊢
  rw [hg5]
  clear hw3 hg5
  refine Calls.mono (blent_any w3 (HF2.out.no HK3.out) fun a o h => (HL.out.lal a o h).1) ?_
  rintro e w4 ⟨v1, v2, rfl, ht⟩
  have HT0 := hide ht
  obtain ⟨e01, A1, c1, e1, _, _, _⟩ := own_form ht.o1
  obtain ⟨e02, A2, c2, e2, _, _, _⟩ := own_form ht.o2
  clear e01 e02
  rw [iv_length, fsts_length] at e1
  rw [iv_length, snds_length] at e2
  have HSH := hide (blks_start fr ln)
  subst e1 e2
  clear ht
  go_wp2_with fail
  go_loopw [6, 7, 8] (fun s6 s7 s8 wr => ∃ k : Nat, s8 = .int .i64 k ∧ k ≤ 7 ∧ Hid (Two w3.heap.size w3 wr s6 s7 (blks fr ln k 0).length (blks fr ln k 0).length (iv (fsts (blks fr ln k 0))) (iv (snds (blks fr ln k 0))))) (fun _ _ s8 _ => 7 - (intOf s8).toNat)
  case atStart => exact ⟨0, rfl, by omega, by rw [HSH.out]; exact HT0.out⟩
  case round =>
    obtain ⟨k, rfl, hk7, hT⟩ := hrel
    by_cases hk : k ≤ 6
    · have hk6 : (k : Int) ≤ 6 := by omega
      have HT := hide hT.out
      clear hT
      go_wp2_with fail
      refine Calls.mono (bfree_ok k hk wr ((HF2.out.no HK3.out).no HT.out.kp) fun k hk => HL.out.len hk) ?_
      rintro e w5 ⟨v9, rfl, i9, hk9⟩
      obtain ⟨zo, hzo⟩ : ∃ z, wr.heap.size = z := ⟨_, rfl⟩
      have I9 := hide (i9.mono (F' := fun b => zo ≤ b ∧ b < w5.heap.size) fun b h1 h2 => ⟨hzo ▸ h2, h1⟩)
      have HT9 := hide (HT.out.no hk9)
      have HS6 := hide (fun b (e : u6.ownBlock = some b) => show b < zo ∨ w5.heap.size ≤ b from .inl (hzo ▸ (own_lt HT.out.o1 e).2))
      have HS7 := hide (fun b (e : u7.ownBlock = some b) => show b < zo ∨ w5.heap.size ≤ b from .inl (hzo ▸ (own_lt HT.out.o2 e).2))
      have HLK := hide (HL.out.len hk)
      obtain ⟨A9, c9, rfl, hc9, hm9, _⟩ := id i9
      rw [ni_length] at hc9
      rw [ni_length]
      have hl64 := HLK.out
      clear i9 hk9 hzo
      go_wp2_with fail
      go_loopw [6, 7, 10] (fun s6 s7 s10 wq => ∃ i : Nat, s10 = .int .i64 i ∧ i ≤ (fr k).length ∧ Hid (Kp (fun b => b < zo ∨ w5.heap.size ≤ b) w5 wq) ∧ Hid (∀ b, s6.ownBlock = some b → b < zo ∨ w5.heap.size ≤ b) ∧ Hid (∀ b, s7.ownBlock = some b → b < zo ∨ w5.heap.size ≤ b) ∧ Hid (Two w3.heap.size w3 wq s6 s7 (blks fr ln k i).length (blks fr ln k i).length (iv (fsts (blks fr ln k i))) (iv (snds (blks fr ln k i))))) (fun _ _ s10 _ => (fr k).length - (intOf s10).toNat)
      case atStart => exact ⟨0, rfl, Nat.zero_le _, Kp.refl _ _, HS6.out, HS7.out, HT9.out⟩
      case round =>
        obtain ⟨i, rfl, hi, hkq, h6, h7, hT⟩ := hrel
        have HT := hide hT.out
        have HKQ := hide hkq.out
        have hqs := hkq.out.size
        have HS6 := hide h6.out
        have HS7 := hide h7.out
        clear hT hkq h6 h7
        by_cases hlt : i < (fr k).length
        · have hblen : (blks fr ln k i).length ≤ 576 := blks_len HL.out (.inl hk)
          have HNX := hide (blks_step ln hlt)
          obtain ⟨_, _, e, _, _, hcell⟩ := I9.out.kp HKQ.out fun b h1 h2 => by omega
          cases e
          obtain ⟨b9, o9, rfl, _, d9⟩ := hcell i (by rw [ni_length]; exact hlt)
          rw [ni_get hlt] at d9
          have HCELL := hide hcell
          clear hcell
          have HNH := hide (fun j (hj : j < (fr k).length) => not_halves HL.out hk hlt hj)
          have ha64 := (HL.out.fal k hk _ (List.getElem_mem hlt)).2
          have HA64 := hide (fun j (hj : j < (fr k).length) => (HL.out.fal k hk _ (List.getElem_mem hj)).2)
          obtain ⟨a, ha⟩ : ∃ a, (fr k)[i] = a := ⟨_, rfl⟩
          have HAI := hide ha
          rw [ha] at d9 HNX HNH ha64
          clear ha
          obtain ⟨B, hB⟩ : ∃ B, blks fr ln k i = B := ⟨_, rfl⟩
          have HPA := hide (fsts_snoc B (a, k))
          have HPB := hide (snds_snoc B (a, k))
          rw [hB] at HNX HT hblen
          clear hB
          have hwsz := HT.out.kp.size
          have hP1 : 0 < 2 ^ k ∧ 2 ^ k ≤ 64 := ⟨Nat.two_pow_pos k, Nat.le_trans (Nat.pow_le_pow_right (by decide) hk) (by decide)⟩
          have hP2 : 0 < 2 ^ (k + 1) ∧ 2 ^ (k + 1) ≤ 128 := ⟨Nat.two_pow_pos _, Nat.le_trans (Nat.pow_le_pow_right (by decide) (show k + 1 ≤ 7 by omega)) (by decide)⟩
          have HW1 := hide (fun (w : World) => pow2_q k (by omega) w)
          have HW2 := hide (fun (w : World) => pow2_q (k + 1) (by omega) w)
          rw [show (((k + 1 : Nat)) : Int) = (k : Int) + 1 by omega] at HW2
          obtain ⟨P1, hp1⟩ : ∃ P, (2 ^ k : Nat) = P := ⟨_, rfl⟩
          obtain ⟨P2, hp2⟩ : ∃ P, (2 ^ (k + 1) : Nat) = P := ⟨_, rfl⟩
          rw [hp1] at hP1 HW1 HNH
          rw [hp2] at hP2 HW2 HNH
          clear hp1 hp2
          go_wp2_with (first
            | (at_builtin
               refine wpList_push _ rfl (.tmp 43) (.tmp 48) _ rfl w3.heap.size 3 _ 8 Try.underlying22 Try.infoInt rfl u6 B.length (iv (fsts B)) rfl HT.out.o1 _ rfl 1 _ rfl (by simp) (by omega) (by decide) hwsz ?_
               intro g1 c1 w6 ho hgr hat
               have HT2 := hide ((HT.out.alloc rfl).push1 ho hgr (by simpa using hat))
               have HQ2 := hide ((HKQ.out.alloc _).grown hgr fun b e _ => HS6.out b e)
               have HS62 := hide (fun b (e : (Value.slice (some ⟨g1, 0, none⟩) (B.length + 1) c1).ownBlock = some b) => show b < zo ∨ w5.heap.size ≤ b by
                 have e : g1 = b := by simpa [Value.ownBlock] using e
                 rcases hat with h | h
                 · exact HS6.out b (by rw [h, e])
                 · right; omega)
               have hw6 := HT2.out.kp.size
               clear ho hgr hat d9)
            | (at_builtin
               refine wpList_push _ rfl (.tmp 50) (.tmp 52) _ rfl w3.heap.size 3 _ 8 Try.underlying22 Try.infoInt rfl u7 B.length (iv (snds B)) rfl HT2.out.o2 _ rfl 1 _ rfl (by simp) (by omega) (by decide) hw6 ?_
               intro g2 c2 w7 ho hgr hat
               have HT3 := hide ((HT2.out.alloc rfl).push2 ho hgr (by simpa using hat))
               have HQ3 := hide ((HQ2.out.alloc _).grown hgr fun b e _ => HS7.out b e)
               have hq2 := HQ2.out.size
               have HS72 := hide (fun b (e : (Value.slice (some ⟨g2, 0, none⟩) (B.length + 1) c2).ownBlock = some b) => show b < zo ∨ w5.heap.size ≤ b by
                 have e : g2 = b := by simpa [Value.ownBlock] using e
                 rcases hat with h | h
                 · exact HS7.out b (by rw [h, e])
                 · right; omega)
               clear ho hgr hat))
          have HI7 := hide (I9.out.kp HQ3.out fun b h1 h2 => by omega)
          obtain ⟨_, _, e, _, _, hcell⟩ := HI7.out
          cases e
          by_cases h0 : 0 < i
          · obtain ⟨j, hj⟩ : ∃ j, i - 1 = j := ⟨_, rfl⟩
            obtain ⟨b9', o9', e1, _, d9⟩ := hcell i (by rw [ni_length]; exact hlt)
            cases e1
            obtain ⟨b9', o9', e1, _, d8⟩ := hcell j (by rw [ni_length]; omega)
            cases e1
            rw [ni_get hlt, HAI.out] at d9
            rw [ni_get (by omega)] at d8
            have HNJ := hide (HNH.out j (by omega))
            have hx64 := HA64.out j (by omega)
            obtain ⟨x, hx⟩ : ∃ x, (fr k)[j]'(by omega) = x := ⟨_, rfl⟩
            rw [hx] at d8 HNJ hx64
            clear hcell hx
            subst hj
            by_cases he : a = x + P1
            · have hb2 := mod_ne (HNJ.out he)
              have hb3 : ¬ ((x : Int) % (P2 : Int) = 0) := by simpa using hb2
              have hb1 : ((x : Int) + (P1 : Int) - (x : Int) == (P1 : Int)) = true := by rw [beq_iff_eq]; omega
              subst he
              clear HNJ HAI
              go_big_quiet (first
                | (go_at_call 21; with_reducible exact Calls.quiet_of (HW1.out _))
                | (go_at_call 21; with_reducible exact Calls.quiet_of (HW2.out _))) -- M2
              go_wp2
              exact ⟨⟨i + 1, by go_num, hlt, HQ3.out.trans (by (repeat (first | exact Kp.refl _ _ | with_reducible refine Kp.drewN ?_ _ | with_reducible refine Kp.drew ?_ | with_reducible refine Kp.alloc ?_ _ | with_reducible refine Kp.setCell ?_ (fun _ => ?_) _)); all_goals (simp_all; omega)), HS62.out, HS72.out, by rw [HNX.out, HPA.out, HPB.out, iv_snoc, iv_snoc, List.length_append]; exact HT3.out.no (by (repeat (first | exact Kp.refl _ _ | with_reducible refine Kp.drewN ?_ _ | with_reducible refine Kp.drew ?_ | with_reducible refine Kp.alloc ?_ _ | with_reducible refine Kp.setCell ?_ (fun _ => ?_) _)); all_goals (simp_all; omega))⟩, by simp [intOf]; omega⟩
            · have hb1 : ((a : Int) - (x : Int) == (P1 : Int)) = false := by rw [beq_eq_false_iff_ne]; omega
              clear HNJ HAI he
              go_big_quiet ((go_at_call 21; with_reducible exact Calls.quiet_of (HW1.out _))) -- M3
              go_wp2
              exact ⟨⟨i + 1, by go_num, hlt, HQ3.out.trans (by (repeat (first | exact Kp.refl _ _ | with_reducible refine Kp.drewN ?_ _ | with_reducible refine Kp.drew ?_ | with_reducible refine Kp.alloc ?_ _ | with_reducible refine Kp.setCell ?_ (fun _ => ?_) _)); all_goals (simp_all; omega)), HS62.out, HS72.out, by rw [HNX.out, HPA.out, HPB.out, iv_snoc, iv_snoc, List.length_append]; exact HT3.out.no (by (repeat (first | exact Kp.refl _ _ | with_reducible refine Kp.drewN ?_ _ | with_reducible refine Kp.drew ?_ | with_reducible refine Kp.alloc ?_ _ | with_reducible refine Kp.setCell ?_ (fun _ => ?_) _)); all_goals (simp_all; omega))⟩, by simp [intOf]; omega⟩
          · go_quiet (fail)
            go_wp2
            exact ⟨⟨i + 1, by go_num, hlt, HQ3.out.trans (by (repeat (first | exact Kp.refl _ _ | with_reducible refine Kp.drewN ?_ _ | with_reducible refine Kp.drew ?_ | with_reducible refine Kp.alloc ?_ _ | with_reducible refine Kp.setCell ?_ (fun _ => ?_) _)); all_goals (simp_all; omega)), HS62.out, HS72.out, by rw [HNX.out, HPA.out, HPB.out, iv_snoc, iv_snoc, List.length_append]; exact HT3.out.no (by (repeat (first | exact Kp.refl _ _ | with_reducible refine Kp.drewN ?_ _ | with_reducible refine Kp.drew ?_ | with_reducible refine Kp.alloc ?_ _ | with_reducible refine Kp.setCell ?_ (fun _ => ?_) _)); all_goals (simp_all; omega))⟩, by simp [intOf]; omega⟩
        · obtain rfl : i = (fr k).length := by omega
          have HTN := hide HT.out
          rw [blks_next] at HTN
          clear HT
          go_wp2_with fail
          go_roundw
          case rel => exact ⟨k + 1, by go_num, by omega, HTN.out⟩
          case measure => (simp [intOf]; omega)
    · obtain rfl : k = 7 := by omega
      have HT := hide hT.out
      have HKR := hide (show Kp No w2 wr from HK3.out.trans HT.out.kp)
      have HROW := hide (own_kp HO64.out HT.out.kp fun _ _ h => h)
      have hgs : g5 < w3.heap.size := by have := (own_lt HO64.out (g := g5) rfl).2; exact this
      have HI1 := hide (show IntsIn wr (fun b => b ≠ g5) u6 (fsts (blks fr ln 7 0)) from .of_own HT.out.o1 fun b hb => by have := (own_lt HT.out.o1 hb).1; omega)
      have HI2 := hide (show IntsIn wr (fun b => b ≠ g5) u7 (snds (blks fr ln 7 0)) from .of_own HT.out.o2 fun b hb => by have := (own_lt HT.out.o2 hb).1; omega)
      have HBL := hide (blks_len HL.out (k := 7) (i := 0) (.inr ⟨rfl, rfl⟩))
      have HBA := hide (blks_all HL.out)
      have HBC := hide (fun p (hp : p < 64) => blks_cover HL.out hp)
      obtain ⟨B, hB⟩ : ∃ B, blks fr ln 7 0 = B := ⟨_, rfl⟩
      rw [hB] at HI1 HI2 HBL HBA HBC
      have HZ := hide (show iv (row64 fun _ => 0) = iv (row64 (cH (B.take 0))) from rfl)
      rw [HZ.out] at HROW
      have hbl := HBL.out
      obtain ⟨A6, c6, rfl, hc6, hm6, _⟩ := id HI1.out
      obtain ⟨A7, c7, rfl, hc7, hm7, _⟩ := id HI2.out
      rw [fsts_length] at hc6
      rw [snds_length] at hc7
      simp only [fsts_length, snds_length]
      clear hB hT HT HZ hk7 hk
      go_wp2_with fail
      go_loopw [11] (fun s11 wq => ∃ i : Nat, s11 = .int .i64 i ∧ i ≤ B.length ∧ Hid (Kp (At g5) wr wq) ∧ Hid (wq.ownsRow g5 3 1 (.slice (some ⟨g5, 0, none⟩) 64 64) 64 (iv (row64 (cH (B.take i)))))) (fun s11 _ => B.length - (intOf s11).toNat)
      case atStart => exact ⟨0, rfl, Nat.zero_le _, Kp.refl _ _, HROW.out⟩
      case round =>
        obtain ⟨i, rfl, hi, hkq, ho⟩ := hrel
        have HKQ := hide hkq.out
        have HO := hide ho.out
        clear hkq ho
        by_cases hlt : i < B.length
        · obtain ⟨_, _, e, _, _, hcell⟩ := HI1.out.kp HKQ.out fun b h1 h2 => h1 h2
          cases e
          obtain ⟨b6, o6, rfl, hb6, d6⟩ := hcell i (by rw [fsts_length]; exact hlt)
          clear hcell
          obtain ⟨_, _, e, _, _, hcell⟩ := HI2.out.kp HKQ.out fun b h1 h2 => h1 h2
          cases e
          obtain ⟨b7, o7, rfl, hb7, d7⟩ := hcell i (by rw [snds_length]; exact hlt)
          clear hcell
          simp only [fsts, snds, List.getElem_map] at d6 d7
          obtain ⟨ho6, hal, ha64, haP⟩ := HBA.out _ (List.getElem_mem hlt)
          have HEND := hide (gq_end hlt)
          obtain ⟨a, ha⟩ : ∃ a, (B[i]).1 = a := ⟨_, rfl⟩
          obtain ⟨o, hoo⟩ : ∃ o, (B[i]).2 = o := ⟨_, rfl⟩
          rw [ha] at d6 hal ha64 haP HEND
          rw [hoo] at d7 ho6 hal haP HEND
          have HBT1 := hide (show btw (o : Int) 0 6 = true from btw_iff.2 ⟨by omega, by omega⟩)
          have HBT2 := hide (show btw (a : Int) 0 63 = true from btw_iff.2 ⟨by omega, by omega⟩)
          have HW1 := hide (fun (w : World) => pow2_q o (by omega) w)
          have HIN1 := hide (fun (w : World) => in_q (o : Int) 0 6 HBT1.out w)
          have HIN2 := hide (fun (w : World) => in_q (a : Int) 0 63 HBT2.out w)
          have hP1 : 0 < 2 ^ o ∧ 2 ^ o ≤ 64 := ⟨Nat.two_pow_pos o, Nat.le_trans (Nat.pow_le_pow_right (by decide) ho6) (by decide)⟩
          have hmod := mod_eq hal
          obtain ⟨P1, hp1⟩ : ∃ P, (2 ^ o : Nat) = P := ⟨_, rfl⟩
          rw [hp1] at hal haP HEND HW1 hP1 hmod
          have HG0 := hide (gq_start B i a)
          have HD6 := hide d6
          have HD7 := hide d7
          clear ha hoo hp1 hal
          go_wp2_with fail
          go_big_quiet (first
            | (go_at_call 15; with_reducible exact Calls.quiet_of (HIN1.out _))
            | (go_at_call 15; with_reducible exact Calls.quiet_of (HIN2.out _))
            | (go_at_call 21; with_reducible exact Calls.quiet_of (HW1.out _))) -- M4
          go_wp2_with fail
          have HOQ := hide (own_kp HO.out ((Kp.refl No wr).drewN nq) fun _ _ h => h)
          have HKN := hide (HKQ.out.trans ((Kp.refl No wr).drewN nq).of_no)
          rw [← HG0.out] at HOQ
          obtain ⟨wz, hwz⟩ : ∃ wz, wr.drewN nq = wz := ⟨_, rfl⟩
          have HKZ := hide (show Kp No wr wz by rw [← hwz]; exact (Kp.refl No wr).drewN _)
          rw [hwz] at HOQ HKN ⊢
          clear hwz d6 d7
          go_loopw [12] (fun s12 wq => ∃ q : Nat, s12 = .int .i64 q ∧ a ≤ q ∧ q ≤ a + P1 ∧ Hid (Kp (At g5) wz wq) ∧ Hid (wq.ownsRow g5 3 1 (.slice (some ⟨g5, 0, none⟩) 64 64) 64 (iv (row64 (gq B i a q))))) (fun s12 _ => 200 - (intOf s12).toNat)
          case atStart => exact ⟨a, rfl, Nat.le_refl _, by omega, Kp.refl _ _, HOQ.out⟩
          case round =>
            obtain ⟨q, rfl, hq1, hq2, hkq, ho⟩ := hrel
            have HKQ2 := hide hkq.out
            have HO2 := hide ho.out
            have d6 := (HKZ.out.of_no.trans HKQ2.out).cell HD6.out (by unfold At; exact hb6)
            have d7 := (HKZ.out.of_no.trans HKQ2.out).cell HD7.out (by unfold At; exact hb7)
            clear hkq ho
            by_cases hqe : q < a + P1
            · have hq64 : q < 64 := by omega
              have HPUT := hide (fun nq : Nat => row64_put (own_kp HO2.out ((Kp.refl No wr).drewN nq) fun _ _ h => h) hq64 (gq B i a q q + 1))
              obtain ⟨_, d5, f5⟩ := row64_put HO2.out hq64 0
              have hg5 := (own_lt HO2.out (g := g5) rfl).2
              rw [gq_step B i hq1] at HPUT
              have hgb : gq B i a q q ≤ 577 := by
                have h1 := cH_le (B.take i) q
                rw [List.length_take] at h1
                unfold gq n1
                split <;> omega
              obtain ⟨G, hG⟩ : ∃ G, gq B i a q q = G := ⟨_, rfl⟩
              rw [hG] at d5 HPUT hgb
              have hqi : (q : Int) < (a : Int) + (P1 : Int) := by omega
              clear hG
              go_wp2_with fail
              go_big_quiet ((go_at_call 21; with_reducible exact Calls.quiet_of (HW1.out _))) -- M5
              have HPQ := hide (HPUT.out nq).1
              clear HPUT
              go_wp2_with fail
              go_roundw
              case rel => exact ⟨q + 1, by go_num, by omega, by omega, (HKQ2.out.trans ((Kp.refl No wr).drewN nq).of_no).setCell (p := ⟨g5, q, none⟩) (fun _ => rfl) _, HPQ.out⟩
              case measure => (simp [intOf]; omega)
            · obtain rfl : q = a + P1 := by omega
              have HO3 := hide HO2.out
              rw [HEND.out] at HO3
              clear HO2
              have hqi : ¬ (((a + P1 : Nat) : Int) < (a : Int) + (P1 : Int)) := by omega
              go_wp2_with fail
              go_big_quiet ((go_at_call 21; with_reducible exact Calls.quiet_of (HW1.out _))) -- M6
              go_wp2
              exact ⟨⟨i + 1, by go_num, hlt, (HKN.out.trans HKQ2.out).trans ((Kp.refl No wr).drewN nq).of_no, own_kp HO3.out ((Kp.refl No wr).drewN nq) fun _ _ h => h⟩, by simp [intOf]; omega⟩
        · obtain rfl : i = B.length := by omega
          rw [List.take_length] at HO
          clear hlt
          go_wp2_with fail
          go_loopw [13] (fun s13 wq => ∃ q : Nat, s13 = .int .i64 q ∧ q ≤ 64 ∧ wq = wr) (fun s13 _ => 64 - (intOf s13).toNat)
          case atStart => exact ⟨0, rfl, by omega, rfl⟩
          case round =>
            obtain ⟨q, rfl, hq, rfl⟩ := hrel
            by_cases hqe : q < 64
            · obtain ⟨_, d5, f5⟩ := row64_put HO.out hqe 0
              have hg5 := (own_lt HO.out (g := g5) rfl).2
              rw [HBC.out q hqe] at d5
              go_wp2
              go_roundw
              case rel => exact ⟨q + 1, by go_num, hqe, trivial⟩
              case measure => (simp [intOf]; omega)
            · obtain rfl : q = 64 := by omega
              go_wp2
              go_ret
              refine ⟨rfl, ?_⟩
              have k : Kp (fun b => w.heap.size ≤ b) w wr := (HK2.out.trans HKR.out).of_no.trans (HKQ.out.mono fun b _ h => by unfold At at h; have h1 := HK2.out.size; have h2 := HG5.out; omega)
              exact k.mono fun b hb h => by omega
end Go.Proofs.Ytfhfakkdilngbaa
