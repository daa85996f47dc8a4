/- bloom, walked: a filter of 64 bits and two hashes: New, Add, Has. -/
import Derived.Test.YtjapcoonaabdnaaHash
namespace Go.Proofs.Ytjapcoonaabdnaa
open Go.RowKit
set_option linter.unusedSimpArgs false

/-- bools as values -/
def bw (bs : List Bool) : List Value := bs.map Value.bool
theorem bw_length (bs : List Bool) : (bw bs).length = bs.length := by simp [bw]
theorem bw_set (bs : List Bool) (k : Nat) (b : Bool) : bw (bs.set k b) = (bw bs).set k (.bool b) := by simp [bw, List.map_set]
theorem bw_get {bs : List Bool} {k : Nat} (h : k < bs.length) : (bw bs)[k]'(by rw [bw_length]; exact h) = .bool bs[k] := by simp [bw]
theorem Try.infoBoo : (Try.prog.info? 4).map (fun i => (i.zero, i.size, i.bytes)) = some (some (.bool false), 1, 1) := by kernel_rfl

theorem blk_at' {w : World} {g : Nat} (t : TypeId) (cs : Array Value) (h : w.heap.size = g) : Blk (w.alloc (.cells cs t)) g t cs := by subst h; exact Blk.new w t cs

theorem ownK_d {w : World} {base : Nat} {e : TypeId} {K n : Nat} {v : Value} {us : List Value} (h : w.ownsRow base e K v n us) : w.drew.ownsRow base e K v n us := h
theorem kp_c (w : World) (g k : Nat) (u : Value) : Kp (At g) w (w.setCell ⟨g, k, none⟩ u) := Kp.setCell (S := At g) (p := ⟨g, k, none⟩) (Kp.refl _ w) (fun _ => rfl) u
/-- a filter at block p -/
structure FlAt (w : World) (p : Nat) (v : Value) (bits : List Bool) : Prop where
  blk : Blk w p 68 #[v, .int .i64 2]
  own : w.ownsRow 0 4 1 v 64 (bw bits)
  len : bits.length = 64
theorem FlAt.kp {S : Nat → Prop} {w w' : World} {p : Nat} {v : Value} {bits : List Bool} (h : FlAt w p v bits) (hk : Kp S w w') (hp : ¬ S p) (hv : ∀ b, v.ownBlock = some b → ¬ S b) : FlAt w' p v bits := ⟨h.blk.kp hk hp, own_kp h.own hk hv, h.len⟩

/-- the bits of a key are set -/
def addBits (bits : List Bool) (key : Nat) : List Bool := (bits.set (hashN key 0 64) true).set (hashN key 1 64) true
def hasBits (bits : List Bool) (key : Nat) : Bool := bits.getD (hashN key 0 64) false && bits.getD (hashN key 1 64) false

set_option maxRecDepth 100000 in
set_option maxHeartbeats 2000000 in
theorem bnew_any (w : World) : Calls Try.prog 10 #[.int .i64 64, .int .i64 2] w fun e w' => ∃ p v, e = .returned (.tuple #[.pointer (some ⟨p, 0, none⟩), .nilIface]) ∧ FlAt w' p v (List.replicate 64 false) ∧ w.heap.size ≤ p ∧ (∀ b, v.ownBlock = some b → w.heap.size ≤ b) ∧ Kp No w w' := by
  have hmk := run_make_row' (P := Try.prog) 66 4 (.bool false) 1 Try.underlying66 Try.infoBoo rfl .i64 .i64 64 (by omega) (by omega)
  rw [show ((64 : Nat) : Int) = 64 from rfl] at hmk
  have H1 := hide (show btw 64 1 128 = true by decide)
  have H2 := hide (show btw 2 1 4 = true by decide)
  go_enter Try.func10, Try.ntmps10
  go_wp2_with fail
  refine Calls.mono (within_any _ _ _ _) ?_
  rw [H1.out]
  rintro e w1 ⟨rfl, rfl⟩
  go_wp2_with fail
  refine Calls.mono (within_any _ _ _ _) ?_
  rw [H2.out]
  rintro e w1 ⟨rfl, rfl⟩
  go_wp2_with fail
  refine bodyPost_ret (v := .tuple #[.pointer (some ⟨w.heap.size + 1, 0, none⟩), .nilIface]) (by simp [results, Try.results10, go_sem]) rfl ⟨_, .slice (some ⟨w.heap.size, 0, none⟩) 64 64, rfl, ⟨blk_at' _ _ (by simp), ?_, by simp⟩, by omega, fun b hb => by simp [Value.ownBlock] at hb; omega, ((Kp.refl No w).alloc _).alloc _⟩
  have := (own_new w (bw (List.replicate 64 false)) (madeCells #[.bool false] 64) 4 0 (by omega) (by simp [bw]) (by rw [toList_madeCells_one]; simp [bw])).alloc (.cells #[.slice (some ⟨w.heap.size, 0, none⟩) 64 64, .int .i64 2] 68)
  simpa [bw_length] using this

theorem own_boo {w : World} {base : Nat} {v : Value} {n : Nat} {xs : List Bool} (h : w.ownsRow base 4 1 v n (bw xs)) {k : Nat} (hk : k < xs.length) :
    ∃ g c, v = .slice (some ⟨g, 0, none⟩) xs.length c ∧ xs.length ≤ c ∧ c ≤ 9223372036854775807 ∧ w.cell? ⟨g, k, none⟩ = some (.bool xs[k]) ∧ w.frozen? ⟨g, k, none⟩ = false ∧ g < w.heap.size ∧
      ∀ x, (w.setCell ⟨g, k, none⟩ (.bool x)).ownsRow base 4 1 v n (bw (xs.set k x)) := by
  have hk' : k < (bw xs).length := by rw [bw_length]; exact hk
  obtain ⟨g, c, hv, h1, h2, h3, h4, h5, h6⟩ := own_cap h hk'
  have hn : n = xs.length := by have := h.1; rw [bw_length] at this; omega
  rw [bw_length] at hv h1
  rw [bw_get hk] at h3
  refine ⟨g, c, hv, h1, h2, h3, h4, h6, fun x => ?_⟩
  rw [bw_set]
  exact own_set h (by rw [hv]; rfl) k (by omega) _

theorem bcheck_any (key : Nat) (hk : key ≤ 1000000) (w : World) : Calls Try.prog 33 #[.int .i64 key] w fun e w' => e = .returned .nilIface ∧ w = w' := by
  have H1 := hide (show btw (key : Int) 0 1000000 = true from btw_iff.2 ⟨by omega, by omega⟩)
  go_enter Try.func33, Try.ntmps33
  go_wp2_with fail
  refine Calls.mono (within_any _ _ _ _) ?_
  rw [H1.out]
  rintro e w1 ⟨rfl, rfl⟩
  go_wp2
  go_ret
  exact ⟨rfl, rfl⟩

set_option maxRecDepth 100000 in
set_option maxHeartbeats 4000000 in
theorem badd_any {p : Nat} {v : Value} {bits : List Bool} (key : Nat) (hk : key ≤ 1000000) (w : World) (h : FlAt w p v bits) :
    Calls Try.prog 15 #[.pointer (some ⟨p, 0, none⟩), .int .i64 key] w fun e w' => e = .returned .nilIface ∧ FlAt w' p v (addBits bits key) ∧ Kp (fun b => v.ownBlock = some b) w w' := by
  have H := hide h
  have hl := h.len
  have h0 : hashN key 0 64 < bits.length := by rw [hl]; exact hashN_lt _ _ (by decide)
  obtain ⟨g, c, hv, hc, hm, _⟩ := own_boo h.own h0
  rw [hl] at hv hc
  subst hv
  have hne := own_ne_blk H.out.own H.out.blk (by decide)
  have hpg : p ≠ g := fun e => hne (by rw [e]; rfl)
  clear h hl
  go_enter Try.func15, Try.ntmps15
  go_wp2_with fail
  refine Calls.mono (bcheck_any key hk _) ?_
  rintro e w1 ⟨rfl, rfl⟩
  obtain ⟨b1, b2, b3, b4, b5⟩ := H.out.blk.a2
  go_wp2_with fail
  go_loopw [16] (fun q wr => ∃ k : Nat, q = .int .i64 k ∧ k ≤ 2 ∧ Hid (FlAt wr p (.slice (some ⟨g, 0, none⟩) 64 c) (if k = 0 then bits else if k = 1 then bits.set (hashN key 0 64) true else addBits bits key)) ∧ Hid (Kp (At g) w wr)) (fun q _ => 2 - (intOf q).toNat)
  case atStart => exact ⟨0, rfl, by decide, H.out, Kp.refl _ _⟩
  case round =>
    obtain ⟨k, rfl, hk2, hf, hkp⟩ := hrel
    obtain ⟨b1, b2, b3, b4, b5⟩ := hf.out.blk.a2
    have hcase : k = 0 ∨ k = 1 ∨ k = 2 := by omega
    rcases hcase with rfl | rfl | rfl
    case' inl =>
      rw [show ((0 : Nat) : Int) = 0 from rfl]
      have HN := hide (fun w => hash_any key 0 64 w hk (by decide) (by decide) (by decide))
      have hlt := hashN_lt key 0 (below := 64) (by decide)
      obtain ⟨m, hm0⟩ : ∃ m, hashN key 0 64 = m := ⟨_, rfl⟩
      have HNX := hide (show (if (0 + 1 : Nat) = 0 then bits else if (0 + 1 : Nat) = 1 then bits.set (hashN key 0 64) true else addBits bits key) = (if (0 : Nat) = 0 then bits else if (0 : Nat) = 1 then bits.set (hashN key 0 64) true else addBits bits key).set m true by rw [← hm0]; rfl)
    case' inr.inl =>
      rw [show ((1 : Nat) : Int) = 1 from rfl]
      have HN := hide (fun w => hash_any key 1 64 w hk (by decide) (by decide) (by decide))
      have hlt := hashN_lt key 1 (below := 64) (by decide)
      obtain ⟨m, hm0⟩ : ∃ m, hashN key 1 64 = m := ⟨_, rfl⟩
      have HNX := hide (show (if (1 + 1 : Nat) = 0 then bits else if (1 + 1 : Nat) = 1 then bits.set (hashN key 0 64) true else addBits bits key) = (if (1 : Nat) = 0 then bits else if (1 : Nat) = 1 then bits.set (hashN key 0 64) true else addBits bits key).set m true by rw [← hm0]; rfl)
    case inr.inr =>
      rw [show ((2 : Nat) : Int) = 2 from rfl]
      go_wp2_with fail
      go_ret
      exact ⟨rfl, hf.out, hkp.out.mono fun b _ e => by unfold At at e; rw [e]; rfl⟩
    all_goals
      rw [hm0] at HN hlt
      obtain ⟨g1, c1, e1, _, _, d1, d2, d3, hset⟩ := own_boo hf.out.own (k := m) (by rw [hf.out.len]; exact hlt)
      rw [hf.out.len] at e1
      cases e1
      have HSET := hide (hset true)
      have HLEN := hide hf.out.len
      have hmi : (m : Int) < 64 := by omega
      clear hset hm0
      go_wp2_with fail
      refine plan_start 14 (by kernel_rfl) rfl (fun hPT => ?_)
      refine plan_take (i := 0) (v := ?_) rfl (by kernel_rfl) (by kernel_rfl) (by kernel_rfl) (fun _ _ _ h => h) hPT (by rfl) ?_ ?_
      rotate_left
      · (intro w; go_simp; with_reducible rfl)
      (clear hPT; intro hPT; simp only [List.getElem_toArray, List.getElem_cons_zero, List.getElem_cons_succ, Act.put, List.setIfInBounds_toArray, List.set_cons_zero, List.set_cons_succ])
      refine plan_take (i := 4) (v := ?_) rfl (by kernel_rfl) (by kernel_rfl) (by kernel_rfl) (fun _ _ _ h => h) hPT (by rfl) ?_ ?_
      rotate_left
      · (intro w; go_simp; with_reducible rfl)
      (clear hPT; intro hPT; simp only [List.getElem_toArray, List.getElem_cons_zero, List.getElem_cons_succ, Act.put, List.setIfInBounds_toArray, List.set_cons_zero, List.set_cons_succ])
      refine plan_take (i := 5) (v := ?_) rfl (by kernel_rfl) (by kernel_rfl) (by kernel_rfl) (fun _ _ _ h => h) hPT (by rfl) ?_ ?_
      rotate_left
      · (intro w; go_simp; with_reducible rfl)
      (clear hPT; intro hPT; simp only [List.getElem_toArray, List.getElem_cons_zero, List.getElem_cons_succ, Act.put, List.setIfInBounds_toArray, List.set_cons_zero, List.set_cons_succ])
      refine plan_take (i := 6) (v := ?_) rfl (by kernel_rfl) (by kernel_rfl) (by kernel_rfl) (fun _ _ _ h => h) hPT (by rfl) ?_ ?_
      rotate_left
      · (intro w; go_simp; with_reducible rfl)
      (clear hPT; intro hPT; simp only [List.getElem_toArray, List.getElem_cons_zero, List.getElem_cons_succ, Act.put, List.setIfInBounds_toArray, List.set_cons_zero, List.set_cons_succ])
      refine plan_take (i := 1) (v := ?_) rfl (by kernel_rfl) (by kernel_rfl) (by kernel_rfl) (fun _ _ _ h => h) hPT (by rfl) ?_ ?_
      rotate_left
      · (intro w; go_simp; with_reducible rfl)
      (clear hPT; intro hPT; simp only [List.getElem_toArray, List.getElem_cons_zero, List.getElem_cons_succ, Act.put, List.setIfInBounds_toArray, List.set_cons_zero, List.set_cons_succ])
      refine plan_take (i := 7) (v := ?_) rfl (by kernel_rfl) (by kernel_rfl) (by kernel_rfl) (fun _ _ _ h => h) hPT (by rfl) ?_ ?_
      rotate_left
      · (intro w; go_simp; with_reducible rfl)
      (clear hPT; intro hPT; simp only [List.getElem_toArray, List.getElem_cons_zero, List.getElem_cons_succ, Act.put, List.setIfInBounds_toArray, List.set_cons_zero, List.set_cons_succ])
      refine plan_take (i := 2) (v := ?_) rfl (by kernel_rfl) (by kernel_rfl) (by kernel_rfl) (fun _ _ _ h => h) hPT (by rfl) ?_ ?_
      rotate_left
      · (intro w; go_simp; with_reducible rfl)
      (clear hPT; intro hPT; simp only [List.getElem_toArray, List.getElem_cons_zero, List.getElem_cons_succ, Act.put, List.setIfInBounds_toArray, List.set_cons_zero, List.set_cons_succ])
      refine plan_take (i := 8) (v := ?_) rfl (by kernel_rfl) (by kernel_rfl) (by kernel_rfl) (fun _ _ _ h => h) hPT (by rfl) ?_ ?_
      rotate_left
      · (intro w; go_simp; with_reducible rfl)
      (clear hPT; intro hPT; simp only [List.getElem_toArray, List.getElem_cons_zero, List.getElem_cons_succ, Act.put, List.setIfInBounds_toArray, List.set_cons_zero, List.set_cons_succ])
      refine plan_load (fun w' => w'.cell? ⟨p, 0, none⟩ = some (.slice (some ⟨g, 0, none⟩) 64 c)) (i := 3) (v := ?_) rfl (by kernel_rfl) (by kernel_rfl) (by kernel_rfl) (fun _ _ _ h => h) hPT (by rfl) ?_ ?_ ?_
      rotate_left
      · (first | assumption | (go_simp; done))
      · (intro w hSw; (try dsimp only at hSw); go_simp; with_reducible rfl)
      (clear hPT; intro hPT; simp only [List.getElem_toArray, List.getElem_cons_zero, List.getElem_cons_succ, Act.put, List.setIfInBounds_toArray, List.set_cons_zero, List.set_cons_succ])
      refine plan_load (fun w' => w'.cell? ⟨p, 0, none⟩ = some (.slice (some ⟨g, 0, none⟩) 64 c)) (i := 9) (v := ?_) rfl (by kernel_rfl) (by kernel_rfl) (by kernel_rfl) (fun _ _ _ h => h) hPT (by rfl) ?_ ?_ ?_
      rotate_left
      · (first | assumption | (go_simp; done))
      · (intro w hSw; (try dsimp only at hSw); go_simp; with_reducible rfl)
      (clear hPT; intro hPT; simp only [List.getElem_toArray, List.getElem_cons_zero, List.getElem_cons_succ, Act.put, List.setIfInBounds_toArray, List.set_cons_zero, List.set_cons_succ])
      refine plan_take (i := 10) (v := ?_) rfl (by kernel_rfl) (by kernel_rfl) (by kernel_rfl) (fun _ _ _ h => h) hPT (by rfl) ?_ ?_
      rotate_left
      · (intro w; go_simp; with_reducible rfl)
      (clear hPT; intro hPT; simp only [List.getElem_toArray, List.getElem_cons_zero, List.getElem_cons_succ, Act.put, List.setIfInBounds_toArray, List.set_cons_zero, List.set_cons_succ])
      refine plan_one (i := 11) (by kernel_rfl) rfl (by rfl) (fun K hK => ?_)
      (try simp only [List.getElem_toArray, List.getElem_cons_zero, List.getElem_cons_succ, Act.put, List.setIfInBounds_toArray, List.set_cons_zero, List.set_cons_succ])
      go_simp
      refine Calls.mono (HN.out _) ?_
      rintro e w5 ⟨rfl, rfl⟩
      refine hK.out _ _ _ (t_cons b1 (t_cons b1 (t_nil _))) k_same (fun hPT' => ?_)
      (clear hPT hK K; have hPT := hPT'; clear hPT'; try simp only [List.getElem_toArray, List.getElem_cons_zero, List.getElem_cons_succ, Act.put, List.setIfInBounds_toArray, List.set_cons_zero, List.set_cons_succ])
      refine plan_take (i := 12) (v := ?_) rfl (by kernel_rfl) (by kernel_rfl) (by kernel_rfl) (fun _ _ _ h => h) hPT (by rfl) ?_ ?_
      rotate_left
      · (intro w; go_simp; with_reducible rfl)
      (clear hPT; intro hPT; simp only [List.getElem_toArray, List.getElem_cons_zero, List.getElem_cons_succ, Act.put, List.setIfInBounds_toArray, List.set_cons_zero, List.set_cons_succ])
      refine plan_one (i := 13) (by kernel_rfl) rfl (by rfl) (fun K hK => ?_)
      (try simp only [List.getElem_toArray, List.getElem_cons_zero, List.getElem_cons_succ, Act.put, List.setIfInBounds_toArray, List.set_cons_zero, List.set_cons_succ])
      go_simp
      refine hK.out [] _ _ (t_nil _) (k_drop (by kernel_rfl) (k_drop (by kernel_rfl) k_nil)) (fun hPT' => ?_)
      (clear hPT hK K; have hPT := hPT'; clear hPT'; try simp only [List.getElem_toArray, List.getElem_cons_zero, List.getElem_cons_succ, Act.put, List.setIfInBounds_toArray, List.set_cons_zero, List.set_cons_succ])
      refine plan_done (by kernel_rfl) ?_ _
      clear hPT
      go_wp2_with fail
      go_roundw
      case measure => decide
      case' rel =>
        have hfl := hide (show FlAt (wr.setCell ⟨g, m, none⟩ (.bool true)).drew p (.slice (some ⟨g, 0, none⟩) 64 c) _ from ⟨(hf.out.blk.far (p := ⟨g, m, none⟩) (by simpa using hpg) (.bool true)).drew, ownK_d HSET.out, by rw [List.length_set]; exact HLEN.out⟩)
        rw [← HNX.out] at hfl
        have hkl := hide ((hkp.out.trans (kp_c wr g m (.bool true))).drew)
    · exact ⟨2, rfl, by decide, hfl.out, hkl.out⟩
    · exact ⟨1, rfl, by decide, hfl.out, hkl.out⟩

set_option maxRecDepth 100000 in
set_option maxHeartbeats 4000000 in
theorem bhas_any {p : Nat} {v : Value} {bits : List Bool} (key : Nat) (hk : key ≤ 1000000) (w : World) (h : FlAt w p v bits) :
    Calls Try.prog 17 #[.pointer (some ⟨p, 0, none⟩), .int .i64 key] w fun e w' => e = .returned (.tuple #[.bool (hasBits bits key), .nilIface]) ∧ Kp No w w' := by
  have H := hide h
  have hl := h.len
  have h0 : hashN key 0 64 < bits.length := by rw [hl]; exact hashN_lt _ _ (by decide)
  obtain ⟨g, c, hv, hc, hm, _⟩ := own_boo h.own h0
  rw [hl] at hv hc
  subst hv
  clear h hl
  go_enter Try.func17, Try.ntmps17
  go_wp2_with fail
  refine Calls.mono (bcheck_any key hk _) ?_
  rintro e w1 ⟨rfl, rfl⟩
  obtain ⟨b1, b2, b3, b4, b5⟩ := H.out.blk.a2
  go_wp2_with fail
  go_loopw [17] (fun q wr => ∃ k : Nat, q = .int .i64 k ∧ k ≤ 2 ∧ Hid (0 < k → bits.getD (hashN key 0 64) false = true) ∧ Hid (1 < k → bits.getD (hashN key 1 64) false = true) ∧ Hid (Kp No w wr)) (fun q _ => 2 - (intOf q).toNat)
  case atStart => exact ⟨0, rfl, by decide, fun h => absurd h (by decide), fun h => absurd h (by decide), Kp.refl _ _⟩
  case round =>
    obtain ⟨k, rfl, hk2, hq1, hq2, hkp⟩ := hrel
    have hf : FlAt wr p (.slice (some ⟨g, 0, none⟩) 64 c) bits := ⟨H.out.blk.kp hkp.out id, own_kp H.out.own hkp.out fun _ _ h => h, H.out.len⟩
    have HF := hide hf
    obtain ⟨b1, b2, b3, b4, b5⟩ := hf.blk.a2
    clear hf
    have hcase : k = 0 ∨ k = 1 ∨ k = 2 := by omega
    rcases hcase with rfl | rfl | rfl
    case' inl =>
      rw [show ((0 : Nat) : Int) = 0 from rfl]
      have HN := hide (fun w => hash_any key 0 64 w hk (by decide) (by decide) (by decide))
      have hlt := hashN_lt key 0 (below := 64) (by decide)
      obtain ⟨m, hm0⟩ : ∃ m, hashN key 0 64 = m := ⟨_, rfl⟩
      have HNO := hide (show bits.getD m false = false → hasBits bits key = false from fun e => by unfold hasBits; rw [hm0, e]; rfl)
      have HYES := hide (show bits.getD m false = true → (0 < 0 + 1 → bits.getD (hashN key 0 64) false = true) ∧ (1 < 0 + 1 → bits.getD (hashN key 1 64) false = true) from fun e => ⟨fun _ => by rw [hm0]; exact e, fun h => absurd h (by decide)⟩)
    case' inr.inl =>
      rw [show ((1 : Nat) : Int) = 1 from rfl]
      have HN := hide (fun w => hash_any key 1 64 w hk (by decide) (by decide) (by decide))
      have hlt := hashN_lt key 1 (below := 64) (by decide)
      obtain ⟨m, hm0⟩ : ∃ m, hashN key 1 64 = m := ⟨_, rfl⟩
      have HNO := hide (show bits.getD m false = false → hasBits bits key = false from fun e => by unfold hasBits; rw [hm0, e]; exact Bool.and_false _)
      have HYES := hide (show bits.getD m false = true → (0 < 1 + 1 → bits.getD (hashN key 0 64) false = true) ∧ (1 < 1 + 1 → bits.getD (hashN key 1 64) false = true) from fun e => ⟨fun _ => hq1.out (by decide), fun h => by rw [hm0]; exact e⟩)
    case inr.inr =>
      rw [show ((2 : Nat) : Int) = 2 from rfl]
      have HY := hide (show hasBits bits key = true by unfold hasBits; rw [hq1.out (by decide), hq2.out (by decide)]; rfl)
      go_wp2_with fail
      refine bodyPost_ret (v := .tuple #[.bool true, .nilIface]) (by simp [results, Try.results17, go_sem]) rfl ⟨by rw [HY.out], hkp.out⟩
    all_goals
      rw [hm0] at HN hlt
      obtain ⟨g1, c1, e1, _, _, d1, d2, d3, _⟩ := own_boo HF.out.own (k := m) (by rw [HF.out.len]; exact hlt)
      rw [HF.out.len] at e1
      cases e1
      have hge : bits.getD m false = bits[m]'(by rw [HF.out.len]; exact hlt) := by rw [List.getD_eq_getElem?_getD, List.getElem?_eq_getElem (by rw [HF.out.len]; exact hlt)]; rfl
      rw [← hge] at d1
      have hmi : (m : Int) < 64 := by omega
      have HRD := hide (Kp.refl No wr).drew
      obtain ⟨b, hb⟩ : ∃ b, bits.getD m false = b := ⟨_, rfl⟩
      rw [hb] at d1 HNO HYES
      clear hge hm0 hb
      cases b
      case' false =>
        go_wp2_with fail
        go_quiet ((go_at_call 34; exact Calls.quiet_of ((HN.out _).mono fun e w' h => ⟨h.1, 0, h.2.symm⟩)))
        go_wp2_with fail
        refine bodyPost_ret (v := .tuple #[.bool false, .nilIface]) (by simp [results, Try.results17, go_sem]) rfl ⟨by rw [HNO.out (by simp)], hkp.out.drewN _⟩
      case' true =>
        go_wp2_with fail
        go_quiet ((go_at_call 34; exact Calls.quiet_of ((HN.out _).mono fun e w' h => ⟨h.1, 0, h.2.symm⟩)))
        go_wp2_with fail
        go_roundw
        case measure => decide
    · exact ⟨2, rfl, by decide, (HYES.out (by simp)).1, (HYES.out (by simp)).2, hkp.out.drewN _⟩
    · exact ⟨1, rfl, by decide, (HYES.out (by simp)).1, (HYES.out (by simp)).2, hkp.out.drewN _⟩
end Go.Proofs.Ytjapcoonaabdnaa
