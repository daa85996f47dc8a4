/- sketch, walked: three rows of eight counters: New, Add (one), Count. -/
import Derived.Test.YtjapcoonaabdnaaBloom
namespace Go.Proofs.Ytjapcoonaabdnaa
open Go.RowKit
set_option linter.unusedSimpArgs false

theorem Try.infoPtr : (Try.prog.info? 78).map (fun i => (i.zero, i.size, i.bytes)) = some (some (.pointer none), 1, 8) := by kernel_rfl

/-- a sketch at block p: three rows that lie apart -/
structure Sk (w : World) (p go co : Nat) (g c : Nat → Nat) (R : Nat → List Int) (s : Int) : Prop where
  blk : Blk w p 70 #[.slice (some ⟨go, 0, none⟩) 3 co, .int .i64 s]
  cap : 3 ≤ co ∧ co ≤ 9223372036854775807
  out : ∀ i, i < 3 → w.cell? ⟨go, i, none⟩ = some (.slice (some ⟨g i, 0, none⟩) 8 (c i))
  row : ∀ i, i < 3 → w.ownsRow 0 3 1 (.slice (some ⟨g i, 0, none⟩) 8 (c i)) 8 (iv (R i))
  len : ∀ i, i < 3 → (R i).length = 8
  gop : go ≠ p
  gp : ∀ i, i < 3 → g i ≠ p ∧ g i ≠ go
  ap : ∀ i j, i < 3 → j < 3 → i ≠ j → g i ≠ g j

section
variable {w w' : World} {p go co : Nat} {g c : Nat → Nat} {R : Nat → List Int} {s : Int}
theorem Sk.kp {S : Nat → Prop} (h : Sk w p go co g c R s) (hk : Kp S w w') (hp : ¬ S p) (ho : ¬ S go) (hg : ∀ i, i < 3 → ¬ S (g i)) : Sk w' p go co g c R s :=
  ⟨h.blk.kp hk hp, h.cap, fun i hi => hk.cell (h.out i hi) ho, fun i hi => own_kp (h.row i hi) hk fun b hb e => hg i hi (by simp [Value.ownBlock] at hb; rw [hb]; exact e), h.len, h.gop, h.gp, h.ap⟩
theorem Sk.no (h : Sk w p go co g c R s) (hk : Kp No w w') : Sk w' p go co g c R s := h.kp hk id id fun _ _ => id
/-- the sum is another -/
theorem Sk.sum (h : Sk w p go co g c R s) (t : Int) : Sk (w.setCell ⟨p, 1, none⟩ (.int .i64 t)) p go co g c R t := by
  have k := kp_c w p 1 (.int .i64 t)
  exact ⟨h.blk.set_ 1 _, h.cap, fun i hi => k.cell (h.out i hi) (fun e => h.gop e), fun i hi => own_kp (h.row i hi) k fun b hb e => by simp [Value.ownBlock] at hb; unfold At at e; exact (h.gp i hi).1 (by rw [hb, e]), h.len, h.gop, h.gp, h.ap⟩
/-- a counter is set -/
theorem Sk.put (h : Sk w p go co g c R s) {i m : Nat} (hi : i < 3) (hm : m < 8) (x : Int) : Sk (w.setCell ⟨g i, m, none⟩ (.int .i64 x)) p go co g c (fun j => if j = i then (R i).set m x else R j) s := by
  have k := kp_c w (g i) m (.int .i64 x)
  refine ⟨h.blk.kp k fun e => (h.gp i hi).1 e.symm, h.cap, fun j hj => k.cell (h.out j hj) (fun e => (h.gp i hi).2 e.symm), fun j hj => ?_, fun j hj => ?_, h.gop, h.gp, h.ap⟩
  · by_cases e : j = i
    · subst e
      rw [if_pos rfl, iv_set]
      exact own_set (h.row j hj) rfl m hm _
    · rw [if_neg e]
      exact own_kp (h.row j hj) k fun b hb e' => by simp [Value.ownBlock] at hb; unfold At at e'; exact h.ap j i hj hi e (by rw [hb, e'])
  · by_cases e : j = i
    · rw [if_pos e, List.length_set]; exact h.len i hi
    · rw [if_neg e]; exact h.len j hj
theorem Sk.cell (h : Sk w p go co g c R s) {i m : Nat} (hi : i < 3) (hm : m < 8) : w.cell? ⟨g i, m, none⟩ = some (.int .i64 ((R i).getD m 0)) ∧ w.frozen? ⟨g i, m, none⟩ = false ∧ 8 ≤ c i ∧ c i ≤ 9223372036854775807 ∧ g i < w.heap.size := by
  obtain ⟨g1, c1, e, h1, h2, h3, h4, h5, h6, _⟩ := own_int (h.row i hi) (k := m) (by rw [h.len i hi]; exact hm)
  rw [h.len i hi] at e h1
  cases e
  refine ⟨by rw [h3, List.getD_eq_getElem?_getD, List.getElem?_eq_getElem (by rw [h.len i hi]; exact hm)]; rfl, h4, h1, h2, h6⟩
theorem Sk.ltg (h : Sk w p go co g c R s) : go < w.heap.size ∧ p < w.heap.size := ⟨World.block_lt_of_cell? w _ (h.out 0 (by decide)), h.blk.lt⟩
end

/-- where a key's counters are -/
def spots (g : Nat → Nat) (key n : Nat) : List Value := (List.range n).map fun i => .pointer (some ⟨g i, hashN key i 8, none⟩)
theorem spots_succ (g : Nat → Nat) (key n : Nat) : spots g key (n + 1) = spots g key n ++ [.pointer (some ⟨g n, hashN key n 8, none⟩)] := by simp [spots, List.range_succ]
theorem spots_length (g : Nat → Nat) (key n : Nat) : (spots g key n).length = n := by simp [spots]
theorem spots_get (g : Nat → Nat) (key n : Nat) {i : Nat} (h : i < n) : (spots g key n)[i]'(by rw [spots_length]; exact h) = .pointer (some ⟨g i, hashN key i 8, none⟩) := by simp [spots]

set_option maxRecDepth 100000 in
set_option maxHeartbeats 4000000 in
theorem counters_any {p go co : Nat} {g c : Nat → Nat} {R : Nat → List Int} {s : Int} (key : Nat) (hk : key ≤ 1000000) (w : World) (h : Sk w p go co g c R s) :
    Calls Try.prog 35 #[.pointer (some ⟨p, 0, none⟩), .int .i64 key] w fun e w' => ∃ v, e = .returned v ∧ w'.ownsRow w.heap.size 78 1 v 3 (spots g key 3) ∧ Kp No w w' := by
  have H := hide h
  obtain ⟨hc1, hc2⟩ := h.cap
  clear h
  obtain ⟨b1, b2, b3, b4, b5⟩ := H.out.blk.a2
  go_enter Try.func35, Try.ntmps35
  go_wp2_with fail
  go_loopw [5, 13] (fun v q wr => ∃ k : Nat, q = .int .i64 k ∧ k ≤ 3 ∧ Hid (wr.ownsRow w.heap.size 78 1 v k (spots g key k)) ∧ Hid (Kp No w wr)) (fun _ q _ => 3 - (intOf q).toNat)
  case atStart => exact ⟨0, rfl, by decide, World.ownsRow_nil _ _ _ _, Kp.refl _ _⟩
  case round =>
    obtain ⟨k, rfl, hk3, hown, hkp⟩ := hrel
    have HS := hide (H.out.no hkp.out)
    have hws := hkp.out.size
    obtain ⟨e0, Av, cv, hvv, hcv, hmv, _⟩ := own_form hown.out
    rw [spots_length] at hvv hcv
    subst hvv
    clear e0
    by_cases hlt : k < 3
    · have ho := HS.out.out k hlt
      have hm := hashN_lt key k (below := 8) (by decide)
      obtain ⟨d1, d2, d3, d4, d5⟩ := HS.out.cell hlt hm
      have HN := hide (fun w => hash_any key k 8 w hk hlt (by decide) (by decide))
      have HSP := hide (spots_succ g key k)
      obtain ⟨m, hm0⟩ : ∃ m, hashN key k 8 = m := ⟨_, rfl⟩
      rw [hm0] at hm d1 d2 HN HSP
      have hmi : (m : Int) < 8 := by omega
      have hki : (k : Int) < 3 := by omega
      clear hm0
      go_wp2_with fail
      refine Calls.mono (HN.out _) ?_
      rintro e w5 ⟨rfl, rfl⟩
      go_wp2_with (at_builtin; refine wpList_push _ rfl (.tmp 18) (.tmp 26) _ rfl w.heap.size 78 _ 8 Try.underlying76 Try.infoPtr rfl (.slice Av k cv) k (spots g key k) rfl hown.out _ rfl 1 _ rfl (by simp) (by omega) (by decide) hws ?_; intro g' c' w3 ho' hgr hat; have HO1 := hide ho'; have HG := hide hgr; clear ho' hgr hat)
      go_roundw
      case rel => exact ⟨k + 1, by go_num, hlt, by rw [HSP.out]; exact HO1.out, (hkp.out.alloc _).grown HG.out fun b h hb => by have := (own_lt hown.out h).1; omega⟩
      case measure => (simp [intOf]; omega)
    · obtain rfl : k = 3 := by omega
      rw [show ((3 : Nat) : Int) = 3 from rfl]
      go_wp2_with fail
      go_ret
      exact ⟨_, rfl, hown.out, hkp.out⟩

/-- a key is counted once more -/
def addR (R : Nat → List Int) (key : Nat) : Nat → List Int := fun j => (R j).set (hashN key j 8) ((R j).getD (hashN key j 8) 0 + 1)
/-- in the first k rows -/
def addTo (R : Nat → List Int) (key k : Nat) : Nat → List Int := fun j => if j < k then addR R key j else R j
theorem addTo_zero (R : Nat → List Int) (key : Nat) : addTo R key 0 = R := by funext j; simp [addTo]
theorem addTo_succ (R : Nat → List Int) (key k : Nat) : (fun j => if j = k then (addTo R key k k).set (hashN key k 8) ((R k).getD (hashN key k 8) 0 + 1) else addTo R key k j) = addTo R key (k + 1) := by
  funext j
  unfold addTo
  by_cases e : j = k
  · subst e; rw [if_pos rfl, if_neg (by omega), if_pos (by omega)]; rfl
  · rw [if_neg e]
    by_cases h : j < k
    · rw [if_pos h, if_pos (by omega)]
    · rw [if_neg h, if_neg (by omega)]
/-- where a sketch is written -/
def SkF (p : Nat) (g : Nat → Nat) (b : Nat) : Prop := b = p ∨ ∃ i, i < 3 ∧ b = g i

set_option maxRecDepth 100000 in
set_option maxHeartbeats 4000000 in
theorem sadd_any {p go co : Nat} {g c : Nat → Nat} {R : Nat → List Int} {s : Int} (key : Nat) (hk : key ≤ 1000000) (w : World) (h : Sk w p go co g c R s) (hs0 : 0 ≤ s) (hs1 : s ≤ 1000) (hE : ∀ i, i < 3 → ∀ m, m < 8 → 0 ≤ (R i).getD m 0 ∧ (R i).getD m 0 ≤ 1000000) :
    Calls Try.prog 16 #[.pointer (some ⟨p, 0, none⟩), .int .i64 key, .int .i64 1] w fun e w' => e = .returned .nilIface ∧ Sk w' p go co g c (addTo R key 3) (s + 1) ∧ Kp (SkF p g) w w' := by
  have H := hide h
  have HE := hide hE
  have H1 := hide (show btw (key : Int) 0 1000000 = true from btw_iff.2 ⟨by omega, by omega⟩)
  have H2 := hide (show btw 1 0 1000 = true by decide)
  obtain ⟨hc1, hc2⟩ := h.cap
  clear h hE
  obtain ⟨b1, b2, b3, b4, b5⟩ := H.out.blk.a2
  go_enter Try.func16, Try.ntmps16
  go_wp2_with fail
  refine Calls.mono (within_any _ _ _ _) ?_
  rw [H1.out]
  rintro e w1 ⟨rfl, rfl⟩
  go_wp2_with fail
  refine Calls.mono (within_any _ _ _ _) ?_
  rw [H2.out]
  rintro e w1 ⟨rfl, rfl⟩
  go_wp2_with fail
  have HS1 := hide (H.out.sum (s + 1))
  have HK1 := hide (show Kp (SkF p g) w (w.setCell ⟨p, 1, none⟩ (.int .i64 (s + 1))) from (kp_c _ _ _ _).mono fun b _ e => .inl e)
  obtain ⟨W1, hW1⟩ : ∃ W1, w.setCell ⟨p, 1, none⟩ (.int .i64 (s + 1)) = W1 := ⟨_, rfl⟩
  rw [hW1] at HS1 HK1 ⊢
  clear hW1 b1 b2 b3 b4 b5
  refine Calls.mono (counters_any key hk _ HS1.out) ?_
  rintro e w2 ⟨v2, rfl, hown, hk2⟩
  obtain ⟨e0, Av, cv, hvv, hcv, hmv, _⟩ := own_form hown
  rw [spots_length] at hvv hcv
  subst hvv
  have HOWN := hide hown
  have HS2 := hide (HS1.out.no hk2)
  have HK2 := hide (HK1.out.trans hk2.of_no)
  have HZ := hide hk2.size
  clear hown hk2 e0
  go_wp2_with fail
  go_loopw [38] (fun q wr => ∃ k : Nat, q = .int .i64 k ∧ k ≤ 3 ∧ Hid (Sk wr p go co g c (addTo R key k) (s + 1)) ∧ Hid (Kp (fun b => ∃ i, i < 3 ∧ b = g i) w2 wr)) (fun q _ => 3 - (intOf q).toNat)
  case atStart => exact ⟨0, rfl, by decide, by rw [addTo_zero]; exact HS2.out, Kp.refl _ _⟩
  case round =>
    obtain ⟨k, rfl, hk3, hs, hkp⟩ := hrel
    by_cases hlt : k < 3
    · have hgW : ∀ i, i < 3 → g i < W1.heap.size := fun i hi => (HS1.out.cell hi (m := 0) (by decide)).2.2.2.2
      have hcells := own_kp HOWN.out hkp.out fun b hb e => by
        obtain ⟨i, hi, rfl⟩ := e
        have := (own_lt HOWN.out hb).1
        have := hgW i hi
        omega
      obtain ⟨ga, ca, e1, h11, h12, h13, h14, _⟩ := own_cap hcells (k := k) (by rw [spots_length]; exact hlt)
      rw [spots_length] at e1 h11
      cases e1
      rw [spots_get g key 3 hlt] at h13
      have hm := hashN_lt key k (below := 8) (by decide)
      obtain ⟨d1, d2, d3, d4, d5⟩ := hs.out.cell hlt hm
      have hE := HE.out k hlt _ hm
      have HST := hide (addTo_succ R key k)
      have hRk : (addTo R key k k) = R k := by unfold addTo; rw [if_neg (by omega)]
      rw [hRk] at d1
      have HPUT := hide (hs.out.put hlt hm ((R k).getD (hashN key k 8) 0 + 1))
      rw [HST.out] at HPUT
      obtain ⟨d, hd⟩ : ∃ d, (R k).getD (hashN key k 8) 0 = d := ⟨_, rfl⟩
      obtain ⟨m, hm0⟩ : ∃ m, hashN key k 8 = m := ⟨_, rfl⟩
      rw [hd] at d1 hE HPUT
      rw [hm0] at d1 d2 h13 HPUT
      have HKK := hide (show Kp (fun b => ∃ i, i < 3 ∧ b = g i) w2 (wr.setCell ⟨g k, m, none⟩ (.int .i64 (d + 1))) from hkp.out.trans' (kp_c _ _ _ _) fun b _ e => ⟨k, hlt, e⟩)
      obtain ⟨hE1, hE2⟩ := hE
      clear hd hm0 hRk hm hcells hgW
      go_wp2_with fail
      go_roundw
      case rel => exact ⟨k + 1, by go_num, hlt, HPUT.out, HKK.out⟩
      case measure => (simp [intOf]; omega)
    · obtain rfl : k = 3 := by omega
      rw [show ((3 : Nat) : Int) = 3 from rfl]
      go_wp2_with fail
      go_ret
      exact ⟨rfl, hs.out, HK2.out.trans (hkp.out.mono fun b _ e => .inr e)⟩

/-- the least of a key's counters -/
def leastR (R : Nat → List Int) (key : Nat) : Nat → Int
  | 0 => 1000000
  | n + 1 => min (leastR R key n) ((R n).getD (hashN key n 8) 0)

set_option maxRecDepth 100000 in
set_option maxHeartbeats 4000000 in
theorem scount_any {p go co : Nat} {g c : Nat → Nat} {R : Nat → List Int} {s : Int} (key : Nat) (hk : key ≤ 1000000) (w : World) (h : Sk w p go co g c R s) :
    Calls Try.prog 18 #[.pointer (some ⟨p, 0, none⟩), .int .i64 key] w fun e w' => e = .returned (.tuple #[.int .i64 (leastR R key 3), .nilIface]) ∧ Kp No w w' := by
  have H := hide h
  have H1 := hide (show btw (key : Int) 0 1000000 = true from btw_iff.2 ⟨by omega, by omega⟩)
  clear h
  go_enter Try.func18, Try.ntmps18
  go_wp2_with fail
  refine Calls.mono (within_any _ _ _ _) ?_
  rw [H1.out]
  rintro e w1 ⟨rfl, rfl⟩
  go_wp2_with fail
  refine Calls.mono (counters_any key hk _ H.out) ?_
  rintro e w2 ⟨v2, rfl, hown, hk2⟩
  obtain ⟨e0, Av, cv, hvv, hcv, hmv, _⟩ := own_form hown
  rw [spots_length] at hvv hcv
  subst hvv
  have HOWN := hide hown
  have HS2 := hide (H.out.no hk2)
  have HK2 := hide hk2
  clear hown hk2 e0
  go_wp2_with fail
  go_loopw [6, 17] (fun t q wr => ∃ k : Nat, t = .int .i64 (leastR R key k) ∧ q = .int .i64 k ∧ k ≤ 3 ∧ wr = w2) (fun _ q _ => 3 - (intOf q).toNat)
  case atStart => exact ⟨0, rfl, rfl, by decide, rfl⟩
  case round =>
    obtain ⟨k, rfl, rfl, hk3, rfl⟩ := hrel
    by_cases hlt : k < 3
    · obtain ⟨ga, ca, e1, h11, h12, h13, h14, _⟩ := own_cap HOWN.out (k := k) (by rw [spots_length]; exact hlt)
      rw [spots_length] at e1 h11
      cases e1
      rw [spots_get g key 3 hlt] at h13
      have hm := hashN_lt key k (below := 8) (by decide)
      obtain ⟨d1, d2, d3, d4, d5⟩ := HS2.out.cell hlt hm
      have HST := hide (show leastR R key (k + 1) = min (leastR R key k) ((R k).getD (hashN key k 8) 0) from rfl)
      obtain ⟨d, hd⟩ : ∃ d, (R k).getD (hashN key k 8) 0 = d := ⟨_, rfl⟩
      obtain ⟨m, hm0⟩ : ∃ m, hashN key k 8 = m := ⟨_, rfl⟩
      obtain ⟨l, hl⟩ : ∃ l, leastR R key k = l := ⟨_, rfl⟩
      rw [hd, hl] at HST
      rw [hd] at d1
      rw [hm0] at d1 d2 h13
      rw [hl]
      clear hd hm0 hm hl
      go_wp2_with fail
      go_roundw
      case rel => exact ⟨k + 1, by rw [HST.out]; congr 1; split <;> omega, by go_num, hlt, trivial⟩
      case measure => (simp [intOf]; omega)
    · obtain rfl : k = 3 := by omega
      rw [show ((3 : Nat) : Int) = 3 from rfl]
      go_wp2_with fail
      refine bodyPost_ret (v := .tuple #[.int .i64 (leastR R key 3), .nilIface]) (by simp [results, Try.results18, go_sem]) rfl ⟨rfl, HK2.out⟩

def blkOf : Value → Nat
  | .slice (some a) _ _ => a.block
  | _ => 0
def capOf : Value → Nat
  | .slice _ _ c => c
  | _ => 0

/-- rows that are being made -/
structure Sk0 (w : World) (p base : Nat) (vo : Value) (vs : List Value) (k : Nat) : Prop where
  blk : Blk w p 70 #[vo, .int .i64 0]
  out : w.ownsRow base 23 1 vo k vs
  row : ∀ i (h : i < vs.length), w.ownsRow base 3 1 vs[i] 8 (iv (List.replicate 8 0))
  ap : Apart vs

/-- a row more -/
theorem Sk0.more {w w3 : World} {p base : Nat} {vo : Value} {vs : List Value} {k : Nat} (h : Sk0 w p base vo vs k) (hb : base ≤ w.heap.size) {g' c' : Nat}
    (ha : w3.ownsRow base 23 1 (.slice (some ⟨g', 0, none⟩) (k + 1) c') (k + 1) (vs ++ [.slice (some ⟨w.heap.size, 0, none⟩) 8 8]))
    (hgr : (((w.alloc (.cells (madeCells #[.int .i64 0] 8) 3)).alloc (.cells #[.slice (some ⟨w.heap.size, 0, none⟩) 8 8] 23)).drew).grownBy w3 vo.ownBlock) :
    Sk0 (w3.setCell ⟨p, 0, none⟩ (.slice (some ⟨g', 0, none⟩) (k + 1) c')) p base (.slice (some ⟨g', 0, none⟩) (k + 1) c') (vs ++ [.slice (some ⟨w.heap.size, 0, none⟩) 8 8]) (k + 1) := by
  have k1 : Kp No w (((w.alloc (.cells (madeCells #[.int .i64 0] 8) 3)).alloc (.cells #[.slice (some ⟨w.heap.size, 0, none⟩) 8 8] 23)).drew) := (((Kp.refl No w).alloc _).alloc _).drew
  have k3 : Kp (fun b => vo.ownBlock = some b) (((w.alloc (.cells (madeCells #[.int .i64 0] 8) 3)).alloc (.cells #[.slice (some ⟨w.heap.size, 0, none⟩) 8 8] 23)).drew) w3 := (Kp.refl _ _).grown hgr fun b h _ => h
  have k4 := kp_c w3 p 0 (.slice (some ⟨g', 0, none⟩) (k + 1) c')
  have hout := own_kp h.out k1 fun _ _ h => h
  have b2 := h.blk.kp k1 id
  have b3 : Blk w3 p 70 #[vo, .int .i64 0] := b2.kp k3 (own_ne_blk hout b2 (by decide))
  have hnew : (((w.alloc (.cells (madeCells #[.int .i64 0] 8) 3)).alloc (.cells #[.slice (some ⟨w.heap.size, 0, none⟩) 8 8] 23)).drew).ownsRow base 3 1 (.slice (some ⟨w.heap.size, 0, none⟩) 8 8) 8 (iv (List.replicate 8 0)) := by
    have := ((own_made w 8 base hb (by omega)).alloc (.cells #[.slice (some ⟨w.heap.size, 0, none⟩) 8 8] 23))
    exact ownK_d this
  have step : ∀ {u : Value} {n : Nat} {us : List Value}, (((w.alloc (.cells (madeCells #[.int .i64 0] 8) 3)).alloc (.cells #[.slice (some ⟨w.heap.size, 0, none⟩) 8 8] 23)).drew).ownsRow base 3 1 u n us → (w3.setCell ⟨p, 0, none⟩ (.slice (some ⟨g', 0, none⟩) (k + 1) c')).ownsRow base 3 1 u n us := by
    intro u n us hu
    have hu3 := own_kp hu k3 fun b hb e => own_ne_own hu hout (by decide) hb e
    exact own_kp hu3 k4 fun b hb e => by unfold At at e; subst e; exact own_ne_blk hu3 b3 (by decide) hb
  refine ⟨b3.set_ 0 _, own_kp ha k4 fun b hb e => by unfold At at e; subst e; exact own_ne_blk ha b3 (by decide) hb, fun i hi => ?_, h.ap.snoc fun u hu b hb e => ?_⟩
  · rw [List.getElem_append]
    split
    · exact step (own_kp (h.row i _) k1 fun _ _ h => h)
    · simp only [List.getElem_singleton]
      exact step hnew
  · obtain ⟨i, hi, rfl⟩ := List.getElem_of_mem hu
    have := (own_lt (h.row i hi) e).2
    simp [Value.ownBlock] at hb
    omega

set_option maxRecDepth 100000 in
set_option maxHeartbeats 4000000 in
theorem snew_any (w : World) : Calls Try.prog 11 #[.int .i64 3, .int .i64 8] w fun e w' => ∃ p go co g c, e = .returned (.tuple #[.pointer (some ⟨p, 0, none⟩), .nilIface]) ∧ Sk w' p go co g c (fun _ => List.replicate 8 0) 0 ∧ w.heap.size ≤ p ∧ w.heap.size ≤ go ∧ (∀ i, i < 3 → w.heap.size ≤ g i) ∧ Kp No w w' := by
  have hmk := run_make_row' (P := Try.prog) 23 3 (.int .i64 0) 8 Try.underlying23 Try.infoInt rfl .i64 .i64 8 (by omega) (by omega)
  rw [show ((8 : Nat) : Int) = 8 from rfl] at hmk
  have H1 := hide (show btw 3 1 4 = true by decide)
  have H2 := hide (show btw 8 1 16 = true by decide)
  go_enter Try.func11, Try.ntmps11
  go_wp2_with fail
  refine Calls.mono (within_any _ _ _ _) ?_
  rw [H1.out]
  rintro e w1 ⟨rfl, rfl⟩
  go_wp2_with fail
  refine Calls.mono (within_any _ _ _ _) ?_
  rw [H2.out]
  rintro e w1 ⟨rfl, rfl⟩
  go_wp2_with fail
  have HA0 := hide (show Sk0 (w.alloc (.cells #[.slice none 0 0, .int .i64 0] 70)) w.heap.size (w.heap.size + 1) (.slice none 0 0) [] 0 from ⟨Blk.new _ _ _, World.ownsRow_nil _ _ _ _, fun i h => by simp at h, Apart.nil_⟩)
  have HK0 := hide ((Kp.refl No w).alloc (.cells #[.slice none 0 0, .int .i64 0] 70))
  obtain ⟨W0, hW0⟩ : ∃ W0, w.alloc (.cells #[.slice none 0 0, .int .i64 0] 70) = W0 := ⟨_, rfl⟩
  rw [hW0] at HA0 HK0 ⊢
  clear hW0
  go_loopw [19] (fun q wr => ∃ (k : Nat) (vo : Value) (vs : List Value), q = .int .i64 k ∧ k ≤ 3 ∧ Hid (Sk0 wr w.heap.size (w.heap.size + 1) vo vs k) ∧ Hid (Kp No w wr)) (fun q _ => 3 - (intOf q).toNat)
  case atStart => exact ⟨0, _, _, rfl, by decide, HA0.out, HK0.out⟩
  case round =>
    obtain ⟨k, vo, vs, rfl, hk3, ha, hkp⟩ := hrel
    have hws := hkp.out.size
    have hplt := ha.out.blk.lt
    obtain ⟨e0, Av, cv, hvv, hcv, hmv, _⟩ := own_form ha.out.out
    have hvl : vs.length = k := e0.symm
    rw [hvl] at hvv hcv
    subst hvv
    clear e0
    obtain ⟨b1, b2, b3, b4, b5⟩ := ha.out.blk.a2
    by_cases hlt : k < 3
    · have hki : (k : Int) < 3 := by omega
      have HVL := hide hvl
      clear hvl
      go_wp2_with fail
      refine plan_start 12 (by kernel_rfl) rfl (fun hPT => ?_)
      refine plan_take (i := 0) (v := ?_) rfl (by kernel_rfl) (by kernel_rfl) (by kernel_rfl) (fun _ _ _ h => h) hPT (by rfl) ?_ ?_
      rotate_left
      · (intro w; go_simp; with_reducible rfl)
      (clear hPT; intro hPT; simp only [List.getElem_toArray, List.getElem_cons_zero, List.getElem_cons_succ, Act.put, List.setIfInBounds_toArray, List.set_cons_zero, List.set_cons_succ])
      refine plan_take (i := 1) (v := ?_) rfl (by kernel_rfl) (by kernel_rfl) (by kernel_rfl) (fun _ _ _ h => h) hPT (by rfl) ?_ ?_
      rotate_left
      · (intro w; go_simp; with_reducible rfl)
      (clear hPT; intro hPT; simp only [List.getElem_toArray, List.getElem_cons_zero, List.getElem_cons_succ, Act.put, List.setIfInBounds_toArray, List.set_cons_zero, List.set_cons_succ])
      refine plan_take (i := 2) (v := ?_) rfl (by kernel_rfl) (by kernel_rfl) (by kernel_rfl) (fun _ _ _ h => h) hPT (by rfl) ?_ ?_
      rotate_left
      · (intro w; go_simp; with_reducible rfl)
      (clear hPT; intro hPT; simp only [List.getElem_toArray, List.getElem_cons_zero, List.getElem_cons_succ, Act.put, List.setIfInBounds_toArray, List.set_cons_zero, List.set_cons_succ])
      refine plan_take (i := 3) (v := ?_) rfl (by kernel_rfl) (by kernel_rfl) (by kernel_rfl) (fun _ _ _ h => h) hPT (by rfl) ?_ ?_
      rotate_left
      · (intro w; go_simp; with_reducible rfl)
      (clear hPT; intro hPT; simp only [List.getElem_toArray, List.getElem_cons_zero, List.getElem_cons_succ, Act.put, List.setIfInBounds_toArray, List.set_cons_zero, List.set_cons_succ])
      refine plan_take (i := 5) (v := ?_) rfl (by kernel_rfl) (by kernel_rfl) (by kernel_rfl) (fun _ _ _ h => h) hPT (by rfl) ?_ ?_
      rotate_left
      · (intro w; go_simp; with_reducible rfl)
      (clear hPT; intro hPT; simp only [List.getElem_toArray, List.getElem_cons_zero, List.getElem_cons_succ, Act.put, List.setIfInBounds_toArray, List.set_cons_zero, List.set_cons_succ])
      refine plan_load (fun w' => w'.cell? ⟨w.heap.size, 0, none⟩ = some (.slice Av k cv)) (i := 4) (v := ?_) rfl (by kernel_rfl) (by kernel_rfl) (by kernel_rfl) (fun _ _ _ h => h) hPT (by rfl) ?_ ?_ ?_
      rotate_left
      · (first | assumption | (go_simp; done))
      · (intro w hSw; (try dsimp only at hSw); go_simp; with_reducible rfl)
      (clear hPT; intro hPT; simp only [List.getElem_toArray, List.getElem_cons_zero, List.getElem_cons_succ, Act.put, List.setIfInBounds_toArray, List.set_cons_zero, List.set_cons_succ])
      refine plan_one (i := 6) (by kernel_rfl) rfl (by rfl) (fun K hK => ?_)
      (try simp only [List.getElem_toArray, List.getElem_cons_zero, List.getElem_cons_succ, Act.put, List.setIfInBounds_toArray, List.set_cons_zero, List.set_cons_succ])
      go_simp
      refine hK.out _ _ _ (t_cons (by go_simp) (t_nil _)) k_same (fun hPT' => ?_)
      (clear hPT hK K; have hPT := hPT'; clear hPT'; try simp only [List.getElem_toArray, List.getElem_cons_zero, List.getElem_cons_succ, Act.put, List.setIfInBounds_toArray, List.set_cons_zero, List.set_cons_succ])
      refine plan_one (i := 7) (by kernel_rfl) rfl (by rfl) (fun K hK => ?_)
      (try simp only [List.getElem_toArray, List.getElem_cons_zero, List.getElem_cons_succ, Act.put, List.setIfInBounds_toArray, List.set_cons_zero, List.set_cons_succ])
      go_simp
      refine hK.out _ _ _ (t_cons (by go_simp) (t_nil _)) k_same (fun hPT' => ?_)
      (clear hPT hK K; have hPT := hPT'; clear hPT'; try simp only [List.getElem_toArray, List.getElem_cons_zero, List.getElem_cons_succ, Act.put, List.setIfInBounds_toArray, List.set_cons_zero, List.set_cons_succ])
      refine plan_one (i := 8) (by kernel_rfl) rfl (by rfl) (fun K hK => ?_)
      (try simp only [List.getElem_toArray, List.getElem_cons_zero, List.getElem_cons_succ, Act.put, List.setIfInBounds_toArray, List.set_cons_zero, List.set_cons_succ])
      refine wp_push _ (.tmp 25) (.tmp 28) _ rfl (w.heap.size + 1) 23 _ 24 Try.underlying22 Try.infoRow rfl (.slice Av k cv) k vs rfl (own_kp ha.out.out ((((Kp.refl No wr).alloc (.cells (madeCells #[.int .i64 0] 8) 3)).alloc (.cells #[.slice (some ⟨wr.heap.size, 0, none⟩) 8 8] 23)).drew) fun _ _ h => h) _ rfl 1 _ rfl (((blk_at' (w := wr.alloc (.cells (madeCells #[.int .i64 0] 8) 3)) 23 #[.slice (some ⟨wr.heap.size, 0, none⟩) 8 8] (by simp)).drew).cell 0) (by omega) (by decide) (by simp; omega) ?_
      intro g' c' w4 ho' hgr hat
      have HMO := hide (ha.out.more (by omega) ho' hgr)
      have hk4 : Kp No w w4 := ((((hkp.out.alloc (.cells (madeCells #[.int .i64 0] 8) 3)).alloc (.cells #[.slice (some ⟨wr.heap.size, 0, none⟩) 8 8] 23)).drew)).grown hgr fun b e hb => by have := (own_lt ha.out.out e).1; omega
      have hb4 := ((ha.out.blk.kp ((((Kp.refl No wr).alloc (.cells (madeCells #[.int .i64 0] 8) 3)).alloc (.cells #[.slice (some ⟨wr.heap.size, 0, none⟩) 8 8] 23)).drew) id).grown hgr fun e => own_ne_blk ha.out.out ha.out.blk (by decide) e.symm)
      have HK4 := hide hk4
      clear ho' hgr hat b1 b2 b3 b4 b5
      obtain ⟨b1, b2, b3, b4, b5⟩ := hb4.a2
      refine hK.out [] _ _ (t_nil _) (k_drop (by kernel_rfl) k_nil) (fun hPT' => ?_)
      (clear hPT hK K; have hPT := hPT'; clear hPT'; try simp only [List.getElem_toArray, List.getElem_cons_zero, List.getElem_cons_succ, Act.put, List.setIfInBounds_toArray, List.set_cons_zero, List.set_cons_succ])
      refine plan_take (i := 9) (v := ?_) rfl (by kernel_rfl) (by kernel_rfl) (by kernel_rfl) (fun _ _ _ h => h) hPT (by rfl) ?_ ?_
      rotate_left
      · (intro w; go_simp; with_reducible rfl)
      (clear hPT; intro hPT; simp only [List.getElem_toArray, List.getElem_cons_zero, List.getElem_cons_succ, Act.put, List.setIfInBounds_toArray, List.set_cons_zero, List.set_cons_succ])
      refine plan_take (i := 10) (v := ?_) rfl (by kernel_rfl) (by kernel_rfl) (by kernel_rfl) (fun _ _ _ h => h) hPT (by rfl) ?_ ?_
      rotate_left
      · (intro w; go_simp; with_reducible rfl)
      (clear hPT; intro hPT; simp only [List.getElem_toArray, List.getElem_cons_zero, List.getElem_cons_succ, Act.put, List.setIfInBounds_toArray, List.set_cons_zero, List.set_cons_succ])
      refine plan_one (i := 11) (by kernel_rfl) rfl (by rfl) (fun K hK => ?_)
      (try simp only [List.getElem_toArray, List.getElem_cons_zero, List.getElem_cons_succ, Act.put, List.setIfInBounds_toArray, List.set_cons_zero, List.set_cons_succ])
      go_simp
      refine hK.out [] _ _ (t_nil _) k_nil (fun hPT' => ?_)
      (clear hPT hK K; have hPT := hPT'; clear hPT'; try simp only [List.getElem_toArray, List.getElem_cons_zero, List.getElem_cons_succ, Act.put, List.setIfInBounds_toArray, List.set_cons_zero, List.set_cons_succ])
      refine plan_done (by kernel_rfl) ?_ _
      clear hPT
      go_wp2_with fail
      go_roundw
      case rel => exact ⟨k + 1, _, _, by go_num, hlt, HMO.out, HK4.out.trans' (kp_c _ _ _ _) fun b hb e => by unfold At at e; omega⟩
      case measure => (simp [intOf]; omega)
    · obtain rfl : k = 3 := by omega
      rw [show ((3 : Nat) : Int) = 3 from rfl]
      obtain ⟨go, rfl⟩ : ∃ g, Av = some ⟨g, 0, none⟩ := by
        obtain ⟨g, c, e, _⟩ := own_cap ha.out.out (k := 0) (by omega)
        injection e with e
        exact ⟨g, e⟩
      have hgc : ∀ i (hi : i < 3), vs[i]'(by omega) = .slice (some ⟨blkOf (vs.getD i .nilIface), 0, none⟩) 8 (capOf (vs.getD i .nilIface)) := fun i hi => by
        obtain ⟨g, c, e, _⟩ := own_int (ha.out.row i (by omega)) (k := 0) (by simp)
        have e2 : vs.getD i .nilIface = vs[i]'(by omega) := by rw [List.getD_eq_getElem?_getD, List.getElem?_eq_getElem (by omega)]; rfl
        rw [e2, e]
        simp [blkOf, capOf]
      have HFIN := hide (show ∃ g c, Sk wr w.heap.size go cv g c (fun _ => List.replicate 8 0) 0 ∧ ∀ i, i < 3 → w.heap.size ≤ g i from by
        refine ⟨fun i => blkOf (vs.getD i .nilIface), fun i => capOf (vs.getD i .nilIface), ⟨ha.out.blk, ⟨hcv, hmv⟩, fun i hi => ?_, fun i hi => ?_, fun _ _ => by simp, fun e => own_ne_blk ha.out.out ha.out.blk (by decide) (by rw [← e]; rfl), fun i hi => ⟨fun e => ?_, fun e => ?_⟩, fun i j hi hj hne e => ?_⟩, fun i hi => ?_⟩
        · obtain ⟨g1, c1, e1, _, _, h3, _⟩ := own_cap ha.out.out (k := i) (by omega)
          rw [hvl] at e1
          cases e1
          rw [h3, hgc i hi]
        · rw [← hgc i hi]
          exact own_base (ha.out.row i (by omega)) fun b hb => Nat.zero_le _
        · exact own_ne_blk (ha.out.row i (by omega)) ha.out.blk (by decide) (by rw [hgc i hi]; exact congrArg some e)
        · exact own_ne_own (ha.out.row i (by omega)) ha.out.out (by decide) (g := go) (by rw [hgc i hi]; exact congrArg some e) rfl
        · exact ha.out.ap.at_ (by omega : i < vs.length) (by omega : j < vs.length) hne (g := blkOf (vs.getD i .nilIface)) (by rw [hgc i hi]; rfl) (by rw [hgc j hj]; exact congrArg some e.symm)
        · have := (own_lt (ha.out.row i (by omega)) (g := blkOf (vs.getD i .nilIface)) (by rw [hgc i hi]; rfl)).1
          show w.heap.size ≤ blkOf (vs.getD i .nilIface)
          omega)
      have hgo : w.heap.size ≤ go := by have := (own_lt ha.out.out (g := go) rfl).1; omega
      clear hgc hvl
      go_wp2_with fail
      obtain ⟨g, c, hsk, hgl⟩ := HFIN.out
      exact bodyPost_ret (v := .tuple #[.pointer (some ⟨w.heap.size, 0, none⟩), .nilIface]) (by simp [results, Try.results11, go_sem]) rfl ⟨w.heap.size, go, cv, g, c, rfl, hsk, Nat.le_refl _, hgo, hgl, hkp.out⟩
end Go.Proofs.Ytjapcoonaabdnaa
