/- Rows of keys that are counted, in memory; the library's IndexFunc and DeleteFunc over them: their own text is walked. -/
import Derived.Test.YtjapcoonaabdnaaCntPlain
import Derived.Test.YtjapcoonaabdnaaOwn
import Derived.Test.YtjapcoonaabdnaaOwnK
import Derived.Test.YtjapcoonaabdnaaCheck
namespace Go.Proofs.Ytjapcoonaabdnaa
open Go.RowKit
set_option linter.unusedSimpArgs false

/-- keys and counts, cell by cell -/
def kkv : List (Nat × Nat) → List Value
  | [] => []
  | b :: r => .int .i64 b.1 :: .int .i64 b.2 :: kkv r
theorem kkv_length : ∀ bs : List (Nat × Nat), (kkv bs).length = bs.length * 2
  | [] => rfl
  | b :: r => by simp only [kkv, List.length_cons, kkv_length r]; omega
theorem kkv_append : ∀ (a b : List (Nat × Nat)), kkv (a ++ b) = kkv a ++ kkv b
  | [], b => rfl
  | x :: a, b => by simp [kkv, kkv_append a b]
theorem kkv_take : ∀ (bs : List (Nat × Nat)) (i : Nat), (kkv bs).take (i * 2) = kkv (bs.take i)
  | [], i => by simp [kkv]
  | b :: r, 0 => by simp [kkv]
  | b :: r, i + 1 => by
    rw [show (i + 1) * 2 = i * 2 + 1 + 1 by omega]
    simp [kkv, kkv_take r i]
theorem kkv_get : ∀ (bs : List (Nat × Nat)) (k : Nat) (h : k < bs.length), (kkv bs)[k * 2]? = some (.int .i64 (bs[k]).1) ∧ (kkv bs)[k * 2 + 1]? = some (.int .i64 (bs[k]).2)
  | b :: r, 0, h => by simp [kkv]
  | b :: r, k + 1, h => by
    rw [show (k + 1) * 2 = k * 2 + 1 + 1 by omega]
    have := kkv_get r k (by simpa using h)
    simp only [kkv, List.getElem?_cons_succ, List.getElem_cons_succ]
    exact this
theorem kkv_one : ∀ (bs : List (Nat × Nat)), ∀ u ∈ kkv bs, u.oneCell' = true
  | [], _, h => by cases h
  | b :: r, u, h => by
    simp only [kkv, List.mem_cons] at h
    rcases h with rfl | rfl | h
    · rfl
    · rfl
    · exact kkv_one r u h
theorem kkv_set1 : ∀ (bs : List (Nat × Nat)) (k : Nat) (h : k < bs.length) (x : Nat), (kkv bs).set (k * 2) (.int .i64 x) = kkv (bs.set k (x, (bs[k]).2))
  | b :: r, 0, h, x => by simp [kkv]
  | b :: r, k + 1, h, x => by
    rw [show (k + 1) * 2 = k * 2 + 1 + 1 by omega]
    simp only [kkv, List.set_cons_succ, List.getElem_cons_succ, kkv_set1 r k (by simpa using h) x]
theorem kkv_set2 : ∀ (bs : List (Nat × Nat)) (k : Nat) (h : k < bs.length) (x : Nat), (kkv bs).set (k * 2 + 1) (.int .i64 x) = kkv (bs.set k ((bs[k]).1, x))
  | b :: r, 0, h, x => by simp [kkv]
  | b :: r, k + 1, h, x => by
    rw [show (k + 1) * 2 + 1 = k * 2 + 1 + 1 + 1 by omega]
    simp only [kkv, List.set_cons_succ, List.getElem_cons_succ, kkv_set2 r k (by simpa using h) x]

/-- a row of one's own that holds keys and counts -/
def KRow (w : World) (base : Nat) (v : Value) (l : List (Nat × Nat)) : Prop := w.ownsRow base 46 2 v l.length (kkv l)
section
variable {w w' : World} {base : Nat} {v : Value} {l : List (Nat × Nat)}
theorem KRow.kp {S : Nat → Prop} (h : KRow w base v l) (hk : Kp S w w') (hs : ∀ b, v.ownBlock = some b → ¬ S b) : KRow w' base v l := own_kp h hk hs
theorem KRow.no (h : KRow w base v l) (hk : Kp No w w') : KRow w' base v l := own_kp h hk fun _ _ h => h
theorem KRow.form (h : KRow w base v l) : ∃ A c, v = .slice A l.length c ∧ l.length ≤ c ∧ c ≤ 9223372036854775807 ∧
    ∀ k (hk : k < l.length), ∃ g, A = some ⟨g, 0, none⟩ ∧ w.cell? ⟨g, k * 2, none⟩ = some (.int .i64 (l[k]).1) ∧ w.cell? ⟨g, k * 2 + 1, none⟩ = some (.int .i64 (l[k]).2) ∧ w.frozen? ⟨g, k * 2, none⟩ = false ∧ w.frozen? ⟨g, k * 2 + 1, none⟩ = false ∧ g < w.heap.size ∧ base ≤ g := by
  rcases h.2 with ⟨rfl, h0⟩ | ⟨g, cap, cur, rfl, hb, hh, hn, hm, hs, ht⟩
  · exact ⟨none, 0, by rw [h0], by omega, by omega, fun k hk => by omega⟩
  · refine ⟨some ⟨g, 0, none⟩, cap, rfl, hn, by unfold maxLen at hm; exact hm, fun k hk => ⟨g, rfl, ?_, ?_, Blk.free (t := 46) hh _, Blk.free (t := 46) hh _, Blk.lt (t := 46) hh, hb⟩⟩
    · have := (kkv_get l k hk).1
      rw [← ht, List.getElem?_take] at this
      split at this
      · rw [Blk.cell (t := 46) hh, ← this, Array.getElem?_toList]
      · cases this
    · have := (kkv_get l k hk).2
      rw [← ht, List.getElem?_take] at this
      split at this
      · rw [Blk.cell (t := 46) hh, ← this, Array.getElem?_toList]
      · cases this
/-- a count, a key is set -/
theorem KRow.set2 (h : KRow w base v l) {g : Nat} (hg : v.ownBlock = some g) {k : Nat} (hk : k < l.length) (x : Nat) : KRow (w.setCell ⟨g, k * 2 + 1, none⟩ (.int .i64 x)) base v (l.set k ((l[k]).1, x)) := by
  unfold KRow
  rw [List.length_set, ← kkv_set2 l k hk]
  exact ownK_set h hg _ (by rw [kkv_length]; omega) _
theorem KRow.set1 (h : KRow w base v l) {g : Nat} (hg : v.ownBlock = some g) {k : Nat} (hk : k < l.length) (x : Nat) : KRow (w.setCell ⟨g, k * 2, none⟩ (.int .i64 x)) base v (l.set k (x, (l[k]).2)) := by
  unfold KRow
  rw [List.length_set, ← kkv_set1 l k hk]
  exact ownK_set h hg _ (by rw [kkv_length]; omega) _
/-- all that holds of a key's closure -/
def IsKey (f x : Nat) : Prop := ∀ (a s g : Nat) (w : World), w.cell? ⟨g, 0, none⟩ = some (.int .i64 (x : Nat)) → Calls Try.prog f #[.agg #[.int .i64 (a : Nat), .int .i64 (s : Nat)], .pointer (some ⟨g, 0, none⟩)] w fun e w' => e = .returned (.bool (decide (a = x))) ∧ Kp No w w'
end

theorem isK1_any (x : Nat) : IsKey 29 x := by
  intro a s g w hg
  have hlt := World.block_lt_of_cell? w _ hg
  have hg2 : (w.alloc (.cells #[.int .i64 a, .int .i64 s] 46)).cell? ⟨g, 0, none⟩ = some (.int .i64 x) := by rw [World.cell?_alloc_lt _ _ _ hlt]; exact hg
  go_enter Try.func29, Try.ntmps29
  go_wp2
  go_ret
  exact ⟨ret_bool (by simp [Bool.beq_eq_decide_eq]; omega), (Kp.refl _ _).alloc _⟩
theorem isK2_any (x : Nat) : IsKey 32 x := by
  intro a s g w hg
  have hlt := World.block_lt_of_cell? w _ hg
  have hg2 : (w.alloc (.cells #[.int .i64 a, .int .i64 s] 46)).cell? ⟨g, 0, none⟩ = some (.int .i64 x) := by rw [World.cell?_alloc_lt _ _ _ hlt]; exact hg
  go_enter Try.func32, Try.ntmps32
  go_wp2
  go_ret
  exact ⟨ret_bool (by simp [Bool.beq_eq_decide_eq]; omega), (Kp.refl _ _).alloc _⟩
theorem isZ_any (a s : Nat) (w : World) : Calls Try.prog 31 #[.agg #[.int .i64 (a : Nat), .int .i64 (s : Nat)]] w fun e w' => e = .returned (.bool (decide (s = 0))) ∧ Kp No w w' := by
  go_enter Try.func31, Try.ntmps31
  go_wp2
  go_ret
  exact ⟨ret_bool (by simp [Bool.beq_eq_decide_eq]), (Kp.refl _ _).alloc _⟩

set_option maxHeartbeats 4000000 in
theorem find1_any {base : Nat} (v : Value) (l : List (Nat × Nat)) (x : Nat) (g : Nat) (w : World) (h : KRow w base v l) (hg : w.cell? ⟨g, 0, none⟩ = some (.int .i64 x)) (hl40 : l.length ≤ 40) :
    Calls Try.prog 28 #[v, .func (.func 29) #[] #[.pointer (some ⟨g, 0, none⟩)]] w fun e w' => e = .returned (.int .i64 (ixK l x)) ∧ Kp No w w' := by
  obtain ⟨A, c, rfl, hc, hm, hcell⟩ := h.form
  have H := hide (show ∀ W, Kp No w W → ∀ k (hk : k < l.length), ∃ b, A = some ⟨b, 0, none⟩ ∧ W.cell? ⟨b, k * 2, none⟩ = some (.int .i64 (l[k]).1) ∧ W.cell? ⟨b, k * 2 + 1, none⟩ = some (.int .i64 (l[k]).2) from fun W hk k hlt => by
    obtain ⟨b, e, c1, c2, _⟩ := hcell k hlt
    exact ⟨b, e, hk.cell c1 (fun h => h), hk.cell c2 (fun h => h)⟩)
  have HG := hide hg
  clear hcell h hg
  go_enter Try.func28, Try.ntmps28
  go_wp2
  go_loopw [5, 8] (fun _ i wr => ∃ k : Nat, k ≤ l.length ∧ i = .int .i64 k ∧ Hid (Kp No w wr) ∧ Hid (∀ j (_ : j < k) (hj : j < l.length), ¬ (l[j]).1 = x)) (fun _ i _ => l.length - (intOf i).toNat)
  case atStart => exact ⟨0, Nat.zero_le _, rfl, Kp.refl _ _, fun j h => absurd h (by omega)⟩
  case round =>
    obtain ⟨k, hk, rfl, HK, hb⟩ := hrel
    by_cases hlt : k < l.length
    · obtain ⟨b, rfl, c1, c2⟩ := H.out _ HK.out k hlt
      have HX := hide (isK1_any x (l[k]).1 (l[k]).2 g wr (HK.out.cell HG.out (fun h => h)))
      by_cases hx : (l[k]).1 = x
      · have HF := hide (ixK_at hlt hx fun j hj => hb.out j hj (by omega))
        rw [decide_eq_true hx] at HX
        clear hx
        go_wp2_with fail
        refine Calls.mono HX.out ?_
        rintro e w1 ⟨rfl, hk1⟩
        have HK1 := hide (HK.out.trans hk1)
        clear hk1
        go_wp2
        go_ret
        exact ⟨ret_int HF.out.symm, HK1.out⟩
      · have HN := hide hx
        rw [decide_eq_false hx] at HX
        clear hx
        go_wp2_with fail
        refine Calls.mono HX.out ?_
        rintro e w1 ⟨rfl, hk1⟩
        have HK1 := hide (HK.out.trans hk1)
        clear hk1
        go_wp2
        go_roundw
        case rel =>
          refine ⟨k + 1, by omega, by go_num, HK1.out, ?_⟩
          intro j h hj
          rcases Nat.lt_or_ge j k with h' | h'
          · exact hb.out j h' hj
          · obtain rfl : j = k := by omega
            exact HN.out
        case measure => simp [intOf]; omega
    · have HF := hide (ixK_none fun j hj => hb.out j (by omega) hj)
      go_wp2
      go_ret
      exact ⟨ret_int HF.out.symm, HK.out⟩

set_option maxHeartbeats 4000000 in
theorem find2_any {base : Nat} (v : Value) (l : List (Nat × Nat)) (x : Nat) (g : Nat) (w : World) (h : KRow w base v l) (hg : w.cell? ⟨g, 0, none⟩ = some (.int .i64 x)) (hl40 : l.length ≤ 40) :
    Calls Try.prog 28 #[v, .func (.func 32) #[] #[.pointer (some ⟨g, 0, none⟩)]] w fun e w' => e = .returned (.int .i64 (ixK l x)) ∧ Kp No w w' := by
  obtain ⟨A, c, rfl, hc, hm, hcell⟩ := h.form
  have H := hide (show ∀ W, Kp No w W → ∀ k (hk : k < l.length), ∃ b, A = some ⟨b, 0, none⟩ ∧ W.cell? ⟨b, k * 2, none⟩ = some (.int .i64 (l[k]).1) ∧ W.cell? ⟨b, k * 2 + 1, none⟩ = some (.int .i64 (l[k]).2) from fun W hk k hlt => by
    obtain ⟨b, e, c1, c2, _⟩ := hcell k hlt
    exact ⟨b, e, hk.cell c1 (fun h => h), hk.cell c2 (fun h => h)⟩)
  have HG := hide hg
  clear hcell h hg
  go_enter Try.func28, Try.ntmps28
  go_wp2
  go_loopw [5, 8] (fun _ i wr => ∃ k : Nat, k ≤ l.length ∧ i = .int .i64 k ∧ Hid (Kp No w wr) ∧ Hid (∀ j (_ : j < k) (hj : j < l.length), ¬ (l[j]).1 = x)) (fun _ i _ => l.length - (intOf i).toNat)
  case atStart => exact ⟨0, Nat.zero_le _, rfl, Kp.refl _ _, fun j h => absurd h (by omega)⟩
  case round =>
    obtain ⟨k, hk, rfl, HK, hb⟩ := hrel
    by_cases hlt : k < l.length
    · obtain ⟨b, rfl, c1, c2⟩ := H.out _ HK.out k hlt
      have HX := hide (isK2_any x (l[k]).1 (l[k]).2 g wr (HK.out.cell HG.out (fun h => h)))
      by_cases hx : (l[k]).1 = x
      · have HF := hide (ixK_at hlt hx fun j hj => hb.out j hj (by omega))
        rw [decide_eq_true hx] at HX
        clear hx
        go_wp2_with fail
        refine Calls.mono HX.out ?_
        rintro e w1 ⟨rfl, hk1⟩
        have HK1 := hide (HK.out.trans hk1)
        clear hk1
        go_wp2
        go_ret
        exact ⟨ret_int HF.out.symm, HK1.out⟩
      · have HN := hide hx
        rw [decide_eq_false hx] at HX
        clear hx
        go_wp2_with fail
        refine Calls.mono HX.out ?_
        rintro e w1 ⟨rfl, hk1⟩
        have HK1 := hide (HK.out.trans hk1)
        clear hk1
        go_wp2
        go_roundw
        case rel =>
          refine ⟨k + 1, by omega, by go_num, HK1.out, ?_⟩
          intro j h hj
          rcases Nat.lt_or_ge j k with h' | h'
          · exact hb.out j h' hj
          · obtain rfl : j = k := by omega
            exact HN.out
        case measure => simp [intOf]; omega
    · have HF := hide (ixK_none fun j hj => hb.out j (by omega) hj)
      go_wp2
      go_ret
      exact ⟨ret_int HF.out.symm, HK.out⟩

/-- the library's DeleteFunc, at entries of count 0: kept so far, and what is behind -/
def keptTo (l : List (Nat × Nat)) (k : Nat) : List (Nat × Nat) := someK (l.take k)
theorem keptTo_succ {l : List (Nat × Nat)} {k : Nat} (h : k < l.length) : keptTo l (k + 1) = if (l[k]).2 = 0 then keptTo l k else keptTo l k ++ [l[k]] := by
  unfold keptTo someK
  rw [List.take_succ_eq_append_getElem h, List.filter_append]
  by_cases e : (l[k]).2 = 0
  · rw [if_pos e]; simp [e]
  · rw [if_neg e]; simp [e]
theorem keptTo_le (l : List (Nat × Nat)) (k : Nat) : (keptTo l k).length ≤ k := by
  unfold keptTo someK
  exact Nat.le_trans (List.length_filter_le _ _) (by rw [List.length_take]; omega)
theorem keptTo_all (l : List (Nat × Nat)) : keptTo l l.length = someK l := by unfold keptTo; rw [List.take_length]
theorem mix_set {K m1 D : List (Nat × Nat)} {a b : Nat × Nat} : (K ++ a :: m1 ++ b :: D).set K.length b = (K ++ [b]) ++ (m1 ++ [b]) ++ D := by
  rw [List.append_assoc, List.set_append_right _ _ (Nat.le_refl _), Nat.sub_self]
  simp
theorem someK_all {l : List (Nat × Nat)} (h : ∀ j (hj : j < l.length), (l[j]).2 ≠ 0) : someK l = l := by
  unfold someK
  rw [List.filter_eq_self]
  intro b hb
  obtain ⟨j, hj, rfl⟩ := List.getElem_of_mem hb
  simpa using h j hj
theorem keptTo_first {l : List (Nat × Nat)} {k : Nat} (hk : k < l.length) (h : ∀ j (hj : j < l.length), j < k → (l[j]).2 ≠ 0) (h0 : (l[k]).2 = 0) : keptTo l (k + 1) = l.take k := by
  rw [keptTo_succ hk, if_pos h0]
  unfold keptTo
  refine someK_all fun j hj => ?_
  rw [List.length_take] at hj
  rw [List.getElem_take]
  exact h j (by omega) (by omega)

set_option maxHeartbeats 4000000 in
theorem findZ_any {base : Nat} (v : Value) (l : List (Nat × Nat)) (w : World) (h : KRow w base v l) (hl40 : l.length ≤ 40) :
    Calls Try.prog 28 #[v, .func (.func 31) #[] #[]] w fun e w' => (∃ k, k ≤ l.length ∧ (∀ j (hj : j < l.length), j < k → (l[j]).2 ≠ 0) ∧ ((k = l.length ∧ e = .returned (.int .i64 (-1))) ∨ ∃ hk : k < l.length, (l[k]).2 = 0 ∧ e = .returned (.int .i64 (k : Nat)))) ∧ Kp No w w' := by
  obtain ⟨A, c, rfl, hc, hm, hcell⟩ := h.form
  have H := hide (show ∀ W, Kp No w W → ∀ k (hk : k < l.length), ∃ b, A = some ⟨b, 0, none⟩ ∧ W.cell? ⟨b, k * 2, none⟩ = some (.int .i64 (l[k]).1) ∧ W.cell? ⟨b, k * 2 + 1, none⟩ = some (.int .i64 (l[k]).2) from fun W hk k hlt => by
    obtain ⟨b, e, c1, c2, _⟩ := hcell k hlt
    exact ⟨b, e, hk.cell c1 (fun h => h), hk.cell c2 (fun h => h)⟩)
  clear hcell h
  go_enter Try.func28, Try.ntmps28
  go_wp2
  go_loopw [5, 8] (fun _ i wr => ∃ k : Nat, k ≤ l.length ∧ i = .int .i64 k ∧ Hid (Kp No w wr) ∧ Hid (∀ j (hj : j < l.length), j < k → ¬ (l[j]).2 = 0)) (fun _ i _ => l.length - (intOf i).toNat)
  case atStart => exact ⟨0, Nat.zero_le _, rfl, Kp.refl _ _, fun j _ h => absurd h (by omega)⟩
  case round =>
    obtain ⟨k, hk, rfl, HK, hb⟩ := hrel
    by_cases hlt : k < l.length
    · obtain ⟨b, rfl, c1, c2⟩ := H.out _ HK.out k hlt
      have HX := hide (isZ_any (l[k]).1 (l[k]).2 wr)
      by_cases hx : (l[k]).2 = 0
      · have HF := hide hx
        rw [decide_eq_true hx] at HX
        obtain ⟨d, hd⟩ : ∃ d, (l[k]).2 = d := ⟨_, rfl⟩
        rw [hd] at c2 HX
        clear hx hd
        go_wp2_with fail
        refine Calls.mono HX.out ?_
        rintro e w1 ⟨rfl, hk1⟩
        have HK1 := hide (HK.out.trans hk1)
        clear hk1
        go_wp2
        go_ret
        exact ⟨⟨k, hk, hb.out, .inr ⟨hlt, HF.out, rfl⟩⟩, HK1.out⟩
      · have HN := hide hx
        rw [decide_eq_false hx] at HX
        clear hx
        go_wp2_with fail
        refine Calls.mono HX.out ?_
        rintro e w1 ⟨rfl, hk1⟩
        have HK1 := hide (HK.out.trans hk1)
        clear hk1
        go_wp2
        go_roundw
        case rel =>
          refine ⟨k + 1, by omega, by go_num, HK1.out, ?_⟩
          intro j hj h
          rcases Nat.lt_or_ge j k with h' | h'
          · exact hb.out j hj h'
          · obtain rfl : j = k := by omega
            exact HN.out
        case measure => simp [intOf]; omega
    · obtain rfl : k = l.length := by omega
      go_wp2
      go_ret
      exact ⟨⟨l.length, Nat.le_refl _, hb.out, .inl ⟨rfl, rfl⟩⟩, HK.out⟩

end Go.Proofs.Ytjapcoonaabdnaa
