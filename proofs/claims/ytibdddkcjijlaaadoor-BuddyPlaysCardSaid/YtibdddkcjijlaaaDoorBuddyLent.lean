/- buddy: Lent, Free, and powers of two, walked. -/
import Derived.Test.YtibdddkcjijlaaaDoorBuddyRet
import Derived.Test.YtibdddkcjijlaaaDoorFitLent
namespace Go.Proofs.YtibdddkcjijlaaaDoor
open Go.RowKit
set_option linter.unusedSimpArgs false

/-- what is lent below a place, rising -/
def lentTo (ln : Nat → Option Nat) (k : Nat) : List (Nat × Nat) := (List.range k).filterMap fun a => (ln a).map fun o => (a, o)
theorem lentTo_none {ln : Nat → Option Nat} {k : Nat} (h : ln k = none) : lentTo ln (k + 1) = lentTo ln k := by
  unfold lentTo; rw [List.range_succ, List.filterMap_append]; simp [h]
theorem lentTo_some {ln : Nat → Option Nat} {k o : Nat} (h : ln k = some o) : lentTo ln (k + 1) = lentTo ln k ++ [(k, o)] := by
  unfold lentTo; rw [List.range_succ, List.filterMap_append]; simp [h]
theorem lentTo_len (ln : Nat → Option Nat) (k : Nat) : (lentTo ln k).length ≤ k := by
  have := List.length_filterMap_le (fun a => (ln a).map fun o => (a, o)) (List.range k)
  rw [List.length_range] at this
  exact this
theorem mem_lentTo {ln : Nat → Option Nat} {k : Nat} {b : Nat × Nat} : b ∈ lentTo ln k ↔ b.1 < k ∧ ln b.1 = some b.2 := by
  unfold lentTo
  rw [List.mem_filterMap]
  constructor
  · rintro ⟨a, ha, e⟩
    obtain ⟨o, ho, rfl⟩ := Option.map_eq_some_iff.1 e
    exact ⟨List.mem_range.1 ha, ho⟩
  · rintro ⟨h1, h2⟩
    exact ⟨b.1, List.mem_range.2 h1, by rw [h2]; rfl⟩
def lentL (ln : Nat → Option Nat) : List (Nat × Nat) := lentTo ln 64

/-- two rows of one's own come back -/
def OwnTwo (w : World) (L : List (Nat × Nat)) (e : Ending) (w' : World) : Prop :=
  ∃ v1 v2, e = .returned (.tuple #[v1, v2]) ∧ Two w.heap.size w w' v1 v2 L.length L.length (iv (fsts L)) (iv (snds L))
theorem OwnTwo.post {w w' : World} {L : List (Nat × Nat)} {e : Ending} (h : OwnTwo w L e w') : TwoPost w (fsts L) (snds L) e w' := by
  obtain ⟨v1, v2, rfl, h⟩ := h
  exact h.post

set_option maxRecDepth 100000 in
set_option maxHeartbeats 4000000 in
theorem blent_any {p m : Nat} {S : Nat → Prop} {fr : Nat → List Nat} {ln : Nat → Option Nat} (w : World) (hB : BudIs w p S fr ln m) (hln : ∀ a o, ln a = some o → o ≤ 6) :
    Calls Tryd.prog 21 #[.pointer (some ⟨p, 0, none⟩)] w (OwnTwo w (lentL ln)) := by
  have HB := hide hB
  have HLN := hide hln
  clear hB hln
  go_enter Tryd.func21, Tryd.ntmps21
  go_wp2
  go_loopw [2, 3, 7] (fun s2 s3 s7 wr => ∃ k : Nat, s7 = .int .i64 k ∧ k ≤ 64 ∧ Hid (Two w.heap.size w wr s2 s3 (lentTo ln k).length (lentTo ln k).length (iv (fsts (lentTo ln k))) (iv (snds (lentTo ln k))))) (fun _ _ s7 _ => 64 - (intOf s7).toNat)
  case atStart => exact ⟨0, rfl, by omega, Two.start _ (Nat.le_refl _)⟩
  case round =>
    obtain ⟨k, rfl, hk, hT⟩ := hrel
    by_cases hlt : k < 64
    · obtain ⟨hp, vf, bm, h, _, _⟩ := HB.out.no hT.out.kp
      have c7 := h.cellM
      have HLK := hide (h.map.look (x := (k : Int)) ⟨by omega, by omega⟩)
      have z1 := h.blk.lt
      clear h hp
      cases hl : ln k with
      | none =>
        have HN := hide (lentTo_none hl)
        rw [lnI_nat, hl] at HLK
        have hlk : (Instr.lookup 65 (.map (some bm)) (.int .i64 (k : Int)) true).run Tryd.prog wr = .ok (.tuple #[.int .i64 0, .bool false]) wr := HLK.out
        have HT := hide hT.out
        clear hl HLK hT
        go_wp2
        go_roundw
        case rel => exact ⟨k + 1, by go_num, hlt, by rw [HN.out]; exact HT.out⟩
        case measure => (simp [intOf]; omega)
      | some o =>
        have ho6 := HLN.out k o hl
        have HN := hide (lentTo_some hl)
        have HL := hide (lentTo_len ln k)
        rw [lnI_nat, hl] at HLK
        have hlk : (Instr.lookup 65 (.map (some bm)) (.int .i64 (k : Int)) true).run Tryd.prog wr = .ok (.tuple #[.int .i64 (o : Int), .bool true]) wr := HLK.out
        obtain ⟨L, hL⟩ : ∃ L, lentTo ln k = L := ⟨_, rfl⟩
        rw [hL] at HN HL hT
        have HPA := hide (fsts_snoc L (k, o))
        have HPB := hide (snds_snoc L (k, o))
        have hl64 := HL.out
        have HT := hide hT.out
        have hwsz := HT.out.kp.size
        clear hl HLK hT hL
        go_wp2_with (first
          | (at_builtin
             refine wpList_push _ rfl (.tmp 20) (.tmp 22) _ rfl w.heap.size 3 _ 8 Tryd.underlying22 Tryd.infoInt rfl u2 L.length (iv (fsts L)) rfl HT.out.o1 _ rfl 1 _ rfl (by simp) (by omega) (by decide) hwsz ?_
             intro g1 c1 w2 ho hgr hat
             have HT2 := hide ((HT.out.alloc rfl).push1 ho hgr (by simpa using hat))
             have hw2 := HT2.out.kp.size
             clear ho hgr hat hlk c7)
          | (at_builtin
             refine wpList_push _ rfl (.tmp 24) (.tmp 26) _ rfl w.heap.size 3 _ 8 Tryd.underlying22 Tryd.infoInt rfl u3 L.length (iv (snds L)) rfl HT2.out.o2 _ rfl 1 _ rfl (by simp) (by omega) (by decide) hw2 ?_
             intro g2 c2 w3 ho hgr hat
             have HT3 := hide ((HT2.out.alloc rfl).push2 ho hgr (by simpa using hat))
             clear ho hgr hat))
        go_roundw
        case rel => exact ⟨k + 1, by go_num, hlt, by rw [HN.out, HPA.out, HPB.out, iv_snoc, iv_snoc, List.length_append]; exact HT3.out⟩
        case measure => (simp [intOf]; omega)
    · obtain rfl : k = 64 := by omega
      go_wp2
      go_ret2
      exact ⟨_, _, rfl, hT.out⟩

set_option maxHeartbeats 1000000 in
theorem bfree_any {p m : Nat} {S : Nat → Prop} {fr : Nat → List Nat} {ln : Nat → Option Nat} (x : Int) (w : World) (hB : BudIs w p S fr ln m) (hl : ∀ k, k ≤ 6 → (fr k).length ≤ 64) :
    Calls Tryd.prog 22 #[.pointer (some ⟨p, 0, none⟩), .int .i64 x] w fun e w' => ∃ v, e = .returned v ∧ w'.ownsRow w.heap.size 3 1 v (if btw x 0 6 then fr x.toNat else []).length (iv (ni (if btw x 0 6 then fr x.toNat else []))) ∧ Kp No w w' := by
  cases hbt : btw x 0 6 with
  | false =>
    have HBT := hide hbt
    clear hbt hB hl
    go_enter Tryd.func22, Tryd.ntmps22
    go_wp2_with fail
    refine Calls.mono (within_any _ _ _ _) ?_
    rw [HBT.out]
    rintro e w1 ⟨rfl, rfl⟩
    go_wp2
    go_ret
    exact ⟨_, rfl, World.ownsRow_nil _ _ _ _, Kp.refl _ _⟩
  | true =>
    obtain ⟨k, rfl⟩ : ∃ k : Nat, x = k := ⟨x.toNat, by have := btw_iff.1 hbt; omega⟩
    have hk : k ≤ 6 := by have := btw_iff.1 hbt; omega
    have HBT := hide hbt
    obtain ⟨_, vf, bm, h, _, _⟩ := hB
    have hcl := (h.cell hk).1
    have HCL := hide (clone_any (F := fun _ => True) (vf k) (ni (fr k)) w (IntsIn.of_own (by have := h.own k hk; rw [← ni_length] at this; exact this) fun _ _ => trivial) (by rw [ni_length]; have := hl k hk; omega))
    have z1 := h.blk.lt
    have hk7 : (k : Int) < 7 := by omega
    obtain ⟨v, hv⟩ : ∃ v, vf k = v := ⟨_, rfl⟩
    rw [hv] at hcl HCL
    clear hbt hl h hv
    go_enter Tryd.func22, Tryd.ntmps22
    go_wp2_with fail
    refine Calls.mono (within_any _ _ _ _) ?_
    rw [HBT.out]
    rintro e w1 ⟨rfl, rfl⟩
    go_wp2_with fail
    refine Calls.mono HCL.out ?_
    rintro e w2 ⟨v2, rfl, ho, hkp⟩
    have HO := hide ho
    have HK := hide hkp
    clear ho hkp
    go_wp2
    go_ret
    refine ⟨_, rfl, ?_, HK.out⟩
    have := HO.out
    rw [ni_length] at this
    exact this

theorem bfree_ok {p m : Nat} {S : Nat → Prop} {fr : Nat → List Nat} {ln : Nat → Option Nat} (k : Nat) (hk : k ≤ 6) (w : World) (hB : BudIs w p S fr ln m) (hl : ∀ k, k ≤ 6 → (fr k).length ≤ 64) :
    Calls Tryd.prog 22 #[.pointer (some ⟨p, 0, none⟩), .int .i64 (k : Int)] w fun e w' => ∃ v, e = .returned v ∧ IntsIn w' (Hi w.heap.size) v (ni (fr k)) ∧ Kp No w w' := by
  refine (bfree_any (k : Int) w hB hl).mono ?_
  have hb : btw (k : Int) 0 6 = true := btw_iff.2 ⟨by omega, by omega⟩
  rw [hb, if_pos rfl, Int.toNat_natCast]
  rintro e w' ⟨v, rfl, ho, hk⟩
  rw [← ni_length] at ho
  exact ⟨v, rfl, .of_own ho fun b hb => (own_lt ho hb).1, hk⟩
end Go.Proofs.YtibdddkcjijlaaaDoor
