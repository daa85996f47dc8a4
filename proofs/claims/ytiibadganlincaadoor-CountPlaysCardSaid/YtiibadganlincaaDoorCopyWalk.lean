/- cheney.Copy, for every heap: what is wrong, or the order and the copy. -/
import Derived.Test.YtiibadganlincaaDoorCopyPlain
import Derived.Test.YtiibadganlincaaDoorPlan
import Derived.RegionTactic
namespace Go.Proofs.YtiibadganlincaaDoor
open Go.RowKit

/-- where the rows of the copy lie -/
def CpF (B g b7 : Nat) (v ov : Value) (b : Nat) : Prop := B ≤ b ∧ b ≠ B + 1 ∧ b ≠ g ∧ b ≠ b7 ∧ v.ownBlock ≠ some b ∧ ov.ownBlock ≠ some b

structure CpMem (w : World) (vo vr : Value) (g b7 : Nat) (o : List Int) (rows : List (List Int)) (roots : List Int) (v ov rv : Value) (vals : List Value) (wr : World) : Prop where
  bh : Blk wr w.heap.size 45 #[vo, vr]
  b3 : Blk wr (w.heap.size + 1) 45 #[.slice none 0 0, .slice none 0 0]
  bg : Blk wr g 25 #[v]
  own : wr.ownsRow w.heap.size 3 1 v o.length (iv o)
  bo : Blk wr b7 45 #[ov, rv]
  outs : wr.ownsRow w.heap.size 25 1 ov rows.length vals
  row : ∀ i (h : i < vals.length) (h' : i < rows.length), IntsIn wr (CpF w.heap.size g b7 v ov) vals[i] rows[i]
  root : IntsIn wr (CpF w.heap.size g b7 v ov) rv roots
  og : ov.ownBlock ≠ some g
  kp : Kp No w wr

def CpInv (w : World) (vo vr : Value) (g b7 : Nat) (outs : List (List Int)) (roots : List Int) (k : Nat) (wr : World) : Prop :=
  ∃ o v ov rv vals, Scan outs roots k o ∧ CpMem w vo vr g b7 o (rowsOf outs o k) (renum o roots) v ov rv vals wr

/-- the first order, and the roots -/
theorem CpMem.start {w w1 w2 w3 : World} {vo vr : Value} {roots : List Int} {A : Option Addr} {c : Nat}
    (bh : Blk w1 w.heap.size 45 #[vo, vr]) (b3 : Blk w1 (w.heap.size + 1) 45 #[.slice none 0 0, .slice none 0 0]) (hk : Kp No w w1)
    (h2 : (w1.alloc (.cells #[.slice none 0 0] 25)).alloc (.cells #[.slice none 0 0, .slice none 0 0] 45) = w2)
    (hf : FwdInv w2 w.heap.size w1.heap.size (.slice none 0 0) [] roots roots.length (.slice A roots.length c) w3) :
    ∃ v, CpMem w vo vr w1.heap.size (w1.heap.size + 1) (fwd [] roots) [] (renum (fwd [] roots) roots) v (.slice none 0 0) (.slice A roots.length c) [] (w3.setCell ⟨w1.heap.size + 1, 1, none⟩ (.slice A roots.length c)) := by
  subst h2
  obtain ⟨v, hb, hown, hv, ht, hne, hkp⟩ := hf
  rw [List.take_length] at hown ht
  have hw1 : w.heap.size + 1 < w1.heap.size := b3.lt
  have k1 : Kp No w1 ((w1.alloc (.cells #[.slice none 0 0] 25)).alloc (.cells #[.slice none 0 0, .slice none 0 0] 45)) := ((Kp.refl No w1).alloc _).alloc _
  have hN : ((w1.alloc (.cells #[.slice none 0 0] 25)).alloc (.cells #[.slice none 0 0, .slice none 0 0] 45)).heap.size = w1.heap.size + 2 := by simp
  have k2 : Kp (fun k => k = w1.heap.size) ((w1.alloc (.cells #[.slice none 0 0] 25)).alloc (.cells #[.slice none 0 0, .slice none 0 0] 45)) w3 := hkp.mono fun k _ h => h.elim id fun h => by simp [Value.ownBlock] at h
  have k3 : Kp (fun k => k = w1.heap.size + 1) w3 (w3.setCell ⟨w1.heap.size + 1, 1, none⟩ (.slice A roots.length c)) := Kp.setCell (S := fun k => k = w1.heap.size + 1) (p := ⟨w1.heap.size + 1, 1, none⟩) (Kp.refl _ w3) (fun _ => rfl) _
  have b7 : Blk w3 (w1.heap.size + 1) 45 #[.slice none 0 0, .slice none 0 0] := by
    have := Blk.new (w1.alloc (.cells #[.slice none 0 0] 25)) 45 #[.slice none 0 0, .slice none 0 0]
    rw [World.size_alloc] at this
    exact this.kp k2 (by omega)
  have hvg : v.ownBlock ≠ some (w1.heap.size + 1) := fun h => by
    rcases hv with e | ⟨b, e, hb'⟩
    · rw [e] at h; simp [Value.ownBlock] at h
    · rw [e] at h; injection h with h; omega
  have hvge : ∀ b, v.ownBlock = some b → w1.heap.size + 2 ≤ b := fun b h => by
    rcases hv with e | ⟨b', e, hb'⟩
    · rw [e] at h; simp [Value.ownBlock] at h
    · rw [e] at h; injection h with h; omega
  refine ⟨v, ((bh.kp k1 id).kp k2 (by omega)).kp k3 (by omega), ((b3.kp k1 id).kp k2 (by omega)).kp k3 (by omega), hb.kp k3 (by omega), own_kp hown k3 (fun b h e => by have := hvge b h; omega), ?_, ?_, ?_, ?_, by simp [Value.ownBlock], ?_⟩
  · exact b7.set_ 1 _
  · exact World.ownsRow_nil _ _ _ _
  · intro i h _; simp at h
  · have hi : IntsIn w3 (fun b => w1.heap.size + 2 ≤ b ∧ v.ownBlock ≠ some b) (.slice A roots.length c) (renum (fwd [] roots) roots) := .of_own (n := roots.length) (base := w1.heap.size + 2) (e := 3) (by rw [hN] at ht; exact ht) fun b h => ⟨by have := (own_lt ht h).1; omega, fun h' => hne b h h'⟩
    refine (hi.kp k3 fun k h e => by omega).mono fun k _ h => ⟨by omega, by omega, by omega, by omega, h.2, by simp [Value.ownBlock]⟩
  · exact ((hk.trans k1).trans' k2 fun k h e => by omega).trans' k3 fun k h e => by omega

/-- one scan more -/
theorem CpMem.next {w wr w1 w2 : World} {vo vr v ov rv t : Value} {g b7 k : Nat} {outs : List (List Int)} {roots o : List Int} {vals : List Value} (hs : Scan outs roots k o) (hk : k < o.length) (hgw : w.heap.size + 1 < g) (hb7 : g < b7)
    (hm : CpMem w vo vr g b7 o (rowsOf outs o k) (renum o roots) v ov rv vals wr)
    (hf : FwdInv wr w.heap.size g v o (adj outs o[k]) (adj outs o[k]).length t w1) {g' c' : Nat}
    (ha : w2.ownsRow w.heap.size 25 1 (.slice (some ⟨g', 0, none⟩) ((rowsOf outs o k).length + 1) c') ((rowsOf outs o k).length + 1) (vals ++ [t]))
    (hgr : (w1.alloc (.cells #[t] 25)).grownBy w2 ov.ownBlock) (hat : ov.ownBlock = some g' ∨ g' = w1.heap.size + 1) :
    ∃ v', CpMem w vo vr g b7 (fwd o (adj outs o[k])) (rowsOf outs (fwd o (adj outs o[k])) (k + 1)) (renum (fwd o (adj outs o[k])) roots) v' (.slice (some ⟨g', 0, none⟩) ((rowsOf outs o k).length + 1) c') rv (vals ++ [t]) (w2.setCell ⟨b7, 0, none⟩ (.slice (some ⟨g', 0, none⟩) ((rowsOf outs o k).length + 1) c')) := by
  obtain ⟨bh, b3, bg, own, bo, houts, row, root, og, kp⟩ := hm
  obtain ⟨v', hb, hown, hv, ht, hne, hkp⟩ := hf
  rw [List.take_length] at hown ht
  have hvl : ∀ b, v.ownBlock = some b → w.heap.size ≤ b ∧ b < wr.heap.size := fun b h => own_lt own h
  have hol : ∀ b, ov.ownBlock = some b → w.heap.size ≤ b ∧ b < wr.heap.size := fun b h => own_lt houts h
  have htl : ∀ b, t.ownBlock = some b → wr.heap.size ≤ b ∧ b < w1.heap.size := fun b h => own_lt ht h
  have hbl := bo.lt
  have k1 := hkp
  have k2 : Kp (fun k => ov.ownBlock = some k) w1 w2 := ((Kp.refl _ w1).alloc _).grown hgr fun b h _ => h
  have k3 : Kp (fun k => k = b7) w2 (w2.setCell ⟨b7, 0, none⟩ (.slice (some ⟨g', 0, none⟩) ((rowsOf outs o k).length + 1) c')) := Kp.setCell (S := fun k => k = b7) (p := ⟨b7, 0, none⟩) (Kp.refl _ w2) (fun _ => rfl) _
  have s1 : wr.heap.size ≤ w1.heap.size := k1.size
  have hvb7 := own_ne_blk own bo (by decide)
  have hvbh := own_ne_blk own bh (by decide)
  have hvb3 := own_ne_blk own b3 (by decide)
  have hob7 := own_ne_blk houts bo (by decide)
  have hobh := own_ne_blk houts bh (by decide)
  have hob3 := own_ne_blk houts b3 (by decide)
  have houts1 := own_kp houts k1 fun b h h' => h'.elim (fun e => og (e ▸ h)) fun e => own_ne_own own houts (by decide) e h
  have bo1 := bo.kp k1 fun h => h.elim (fun e => by omega) hvb7
  have hvo : ∀ b, v'.ownBlock = some b → ov.ownBlock ≠ some b := fun b h => own_ne_own hown houts1 (by decide) h
  have hvb : ∀ b, v'.ownBlock = some b → v.ownBlock = some b ∨ wr.heap.size ≤ b := fun b h => by
    rcases hv with e | ⟨b', e, hb'⟩
    · exact .inl (by rw [← e]; exact h)
    · rw [e] at h; injection h with h; exact .inr (by omega)
  have old : ∀ {u : Value} {xs : List Int}, IntsIn wr (CpF w.heap.size g b7 v ov) u xs → IntsIn (w2.setCell ⟨b7, 0, none⟩ (.slice (some ⟨g', 0, none⟩) ((rowsOf outs o k).length + 1) c')) (CpF w.heap.size g b7 v' (.slice (some ⟨g', 0, none⟩) ((rowsOf outs o k).length + 1) c')) u xs := by
    intro u xs hu
    have h1 := ((((hu.mono (F' := fun b => CpF w.heap.size g b7 v ov b ∧ b < wr.heap.size) fun b hb h => ⟨h, hb⟩).kp k1 fun b h h' => h'.elim h.1.2.2.1 h.1.2.2.2.2.1).kp k2 fun b h h' => h.1.2.2.2.2.2 h').kp k3 fun b h h' => h.1.2.2.2.1 h')
    refine h1.mono fun b _ h => ⟨h.1.1, h.1.2.1, h.1.2.2.1, h.1.2.2.2.1, fun h' => ?_, fun h' => ?_⟩
    · rcases hvb b h' with e | e
      · exact h.1.2.2.2.2.1 e
      · have := h.2; omega
    · simp only [Value.ownBlock, Option.some.injEq] at h'
      subst h'
      rcases hat with e | e
      · exact h.1.2.2.2.2.2 e
      · have := h.2; omega
  have hrl : (rowsOf outs o k).length = k := rowsOf_length hs.le
  have hvals : vals.length = k := by have := houts.1; omega
  refine ⟨v', ?_, ?_, ?_, ?_, ?_, ?_, ?_, ?_, ?_, ?_⟩
  · exact ((bh.kp k1 fun h => h.elim (fun e => by omega) hvbh).kp k2 hobh).kp k3 (by omega)
  · exact ((b3.kp k1 fun h => h.elim (fun e => by omega) hvb3).kp k2 hob3).kp k3 (by omega)
  · exact (hb.kp k2 og).kp k3 (by omega)
  · exact own_kp (own_kp hown k2 hvo) k3 fun b h e => own_ne_blk hown bo1 (by decide) (e ▸ h)
  · exact (bo1.kp k2 hob7).set_ 0 _
  · rw [hs.rows hk, List.length_append, List.length_singleton]
    exact own_kp ha k3 fun b h e => own_ne_blk ha (bo1.kp k2 hob7) (by decide) (e ▸ h)
  · intro i h1 h2
    rw [List.getElem_append]
    simp only [hs.rows hk]
    rw [List.getElem_append]
    by_cases hi : i < vals.length
    · rw [dif_pos hi, dif_pos (by omega)]
      exact old (row i hi (by omega))
    · rw [dif_neg hi, dif_neg (by omega)]
      simp only [List.getElem_singleton]
      have h3 : IntsIn w1 (fun b => wr.heap.size ≤ b ∧ b < w1.heap.size ∧ v'.ownBlock ≠ some b) t (nums o (adj outs o[k])) := .of_own ht fun b h => ⟨(htl b h).1, (htl b h).2, hne b h⟩
      refine ((h3.kp k2 fun b h h' => by have := (hol b h').2; omega).kp k3 fun b h e => by omega).mono fun b _ h => ⟨by have := kp.size; omega, ?_, ?_, by omega, h.2.2, fun h' => ?_⟩
      · have := b3.lt; omega
      · have := bg.lt; omega
      · simp only [Value.ownBlock, Option.some.injEq] at h'
        subst h'
        rcases hat with e | e
        · have := (hol _ e).2; omega
        · have := h.2.1; omega
  · rw [renum_prefix (fwd_prefix o (adj outs o[k])) hs.root]
    exact old root
  · intro h
    simp only [Value.ownBlock, Option.some.injEq] at h
    subst h
    rcases hat with e | e
    · exact og e
    · have := bg.lt; omega
  · exact ((kp.trans' k1 fun b h h' => h'.elim (fun e => by omega) fun e => by have := (hvl b e).1; omega).trans' k2 fun b h h' => by have := (hol b h').1; omega).trans' k3 fun b h e => by omega

def CopyPost (w : World) (outs : List (List Int)) (roots : List Int) (e : Ending) (w' : World) : Prop :=
  ∃ v ov rv, e = .returned (.tuple #[v, .agg #[ov, rv], .nilIface]) ∧ IntsIn w' (Hi w.heap.size) v (order outs roots) ∧
    RowsIn w' (Hi w.heap.size) ov (copyRows outs roots) ∧ IntsIn w' (Hi w.heap.size) rv (renum (order outs roots) roots) ∧ Kp No w w'

theorem CpMem.drew {w wr : World} {vo vr v ov rv : Value} {g b7 : Nat} {o roots : List Int} {rows : List (List Int)} {vals : List Value} (h : CpMem w vo vr g b7 o rows roots v ov rv vals wr) : CpMem w vo vr g b7 o rows roots v ov rv vals wr.drew :=
  ⟨h.bh, h.b3, h.bg, h.own, h.bo, h.outs, h.row, h.root, h.og, h.kp.drew⟩

/-- b7 behind the call, and behind the append -/
theorem CpMem.b7a {w wr w1 : World} {vo vr v ov rv t : Value} {g b7 k : Nat} {o xs roots : List Int} {rows : List (List Int)} {vals : List Value} (h : CpMem w vo vr g b7 o rows roots v ov rv vals wr) (hb7 : g < b7)
    (hf : FwdInv wr w.heap.size g v o xs k t w1) : Blk w1 b7 45 #[ov, rv] ∧ w1.ownsRow w.heap.size 25 1 ov rows.length vals := by
  obtain ⟨_, _, _, _, _, _, hkp⟩ := hf
  exact ⟨h.bo.kp hkp fun h' => h'.elim (fun e => by omega) (own_ne_blk h.own h.bo (by decide)), own_kp h.outs hkp fun b hb h' => h'.elim (fun e => h.og (e ▸ hb)) fun e => own_ne_own h.own h.outs (by decide) e hb⟩
theorem CpMem.bha {w wr w1 : World} {vo vr v ov rv t : Value} {g b7 k : Nat} {o xs roots : List Int} {rows : List (List Int)} {vals : List Value} (h : CpMem w vo vr g b7 o rows roots v ov rv vals wr) (hg : w.heap.size + 1 < g)
    (hf : FwdInv wr w.heap.size g v o xs k t w1) : Blk w1 w.heap.size 45 #[vo, vr] := by
  obtain ⟨_, _, _, _, _, _, hkp⟩ := hf
  exact h.bh.kp hkp fun h' => h'.elim (fun e => by omega) (own_ne_blk h.own h.bh (by decide))
theorem CpMem.b7b {w wr w1 w2 : World} {vo vr v ov rv t : Value} {g b7 k : Nat} {o xs roots : List Int} {rows : List (List Int)} {vals : List Value} (h : CpMem w vo vr g b7 o rows roots v ov rv vals wr) (hb7 : g < b7) (hg : w.heap.size + 1 < g)
    (hf : FwdInv wr w.heap.size g v o xs k t w1) (hgr : (w1.alloc (.cells #[t] 25)).grownBy w2 ov.ownBlock) : Blk w2 b7 45 #[ov, rv] ∧ Blk w2 w.heap.size 45 #[vo, vr] :=
  ⟨((h.b7a hb7 hf).1.alloc _).grown hgr fun e => own_ne_blk h.outs h.bo (by decide) e.symm, ((h.bha hg hf).alloc _).grown hgr fun e => own_ne_blk h.outs h.bh (by decide) e.symm⟩

theorem CpMem.post {w wr w2 : World} {vo vr v ov rv : Value} {g b7 k : Nat} {outs : List (List Int)} {roots o : List Int} {vals : List Value} (h : CpMem w vo vr g b7 o (rowsOf outs o k) (renum o roots) v ov rv vals wr)
    (hs : Scan outs roots k o) (hk : ¬ k < o.length) (h2 : Kp (fun b => b = w.heap.size + 1) wr w2) : CopyPost w outs roots (.returned (.tuple #[v, .agg #[ov, rv], .nilIface])) w2 := by
  have ho := hs.fin hk
  have hkl : k = o.length := by have := hs.le; omega
  subst hkl
  unfold CopyPost copyRows
  rw [← ho]
  have hv : IntsIn wr (fun b => w.heap.size ≤ b ∧ b ≠ w.heap.size + 1) v o := .of_own h.own fun b hb => ⟨(own_lt h.own hb).1, fun e => own_ne_blk h.own h.b3 (by decide) (e ▸ hb)⟩
  have hrl : (rowsOf outs o o.length).length = o.length := rowsOf_length (Nat.le_refl _)
  have hvals : vals.length = o.length := by have := h.outs.1; omega
  have hc : CellsIn wr (fun b => w.heap.size ≤ b ∧ b ≠ w.heap.size + 1) ov vals := .of_own h.outs fun b hb => ⟨(own_lt h.outs hb).1, fun e => own_ne_blk h.outs h.b3 (by decide) (e ▸ hb)⟩
  refine ⟨v, ov, rv, rfl, (hv.kp h2 fun _ h => h.2).mono fun _ _ h => h.1, ⟨vals, (hc.kp h2 fun _ h => h.2).mono fun _ _ h => h.1, by omega, fun i h1 h3 => ((h.row i h1 h3).kp h2 fun _ h => h.2.1).mono fun _ _ h => h.1⟩, (h.root.kp h2 fun _ h => h.2.1).mono fun _ _ h => h.1, h.kp.trans' h2 fun b hb e => by omega⟩

theorem fwd_b7 {w1 w3 : World} {base : Nat} {roots : List Int} {k : Nat} {t : Value} {w2 : World}
    (h2 : (w1.alloc (.cells #[.slice none 0 0] 25)).alloc (.cells #[.slice none 0 0, .slice none 0 0] 45) = w2)
    (hf : FwdInv w2 base w1.heap.size (.slice none 0 0) [] roots k t w3) : Blk w3 (w1.heap.size + 1) 45 #[.slice none 0 0, .slice none 0 0] := by
  subst h2
  obtain ⟨_, _, _, _, _, _, hkp⟩ := hf
  have := Blk.new (w1.alloc (.cells #[.slice none 0 0] 25)) 45 #[.slice none 0 0, .slice none 0 0]
  rw [World.size_alloc] at this
  exact this.kp hkp fun h => h.elim (by omega) fun h => by simp [Value.ownBlock] at h

set_option maxHeartbeats 2000000
set_option maxRecDepth 10000
end Go.Proofs.YtiibadganlincaaDoor
