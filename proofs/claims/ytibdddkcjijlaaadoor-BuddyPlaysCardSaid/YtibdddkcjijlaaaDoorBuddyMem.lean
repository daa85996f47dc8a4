/- The arena of halves, in memory: seven rows and a map. No condition. -/
import Derived.Test.YtibdddkcjijlaaaDoorBuddyPlain
import Derived.Test.YtibdddkcjijlaaaDoorBinSearch
import Derived.Test.YtibdddkcjijlaaaDoorDelete
import Derived.Test.YtibdddkcjijlaaaDoorInsInt
import Derived.Maps.Own
import Derived.Maps.OwnOps
import Derived.Maps.OwnSet
namespace Go.Proofs.YtibdddkcjijlaaaDoor
open Go.RowKit Go.Maps
set_option maxRecDepth 100000

/-- the map: of a number the order that is lent there -/
def lnI (ln : Nat → Option Nat) (x : Int) : Option Nat := if 0 ≤ x then ln x.toNat else none
theorem lnI_nat (ln : Nat → Option Nat) (a : Nat) : lnI ln (a : Int) = ln a := by unfold lnI; rw [if_pos (by omega), Int.toNat_natCast]
def W64 (x : Int) : Prop := -9223372036854775808 ≤ x ∧ x ≤ 9223372036854775807
theorem wf64 {x : Int} (h : W64 x) : (Lit.int .i64 x).wf = true := by
  obtain ⟨h1, h2⟩ := h
  simp [Lit.wf, IntKind.has, IntKind.min, IntKind.max, IntKind.bits, IntKind.signed]
  omega
theorem law64 : Keyed Tryd.prog 3 := int_keyed Tryd.underlying3
theorem zero64 (w : World) : (zeroValue 3).run Tryd.prog w = .ok (.int .i64 0) w := Tryd.zeroValue3 w
def MapAt (w : World) (b : Nat) (ln : Nat → Option Nat) (m : Nat) : Prop :=
  ∃ D : DataW Unit, w.ownsMap Tryd.prog 3 (plainElem Tryd.prog 3) b m D ∧ ∀ x, W64 x → Maps.has D (.int .i64 x) = (lnI ln x).isSome ∧ D.atKey (.int .i64 x) (.lit (.int .i64 0)) = .lit (.int .i64 (((lnI ln x).getD 0 : Nat) : Int))
section
variable {w w' : World} {b m : Nat} {ln : Nat → Option Nat}
theorem MapAt.new (w : World) : MapAt (w.alloc (.map #[] 0)) w.heap.size (fun _ => none) 0 :=
  ⟨.map [], World.ownsMap_made _ _ _ _, fun x _ => by
    have : lnI (fun _ => none) x = none := by unfold lnI; split <;> rfl
    rw [this]; exact ⟨rfl, rfl⟩⟩
theorem MapAt.lt (h : MapAt w b ln m) : b < w.heap.size := by obtain ⟨D, h, _⟩ := h; exact h.lt
theorem MapAt.kp {S : Nat → Prop} (h : MapAt w b ln m) (hk : Kp S w w') (hs : ¬ S b) : MapAt w' b ln m := by
  obtain ⟨D, h1, h2⟩ := h
  have hlt := h1.lt
  obtain ⟨es, clock, hb, r⟩ := h1
  exact ⟨D, ⟨es, clock, (hk.block b hlt hs).trans hb, r⟩, h2⟩
theorem MapAt.mono (h : MapAt w b ln m) {n : Nat} (hn : m ≤ n) : MapAt w b ln n := by
  obtain ⟨D, h1, h2⟩ := h
  exact ⟨D, h1.mono hn, h2⟩
/-- it is looked up -/
theorem MapAt.look (h : MapAt w b ln m) {x : Int} (hx : W64 x) : (Instr.lookup 65 (.map (some b)) (.int .i64 x) true).run Tryd.prog w = .ok (.tuple #[.int .i64 (((lnI ln x).getD 0 : Nat) : Int), .bool (lnI ln x).isSome]) w := by
  obtain ⟨D, h1, h2⟩ := h
  obtain ⟨v, ps, hr, hv⟩ := h1.look_ok law64 Tryd.underlying65 (zero64 w) (plainElem_int Tryd.underlying3 (a := 0) (by decide)) (keyOf_int_mk Tryd.underlying3 (wf64 hx))
  obtain ⟨c, rfl, hc, _⟩ := plainElem_int_inv Tryd.underlying3 hv
  have e := congrArg Prod.fst hc
  simp only at e
  rw [(h2 x hx).2] at e
  injection e with e
  injection e with _ e
  rw [hr, (h2 x hx).1, e]
/-- it is noted down -/
theorem MapAt.put (h : MapAt w b ln m) (a o : Nat) (ha : a ≤ 1000) (ho : o ≤ 1000) (hm : m ≤ 1000) : ∃ w', (Instr.mapUpdate 65 (.map (some b)) (.int .i64 a) (.int .i64 o)).run Tryd.prog w = .ok () w' ∧ MapAt w' b (upd ln a (some o)) (m + 1) ∧ Kp (At b) w w' := by
  obtain ⟨D, h1, h2⟩ := h
  have hwa : W64 (a : Int) := ⟨by omega, by omega⟩
  obtain ⟨w', hr, hown, ht⟩ := h1.store law64 Tryd.underlying65 (by unfold maxLen; omega) (keyOf_int_mk Tryd.underlying3 (wf64 hwa)) (plainElem_int Tryd.underlying3 (a := (o : Int)) (wf64 ⟨by omega, by omega⟩))
  refine ⟨w', hr, ⟨_, hown, fun x hx => ?_⟩, (Kp.refl _ w).grown ht.grown fun k e _ => (by injection e with e; exact e.symm)⟩
  by_cases e : x = (a : Int)
  · subst e
    rw [Maps.has_put_same h1.isMap (by first | trivial | exact .int | simp [WideAt.IsKeyLit]), Maps.atKey_put_same h1.isMap (by first | trivial | exact .int | simp [WideAt.IsKeyLit]), lnI_nat, upd_same]
    exact ⟨rfl, rfl⟩
  · have hne : (Lit.int .i64 x) ≠ .int .i64 (a : Int) := fun e' => e (by injection e')
    rw [Maps.has_put_other hne, Maps.atKey_put_other hne]
    have : lnI (upd ln a (some o)) x = lnI ln x := by
      unfold lnI
      split
      · rw [upd_other _ _ (by omega)]
      · rfl
    rw [this]
    exact h2 x hx
/-- it is struck -/
theorem MapAt.del (h : MapAt w b ln m) (a : Nat) (ha : a ≤ 1000) (ty : TypeId) : ∃ w', (Builtin.delete_ #[65, 3] ty #[.map (some b), .int .i64 a]).run Tryd.prog w = .ok (.tuple #[]) w' ∧ MapAt w' b (upd ln a none) m ∧ Kp (At b) w w' := by
  obtain ⟨D, h1, h2⟩ := h
  have hwa : W64 (a : Int) := ⟨by omega, by omega⟩
  obtain ⟨w', hr, hown, ht⟩ := h1.drop law64 Tryd.underlying65 (keyOf_int_mk Tryd.underlying3 (wf64 hwa)) ty
  refine ⟨w', hr, ⟨_, hown, fun x hx => ?_⟩, (Kp.refl _ w).grown ht.grown fun k e _ => (by injection e with e; exact e.symm)⟩
  by_cases e : x = (a : Int)
  · subst e
    rw [Maps.has_del_same, Maps.atKey_del_same, lnI_nat, upd_same]
    exact ⟨rfl, rfl⟩
  · have hne : (Lit.int .i64 x) ≠ .int .i64 (a : Int) := fun e' => e (by injection e')
    rw [Maps.has_del_other hne, Maps.atKey_del_other hne]
    have : lnI (upd ln a none) x = lnI ln x := by
      unfold lnI
      split
      · rw [upd_other _ _ (by omega)]
      · rfl
    rw [this]
    exact h2 x hx
end

/-! ### The arena -/
def ni (l : List Nat) : List Int := l.map fun a : Nat => (a : Int)
theorem ni_length (l : List Nat) : (ni l).length = l.length := by simp [ni]
theorem ni_get {l : List Nat} {k : Nat} (h : k < l.length) : (ni l)[k]'(by rw [ni_length]; exact h) = (l[k] : Int) := by simp [ni]
def bcells (vf : Nat → Value) (bm : Nat) : Array Value := #[vf 0, vf 1, vf 2, vf 3, vf 4, vf 5, vf 6, .map (some bm)]
theorem le6 {k : Nat} (h : k ≤ 6) : k = 0 ∨ k = 1 ∨ k = 2 ∨ k = 3 ∨ k = 4 ∨ k = 5 ∨ k = 6 := by omega
theorem bcells_get {vf : Nat → Value} {bm k : Nat} (h : k ≤ 6) : (bcells vf bm)[k]? = some (vf k) := by
  rcases le6 h with rfl | rfl | rfl | rfl | rfl | rfl | rfl <;> rfl
theorem bcells_set {vf : Nat → Value} {bm k : Nat} (h : k ≤ 6) (v : Value) : (bcells vf bm).setIfInBounds k v = bcells (upd vf k v) bm := by
  rcases le6 h with rfl | rfl | rfl | rfl | rfl | rfl | rfl <;> rfl
structure BudAt (w : World) (p : Nat) (vf : Nat → Value) (bm : Nat) (fr : Nat → List Nat) (ln : Nat → Option Nat) (m : Nat) : Prop where
  blk : Blk w p 68 (bcells vf bm)
  own : ∀ k, k ≤ 6 → w.ownsRow 0 3 1 (vf k) (fr k).length (iv (ni (fr k)))
  ap : ∀ j k, j ≤ 6 → k ≤ 6 → j ≠ k → ∀ g, (vf j).ownBlock = some g → (vf k).ownBlock ≠ some g
  map : MapAt w bm ln m
def BudIs (w : World) (p : Nat) (S : Nat → Prop) (fr : Nat → List Nat) (ln : Nat → Option Nat) (m : Nat) : Prop :=
  S p ∧ ∃ vf bm, BudAt w p vf bm fr ln m ∧ S bm ∧ ∀ k, k ≤ 6 → ∀ b, (vf k).ownBlock = some b → S b
section
variable {w w' : World} {p bm m : Nat} {vf : Nat → Value} {fr : Nat → List Nat} {ln : Nat → Option Nat} {S S' : Nat → Prop}
theorem BudAt.cell (h : BudAt w p vf bm fr ln m) {k : Nat} (hk : k ≤ 6) : w.cell? ⟨p, k, none⟩ = some (vf k) ∧ w.frozen? ⟨p, k, none⟩ = false := ⟨by rw [h.blk.cell, bcells_get hk], h.blk.free k⟩
theorem BudAt.cellM (h : BudAt w p vf bm fr ln m) : w.cell? ⟨p, 7, none⟩ = some (.map (some bm)) := by rw [h.blk.cell]; rfl
theorem BudAt.mapNe (h : BudAt w p vf bm fr ln m) : bm ≠ p := by
  obtain ⟨D, ⟨es, clock, hb, _⟩, _⟩ := h.map
  have := h.blk
  unfold Blk at this
  rintro rfl
  rw [hb] at this
  cases this
theorem BudAt.mapNeRow (h : BudAt w p vf bm fr ln m) {k : Nat} (hk : k ≤ 6) : (vf k).ownBlock ≠ some bm := by
  obtain ⟨D, ⟨es, clock, hb, _⟩, _⟩ := h.map
  intro e
  rcases (h.own k hk).2 with ⟨e1, _⟩ | ⟨g, cap, cur, e1, _, hh, _⟩
  · rw [e1] at e; simp [Value.ownBlock] at e
  · rw [e1] at e
    have e : g = bm := by simpa [Value.ownBlock] using e
    subst e
    rw [hb] at hh
    cases hh
theorem BudAt.rowNe (h : BudAt w p vf bm fr ln m) {k : Nat} (hk : k ≤ 6) : (vf k).ownBlock ≠ some p := own_ne_blk (h.own k hk) h.blk (by decide)
theorem BudIs.kp (h : BudIs w p S fr ln m) (hk : Kp S' w w') (hs : ∀ b, S b → ¬ S' b) : BudIs w' p S fr ln m := by
  obtain ⟨hp, vf, bm, h1, hm, h2⟩ := h
  exact ⟨hp, vf, bm, ⟨h1.blk.kp hk (hs p hp), fun k hk6 => own_kp (h1.own k hk6) hk fun b hb => hs b (h2 k hk6 b hb), h1.ap, h1.map.kp hk (hs bm hm)⟩, hm, h2⟩
theorem BudIs.no (h : BudIs w p S fr ln m) (hk : Kp No w w') : BudIs w' p S fr ln m := h.kp hk fun _ _ h => h
theorem BudIs.mono (h : BudIs w p S fr ln m) (hs : ∀ b, b < w.heap.size → S b → S' b) : BudIs w p S' fr ln m := by
  obtain ⟨hp, vf, bm, h1, hm, h2⟩ := h
  exact ⟨hs p h1.blk.lt hp, vf, bm, h1, hs bm h1.map.lt hm, fun k hk b hb => hs b (own_lt (h1.own k hk) hb).2 (h2 k hk b hb)⟩
theorem BudIs.more (h : BudIs w p S fr ln m) {n : Nat} (hn : m ≤ n) : BudIs w p S fr ln n := by
  obtain ⟨hp, vf, bm, h1, r⟩ := h
  exact ⟨hp, vf, bm, ⟨h1.blk, h1.own, h1.ap, h1.map.mono hn⟩, r⟩
/-- a row becomes another -/
theorem BudAt.rput {v' : Value} {k : Nat} {l : List Nat} (h : BudAt w p vf bm fr ln m) (hk : k ≤ 6) (hkp : Kp (fun b => (vf k).ownBlock = some b) w w') (ho : w'.ownsRow 0 3 1 v' l.length (iv (ni l))) (hat : ∀ g, v'.ownBlock = some g → (vf k).ownBlock = some g ∨ w.heap.size ≤ g) :
    BudAt (w'.setCell ⟨p, k, none⟩ v') p (upd vf k v') bm (upd fr k l) ln m := by
  have hb := h.blk.kp hkp (h.rowNe hk)
  have k2 : Kp (At p) w' (w'.setCell ⟨p, k, none⟩ v') := Kp.setCell (S := At p) (p := ⟨p, k, none⟩) (Kp.refl _ w') (fun _ => rfl) v'
  have hrow : ∀ {j}, j ≤ 6 → j ≠ k → w'.ownsRow 0 3 1 (vf j) (fr j).length (iv (ni (fr j))) := fun hj hne => own_kp (h.own _ hj) hkp fun b hb e => h.ap k _ hk hj (Ne.symm hne) b e hb
  have far : ∀ {j}, j ≤ 6 → j ≠ k → ∀ g, v'.ownBlock = some g → (vf j).ownBlock ≠ some g := fun hj hne g hg e => by
    rcases hat g hg with h1 | h1
    · exact h.ap k _ hk hj (Ne.symm hne) g h1 e
    · have := (own_lt (h.own _ hj) e).2; omega
  refine ⟨?_, fun j hj => ?_, fun i j hi hj hne g hg => ?_, ?_⟩
  · have := hb.set_ k v'
    rw [bcells_set hk] at this
    exact this
  · by_cases e : j = k
    · subst e
      rw [upd_same, upd_same]
      exact own_kp ho k2 fun b hb' e => by unfold At at e; subst e; exact own_ne_blk ho hb (by decide) hb'
    · rw [upd_other _ _ e, upd_other _ _ e]
      exact own_kp (hrow hj e) k2 fun b hb' e' => by unfold At at e'; subst e'; exact h.rowNe hj hb'
  · by_cases ei : i = k
    · subst ei
      rw [upd_same] at hg
      rw [upd_other _ _ (Ne.symm hne)]
      exact far hj (Ne.symm hne) g hg
    · rw [upd_other _ _ ei] at hg
      by_cases ej : j = k
      · subst ej
        rw [upd_same]
        exact fun e => far hi ei g e hg
      · rw [upd_other _ _ ej]
        exact h.ap i j hi hj hne g hg
  · exact (h.map.kp hkp (h.mapNeRow hk)).kp k2 fun e => by unfold At at e; exact h.mapNe e
theorem BudIs.rput {v' : Value} {k : Nat} {l : List Nat} (h : BudAt w p vf bm fr ln m) (hp : S p) (hm : S bm) (hS : ∀ k, k ≤ 6 → ∀ b, (vf k).ownBlock = some b → S b) (hnew : ∀ b, w.heap.size ≤ b → S b) (hk : k ≤ 6) (hkp : Kp (fun b => (vf k).ownBlock = some b) w w')
    (ho : w'.ownsRow 0 3 1 v' l.length (iv (ni l))) (hat : ∀ g, v'.ownBlock = some g → (vf k).ownBlock = some g ∨ w.heap.size ≤ g) :
    BudIs (w'.setCell ⟨p, k, none⟩ v') p S (upd fr k l) ln m ∧ Kp S w (w'.setCell ⟨p, k, none⟩ v') := by
  refine ⟨⟨hp, _, bm, h.rput hk hkp ho hat, hm, fun j hj b hb => ?_⟩, ?_⟩
  · by_cases e : j = k
    · subst e
      rw [upd_same] at hb
      exact (hat b hb).elim (hS j hj b) (hnew b)
    · rw [upd_other _ _ e] at hb
      exact hS j hj b hb
  · exact (hkp.mono fun b _ hb => hS k hk b hb).setCell (fun _ => hp) v'
end
end Go.Proofs.YtibdddkcjijlaaaDoor
