/- A mark of colors that stands as it should; Step and Point keep it so. -/
import Derived.Test.YtkfibfacfgiplaaColorPoint
import Derived.BigQuiet
namespace Go.Proofs.Ytkfibfacfgiplaa
open Go.RowKit

theorem MarkAt.ge {w : World} {p base : Nat} {vo vr vc : Value} {vs : List Value} {outs : List (List Int)} {roots c : List Int} (h : MarkAt w p base vo vr vc vs outs roots c) {b : Nat} (hb : MkW vc vs b) : base ≤ b := by
  rcases hb with hb | ⟨u, hu, hb⟩
  · exact (own_lt h.col hb).1
  · obtain ⟨i, hi, rfl⟩ := List.getElem_of_mem hu
    exact (own_lt (h.row i hi (by rw [← h.len]; exact hi)) hb).1

/-- where a mark stands -/
structure Stand (n : Nat) (W : World) (p base : Nat) (vo vr vc : Value) (vs : List Value) (O : List (List Int)) (roots c : List Int) : Prop where
  mark : MarkAt W p base vo vr vc vs O roots c
  ok : Ok O roots
  col : Col O roots c
  len : O.length = n
theorem Stand.no {n : Nat} {W W' : World} {p base : Nat} {vo vr vc : Value} {vs : List Value} {O : List (List Int)} {roots c : List Int} (h : Stand n W p base vo vr vc vs O roots c) (hk : Kp No W W') : Stand n W' p base vo vr vc vs O roots c :=
  ⟨h.mark.no hk, h.ok, h.col, h.len⟩
theorem Stand.clen {n : Nat} {W : World} {p base : Nat} {vo vr vc : Value} {vs : List Value} {O : List (List Int)} {roots c : List Int} (h : Stand n W p base vo vr vc vs O roots c) : c.length = n := h.col.len.trans h.len

/-- Step, and Point, at a mark that stands -/
def Moved (n : Nat) (W : World) (p base : Nat) (vo vr vc : Value) (vs : List Value) (roots c : List Int) (W' : World) : Prop :=
  ∃ O' c', Stand n W' p base vo vr vc vs O' roots c' ∧ (∀ i, cAt c i ≤ cAt c' i) ∧ Kp (MkW vc vs) W W'
theorem step_stand {n : Nat} {p base : Nat} {vo vr vc : Value} {vs : List Value} {O : List (List Int)} {roots c : List Int} (w : World) (h : Stand n w p base vo vr vc vs O roots c) :
    Calls Try.prog 40 #[.pointer (some ⟨p, 0, none⟩)] w fun e w' => e = .returned (.bool (decide ((1 : Int) ∈ c))) ∧ Moved n w p base vo vr vc vs roots c w' :=
  (step_any w h.mark h.ok h.col.len).mono fun _ _ ⟨h1, h2, h3⟩ => ⟨h1, O, _, ⟨h2, h.ok, h.col.step h.ok, h.len⟩, fun i => step_le O c h.col.cols i, h3.mono fun _ _ h => .inl h⟩
theorem point_stand {n : Nat} {p base : Nat} {vo vr vc : Value} {vs : List Value} {O : List (List Int)} {roots c : List Int} (i k j : Int) (w : World) (h : Stand n w p base vo vr vc vs O roots c) :
    Calls Try.prog 53 #[.pointer (some ⟨p, 0, none⟩), .int .i64 i, .int .i64 k, .int .i64 j] w fun e w' => e = .returned (errV (pointE O roots i k j)) ∧ Moved n w p base vo vr vc vs roots c w' :=
  (point_any i k j w h.mark h.ok h.col.len).mono fun _ _ ⟨h1, h2, h3⟩ => ⟨h1, _, _, ⟨h2, h.ok.point i k j, h.col.point i k j, (pointO_length O roots i k j).trans h.len⟩, fun n => point_le i k j n, h3⟩

theorem black_facts {O : List (List Int)} {roots c : List Int} (hok : Ok O roots) (h : Col O roots c) (i : Nat) : btw (cAt c i) 0 2 = true ∧ ∀ y ∈ adj O (i : Int), btw y 0 ((c.length : Int) - 1) = true ∧ (cAt c i = 2 → (cAt c y.toNat == 0) = false) := by
  refine ⟨btw_iff.2 (h.cols i), fun y hy => ⟨btw_iff.2 ?_, fun hb => ?_⟩⟩
  · have := hok.adjIn y hy
    have := h.len
    omega
  · have := h.black i hb y hy
    rw [beq_eq_false_iff_ne]
    omega
end Go.Proofs.Ytkfibfacfgiplaa
