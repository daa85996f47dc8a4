/- From a call's contract to a law's row: arguments that are ints, slices of ints, slices of those, and heaps are read; what is handed back reads as it did. No condition. -/
import Derived.Test.YtiibadganlincaaDoorRows
import Derived.Test.YtiibadganlincaaDoorBase
import Derived.Test.YtiibadganlincaaDoorFacts
import Derived.ProofKit
import Derived.Deep.Matrix
import Derived.Lib.SmallJoins
namespace Go.Proofs.YtiibadganlincaaDoor
open Go.RowKit Go.ChangeShapes Go.WideShapes Go.ChangeAt Go.Joins Go.Deep

theorem wrap_own : ownKnob Tryd.prog.godebug = none := by kernel_rfl
theorem wrap_laid : laidOutB Tryd.prog = true := by kernel_rfl
theorem wrap_cells_int : Tryd.prog.cellsOf 3 = 1 := by kernel_rfl
theorem wrap_cells_ints : Tryd.prog.cellsOf 25 = 1 := by kernel_rfl

theorem spot_none {w : World} {a : Addr} {v : Value} (h : w.cell? a = some v) : a = ⟨a.block, a.off, none⟩ := by
  obtain ⟨b, o, s⟩ := a
  rcases s with _ | s
  · rfl
  · unfold World.cell? at h
    simp only [Option.isSome_some, if_true] at h
    split at h <;> cases h

section
variable {H : Type} {enc : TypeId × Value → H} {W W' : World} {base : Nat}

/-- what is read as a slice of ints is a slice of ints -/
theorem ints_of_cells {w : World} {a : Addr} {len cap : Nat} {zs : List Int} (hl : len ≤ cap) (hm : cap ≤ maxLen) (hz : len ≤ zs.length)
    (hc : ∀ i, i < len → w.cell? (a.add i) = some (.int .i64 (zs.getD i 0))) : IntsIn w (fun _ => True) (.slice (some a) len cap) (zs.take len) := by
  have hlen : (zs.take len).length = len := by simp; omega
  refine ⟨some a, cap, by rw [hlen], by rw [hlen]; exact hl, by unfold maxLen at hm; omega, fun k hk => ?_⟩
  rw [hlen] at hk
  have h0 := hc 0 (by omega)
  have ha := spot_none h0
  simp only [Addr.add, if_true] at ha
  refine ⟨a.block, a.off, by rw [← ha], trivial, ?_⟩
  have h1 := hc k hk
  have e : (a.add k) = ⟨a.block, a.off + k, none⟩ := by
    unfold Addr.add
    split
    · rename_i h; subst h; exact ha
    · rfl
  rw [e] at h1
  rw [h1, List.getElem_take, List.getD_eq_getElem?_getD, List.getElem?_eq_getElem (by omega)]
  rfl

theorem read_ints {held : Bool} {fuel : Nat} {v : Value} {x : DataW H × List MemPlace} (h : DataW.trod enc Tryd.prog W base (fun _ => true) held fuel 25 [v] = some x) :
    ∃ xs, IntsIn W (fun _ => True) v xs := by
  rcases open_ints Tryd.underlying25 Tryd.underlying3 wrap_cells_int h with ⟨hcs, _⟩ | ⟨a, len, cap, zs, hcs, _, hl, hm, hz, _, hcell, _⟩
  · simp only [List.cons.injEq, and_true] at hcs
    subst hcs
    exact ⟨[], .nil_ _ _⟩
  · simp only [List.cons.injEq, and_true] at hcs
    subst hcs
    simp only [if_true] at hz
    exact ⟨_, ints_of_cells hl hm (by omega) fun i hi => hcell i (by omega)⟩

theorem read_ints_r {held : Bool} {fuel : Nat} {v : Value} {x : DataW H × List MemPlace} (h : DataW.trod enc Tryd.prog W base (fun _ => true) held fuel 25 [v] = some x) :
    ∃ xs, IntsIn W (fun _ => True) v xs ∧ ∀ x ∈ xs, -9223372036854775808 ≤ x ∧ x ≤ 9223372036854775807 := by
  rcases open_ints Tryd.underlying25 Tryd.underlying3 wrap_cells_int h with ⟨hcs, _⟩ | ⟨a, len, cap, zs, hcs, _, hl, hm, hz, _, hcell, hw⟩
  · simp only [List.cons.injEq, and_true] at hcs
    subst hcs
    exact ⟨[], .nil_ _ _, fun _ h => by cases h⟩
  · simp only [List.cons.injEq, and_true] at hcs
    subst hcs
    simp only [if_true] at hz
    exact ⟨_, ints_of_cells hl hm (by omega) fun i hi => hcell i (by omega), fun x hx => by simpa [Lit.wf, IntKind.has, IntKind.min, IntKind.max, IntKind.bits, IntKind.signed] using hw x (List.mem_of_mem_take hx)⟩

theorem read_rows {held : Bool} {fuel : Nat} {v : Value} {x : DataW H × List MemPlace} (h : DataW.trod enc Tryd.prog W base (fun _ => true) held fuel 22 [v] = some x) :
    ∃ xss, RowsIn W (fun _ => True) v xss := by
  rcases open_int_rows Tryd.underlying22 Tryd.underlying25 Tryd.underlying3 wrap_cells_ints wrap_cells_int h with ⟨hcs, _⟩ | ⟨a, len, cap, A, L, C, Z, hcs, _, hl, hm, _, hrow⟩
  · simp only [List.cons.injEq, and_true] at hcs
    subst hcs
    exact ⟨[], .nil_ _ _⟩
  · simp only [List.cons.injEq, and_true] at hcs
    subst hcs
    refine ⟨(List.range len).map fun r => (Z r).take (L r), (List.range len).map fun r => .slice (A r) (L r) (C r), ⟨some a, cap, by simp, by simpa using hl, by unfold maxLen at hm; omega, fun k hk => ?_⟩, by simp, fun i h1 h2 => ?_⟩
    · simp only [List.length_map, List.length_range] at hk
      have h0 := (hrow 0 (by omega)).1
      have ha := spot_none h0
      simp only [Addr.add, if_true] at ha
      refine ⟨a.block, a.off, by rw [← ha], trivial, ?_⟩
      have e : (a.add k) = ⟨a.block, a.off + k, none⟩ := by
        unfold Addr.add
        split
        · rename_i h; subst h; exact ha
        · rfl
      have h1 := (hrow k (by omega)).1
      rw [e] at h1
      rw [h1]
      simp
    · simp only [List.length_map, List.length_range] at h1
      simp only [List.getElem_map, List.getElem_range]
      obtain ⟨_, q1, q2, q3, _, q5, q6⟩ := hrow i (by omega)
      cases hA : A i with
      | none =>
        have := q5 hA
        have e1 : L i = 0 := by omega
        rw [e1, this]
        exact .nil_ _ _
      | some a' => exact ints_of_cells q1 q2 (by omega) fun c hc => (q6 a' hA).2 c (by omega)

theorem read_int {held : Bool} {fuel : Nat} {v : Value} {x : DataW H × List MemPlace} (h : DataW.trod enc Tryd.prog W base (fun _ => true) held fuel 3 [v] = some x) :
    ∃ n : Int, v = .int .i64 n ∧ -9223372036854775808 ≤ n ∧ n ≤ 9223372036854775807 := by
  obtain ⟨n, e, _, hw⟩ := DataW.trod_int Tryd.underlying3 h
  simp only [List.cons.injEq, and_true] at e
  refine ⟨n, e, ?_⟩
  simpa [Lit.wf, IntKind.has, IntKind.min, IntKind.max, IntKind.bits, IntKind.signed] using hw

end

/-- the law's row: it returned true, and nothing old has changed -/
theorem law_post {H : Type} {enc : TypeId × Value → H} {f : Func} {s : ChangeSpec} {apart fresh handsOn : Bool} {W W' : World} {args : Array Value} {ds gs : List (DataW H)} {before : List MemPlace}
    (hv : s.vars = []) (hr : f.resultTypes = #[4]) (hfn : s.fn H ds = { results := [.lit (.bool true)], args := ds }) (hp : ∀ t ∈ f.params.toList, Tryd.prog.readableRec t = true ∧ t < Tryd.prog.types.size)
    (hW : DataW.Whole enc Tryd.prog f.params.toList s.vars apart W args.toList ds gs before) (hk : Kp No W W') :
    s.post enc Tryd.prog f apart fresh handsOn false W args (.bool true) W' := by
  have hlt : ∀ p ∈ before, p.block < W.heap.size := fun p hp => by simpa using hW.lt p hp
  have hW' := hW
  obtain ⟨p, q, hA, hV, rfl, _, _⟩ := hW
  rw [hv] at hV
  obtain ⟨rfl, rfl⟩ := trodVars_none hV
  have hall : ∀ (ts : List TypeId) (vs : List Value) (ds : List (DataW H)) (ps : List MemPlace), (∀ t ∈ ts, Tryd.prog.readableRec t = true ∧ t < Tryd.prog.types.size) → (∀ x ∈ ps, x.block < W.heap.size) →
      DataW.TrodAll enc Tryd.prog W 0 (fun _ => true) true ts vs ds ps → DataW.TrodAll enc Tryd.prog W' 0 (fun b => decide (b < W.heap.size)) true ts vs ds ps := by
    intro ts
    induction ts with
    | nil =>
      intro vs ds ps _ _ h
      match vs, ds, h with
      | [], [], h => exact h
    | cons t ts ih =>
      intro vs ds ps ht hps h
      match vs, ds, h with
      | v :: vs, d :: ds, ⟨p, q, h1, h2, e⟩ =>
        subst e
        exact ⟨p, q, Below.trod wrap_laid (ht t (by simp)).1 (ht t (by simp)).2 h1 hk.no fun x hx => hps x (by simp [hx]), ih vs ds q (fun t h => ht t (by simp [h])) (fun x hx => hps x (by simp [hx])) h2, rfl⟩
  refine ⟨ds, [], _, [], p, [], hW', ?_, ?_, ?_, (hk.no).frame _, fun h => by cases h⟩
  · rw [List.append_nil, hfn, hr]
    exact trodAll_mk1 (shut_bool Tryd.underlying4 _)
  · rw [List.append_nil, hfn]
    exact hall _ _ _ _ hp (fun x hx => hlt x (by simp [hx])) hA
  · rw [hv, List.append_nil, hfn]
    exact rfl
end Go.Proofs.YtiibadganlincaaDoor
