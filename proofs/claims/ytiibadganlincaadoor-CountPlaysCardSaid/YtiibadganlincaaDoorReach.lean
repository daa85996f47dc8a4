/- graph.Reach, walked: of a heap that is no more than it may be, what can be come to, as bits. -/
import Derived.Test.YtiibadganlincaaDoorReachPlain
import Derived.Test.YtiibadganlincaaDoorCheney
import Derived.BigRegionIn
namespace Go.Proofs.YtiibadganlincaaDoor
open Go.RowKit Go.Shelf
attribute [local go_sem] Oper.semAt_some

theorem or_nat (a b : Nat) (ha : a < 9223372036854775808) (hb : b < 9223372036854775808) : bits BinOp.or IntKind.i64 (a : Int) (b : Int) = ((a ||| b : Nat) : Int) := by
  have hx : a ||| b < 2 ^ 63 := Nat.or_lt_two_pow (by omega) (by omega)
  have e1 : (BitVec.ofInt 64 (a : Int)).toNat = a := by rw [BitVec.ofInt_natCast, BitVec.toNat_ofNat]; exact Nat.mod_eq_of_lt (by omega)
  have e2 : (BitVec.ofInt 64 (b : Int)).toNat = b := by rw [BitVec.ofInt_natCast, BitVec.toNat_ofNat]; exact Nat.mod_eq_of_lt (by omega)
  show IntKind.i64.wrap ((BitVec.ofInt 64 (a : Int) ||| BitVec.ofInt 64 (b : Int)).toNat : Int) = _
  rw [BitVec.toNat_or, e1, e2, IntKind.wrap_i64]
  omega
theorem or_step (s : Nat) (hs : s < 4096) (x : Int) (h1 : x < 12) : bits BinOp.or IntKind.i64 (s : Int) (wrap64 (2 ^ x.toNat)) = ((s ||| 2 ^ x.toNat : Nat) : Int) := by
  have h2 : 2 ^ x.toNat < 4096 := Nat.pow_lt_pow_right (n := 12) (a := 2) (by decide) (by omega)
  have e : wrap64 (2 ^ x.toNat) = ((2 ^ x.toNat : Nat) : Int) := by
    have : ((2 : Int) ^ x.toNat) = ((2 ^ x.toNat : Nat) : Int) := by simp
    rw [this]
    unfold wrap64
    generalize 2 ^ x.toNat = c at h2
    omega
  rw [e]
  exact or_nat _ _ (by omega) (by omega)

theorem KeepsFrom.of_kp {B : Nat} {S : Nat → Prop} {W W' : World} (h : Kp S W W') (hS : ∀ k, S k → k < B) : KeepsFrom B W W' :=
  ⟨h.size, fun k _ hB hk _ => (h.block k (Array.getElem?_eq_some_iff.1 hk).1 (fun hs => by have := hS k hs; omega)).trans hk⟩
theorem Kp.put {S : Nat → Prop} {a w : World} (h : Kp S a w) {D : Nat} (hD : a.heap.size ≤ D) (o : Obj) : Kp S a (w.putObj D o) :=
  ⟨h.os, h.tape, h.output, by have := h.size; simpa [World.putObj] using this, fun k hk hn => (World.putObj_heap_other (by omega)).trans (h.block k hk hn)⟩

/-- what holds between two rounds: the block A holds a number, and nothing else of old has changed -/
def OneHeld {β : Type} (A : Nat) (W0 : World) (fl : β → Nat) (pre : β) (W : World) : Prop := Blk W A 3 #[.int .i64 (fl pre : Nat)] ∧ Kp (At A) W0 W
theorem OneHeld.own {β : Type} {A : Nat} {W0 : World} {fl : β → Nat} (hA : A < W0.heap.size) : OwnFrom W0.heap.size (OneHeld A W0 fl) :=
  fun _ _ _ _ hs hg hr => ⟨hs.1.grown hg (fun e => by have := (hr _ e.symm).1; omega), hs.2.grown hg fun k e hk => by have := (hr k e).1; omega⟩

/-- what a loop over an iterator leaves for the function's end: a block for its rounds' deferred calls -/
def marks (Ds : List Nat) : List Deferred := Ds.map fun D => { target := .collected D, args := #[] }
structure Marks (lo : Nat) (Ds : List Nat) (W : World) : Prop where
  nodup : Ds.Nodup
  here : ∀ D ∈ Ds, lo ≤ D ∧ W.heap[D]? = some (.deferred (some []))
theorem Marks.none (lo : Nat) (W : World) : Marks lo [] W := ⟨List.nodup_nil, fun _ h => by cases h⟩
theorem Marks.kp {lo : Nat} {Ds : List Nat} {S : Nat → Prop} {W W' : World} (h : Marks lo Ds W) (hk : Kp S W W') (hS : ∀ D ∈ Ds, ¬ S D) : Marks lo Ds W' :=
  ⟨h.nodup, fun D hD => ⟨(h.here D hD).1, (hk.block D (Array.getElem?_eq_some_iff.1 (h.here D hD).2).1 (hS D hD)).trans (h.here D hD).2⟩⟩
theorem Marks.ne {lo : Nat} {Ds : List Nat} {W : World} {g : Nat} {t : TypeId} {cs : Array Value} (h : Marks lo Ds W) (hb : Blk W g t cs) : ∀ D ∈ Ds, ¬ At g D := by
  rintro D hD rfl
  have := (h.here D hD).2
  unfold Blk at hb
  rw [hb] at this
  cases this
theorem Marks.cons {lo : Nat} {Ds : List Nat} {W : World} {D : Nat} (h : Marks lo Ds W) {n : Nat} (hn : ∀ D ∈ Ds, D < n) (hD : n ≤ D) (hlo : lo ≤ D) (hd : W.heap[D]? = some (.deferred (some []))) : Marks lo (D :: Ds) W :=
  ⟨List.nodup_cons.2 ⟨fun hm => by have := hn D hm; omega, h.nodup⟩, fun E hE => by
    rcases List.mem_cons.1 hE with rfl | hE
    · exact ⟨hlo, hd⟩
    · exact h.here E hE⟩
theorem Marks.lt {lo : Nat} {Ds : List Nat} {W : World} (h : Marks lo Ds W) : ∀ D ∈ Ds, D < W.heap.size := fun D hD => (Array.getElem?_eq_some_iff.1 (h.here D hD).2).1

theorem leaves_marks {F : Fence} {n : Nat} {P : Program} {fn : Func} {tmps : Array Value} {R : Ending → World → Prop} {lo : Nat} : ∀ {Ds : List Nat} {W : World}, Marks lo Ds W →
    (∀ W', Kp (fun k => lo ≤ k) W W' → LeavesIn F n P fn tmps R [] .returning W') → LeavesInM F n P fn tmps R (marks Ds) .returning W := by
  intro Ds
  induction Ds with
  | nil => intro W _ h; exact h W (Kp.refl _ _)
  | cons D Ds ih =>
    intro W hm h
    obtain ⟨hlo, hd⟩ := hm.here D (by simp)
    refine ⟨by simp, .inl ⟨D, _, rfl, run_takeDeferred hd, ?_⟩⟩
    refine ih ⟨(List.nodup_cons.1 hm.nodup).2, fun E hE => ⟨(hm.here E (by simp [hE])).1, ?_⟩⟩ fun W' hk => h W' ?_
    · have hne : E ≠ D := by rintro rfl; exact (List.nodup_cons.1 hm.nodup).1 hE
      exact (World.putObj_heap_other hne).trans (hm.here E (by simp [hE])).2
    · refine Kp.trans (b := W.putObj D (.deferred none)) ⟨rfl, rfl, rfl, by simp [World.putObj], fun k hk hS => World.putObj_heap_other ?_⟩ hk
      rintro rfl
      exact hS hlo



end Go.Proofs.YtiibadganlincaaDoor
