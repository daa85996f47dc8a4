/- graph.Reach, walked: of a heap that is no more than it may be, what can be come to, as bits. -/
import Derived.Test.YtgbdjidjbcbhjaaDoorReachPlain
import Derived.Test.YtgbdjidjbcbhjaaDoorCheney
import Derived.BigRegionIn
namespace Go.Proofs.YtgbdjidjbcbhjaaDoor
open Go.RowKit Go.Shelf
attribute [local go_sem] Oper.semAt_some

theorem or_nat (a b : Nat) (ha : a < 9223372036854775808) (hb : b < 9223372036854775808) : bits BinOp.or IntKind.i64 (a : Int) (b : Int) = ((a ||| b : Nat) : Int) := by
  have hx : a ||| b < 2 ^ 63 := Nat.or_lt_two_pow (by omega) (by omega)
  have e1 : (BitVec.ofInt 64 (a : Int)).toNat = a := by rw [BitVec.ofInt_natCast, BitVec.toNat_ofNat]; exact Nat.mod_eq_of_lt (by omega)
  have e2 : (BitVec.ofInt 64 (b : Int)).toNat = b := by rw [BitVec.ofInt_natCast, BitVec.toNat_ofNat]; exact Nat.mod_eq_of_lt (by omega)
  show IntKind.i64.wrap ((BitVec.ofInt 64 (a : Int) ||| BitVec.ofInt 64 (b : Int)).toNat : Int) = _
  rw [BitVec.toNat_or, e1, e2, IntKind.wrap_i64]
  omega
theorem or_step (s : Nat) (hs : s < 4096) (x : Int) (h1 : x < 12) : bits BinOp.or IntKind.i64 (s : Int) (wrap64 (2 ^ x.toNat)) = ((s ||| 2 ^ x.toNat : Nat) : Int) := by
  have h2 : 2 ^ x.toNat < 4096 := Nat.pow_lt_pow_right (n := 12) (a := 2) (by decide) (by omega)
  have e : wrap64 (2 ^ x.toNat) = ((2 ^ x.toNat : Nat) : Int) := by
    have : ((2 : Int) ^ x.toNat) = ((2 ^ x.toNat : Nat) : Int) := by simp
    rw [this]
    unfold wrap64
    generalize 2 ^ x.toNat = c at h2
    omega
  rw [e]
  exact or_nat _ _ (by omega) (by omega)

theorem KeepsFrom.of_kp {B : Nat} {S : Nat → Prop} {W W' : World} (h : Kp S W W') (hS : ∀ k, S k → k < B) : KeepsFrom B W W' :=
  ⟨h.size, fun k _ hB hk _ => (h.block k (Array.getElem?_eq_some_iff.1 hk).1 (fun hs => by have := hS k hs; omega)).trans hk⟩
theorem Kp.put {S : Nat → Prop} {a w : World} (h : Kp S a w) {D : Nat} (hD : a.heap.size ≤ D) (o : Obj) : Kp S a (w.putObj D o) :=
  ⟨h.os, h.tape, h.output, by have := h.size; simpa [World.putObj] using this, fun k hk hn => (World.putObj_heap_other (by omega)).trans (h.block k hk hn)⟩

/-- what holds between two rounds: the block A holds a number, and nothing else of old has changed -/
def OneHeld {β : Type} (A : Nat) (W0 : World) (fl : β → Nat) (pre : β) (W : World) : Prop := Blk W A 3 #[.int .i64 (fl pre : Nat)] ∧ Kp (At A) W0 W
theorem OneHeld.own {β : Type} {A : Nat} {W0 : World} {fl : β → Nat} (hA : A < W0.heap.size) : OwnFrom W0.heap.size (OneHeld A W0 fl) :=
  fun _ _ _ _ hs hg hr => ⟨hs.1.grown hg (fun e => by have := (hr _ e.symm).1; omega), hs.2.grown hg fun k e hk => by have := (hr k e).1; omega⟩

/-- what a loop over an iterator leaves for the function's end: a block for its rounds' deferred calls -/
def marks (Ds : List Nat) : List Deferred := Ds.map fun D => { target := .collected D, args := #[] }
structure Marks (lo : Nat) (Ds : List Nat) (W : World) : Prop where
  nodup : Ds.Nodup
  here : ∀ D ∈ Ds, lo ≤ D ∧ W.heap[D]? = some (.deferred (some []))
theorem Marks.none (lo : Nat) (W : World) : Marks lo [] W := ⟨List.nodup_nil, fun _ h => by cases h⟩
theorem Marks.kp {lo : Nat} {Ds : List Nat} {S : Nat → Prop} {W W' : World} (h : Marks lo Ds W) (hk : Kp S W W') (hS : ∀ D ∈ Ds, ¬ S D) : Marks lo Ds W' :=
  ⟨h.nodup, fun D hD => ⟨(h.here D hD).1, (hk.block D (Array.getElem?_eq_some_iff.1 (h.here D hD).2).1 (hS D hD)).trans (h.here D hD).2⟩⟩
theorem Marks.ne {lo : Nat} {Ds : List Nat} {W : World} {g : Nat} {t : TypeId} {cs : Array Value} (h : Marks lo Ds W) (hb : Blk W g t cs) : ∀ D ∈ Ds, ¬ At g D := by
  rintro D hD rfl
  have := (h.here D hD).2
  unfold Blk at hb
  rw [hb] at this
  cases this
theorem Marks.cons {lo : Nat} {Ds : List Nat} {W : World} {D : Nat} (h : Marks lo Ds W) {n : Nat} (hn : ∀ D ∈ Ds, D < n) (hD : n ≤ D) (hlo : lo ≤ D) (hd : W.heap[D]? = some (.deferred (some []))) : Marks lo (D :: Ds) W :=
  ⟨List.nodup_cons.2 ⟨fun hm => by have := hn D hm; omega, h.nodup⟩, fun E hE => by
    rcases List.mem_cons.1 hE with rfl | hE
    · exact ⟨hlo, hd⟩
    · exact h.here E hE⟩
theorem Marks.lt {lo : Nat} {Ds : List Nat} {W : World} (h : Marks lo Ds W) : ∀ D ∈ Ds, D < W.heap.size := fun D hD => (Array.getElem?_eq_some_iff.1 (h.here D hD).2).1

theorem leaves_marks {F : Fence} {n : Nat} {P : Program} {fn : Func} {tmps : Array Value} {R : Ending → World → Prop} {lo : Nat} : ∀ {Ds : List Nat} {W : World}, Marks lo Ds W →
    (∀ W', Kp (fun k => lo ≤ k) W W' → LeavesIn F n P fn tmps R [] .returning W') → LeavesInM F n P fn tmps R (marks Ds) .returning W := by
  intro Ds
  induction Ds with
  | nil => intro W _ h; exact h W (Kp.refl _ _)
  | cons D Ds ih =>
    intro W hm h
    obtain ⟨hlo, hd⟩ := hm.here D (by simp)
    refine ⟨by simp, .inl ⟨D, _, rfl, run_takeDeferred hd, ?_⟩⟩
    refine ih ⟨(List.nodup_cons.1 hm.nodup).2, fun E hE => ⟨(hm.here E (by simp [hE])).1, ?_⟩⟩ fun W' hk => h W' ?_
    · have hne : E ≠ D := by rintro rfl; exact (List.nodup_cons.1 hm.nodup).1 hE
      exact (World.putObj_heap_other hne).trans (hm.here E (by simp [hE])).2
    · refine Kp.trans (b := W.putObj D (.deferred none)) ⟨rfl, rfl, rfl, by simp [World.putObj], fun k hk hS => World.putObj_heap_other ?_⟩ hk
      rintro rfl
      exact hS hlo

set_option maxRecDepth 100000 in
set_option maxHeartbeats 4000000 in
theorem reach_ok {F : Nat → Prop} (vo vr : Value) (outs : List (List Int)) (roots : List Int) (w : World) (ho : RowsIn w F vo outs) (hr : IntsIn w F vr roots) (hok : Ok outs roots) :
    Calls Tryd.prog 19 #[.agg #[vo, vr]] w fun e w' => e = .returned (.tuple #[.int .i64 (reachN outs roots : Nat), .nilIface]) ∧ Kp No w w' := by
  have HO := hide (ho.mono (F' := Lo w.heap.size) fun k h _ => h)
  have HR := hide (hr.mono (F' := Lo w.heap.size) fun k h _ => h)
  have HOK := hide hok
  have HE := hide (chk_of_ok hok)
  clear ho hr hok
  refine (callsIn_wide (n := 8)).1 ?_
  refine callsIn_of_wp_marks Tryd.func19 rfl trivial ?_ rfl
  refine wpIn_wide.2 ?_
  simp only [Tryd.ntmps19, List.size_toArray, List.length_cons, List.length_nil, Nat.reduceAdd, Nat.reduceSub, Array.replicate_succ, Array.replicate_zero, List.push_toArray, List.append_toArray, List.nil_append, List.cons_append]
  go_wp2_with fail
  refine Calls.mono (check_any vo vr outs roots _ (HO.out.no ((Kp.refl No _).alloc _)) (HR.out.no ((Kp.refl No _).alloc _))) ?_
  rw [HE.out]
  rintro e w1 ⟨rfl, hk1⟩
  have hb1 := (Blk.new w 25 #[vo, vr]).kp hk1 id
  have HK1 := hide (((Kp.refl No w).alloc (.cells #[vo, vr] 25)).trans' hk1 fun _ _ h => h)
  obtain ⟨a1, a2, a3, a4, a5⟩ := hb1.a2
  have HB1 := hide hb1
  clear hk1 hb1
  unfold errV
  obtain ⟨Ar, cr, rfl, hcr, hmr, _⟩ := id HR.out
  obtain ⟨Ao, co, rfl, hco, hmo, _⟩ := RowsIn.form HO.out
  have HL := hide HOK.out.n12
  have HKL := hide (show ∀ wr, Kp (At w1.heap.size) w1 wr → Kp (At w1.heap.size) w wr from fun wr h => (HK1.out.mono fun _ _ h => h.elim).trans h)
  have HN := hide (show ∀ k, Lo w.heap.size k → ¬ At w1.heap.size k from fun k h e => by unfold Lo at h; unfold At at e; omega)
  go_wp2_with fail
  go_loopw [20] (fun p wr => ∃ k : Nat, p = .int .i64 k ∧ k ≤ roots.length ∧ Blk wr w1.heap.size 3 #[.int .i64 (orIn 0 (roots.take k) : Nat)] ∧ Kp (At w1.heap.size) w1 wr)
    (fun p _ => roots.length - (intOf p).toNat)
  case atStart => exact ⟨0, rfl, Nat.zero_le _, Blk.new w1 _ _, (Kp.refl _ _).alloc _⟩
  case round =>
    obtain ⟨k, rfl, hk, hb, hkp⟩ := hrel
    obtain ⟨b1, b2, b3⟩ := hb.a1
    have HB := hide hb
    have HKP := hide hkp
    clear hb hkp
    by_cases hlt : k < roots.length
    · obtain ⟨_, _, e, _, _, hcell⟩ := HR.out.kp (HKL.out _ HKP.out) HN.out
      cases e
      obtain ⟨b, o, rfl, _, hc⟩ := hcell k hlt
      clear hcell
      have hx0 := (HOK.out.root _ (List.getElem_mem hlt)).1
      have hx1 : roots[k] < 12 := by have := (HOK.out.root _ (List.getElem_mem hlt)).2; have := HL.out; omega
      go_wp2
      have HS := hide (show orIn 0 (roots.take (k + 1)) = orIn 0 (roots.take k) ||| 2 ^ roots[k].toNat by rw [List.take_succ_eq_append_getElem hlt, orIn_snoc])
      have HOR := hide (or_step (orIn 0 (roots.take k)) (orIn_lt (by decide) fun x hx => by have := HOK.out.root x (List.mem_of_mem_take hx); have := HL.out; omega) roots[k] hx1)
      go_region
      go_wp2
      go_roundw
      case rel => exact ⟨k + 1, by go_num, hlt, by rw [HS.out, ← HOR.out]; exact (HB.out.set_ 0 _).drew, (HKP.out.setCell (p := ⟨w1.heap.size, 0, none⟩) (fun _ => rfl) _).drew⟩
      case measure => simp [intOf]; omega
    · obtain rfl : k = roots.length := by omega
      rw [List.take_length] at HB b1
      go_wp2
      refine wp_loop (fun a' w' => ∃ u0 u2 u3 u4 u6 u7 u9 u10 u11 u12 u13 u14 u15 u16 u17 u18 u19 u20 u21 u22 u23 u24 u25 u26 u27 u28 u29 u30 u31 u32 u33 u34 u35 u36 u37 u38 u39 u40 u41 u42 u43 u44 u45 u46 u47 u48 u49 u50 u51 : Value, ∃ (z : Int) (Ds : List Nat), (∃ s : Nat, Blk w' w1.heap.size 3 #[.int .i64 (s : Nat)] ∧ Kp (At w1.heap.size) w1 w' ∧ RInv outs roots s ∧ (z = -1 ∨ ∃ q : Nat, z = q ∧ s = flow outs q (bitsTo q 12)) ∧ Marks w1.heap.size Ds w') ∧
        a' = { tmps := #[u0, .pointer (some ⟨w.heap.size, 0, none⟩), u2, u3, u4, .pointer (some ⟨w1.heap.size, 0, none⟩), u6, u7, .int .i64 z, u9, u10, u11, u12, u13, u14, u15, u16, u17, u18, u19, u20, u21, u22, u23, u24, u25, u26, u27, u28, u29, u30, u31, u32, u33, u34, u35, u36, u37, u38, u39, u40, u41, u42, u43, u44, u45, u46, u47, u48, u49, u50, u51], defers := marks Ds })
        (fun a' _ => 4097 - (intOf (a'.tmps.getD 8 undef) + 1).toNat) ?start ?round
      case start =>
        exact ⟨_, _, _, _, _, _, _, _, _, _, _, _, _, _, _, _, _, _, _, _, _, _, _, _, _, _, _, _, _, _, _, _, _, _, _, _, _, _, _, _, _, _, _, _, _, _, _, _, _, -1, [], ⟨_, HB.out, HKP.out, .start HOK.out, .inl rfl, .none _ _⟩, rfl⟩
      case round =>
        rintro _ wr ⟨u0, u2, u3, u4, u6, u7, u9, u10, u11, u12, u13, u14, u15, u16, u17, u18, u19, u20, u21, u22, u23, u24, u25, u26, u27, u28, u29, u30, u31, u32, u33, u34, u35, u36, u37, u38, u39, u40, u41, u42, u43, u44, u45, u46, u47, u48, u49, u50, u51, z, Ds, ⟨s, hb, hkp, hri, hz, hmk⟩, rfl⟩
        clear b1 b2 b3 a1 a2 a3 a4
        obtain ⟨b1, b2, b3⟩ := hb.a1
        obtain ⟨a1, a2, a3, a4, _⟩ := (HB1.out.kp hkp (fun h => by unfold At at h; omega)).a2
        have HB := hide hb
        have HKP := hide hkp
        have HRI := hide hri
        have HMK := hide hmk
        have HZ := hide hz
        clear hb hkp hri hz hmk
        by_cases he : z = (s : Int)
        · subst he
          go_wp2
          refine leaves_marks HMK.out fun W' hk' => ?_
          obtain rfl : s = reachN outs roots := by
            rcases HZ.out with h | ⟨q, h, h'⟩
            · exact absurd h (by omega)
            · obtain rfl : s = q := by omega
              exact HRI.out.done HOK.out h'.symm
          exact ⟨_, by simp [results, Tryd.results19, go_sem], rfl, (HK1.out.trans' HKP.out fun k hk e => by unfold At at e; have := HK1.out.size; omega).trans' hk' fun k hk e => by have := HK1.out.size; exact absurd e (by omega)⟩
        · go_wp2_with fail
          refine Calls.mono (bits_any _ _) ?_
          rintro e w2 ⟨rfl, rfl⟩
          go_wp2_with fail
          obtain ⟨W0, hW0⟩ : ∃ W0, wr.alloc (.cells #[.int .i64 (s : Nat)] 3) = W0 := ⟨_, rfl⟩
          have hz1 : W0.heap.size = wr.heap.size + 1 := by rw [← hW0]; simp
          have hz2 : w1.heap.size < wr.heap.size := HB.out.lt
          rw [hW0]
          refine (wpIn_wide (n := 8)).1 ?_
          refine wpIn_rangeFunc_ownG rfl (by decide) (gf := 79) (lb := #[.pointer (some ⟨wr.heap.size, 0, none⟩)]) rfl trivial (enters_of Tryd.func79 (by kernel_rfl) rfl)
            (bits_stops 7 (by decide) wr.heap.size s HRI.out.lt W0 (by rw [← hW0]; exact Blk.new wr _ _) (by rw [← hW0]; simp)) SetKept.trans (fun W l _ o' hl _ _ _ => SetKept.put (n := W0.heap.size) (by rw [← hW0]; simp) W l o' hl) (Below.refl _ _) (fun _ => rfl)
            (OneHeld w1.heap.size W0 fun pre => flow outs s (pre.map (·.1))) (fun _ _ _ => False) (OneHeld.own (by rw [← hW0]; simp; omega)) (fun _ _ _ _ _ h _ _ => h) ⟨by rw [← hW0]; exact HB.out.alloc _, Kp.refl _ _⟩ ?a1 ?assign ?body ?done ?stop
          case assign =>
            intro l x W K hK
            gi_wp2
            exact hK
          case body =>
            rintro l pre x W ⟨hB, hKp⟩ _
            have HT := hide (show flow outs s ((pre ++ [x]).map (·.1)) = orIn (flow outs s (pre.map (·.1))) (adj outs (x.1 : Int)) by rw [List.map_append, List.map_cons, List.map_nil, flow_snoc])
            have HTL := hide (flow_lt HOK.out (pre := pre.map (·.1)) HRI.out.lt)
            change Blk W _ _ #[.int .i64 (flow outs s (pre.map (·.1)) : Nat)] at hB
            generalize flow outs s (pre.map (·.1)) = T at *
            have hxr := (HRI.out.sound x.1 x.2.2).range HOK.out
            have hxl : x.1 < outs.length := by omega
            have hmx : Tryd.prog.follows .mixedOrders = true := by kernel_rfl
            have hKW : Kp (At w1.heap.size) w1 W := by
              refine Kp.trans ?_ hKp
              rw [← hW0]
              exact HKP.out.alloc _
            clear b1 b2 b3 a1 a2 a3 a4
            obtain ⟨b1, b2, b3⟩ := hB.a1
            obtain ⟨a1, a2, a3, a4, _⟩ := (HB1.out.kp hKW (fun h => by unfold At at h; omega)).a2
            obtain ⟨_, _, e, _, _, hrow⟩ := RowsIn.form (HO.out.kp (HKL.out _ hKW) HN.out)
            cases e
            obtain ⟨bo, oo, A', c', rfl, _, hrc, hri⟩ := hrow x.1 hxl
            clear hrow
            obtain ⟨_, _, e, hl', hm', _⟩ := id hri
            cases e
            have hadj : adj outs (x.1 : Int) = outs[x.1] := by
              unfold adj
              rw [Int.toNat_natCast, List.getD_eq_getElem?_getD, List.getElem?_eq_getElem hxl]
              rfl
            rw [← hadj] at hrc hri hl'
            have HADJ := hide hadj
            clear hadj
            have HRW := hide hri
            have HBW := hide hB
            have HKW := hide hKW
            have HKp := hide hKp
            clear hri hB hKW hKp
            gi_wp2
            gi_loopw [42] (fun p wv => ∃ k : Nat, p = .int .i64 k ∧ k ≤ (adj outs (x.1 : Int)).length ∧ Blk wv w1.heap.size 3 #[.int .i64 (orIn T ((adj outs (x.1 : Int)).take k) : Nat)] ∧ Kp (At w1.heap.size) W wv)
              (fun p _ => (adj outs (x.1 : Int)).length - (intOf p).toNat)
            case atStart => exact ⟨0, rfl, Nat.zero_le _, HBW.out, Kp.refl _ _⟩
            case round =>
              obtain ⟨k, rfl, hk, hb, hkp⟩ := hrel
              clear b1 b2 b3
              obtain ⟨b1, b2, b3⟩ := hb.a1
              have HBV := hide hb
              have HKV := hide hkp
              clear hb hkp
              by_cases hlt : k < (adj outs (x.1 : Int)).length
              · obtain ⟨_, _, e, _, _, hcell⟩ := HRW.out.kp HKV.out HN.out
                cases e
                obtain ⟨b, o, rfl, _, hc⟩ := hcell k hlt
                clear hcell
                have hx0 := (HOK.out.adjIn _ (List.getElem_mem hlt)).1
                have hx1 : (adj outs (x.1 : Int))[k] < 12 := by have := (HOK.out.adjIn _ (List.getElem_mem hlt)).2; have := HL.out; omega
                have HS := hide (show orIn T ((adj outs (x.1 : Int)).take (k + 1)) = orIn T ((adj outs (x.1 : Int)).take k) ||| 2 ^ ((adj outs (x.1 : Int))[k]).toNat by rw [List.take_succ_eq_append_getElem hlt, orIn_snoc])
                have HOR := hide (or_step (orIn T ((adj outs (x.1 : Int)).take k)) (orIn_lt HTL.out fun y hy => by have := HOK.out.adjIn y (List.mem_of_mem_take hy); have := HL.out; omega) _ hx1)
                gi_wp2
                gi_region_o
                all_goals gi_wp2
                all_goals exact ⟨⟨k + 1, by go_num, hlt, by rw [HS.out, ← HOR.out]; exact (HBV.out.set_ 0 _).drew, (HKV.out.setCell (p := ⟨w1.heap.size, 0, none⟩) (fun _ => rfl) _).drew⟩, by simp [intOf]; omega⟩
              · obtain rfl : k = (adj outs (x.1 : Int)).length := by omega
                rw [List.take_length] at HBV
                gi_wp2
                refine ⟨KeepsFrom.of_kp HKV.out (fun k e => ?_), HKV.out.block _ ?_ ?_, ?_, HKp.out.trans HKV.out⟩
                · unfold At at e; omega
                · have := HKp.out.size; omega
                · intro e; unfold At at e; omega
                · show Blk _ _ _ #[.int .i64 (flow outs s ((pre ++ [x]).map (·.1)) : Nat)]
                  rw [HT.out]
                  exact HBV.out
          case done =>
            rintro D ys W hD hys ⟨hB, hKp⟩ hd
            have hyt : ys.map (·.1) = bitsTo s 12 := hys
            change Blk W _ _ #[.int .i64 (flow outs s (ys.map (·.1)) : Nat)] at hB
            rw [hyt] at hB
            have hKW : Kp (At w1.heap.size) w1 W := by
              refine Kp.trans ?_ hKp
              rw [← hW0]
              exact HKP.out.alloc _
            have hw0 : W0.heap.size = wr.heap.size + 1 := by rw [← hW0]; simp
            refine ⟨⟨_, _, _, _, _, _, _, _, _, _, _, _, _, _, _, _, _, _, _, _, _, _, _, _, _, _, _, _, _, _, _, _, _, _, _, _, _, _, _, _, _, _, _, _, _, _, _, _, _, s, D :: Ds, ⟨_, hB, hKW, HRI.out.flow HOK.out, .inr ⟨s, rfl, rfl⟩, ?_⟩, rfl⟩, ?_⟩
            · refine Marks.cons (n := wr.heap.size) ((HMK.out.kp (Kp.trans ((Kp.refl (At w1.heap.size) wr).alloc (.cells #[.int .i64 (s : Nat)] 3)) (by rw [hW0]; exact hKp)) (HMK.out.ne HB.out))) HMK.out.lt (by omega) ?_ hd
              have := HKP.out.size
              omega
            · show 4097 - ((s : Int) + 1).toNat < 4097 - (z + 1).toNat
              have := HRI.out.lt
              have hz : z < (s : Int) := by
                rcases HZ.out with h | ⟨q, h, h'⟩
                · omega
                · have := le_flow (outs := outs) (bitsTo q 12) q
                  omega
              rcases HZ.out with h | ⟨q, h, h'⟩ <;> omega
          case stop =>
            rintro D c pre W _ _ h _
            exact h.elim

theorem reach_bad {F : Nat → Prop} (vo vr : Value) (outs : List (List Int)) (roots : List Int) (w : World) (ho : RowsIn w F vo outs) (hr : IntsIn w F vr roots) (hbad : chk outs roots ≠ 0) :
    Calls Tryd.prog 19 #[.agg #[vo, vr]] w fun e w' => e = .returned (.tuple #[.int .i64 0, .iface 84 (.int .i64 (chk outs roots))]) ∧ Kp No w w' := by
  have HO := hide ho
  have HR := hide hr
  have HE := hide (errV_pos hbad)
  clear ho hr hbad
  refine (callsIn_wide (n := 8)).1 ?_
  refine callsIn_of_wp_marks Tryd.func19 rfl trivial ?_ rfl
  refine wpIn_wide.2 ?_
  simp only [Tryd.ntmps19, List.size_toArray, List.length_cons, List.length_nil, Nat.reduceAdd, Nat.reduceSub, Array.replicate_succ, Array.replicate_zero, List.push_toArray, List.append_toArray, List.nil_append, List.cons_append]
  go_wp2_with fail
  refine Calls.mono (check_any vo vr outs roots _ (HO.out.no ((Kp.refl No _).alloc _)) (HR.out.no ((Kp.refl No _).alloc _))) ?_
  rw [HE.out]
  rintro e w1 ⟨rfl, hk1⟩
  have HK1 := hide (((Kp.refl No w).alloc (.cells #[vo, vr] 25)).trans' hk1 fun _ _ h => h)
  clear hk1
  go_wp2
  refine leaves_marks (Ds := []) (.none w1.heap.size _) fun W' hk' => ?_
  exact ⟨_, by simp [results, Tryd.results19, go_sem], rfl, HK1.out.trans' hk' fun k hk e => by have := HK1.out.size; exact absurd e (by omega)⟩
end Go.Proofs.YtgbdjidjbcbhjaaDoor
