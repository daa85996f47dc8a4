/- slices.Backward of ints as an iterator: the places and what is there, falling; whoever loops over it need keep the blocks that hold the list. -/
import Derived.Test.YtgbdjidjbcbhjaaDoorBits
import Derived.Test.YtgbdjidjbcbhjaaDoorCheney
namespace Go.Proofs.YtgbdjidjbcbhjaaDoor
open Go.RowKit Go.Shelf
attribute [local go_sem] Oper.semAt_some

/-- a place of a list -/
abbrev AtOf (xs : List Int) := { i : Nat // i < xs.length }
/-- n - 1, n - 2, .. -/
def downs (n k : Nat) : List Nat := (List.range k).map fun j => n - 1 - j
theorem downs_succ (n k : Nat) : downs n (k + 1) = downs n k ++ [n - 1 - k] := by simp [downs, List.range_succ]
theorem downs_prefix (n : Nat) {k m : Nat} (h : k ≤ m) : downs n k <+: downs n m := by
  induction m with
  | zero => obtain rfl : k = 0 := by omega
            exact List.prefix_refl _
  | succ m ih =>
    rcases Nat.lt_or_ge m k with hlt | hge
    · obtain rfl : k = m + 1 := by omega
      exact List.prefix_refl _
    · rw [downs_succ]; exact (ih hge).trans (List.prefix_append _ _)

/-- the blocks of G lie as they lay -/
def KeptIn (G : Nat → Prop) (W W' : World) : Prop := ∀ b, G b → W'.heap[b]? = W.heap[b]?
theorem KeptIn.trans {G : Nat → Prop} {X Y Z : World} (h : KeptIn G X Y) (k : KeptIn G Y Z) : KeptIn G X Z := fun b hb => (k b hb).trans (h b hb)
theorem KeptIn.put {G : Nat → Prop} {n : Nat} (hG : ∀ b, G b → b < n) (W : World) (l : Nat) (o' : Obj) (h : n ≤ l) : KeptIn G W (W.putObj l o') := fun b hb => World.putObj_heap_other (by have := hG b hb; omega)
theorem KeptIn.kp {G S : Nat → Prop} {W W' : World} (h : Kp S W W') (hS : ∀ b, G b → b < W.heap.size ∧ ¬ S b) : KeptIn G W W' := fun b hb => h.block b (hS b hb).1 (hS b hb).2
theorem ints_keptIn {G F : Nat → Prop} {W W' : World} {v : Value} {xs : List Int} (h : IntsIn W F v xs) (hk : KeptIn G W W') (hF : ∀ b, F b → G b) : IntsIn W' F v xs :=
  h.keep fun p u hp hc => (World.cell?_of_block (hk p.block (hF _ hp))).trans hc

set_option maxRecDepth 100000 in
set_option maxHeartbeats 2000000 in
theorem back1_in (l B : Nat) (xs : List Int) (A : Option Addr) (c : Nat) (F G : Nat → Prop) (hG : G B) (hFG : ∀ b, F b → G b) (hl : xs.length ≤ 1000) (J Jx : List (AtOf xs) → World → Prop) (n : Nat) (hn : 1 ≤ n) (w0 : World)
    (hB : Blk w0 B 23 #[.slice A xs.length c]) (hI : IntsIn w0 F (.slice A xs.length c) xs)
    (hY : ∀ pre x W, J pre W → pre.length < xs.length → YieldAt Fence.wide (n - 1) Tryd.prog l #[.int .i64 (x.1 : Nat), .int .i64 (xs[x.1]'x.2)] W fun e W' =>
      (e = .returned (.bool true) ∧ J (pre ++ [x]) W' ∧ KeptIn G W W') ∨ (e = .returned (.bool false) ∧ Jx (pre ++ [x]) W'))
    (h0 : J [] w0) :
    CallsIn Fence.wide n Tryd.prog 80 #[.func (.yield l) #[] #[], .pointer (some ⟨B, 0, none⟩)] w0 fun e W' => (∃ v, e = .returned v) ∧
      ((∃ ys : List (AtOf xs), ys.map (·.1) = downs xs.length xs.length ∧ J ys W') ∨ (∃ pre : List (AtOf xs), pre.map (·.1) <+: downs xs.length xs.length ∧ Jx pre W')) := by
  have HI := hide hI
  have HB := hide hB
  obtain ⟨b1, b2, b3⟩ := hB.a1
  clear hI hB
  refine callsIn_of_wp Tryd.func80 rfl trivial ?_ rfl
  simp only [Tryd.ntmps80, List.size_toArray, List.length_cons, List.length_nil, Nat.reduceAdd, Nat.reduceSub, Array.replicate_succ, Array.replicate_zero, List.push_toArray, List.append_toArray, List.nil_append, List.cons_append]
  gi_wp2
  gi_loopw [3] (fun p wr => ∃ (k : Nat) (pre : List (AtOf xs)), k ≤ xs.length ∧ p = .int .i64 ((xs.length : Int) - 1 - k) ∧ pre.map (·.1) = downs xs.length k ∧ J pre wr ∧ KeptIn G w0 wr)
    (fun p wr => (intOf p + 1).toNat)
  case atStart => exact ⟨0, [], Nat.zero_le _, by simp, rfl, h0, fun _ _ => rfl⟩
  case round =>
    obtain ⟨k, pre, hk, rfl, hpre, hJ, hkp⟩ := hrel
    have HKP := hide hkp
    have hb : Blk wr B 23 #[.slice A xs.length c] := (hkp B hG).trans HB.out
    clear b1 b2 b3
    obtain ⟨b1, b2, b3⟩ := hb.a1
    have hlen : pre.length = k := by rw [← List.length_map (·.1), hpre]; simp [downs]
    by_cases hlt : k < xs.length
    · have hix : xs.length - 1 - k < xs.length := by omega
      obtain ⟨_, _, e, _, _, hcell⟩ := ints_keptIn HI.out hkp hFG
      cases e
      obtain ⟨b, o, rfl, _, hc⟩ := hcell (xs.length - 1 - k) hix
      clear hcell
      obtain ⟨x, hx⟩ : ∃ x : AtOf xs, x.1 = xs.length - 1 - k := ⟨⟨_, hix⟩, rfl⟩
      obtain ⟨fn, tmps, assign, body, hy, hR⟩ := hY pre x wr hJ (by omega)
      have hxv : xs[x.1]'x.2 = xs[xs.length - 1 - k]'hix := by simp only [hx]
      rw [hxv, hx] at hy
      have HX := hide (show (pre ++ [x]).map (·.1) = downs xs.length (k + 1) by rw [downs_succ, ← hpre, List.map_append, List.map_cons, List.map_nil, hx])
      have HJK := hide (show k + 1 ≤ xs.length from hlt)
      obtain ⟨m, hm⟩ : ∃ m, xs.length - 1 - k = m := ⟨_, rfl⟩
      have hm2 : (xs.length : Int) - 1 - (k : Int) = (m : Int) := by omega
      have HM2 := hide hm2
      obtain ⟨u, hu⟩ : ∃ u, xs[xs.length - 1 - k]'hix = u := ⟨_, rfl⟩
      rw [hu, hm] at hc hy
      rw [hm2]
      have hmn : (m : Int) < (xs.length : Int) := by omega
      have hm0 : (0 : Int) ≤ (m : Int) := by omega
      have hm1000 : m ≤ 1000 := by omega
      have HML := hide (show m = xs.length - 1 - k from hm.symm)
      clear hY hx hxv hu hm hm2 hix hpre hkp hlen hlt
      gi_wp2
      refine hR.mono ?_
      rintro e W3 (⟨rfl, hJ3, hk3⟩ | ⟨rfl, hJx3⟩)
      · gi_wp2
        go_roundw
        case rel => exact ⟨k + 1, _, HJK.out, by have := HM2.out; congr 1; push_cast; omega, HX.out, hJ3, HKP.out.trans hk3⟩
        case measure => simp [intOf]
      · gi_wp2
        refine bodyPost_ret (results_none rfl _ _ _) rfl ?_
        exact ⟨⟨_, rfl⟩, .inr ⟨_, by rw [HX.out]; exact downs_prefix _ HJK.out, hJx3⟩⟩
    · obtain rfl : k = xs.length := by omega
      have hm2 : (xs.length : Int) - 1 - (xs.length : Int) = -1 := by omega
      rw [hm2]
      clear hm2 hY
      gi_wp2
      go_end0
      exact ⟨⟨_, rfl⟩, .inl ⟨pre, hpre, hJ⟩⟩

theorem back_stops (n : Nat) (hn : 1 ≤ n) (B : Nat) (xs : List Int) (A : Option Addr) (c : Nat) (F G : Nat → Prop) (hG : G B) (hFG : ∀ b, F b → G b) (hl : xs.length ≤ 1000) (w : World) (hB : Blk w B 23 #[.slice A xs.length c])
    (hI : IntsIn w F (.slice A xs.length c) xs) :
    SeqStopsK Fence.wide n Tryd.prog 80 #[.pointer (some ⟨B, 0, none⟩)] (fun x : AtOf xs => #[.int .i64 (x.1 : Nat), .int .i64 (xs[x.1]'x.2)]) (KeptIn G) (fun ys => ys.map (·.1) = downs xs.length xs.length) (fun pre => pre.map (·.1) <+: downs xs.length xs.length) xs.length w :=
  fun l J Jx W hW _ _ hY h0 => back1_in l B xs A c F G hG hFG hl J Jx n hn W ((hW.block B hB.lt).trans hB) (hI.no (Kp.of_below_self hW)) hY h0

theorem back_any (A : Option Addr) (n c : Nat) (w : World) : Calls Tryd.prog 73 #[.slice A n c] w fun e w' => e = .returned (.func (.func 80) #[] #[.pointer (some ⟨w.heap.size, 0, none⟩)]) ∧ w' = w.alloc (.cells #[.slice A n c] 23) := by
  go_enter Tryd.func73, Tryd.ntmps73
  go_wp2
  go_ret
  exact ⟨rfl, rfl⟩
end Go.Proofs.YtgbdjidjbcbhjaaDoor
