/- sweep.Mark, walked: of a heap that is no more than it may be, what can be come to, as deep as may be. -/
import Derived.Test.YtgbdjidjbcbhjaaDoorDeepPlain
import Derived.Test.YtgbdjidjbcbhjaaDoorBack
import Derived.Test.YtgbdjidjbcbhjaaDoorReach
import Derived.Test.YtgbdjidjbcbhjaaDoorOwn
import Derived.Test.YtgbdjidjbcbhjaaDoorPushIn
import Derived.Test.YtgbdjidjbcbhjaaDoorKeeps
import Derived.Test.YtgbdjidjbcbhjaaDoorHeapOut
import Derived.WalkSmall
import Derived.Deep.Cut
import Derived.Deep.LoopGhost
namespace Go.Proofs.YtgbdjidjbcbhjaaDoor
open Go.RowKit Go.Shelf
set_option linter.unusedSimpArgs false
attribute [local go_sem] Oper.semAt_some

/-- a slot of a frame -/
def slot (a : Act) (i : Nat) : Value := a.tmps.getD i undef
theorem wp_loop_k {P : Program} {Q : Exit → Act → World → Prop} {a : Act} {w : World} {c : Code} (I : Nat → Act → World → Prop) (n₀ : Nat) (h₀ : I n₀ a w)
    (round : ∀ n a w, I n a w → ∀ K : Act → World → Prop, Shut (∀ n' a' w', n' < n → I n' a' w' → K a' w') → c.wp P (Exit.then K Q) a w) : (Code.loop c).wp P Q a w :=
  wp_loop_ghost I n₀ h₀ fun n a w h => round n a w h _ fun n' _ _ h1 h2 => ⟨n', h1, h2⟩

theorem chas_int (s : Nat) (x : Int) (hs : s < 4611686018427387904) (h0 : 0 ≤ x) (h1 : x < 62) (w : World) : Calls Tryd.prog 58 #[.int .i64 s, .int .i64 x] w fun e w' => e = .returned (.bool (bt s x.toNat)) ∧ w = w' := by
  obtain ⟨i, rfl⟩ := Int.eq_ofNat_of_zero_le h0
  exact chas_any s i hs (by omega) w
theorem marked_bit {o : List Int} {n : Nat} (h : Vd n o) {x : Int} (hx : 0 ≤ x) : bt (orIn 0 o) x.toNat = decide (x ∈ o) := by
  unfold bt
  rw [Bool.eq_iff_iff, testBit_orIn, decide_eq_true_eq]
  constructor
  · rintro (h1 | ⟨y, hy, h1⟩)
    · simp at h1
    · have := (h.range y hy).1
      rwa [show x = y by omega]
  · exact fun h1 => .inr ⟨x, h1, rfl⟩

/-- the values of places -/
def vals (xs : List Int) (pre : List (AtOf xs)) : List Int := pre.map fun x => xs[x.1]'x.2
theorem vals_snoc (xs : List Int) (pre : List (AtOf xs)) (x : AtOf xs) : vals xs (pre ++ [x]) = vals xs pre ++ [xs[x.1]'x.2] := by simp [vals]
theorem vals_all {xs : List Int} {ys : List (AtOf xs)} (h : ys.map (·.1) = downs xs.length xs.length) : vals xs ys = xs.reverse := by
  have hl : ys.length = xs.length := by rw [← List.length_map (·.1), h]; simp [downs]
  apply List.ext_getElem
  · simp [vals, hl]
  · intro i h1 h2
    have hi : i < ys.length := by simpa [vals] using h1
    have e : (ys.map (·.1))[i]'(by simpa using hi) = (downs xs.length xs.length)[i]'(by rw [← h]; simpa using hi) := by simp only [h]
    have e2 : (ys[i]).1 = xs.length - 1 - i := by simpa [downs] using e
    simp only [vals, List.getElem_map, List.getElem_reverse]
    congr 1

/-- the pile, while it grows -/
def PileTo (base Bp g0 : Nat) (q xs : List Int) (W0 : World) (pre : List (AtOf xs)) (W : World) : Prop :=
  ∃ g cap, Blk W Bp 23 #[.slice (some ⟨g, 0, none⟩) (q ++ vals xs pre).length cap] ∧ W.ownsRow base 3 1 (.slice (some ⟨g, 0, none⟩) (q ++ vals xs pre).length cap) (q ++ vals xs pre).length (iv (q ++ vals xs pre)) ∧
    (g = g0 ∨ W0.heap.size ≤ g) ∧ Kp (fun b => b = Bp ∨ b = g0) W0 W
theorem PileTo.own {base Bp g0 : Nat} {q xs : List Int} {W0 : World} (hB : Bp < W0.heap.size) (hg0 : g0 < W0.heap.size) : OwnFrom W0.heap.size (PileTo base Bp g0 q xs W0) := by
  rintro _ _ _ _ ⟨g, cap, h1, h2, h3, h4⟩ hgr hr
  exact ⟨g, cap, h1.grown hgr fun e => by have := (hr _ e.symm).1; omega, own_row_from h2 hgr fun r e => (hr r e).2, h3, h4.grown hgr fun k e hk => by have := (hr k e).1; omega⟩

/-- what holds of the memory as nodes are marked -/
structure MkW (lo : Nat) (w1 : World) (n : Nat) (o : List Int) (vo : Value) (Ds : List Nat) (W : World) : Prop where
  vd : Vd n o
  own : W.ownsRow lo 3 1 vo o.length (iv o)
  kp : Kp No w1 W
  mks : Marks lo Ds W
/-- and of the pile -/
structure PlW (lo : Nat) (Bp g cap : Nat) (vo : Value) (Ds : List Nat) (p : List Int) (W : World) : Prop where
  blk : Blk W Bp 23 #[.slice (some ⟨g, 0, none⟩) p.length cap]
  own : W.ownsRow lo 3 1 (.slice (some ⟨g, 0, none⟩) p.length cap) p.length (iv p)
  far : vo.ownBlock ≠ some g
  lo_ : lo ≤ Bp

section
variable {lo n Bp g cap : Nat} {w1 W : World} {o q : List Int} {vo : Value} {Ds : List Nat} {x : Int}
/-- the top is taken off -/
theorem MkW.pop (hm : MkW lo w1 n o vo Ds W) (hp : PlW lo Bp g cap vo Ds (q ++ [x]) W) (hlo : w1.heap.size ≤ lo) :
    MkW lo w1 n o vo Ds (W.setCell ⟨Bp, 0, none⟩ (.slice (some ⟨g, 0, none⟩) q.length cap)) ∧ PlW lo Bp g cap vo Ds q (W.setCell ⟨Bp, 0, none⟩ (.slice (some ⟨g, 0, none⟩) q.length cap)) := by
  have k := kp_set W Bp 0 (.slice (some ⟨g, 0, none⟩) q.length cap)
  have hlb := hp.lo_
  have hown : W.ownsRow lo 3 1 (.slice (some ⟨g, 0, none⟩) q.length cap) q.length (iv q) := by
    have := hp.own
    rw [iv_snoc, List.length_append, List.length_singleton] at this
    exact ownsRow_pop (by rw [iv_length]; omega) this
  refine ⟨⟨hm.vd, own_kp hm.own k fun b hb e => ?_, hm.kp.trans' k fun b hb e => by unfold At at e; omega, hm.mks.kp k (hm.mks.ne hp.blk)⟩, ⟨hp.blk.set_ 0 _, own_kp hown k fun b hb e => ?_, hp.far, hlb⟩⟩
  · unfold At at e; subst e; exact own_ne_blk hm.own hp.blk (by decide) hb
  · unfold At at e; subst e; exact own_ne_blk hown hp.blk (by decide) hb
/-- a node is marked -/
theorem MkW.push (hm : MkW lo w1 n o vo Ds W) (hp : PlW lo Bp g cap vo Ds q W) (hlo : w1.heap.size ≤ lo) (hx : x ∉ o) (hr : 0 ≤ x ∧ x < (n : Int)) {g' c' : Nat} {w4 : World}
    (ho : w4.ownsRow lo 3 1 (.slice (some ⟨g', 0, none⟩) (o.length + 1) c') (o.length + 1) (iv o ++ [.int .i64 x])) (hg : (W.alloc (.cells #[.int .i64 x] 3)).grownBy w4 vo.ownBlock) (hat : vo.ownBlock = some g' ∨ g' = W.heap.size + 1) :
    MkW lo w1 n (o ++ [x]) (.slice (some ⟨g', 0, none⟩) (o.length + 1) c') Ds w4 ∧ PlW lo Bp g cap (.slice (some ⟨g', 0, none⟩) (o.length + 1) c') Ds q w4 := by
  have k : Kp (fun b => vo.ownBlock = some b) W w4 := ((Kp.refl _ W).alloc _).grown hg fun b e _ => e
  refine ⟨⟨hm.vd.snoc hx hr, by rw [List.length_append, List.length_singleton, iv_snoc]; exact ho, hm.kp.trans' k fun b hb e => by have := (own_lt hm.own e).1; omega, hm.mks.kp k fun D hD e => ?_⟩, ⟨hp.blk.kp k (own_ne_blk hm.own hp.blk (by decide)), own_kp hp.own k fun b hb e => ?_, fun e => ?_, hp.lo_⟩⟩
  · obtain ⟨ob, h1, h2⟩ := own_cells hm.own D e
    rw [(hm.mks.here D hD).2] at h1
    cases h1
    simp [Obj.isCells] at h2
  · have e' : g = b := by simpa [Value.ownBlock] using hb
    subst e'
    exact hp.far e
  · have e' : g' = g := by simpa [Value.ownBlock] using e
    subst e'
    rcases hat with h | h
    · exact hp.far h
    · have := (own_lt hp.own (g := g') rfl).2
      omega
end

theorem leaves_marks' {F : Fence} {n : Nat} {P : Program} {fn : Func} {tmps : Array Value} {R : Ending → World → Prop} {lo : Nat} {S : Nat → Prop} : ∀ {Ds : List Nat} {W : World}, Marks lo Ds W → (∀ D ∈ Ds, S D) →
    (∀ W', Kp S W W' → LeavesIn F n P fn tmps R [] .returning W') → LeavesInM F n P fn tmps R (marks Ds) .returning W := by
  intro Ds
  induction Ds with
  | nil => intro W _ _ h; exact h W (Kp.refl _ _)
  | cons D Ds ih =>
    intro W hm hS h
    obtain ⟨hlo, hd⟩ := hm.here D (by simp)
    refine ⟨by simp, .inl ⟨D, _, rfl, run_takeDeferred hd, ?_⟩⟩
    refine ih ⟨(List.nodup_cons.1 hm.nodup).2, fun E hE => ⟨(hm.here E (by simp [hE])).1, ?_⟩⟩ (fun E hE => hS E (by simp [hE])) fun W' hk => h W' ?_
    · have hne : E ≠ D := by rintro rfl; exact (List.nodup_cons.1 hm.nodup).1 hE
      exact (World.putObj_heap_other hne).trans (hm.here E (by simp [hE])).2
    · refine Kp.trans (b := W.putObj D (.deferred none)) ⟨rfl, rfl, rfl, by simp [World.putObj], fun k hk hS' => World.putObj_heap_other ?_⟩ hk
      rintro rfl
      exact hS' (hS _ (by simp))

/-- what Mark leaves -/
def MarkPost (w : World) (l : List Int) (e : Ending) (w' : World) : Prop := ∃ v, e = .returned (.tuple #[v, .nilIface]) ∧ IntsIn w' (Hi w.heap.size) v l ∧ Kp No w w'

set_option maxRecDepth 100000 in
set_option maxHeartbeats 8000000 in
theorem mark_ok {F : Nat → Prop} (vo vr : Value) (outs : List (List Int)) (roots : List Int) (w : World) (ho : RowsIn w F vo outs) (hr : IntsIn w F vr roots) (hok : Ok outs roots) :
    Calls Tryd.prog 46 #[.agg #[vo, vr]] w (MarkPost w (marksN outs roots)) := by
  have HO := hide (ho.mono (F' := Lo w.heap.size) fun k h _ => h)
  have HR := hide (hr.mono (F' := Lo w.heap.size) fun k h _ => h)
  have HOK := hide hok
  have HE := hide (chk_of_ok hok)
  clear ho hr hok
  refine (callsIn_wide (n := 8)).1 ?_
  refine callsIn_of_wp_marks Tryd.func46 rfl trivial ?_ rfl
  refine wpIn_wide.2 ?_
  simp only [Tryd.ntmps46, List.size_toArray, List.length_cons, List.length_nil, Nat.reduceAdd, Nat.reduceSub, Array.replicate_succ, Array.replicate_zero, List.push_toArray, List.append_toArray, List.nil_append, List.cons_append]
  go_wp2_with fail
  refine Calls.mono (check_any vo vr outs roots _ (HO.out.no ((Kp.refl No _).alloc _)) (HR.out.no ((Kp.refl No _).alloc _))) ?_
  rw [HE.out]
  rintro e w1 ⟨rfl, hk1⟩
  have hb1 := (Blk.new w 25 #[vo, vr]).kp hk1 id
  have HK1 := hide (((Kp.refl No w).alloc (.cells #[vo, vr] 25)).trans' hk1 fun _ _ h => h)
  obtain ⟨a1, a2, a3, a4, a5⟩ := hb1.a2
  have HB1 := hide hb1
  clear hk1 hb1
  unfold errV
  obtain ⟨Ar, cr, rfl, hcr, hmr, _⟩ := id HR.out
  obtain ⟨Ao, co, rfl, hco, hmo, _⟩ := RowsIn.form HO.out
  have HL := hide HOK.out.n12
  go_wp2_with fail
  refine wp_loop_k (fun n a' w' => ∃ (k : Nat) (Ds : List Nat) (o : List Int) (vx : Value), (n + k = roots.length ∧ o = deeps outs [] (roots.take k) ∧ MkW w1.heap.size w1 outs.length o vx Ds w') ∧
    a' = { tmps := #[slot a' 0, .pointer (some ⟨w.heap.size, 0, none⟩), slot a' 2, slot a' 3, slot a' 4, .int .i64 (orIn 0 o : Nat), vx, slot a' 7, slot a' 8, slot a' 9, slot a' 10, slot a' 11, slot a' 12, slot a' 13, slot a' 14, slot a' 15, slot a' 16, slot a' 17, slot a' 18, .slice Ar roots.length cr, .int .i64 roots.length, .int .i64 k, slot a' 22, slot a' 23, slot a' 24, slot a' 25, slot a' 26, slot a' 27, slot a' 28, slot a' 29, slot a' 30, slot a' 31, slot a' 32, slot a' 33, slot a' 34, slot a' 35, slot a' 36, slot a' 37, slot a' 38, slot a' 39, slot a' 40, slot a' 41, slot a' 42, slot a' 43, slot a' 44, slot a' 45, slot a' 46, slot a' 47, slot a' 48, slot a' 49, slot a' 50, slot a' 51, slot a' 52, slot a' 53, slot a' 54, slot a' 55, slot a' 56, slot a' 57, slot a' 58, slot a' 59, slot a' 60, slot a' 61, slot a' 62, slot a' 63, slot a' 64, slot a' 65], defers := marks Ds }) roots.length ?start ?round
  case start => exact ⟨0, [], [], _, ⟨by omega, rfl, Vd.nil_ _, World.ownsRow_nil _ _ _ _, Kp.refl _ _, .none _ _⟩, rfl⟩
  case round =>
    rintro n a' wr ⟨k, Ds, o, vx, ⟨hn, ho, hm⟩, hfr⟩ K1 hK1
    obtain ⟨u, hu⟩ : ∃ u, slot a' = u := ⟨_, rfl⟩
    rw [hu] at hfr
    clear hu
    subst hfr
    clear a1 a2 a3 a4
    obtain ⟨a1, a2, a3, a4, _⟩ := (HB1.out.kp hm.kp id).a2
    have HM := hide hm
    have HN := hide hn
    have HOO := hide ho
    clear hm hn ho
    by_cases hlt : k < roots.length
    · obtain ⟨_, _, e, _, _, hcell⟩ := HR.out.no (HK1.out.trans HM.out.kp)
      cases e
      obtain ⟨b, ob, rfl, _, hc⟩ := hcell k hlt
      clear hcell
      have HX := hide (HOK.out.root _ (List.getElem_mem hlt))
      obtain ⟨r, hrr⟩ : ∃ r, roots[k] = r := ⟨_, rfl⟩
      have HRR := hide hrr
      rw [hrr] at hc HX
      clear hrr
      have HT := hide (show deeps outs [] (roots.take (k + 1)) = deeps outs o [r].reverse by rw [List.take_succ_eq_append_getElem hlt, deeps_append, ← HOO.out, HRR.out]; rfl)
      obtain ⟨T, hT⟩ : ∃ T, deeps outs [] (roots.take (k + 1)) = T := ⟨_, rfl⟩
      rw [hT] at HT
      have HTT := hide hT
      clear hT
      have HLT := hide hlt
      go_wp2_with fail
      obtain ⟨V, hV⟩ : ∃ V, (wr.alloc (.cells #[.int .i64 r] 3)).alloc (.cells #[.slice (some ⟨wr.heap.size, 0, none⟩) 1 1] 23) = V := ⟨_, rfl⟩
      have hkv : Kp No wr V := by rw [← hV]; exact ((Kp.refl No wr).alloc _).alloc _
      have hbp : Blk V (wr.heap.size + 1) 23 #[.slice (some ⟨wr.heap.size, 0, none⟩) 1 1] := by rw [← hV]; exact Blk.at_ _ _ (by simp)
      have hbo : V.ownsRow w1.heap.size 3 1 (.slice (some ⟨wr.heap.size, 0, none⟩) 1 1) 1 (iv [r]) := by rw [← hV]; exact (own_new wr (iv [r]) #[.int .i64 r] 3 w1.heap.size HM.out.kp.size (by simp [iv]) rfl).alloc _
      have HMV := hide (show MkW w1.heap.size w1 outs.length o vx Ds V from ⟨HM.out.vd, own_kp HM.out.own hkv fun _ _ h => h, HM.out.kp.trans hkv, HM.out.mks.kp hkv fun _ _ h => h⟩)
      have HPV := hide (show PlW w1.heap.size (wr.heap.size + 1) wr.heap.size 1 vx Ds [r] V from ⟨hbp, hbo, fun e => by have := (own_lt HM.out.own e).2; omega, by have := HM.out.kp.size; omega⟩)
      obtain ⟨Bp, hBp⟩ : ∃ Bp, wr.heap.size + 1 = Bp := ⟨_, rfl⟩
      rw [hV, hBp]
      rw [hBp] at HPV
      obtain ⟨g0, hg0⟩ : ∃ g0, wr.heap.size = g0 := ⟨_, rfl⟩
      rw [hg0] at HPV
      clear hkv hbp hbo hV hBp hg0 a1 a2 a3 a4 hc
      refine wp_loop_k (fun n' a' w' => ∃ (o' : List Int) (vx' : Value) (Ds' : List Nat) (p : List Int) (g cap : Nat), (n' = 5 * (12 - o'.length) + p.length ∧ p.length ≤ 1 + 4 * o'.length ∧ T = deeps outs o' p.reverse ∧ (∀ x ∈ p, 0 ≤ x ∧ x < (outs.length : Int)) ∧ MkW w1.heap.size w1 outs.length o' vx' Ds' w' ∧ PlW w1.heap.size Bp g cap vx' Ds' p w') ∧
        a' = { tmps := #[slot a' 0, .pointer (some ⟨w.heap.size, 0, none⟩), slot a' 2, slot a' 3, slot a' 4, .int .i64 (orIn 0 o' : Nat), vx', slot a' 7, slot a' 8, .pointer (some ⟨Bp, 0, none⟩), slot a' 10, slot a' 11, slot a' 12, slot a' 13, slot a' 14, slot a' 15, slot a' 16, slot a' 17, slot a' 18, .slice (some ⟨b, ob, none⟩) roots.length cr, .int .i64 roots.length, .int .i64 k, slot a' 22, slot a' 23, slot a' 24, slot a' 25, slot a' 26, slot a' 27, slot a' 28, slot a' 29, slot a' 30, slot a' 31, slot a' 32, slot a' 33, slot a' 34, slot a' 35, slot a' 36, slot a' 37, slot a' 38, slot a' 39, slot a' 40, slot a' 41, slot a' 42, slot a' 43, slot a' 44, slot a' 45, slot a' 46, slot a' 47, slot a' 48, slot a' 49, slot a' 50, slot a' 51, slot a' 52, slot a' 53, slot a' 54, slot a' 55, slot a' 56, slot a' 57, slot a' 58, slot a' 59, slot a' 60, slot a' 61, slot a' 62, slot a' 63, slot a' 64, slot a' 65], defers := marks Ds' }) (5 * (12 - o.length) + 1) ?start2 ?round2
      case start2 => exact ⟨o, vx, Ds, [r], g0, 1, ⟨rfl, by simp, HT.out, fun x hx => by simp at hx; subst hx; exact HX.out, HMV.out, HPV.out⟩, rfl⟩
      case round2 =>
        rintro m a' wq ⟨o', vx', Ds', p, g, cap, ⟨hm, hpl, hTd, hpr, hmk, hpw⟩, hfr⟩ K2 hK2
        obtain ⟨u', hu'⟩ : ∃ u', slot a' = u' := ⟨_, rfl⟩
        rw [hu'] at hfr
        clear hu'
        subst hfr
        have HMK := hide hmk
        have HPR := hide hpr
        have HTD := hide hTd
        have HPL := hide hpl
        have HMM := hide hm
        clear hmk hpr hTd hpl hm
        rcases List.eq_nil_or_concat p with rfl | ⟨q, x, rfl⟩
        · obtain ⟨b1, b2, b3⟩ := hpw.blk.a1
          clear hpw
          go_wp2_with fail
          exact hK1.out (n - 1) _ _ (by have := HN.out; have := HLT.out; omega) ⟨k + 1, Ds', o', vx', ⟨by have := HN.out; have := HLT.out; omega, by rw [HTT.out]; exact HTD.out.symm, HMK.out⟩, rfl⟩
        · rw [List.concat_eq_append] at hpw HPR HTD HPL HMM
          have hx := HPR.out x (by simp)
          have hql : q.length ≤ 60 := by have := HPL.out; have := HMK.out.vd.len; have := HL.out; simp at *; omega
          have hx12 : x < 12 := by have := HL.out; omega
          obtain ⟨gg, cc, hgv, hcap, _, hcell, _, _, hgl⟩ := own_cap hpw.own (k := q.length) (by rw [iv_length]; simp)
          rw [iv_length] at hgv hcap
          simp only [List.length_append, List.length_singleton] at hcap
          rw [iv_get (by simp)] at hcell
          simp only [List.getElem_concat_length] at hcell
          cases hgv
          have hcap' : (q.length : Int) ≤ (cap : Int) := by omega
          have HPW := hide hpw
          obtain ⟨b1, b2, b3⟩ := hpw.blk.a1
          simp only [List.length_append, List.length_singleton] at b1
          clear hpw
          have hpop := HMK.out.pop HPW.out (Nat.le_refl _)
          have HVX := hide HMK.out.vd
          go_wp2_with fail
          generalize wq.setCell ⟨Bp, 0, none⟩ (.slice (some ⟨g, 0, none⟩) q.length cap) = W2 at hpop ⊢
          have HM2 := hide hpop.1
          have HP2 := hide hpop.2
          have HXR := hide hx
          clear hpop b1 b2 b3 hcell hgl hcap hcap' HMK HPW
          have HOL := hide (show orIn 0 o' < 4096 from orIn_lt (by decide) fun y hy => by have := HVX.out.range y hy; have := HL.out; omega)
          refine Calls.mono (chas_int (orIn 0 o') x (by have := HOL.out; omega) hx.1 (by omega) _) ?_
          rw [marked_bit HVX.out hx.1]
          rintro e w3 ⟨rfl, rfl⟩
          by_cases hxo : x ∈ o'
          · rw [decide_eq_true hxo]
            have HX2 := hide hxo
            clear hxo hx
            go_wp2_with fail
            exact hK2.out (m - 1) _ _ (by have := HMM.out; simp at this; omega) ⟨o', vx', Ds', q, g, cap, ⟨by have := HMM.out; simp at this; omega, by have := HPL.out; simp at this; omega, by rw [HTD.out, pile_old HX2.out], fun y hy => HPR.out y (by simp [hy]), HM2.out, HP2.out⟩, rfl⟩
          · rw [decide_eq_false hxo]
            have HX2 := hide hxo
            have HOR := hide (show bits BinOp.or IntKind.i64 (orIn 0 o' : Nat) (wrap64 (2 ^ x.toNat)) = ((orIn 0 (o' ++ [x]) : Nat) : Int) by rw [or_step _ HOL.out x hx12, orIn_snoc])
            have HO12 := hide (show o'.length < 12 by have h1 := (HVX.out.snoc hxo hx).len; have := HL.out; simp at h1; omega)
            clear hxo
            go_upto_region 16 with (at_builtin; refine wpList_push _ rfl (.tmp 48) (.tmp 50) _ rfl w1.heap.size 3 _ 8 Tryd.underlying23 Tryd.infoInt rfl vx' o'.length (iv o') rfl HM2.out.own _ rfl 1 _ rfl (by simp) (by have := HO12.out; omega) (by decide) HM2.out.kp.size ?_; intro g' c' w4 ho4 hgr4 hat; have HPS := hide (HM2.out.push HP2.out (Nat.le_refl _) HX2.out HXR.out ho4 hgr4 hat); clear ho4 hgr4 hat)
            have HM4 := hide HPS.out.1
            have HP4 := hide HPS.out.2
            clear HPS
            rw [HOR.out]
            obtain ⟨a1, a2, a3, a4, _⟩ := (HB1.out.kp HM4.out.kp id).a2
            have hxn : x.toNat < outs.length := by omega
            have HKW4 := hide (HK1.out.trans HM4.out.kp)
            obtain ⟨_, _, e, _, _, hrow⟩ := RowsIn.form (HO.out.no HKW4.out)
            cases e
            obtain ⟨bo, oo, A', c'', rfl, _, hrc, hri⟩ := hrow x.toNat hxn
            clear hrow
            have hadj : adj outs x = outs[x.toNat] := adj_eq hxn
            rw [← hadj] at hrc hri
            have HRI := hide hri
            have hxnI : (x.toNat : Int) = x := Int.toNat_of_nonneg hx.1
            have hx1 : x < (outs.length : Int) := hx.2
            have hx0 : 0 ≤ x := hx.1
            clear hadj hri
            go_wp2_with fail
            refine Calls.mono (back_any _ _ _ _) ?_
            rintro e w5 ⟨rfl, hw5⟩
            have HM5 := hide (show MkW w1.heap.size w1 outs.length (o' ++ [x]) _ Ds' w5 from ⟨HM4.out.vd, by rw [hw5]; exact HM4.out.own.alloc _, by rw [hw5]; exact HM4.out.kp.alloc _, HM4.out.mks.kp (S := No) (by rw [hw5]; exact (Kp.refl No w4).alloc _) fun _ _ h => h⟩)
            have HP5 := hide (show PlW w1.heap.size Bp g cap _ Ds' q w5 from ⟨by rw [hw5]; exact HP4.out.blk.alloc _, by rw [hw5]; exact HP4.out.own.alloc _, HP4.out.far, HP4.out.lo_⟩)
            have HB5 := hide (show Blk w5 w4.heap.size 23 #[.slice A' (adj outs x).length c''] by rw [hw5]; exact Blk.new w4 _ _)
            have HZ5 := hide (show w5.heap.size = w4.heap.size + 1 by rw [hw5]; simp)
            have HRI5 := hide (show IntsIn w5 (Lo w.heap.size) (.slice A' (adj outs x).length c'') (adj outs x) by rw [hw5]; exact HRI.out.no ((Kp.refl No w4).alloc _))
            clear hw5 a1 a2 a3 a4 hrc
            have HFEW := hide (HOK.out.adjFew (x := x))
            have hz5 := HZ5.out
            have hbp5 : Bp < w5.heap.size := HP5.out.blk.lt
            have hg5 : g < w5.heap.size := (own_lt HP5.out.own (g := g) rfl).2
            have hg1 : w1.heap.size ≤ g := (own_lt HP5.out.own (g := g) rfl).1
            have hbp1 : w1.heap.size ≤ Bp := HP5.out.lo_
            have hw1 : w.heap.size < w1.heap.size := a5
            have hbpx : Bp ≠ w4.heap.size := by have := HP4.out.blk.lt; omega
            have hgx : g ≠ w4.heap.size := by have := (own_lt HP4.out.own (g := g) rfl).2; omega
            go_wp2_with fail
            refine (wpIn_wide (n := 8)).1 ?_
            refine wpIn_rangeFunc_ownG rfl (by decide) (gf := 80) (lb := #[.pointer (some ⟨w4.heap.size, 0, none⟩)]) rfl trivial (enters_of Tryd.func80 (by kernel_rfl) rfl)
              (back_stops 7 (by decide) w4.heap.size (adj outs x) A' c'' (Lo w.heap.size) (fun b => b < w5.heap.size ∧ (b = w4.heap.size ∨ Lo w.heap.size b)) ⟨by omega, .inl rfl⟩ (fun b hb => ⟨by unfold Lo at hb; omega, .inr hb⟩) (by have := HFEW.out; omega) w5 HB5.out HRI5.out)
              KeptIn.trans (fun W l _ o'' hl _ _ _ => KeptIn.put (n := w5.heap.size) (fun b hb => hb.1) W l o'' hl) (Below.refl _ _) (fun _ => rfl)
              (PileTo w1.heap.size Bp g q (adj outs x) w5) (fun _ _ _ => False) (PileTo.own hbp5 hg5) (fun _ _ _ _ _ h _ _ => h) ⟨g, cap, by simpa [vals] using HP5.out.blk, by simpa [vals] using HP5.out.own, .inl rfl, Kp.refl _ _⟩ ?a1 ?assign ?body ?done ?stop
            case assign =>
              intro l y W K hK
              gi_wp2
              exact hK
            case stop =>
              rintro D c pre W _ _ h _
              exact h.elim
            case body =>
              rintro l pre y W ⟨g2, cap2, hb, hown, hgg, hkp⟩ hpl
              obtain ⟨L, hL⟩ : ∃ L, q ++ vals (adj outs x) pre = L := ⟨_, rfl⟩
              have HLL := hide (show L.length ≤ 64 by rw [← hL, List.length_append]; simp only [vals, List.length_map]; have := HFEW.out; omega)
              have HLN := hide (show q ++ vals (adj outs x) (pre ++ [y]) = L ++ [(adj outs x)[y.1]'y.2] by rw [vals_snoc, ← hL, List.append_assoc])
              rw [hL] at hb hown
              have hsz := hkp.size
              have hWb : w1.heap.size ≤ W.heap.size := by omega
              obtain ⟨c1, c2, c3⟩ := hb.a1
              have HB := hide hb
              have HOWN := hide hown
              have HKP := hide hkp
              have HGG := hide hgg
              obtain ⟨z, hz⟩ : ∃ z, (adj outs x)[y.1]'y.2 = z := ⟨_, rfl⟩
              rw [hz] at HLN
              rw [hz]
              clear hL hb hown hkp hgg hz
              gi_wp2_with (gi_at_builtin; refine wpListIn_push _ rfl (.tmp 60) (.tmp 62) _ rfl w1.heap.size 3 _ 8 Tryd.underlying23 Tryd.infoInt rfl (.slice (some ⟨g2, 0, none⟩) L.length cap2) L.length (iv L) rfl HOWN.out _ rfl 1 _ rfl (by rfl) (by have := HLL.out; omega) (by decide) hWb ?_)
              intro g3 c4 w' ho' hgr' hat'
              have hne : Value.ownBlock (.slice (some ⟨g2, 0, none⟩) L.length cap2) ≠ some Bp := own_ne_blk HOWN.out HB.out (by decide)
              have HB2 := hide (show Blk w' Bp 23 #[.slice (some ⟨g2, 0, none⟩) L.length cap2] from (HB.out.alloc _).grown hgr' fun e => hne e.symm)
              have HKY := hide (show Kp (fun b => b = Bp ∨ b = g) w5 w' from (HKP.out.alloc _).grown hgr' fun k e hk => by
                have e' : g2 = k := by simpa [Value.ownBlock] using e
                rcases HGG.out with h | h
                · exact .inr (by omega)
                · omega)
              have HKF := hide (show KeepsFrom w5.heap.size W w' from keeps_grown (keeps_alloc (KeepsFrom.refl _ W) _) hgr' (own_cells (HOWN.out.alloc _)))
              have HKG := hide (show Kp (fun b => b = g2) W w' from ((Kp.refl _ W).alloc _).grown hgr' fun k e _ => by have e' : g2 = k := by simpa [Value.ownBlock] using e
                                                                                                                       exact e'.symm)
              have HO' := hide ho'
              have hg3 : g3 = g2 ∨ w5.heap.size ≤ g3 := by
                rcases hat' with h | h
                · have : g2 = g3 := by simpa [Value.ownBlock] using h
                  exact .inl this.symm
                · exact .inr (by omega)
              have HG3 := hide hg3
              clear c1 c2 c3 ho' hgr' hat' hne hg3
              obtain ⟨c1, c2, c3⟩ := HB2.out.a1
              gi_wp2
              refine ⟨HKF.out.trans (KeepsFrom.of_kp (S := At Bp) (kp_set _ _ _ _) fun k e => by unfold At at e; omega), ?_, g3, c4, ?_, ?_, ?_, ?_⟩
              · refine KeptIn.trans (KeptIn.kp HKG.out fun b hb => ⟨by omega, fun e => ?_⟩) (KeptIn.kp (kp_set w' Bp 0 _) fun b hb => ⟨by have := HKG.out.size; omega, fun e => ?_⟩)
                · rcases hb.2 with h | h
                  · rcases HGG.out with h' | h' <;> omega
                  · unfold Lo at h; rcases HGG.out with h' | h' <;> omega
                · unfold At at e
                  rcases hb.2 with h | h
                  · omega
                  · unfold Lo at h; omega
              · rw [HLN.out, List.length_append, List.length_singleton]; exact HB2.out.set_ 0 _
              · rw [HLN.out, List.length_append, List.length_singleton, iv_snoc]
                exact own_kp HO'.out (kp_set _ _ _ _) fun b hb e => by unfold At at e; subst e; exact own_ne_blk HO'.out HB2.out (by decide) hb
              · rcases HG3.out with h | h
                · rw [h]; exact HGG.out
                · exact .inr h
              · exact HKY.out.trans' (kp_set _ _ _ _) fun b _ e => .inl e
            case done =>
              rintro D ys W hD hys ⟨g2, cap2, hb, hown, hgg, hkp⟩ hd
              have hyt : ys.map (·.1) = downs (adj outs x).length (adj outs x).length := hys
              rw [vals_all hyt] at hb hown
              have hmm := HMM.out
              have hpl := HPL.out
              have ho12 := HO12.out
              have hfew := HFEW.out
              simp only [List.length_append, List.length_singleton] at hmm hpl
              have hcells : ∀ D' ∈ Ds', ¬ (D' = Bp ∨ D' = g) := fun D' hD' e => by
                have hd' := (HM5.out.mks.here D' hD').2
                rcases e with rfl | rfl
                · have := HP5.out.blk
                  unfold Blk at this
                  rw [this] at hd'
                  cases hd'
                · obtain ⟨ob, h1, h2⟩ := own_cells HP5.out.own D' rfl
                  rw [hd'] at h1
                  cases h1
                  simp [Obj.isCells] at h2
              have hvfar : ∀ b, (Value.slice (some ⟨g', 0, none⟩) (o'.length + 1) c').ownBlock = some b → ¬ (b = Bp ∨ b = g) := fun b hb' e => by
                rcases e with rfl | rfl
                · exact own_ne_blk HM5.out.own HP5.out.blk (by decide) hb'
                · exact HP5.out.far hb'
              refine hK2.out (5 * (12 - (o' ++ [x]).length) + (q ++ (adj outs x).reverse).length) _ _ ?_ ⟨o' ++ [x], _, D :: Ds', q ++ (adj outs x).reverse, g2, cap2, ⟨rfl, ?_, ?_, ?_, ⟨HM5.out.vd, own_kp HM5.out.own hkp hvfar, HM5.out.kp.trans' hkp fun b hb' e => by rcases e with rfl | rfl <;> omega, ?_⟩, ⟨hb, hown, ?_, HP5.out.lo_⟩⟩, rfl⟩
              · simp only [List.length_append, List.length_singleton, List.length_reverse]; omega
              · simp only [List.length_append, List.length_singleton, List.length_reverse]; omega
              · rw [HTD.out, pile_new HOK.out HVX.out HXR.out HX2.out]
              · intro y hy
                rcases List.mem_append.1 hy with hy | hy
                · exact HPR.out y (by simp [hy])
                · exact HOK.out.adjIn y (List.mem_reverse.1 hy)
              · exact Marks.cons (n := w5.heap.size) (HM5.out.mks.kp hkp hcells) HM5.out.mks.lt hD (by omega) hd
              · intro e
                rcases hgg with rfl | h
                · exact HP5.out.far e
                · have := (own_lt HM5.out.own e).2
                  omega
    · obtain rfl : k = roots.length := by have := HN.out; omega
      go_wp2
      refine leaves_marks' (S := fun b => b ∈ Ds) HM.out.mks (fun _ h => h) fun W' hk' => ?_
      have HOO2 := HOO.out
      rw [List.take_length] at HOO2
      have hown := own_kp HM.out.own hk' fun b hb e => by
        have hd' := (HM.out.mks.here b e).2
        obtain ⟨ob, h1, h2⟩ := own_cells HM.out.own b hb
        rw [hd'] at h1
        cases h1
        simp [Obj.isCells] at h2
      refine ⟨_, by simp [results, Tryd.results46, go_sem], vx, rfl, ?_, ?_⟩
      · rw [show marksN outs roots = o from HOO2.symm]
        exact .of_own hown fun g hg => by have := (own_lt hown hg).1; have := HK1.out.size; unfold Hi; omega
      · exact (HK1.out.trans HM.out.kp).trans' hk' fun b hb e => by have := (HM.out.mks.here b e).1; omega
end Go.Proofs.YtgbdjidjbcbhjaaDoor
