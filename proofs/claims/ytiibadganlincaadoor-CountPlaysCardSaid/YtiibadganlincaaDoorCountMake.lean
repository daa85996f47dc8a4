/- counts: Make, walked: the drawn region in all its orders (printed by wip/print/make.py). -/
import Derived.Test.YtiibadganlincaaDoorCountLink
namespace Go.Proofs.YtiibadganlincaaDoor
open Go.RowKit
set_option linter.unusedSimpArgs false

theorem Tryd.infoBool : (Tryd.prog.info? 4).map (fun i => (i.zero, i.size, i.bytes)) = some (some (.bool false), 1, 1) := by kernel_rfl

section
variable {P : Program} {ops : Array Oper} {Q : Exit → Act → World → Prop} {md : Region.Mode}
/-- three may come up: any is carried out -/
theorem plan_three {i j k : Nat} {oi oj ok : Oper} {fuel : Nat} {T : List (Nat × (World → Prop))} {listed : Array Bool} {a : Act} {w : World} (hr : Region.ready md ops listed = [i, j, k]) (hoi : ops[i]? = some oi) (hoj : ops[j]? = some oj) (hok : ops[k]? = some ok)
    (hwi : Region.wanted oi (yielded ops a.tmps) = true) (hwj : Region.wanted oj (yielded ops a.tmps) = true) (hwk : Region.wanted ok (yielded ops a.tmps) = true)
    (h1 : ∀ K : Act → World → Prop, Shut (∀ T' a' w', (∀ x ∈ T', x.2 w') → (∀ x ∈ T, x ∈ T' ∨ waitsFor md ops i x.1 = true) → (Hid (∀ x ∈ T', x.2 w') → wpAnyT P md ops Q fuel T' (listed.setIfInBounds i true) a' w') → K a' w') → oi.wp P a w K Q)
    (h2 : ∀ K : Act → World → Prop, Shut (∀ T' a' w', (∀ x ∈ T', x.2 w') → (∀ x ∈ T, x ∈ T' ∨ waitsFor md ops j x.1 = true) → (Hid (∀ x ∈ T', x.2 w') → wpAnyT P md ops Q fuel T' (listed.setIfInBounds j true) a' w') → K a' w') → oj.wp P a w K Q)
    (h3 : ∀ K : Act → World → Prop, Shut (∀ T' a' w', (∀ x ∈ T', x.2 w') → (∀ x ∈ T, x ∈ T' ∨ waitsFor md ops k x.1 = true) → (Hid (∀ x ∈ T', x.2 w') → wpAnyT P md ops Q fuel T' (listed.setIfInBounds k true) a' w') → K a' w') → ok.wp P a w K Q) :
    wpAnyT P md ops Q (fuel + 1) T listed a w :=
  ⟨fun h0 => absurd (hr ▸ h0) (by simp), fun l hl => by
    rw [hr] at hl
    simp only [List.mem_cons, List.not_mem_nil, or_false] at hl
    rcases hl with rfl | rfl | rfl
    · unfold wpOp
      rw [hoi]
      simp only [hwi, if_true]
      exact .inl (h1 _ fun T' a' w' h1 h2 h3 => ⟨T', h1, h2, h3 (hide h1)⟩)
    · unfold wpOp
      rw [hoj]
      simp only [hwj, if_true]
      exact .inl (h2 _ fun T' a' w' h1 h2 h3 => ⟨T', h1, h2, h3 (hide h1)⟩)
    · unfold wpOp
      rw [hok]
      simp only [hwk, if_true]
      exact .inl (h3 _ fun T' a' w' h1 h2 h3 => ⟨T', h1, h2, h3 (hide h1)⟩)⟩
end

/-- a row of one that is laid, at a step -/
theorem build_row {o : Oper} {a : Act} {w : World} {K : Act → World → Prop} {Q : Exit → Act → World → Prop} (ho : o.op = .buildSlice 22 1 #[(0, .const (.slice none 0 0))])
    (h : ∀ N w', N = w.heap.size → w' = w.alloc (.cells #[.slice none 0 0] 25) → K (a.put o.dst (.slice (some ⟨N, 0, none⟩) 1 1)) w') : Oper.wp Tryd.prog o a w K Q := by
  obtain ⟨d, op, ty, pos, af, g⟩ := o
  simp only at ho
  subst ho
  go_simp
  exact h _ _ rfl rfl
theorem build_int {o : Oper} {a : Act} {w : World} {K : Act → World → Prop} {Q : Exit → Act → World → Prop} (ho : o.op = .buildSlice 25 1 #[(0, .const (.int .i64 1))])
    (h : ∀ N w', N = w.heap.size → w' = w.alloc (.cells #[.int .i64 1] 3) → K (a.put o.dst (.slice (some ⟨N, 0, none⟩) 1 1)) w') : Oper.wp Tryd.prog o a w K Q := by
  obtain ⟨d, op, ty, pos, af, g⟩ := o
  simp only at ho
  subst ho
  go_simp
  exact h _ _ rfl rfl
theorem build_bool {o : Oper} {a : Act} {w : World} {K : Act → World → Prop} {Q : Exit → Act → World → Prop} (ho : o.op = .buildSlice 26 1 #[(0, .const (.bool false))])
    (h : ∀ N w', N = w.heap.size → w' = w.alloc (.cells #[.bool false] 4) → K (a.put o.dst (.slice (some ⟨N, 0, none⟩) 1 1)) w') : Oper.wp Tryd.prog o a w K Q := by
  obtain ⟨d, op, ty, pos, af, g⟩ := o
  simp only at ho
  subst ho
  go_simp
  exact h _ _ rfl rfl

/-- within the region: what is appended so far -/
structure MkS (w0 w : World) (p : Nat) (vo vr vc vg vo1 vc1 vg1 : Value) (no nc ng : Nat) (os cs gs : List Value) : Prop where
  kp : Kp (fun b => vo.ownBlock = some b ∨ vc.ownBlock = some b ∨ vg.ownBlock = some b) w0 w
  blk : Blk w p 49 #[vo, vr, vc, vg]
  out : w.ownsRow 0 25 1 vo1 no os
  cnt : w.ownsRow 0 3 1 vc1 nc cs
  gn : w.ownsRow 0 4 1 vg1 ng gs
  ao : ∀ b, vo1.ownBlock = some b → vo.ownBlock = some b ∨ w0.heap.size ≤ b
  ac : ∀ b, vc1.ownBlock = some b → vc.ownBlock = some b ∨ w0.heap.size ≤ b
  ag : ∀ b, vg1.ownBlock = some b → vg.ownBlock = some b ∨ w0.heap.size ≤ b

section
variable {w0 w w' : World} {p : Nat} {vo vr vc vg vo1 vc1 vg1 v' : Value} {no nc ng : Nat} {os cs gs : List Value} {vs : List Value} {s : Cn} {S : Nat → Prop}
theorem MkS.start (h : CnAt w p vo vr vc vg vs s) : MkS w w.drew p vo vr vc vg vo vc vg s.outs.length s.count.length s.gone.length vs (iv s.count) (bv s.gone) :=
  ⟨(Kp.refl _ w).drew, h.blk, own_kp h.out (Kp.refl No w).drew fun _ _ h => h, own_kp h.cnt (Kp.refl No w).drew fun _ _ h => h, own_kp h.gn (Kp.refl No w).drew fun _ _ h => h, fun _ h => .inl h, fun _ h => .inl h, fun _ h => .inl h⟩
theorem MkS.alloc (h : MkS w0 w p vo vr vc vg vo1 vc1 vg1 no nc ng os cs gs) {o : Obj} (hw : w' = w.alloc o) : MkS w0 w' p vo vr vc vg vo1 vc1 vg1 no nc ng os cs gs := by
  subst hw
  exact ⟨h.kp.alloc _, h.blk.alloc _, h.out.alloc _, h.cnt.alloc _, h.gn.alloc _, h.ao, h.ac, h.ag⟩
theorem MkS.new_ (h : MkS w0 w p vo vr vc vg vo1 vc1 vg1 no nc ng os cs gs) {N : Nat} {ar : Array Value} {t : TypeId} (hN : N = w.heap.size) (hw : w' = w.alloc (.cells ar t)) : w0.heap.size ≤ N ∧ Blk w' N t ar := by
  subst hN hw
  exact ⟨h.kp.size, Blk.new _ _ _⟩
theorem blk_more {B N : Nat} {ar : Array Value} {t : TypeId} (h : B ≤ N ∧ Blk w N t ar) {o : Obj} (hw : w' = w.alloc o) : B ≤ N ∧ Blk w' N t ar := by
  subst hw
  exact ⟨h.1, h.2.alloc _⟩
theorem blk_push {B N : Nat} {ar : Array Value} {t : TypeId} {v : Value} (h : B ≤ N ∧ Blk w N t ar) (hg : w.grownBy w' v.ownBlock) (hv : ∀ b, v.ownBlock = some b → b < B) : B ≤ N ∧ Blk w' N t ar :=
  ⟨h.1, h.2.grown hg fun e => by have := hv N e.symm; have := h.1; omega⟩
theorem MkS.at_ (h : MkS w0 w p vo vr vc vg vo1 vc1 vg1 no nc ng os cs gs) {g : Nat} (hat : vo.ownBlock = some g ∨ g = w.heap.size) {n c : Nat} : ∀ b, (Value.slice (some ⟨g, 0, none⟩) n c).ownBlock = some b → vo.ownBlock = some b ∨ w0.heap.size ≤ b := fun b e => by
  have e : g = b := by simpa [Value.ownBlock] using e
  subst e
  have := h.kp.size
  rcases hat with h | h
  · exact .inl h
  · exact .inr (by omega)
theorem MkS.atC (h : MkS w0 w p vo vr vc vg vo1 vc1 vg1 no nc ng os cs gs) {g : Nat} (hat : vc.ownBlock = some g ∨ g = w.heap.size) {n c : Nat} : ∀ b, (Value.slice (some ⟨g, 0, none⟩) n c).ownBlock = some b → vc.ownBlock = some b ∨ w0.heap.size ≤ b := fun b e => by
  have e : g = b := by simpa [Value.ownBlock] using e
  subst e
  have := h.kp.size
  rcases hat with h | h
  · exact .inl h
  · exact .inr (by omega)
theorem MkS.atG (h : MkS w0 w p vo vr vc vg vo1 vc1 vg1 no nc ng os cs gs) {g : Nat} (hat : vg.ownBlock = some g ∨ g = w.heap.size) {n c : Nat} : ∀ b, (Value.slice (some ⟨g, 0, none⟩) n c).ownBlock = some b → vg.ownBlock = some b ∨ w0.heap.size ≤ b := fun b e => by
  have e : g = b := by simpa [Value.ownBlock] using e
  subst e
  have := h.kp.size
  rcases hat with h | h
  · exact .inl h
  · exact .inr (by omega)
theorem MkS.pushO (h : MkS w0 w p vo vr vc vg vo vc1 vg1 no nc ng os cs gs) {g n c : Nat} {us : List Value} (ho : w'.ownsRow 0 25 1 (.slice (some ⟨g, 0, none⟩) n c) n us) (hg : w.grownBy w' vo.ownBlock) (hat : vo.ownBlock = some g ∨ g = w.heap.size) :
    MkS w0 w' p vo vr vc vg (.slice (some ⟨g, 0, none⟩) n c) vc1 vg1 n nc ng us cs gs := by
  have k : Kp (fun b => vo.ownBlock = some b) w w' := (Kp.refl _ w).grown hg fun b e _ => e
  exact ⟨h.kp.trans' k fun b _ e => .inl e, h.blk.kp k (own_ne_blk h.out h.blk (by decide)), ho, own_kp h.cnt k fun b hb e => own_ne_own h.out h.cnt (by decide) e hb, own_kp h.gn k fun b hb e => own_ne_own h.out h.gn (by decide) e hb, h.at_ hat, h.ac, h.ag⟩
theorem MkS.pushC (h : MkS w0 w p vo vr vc vg vo1 vc vg1 no nc ng os cs gs) {g n c : Nat} {us : List Value} (ho : w'.ownsRow 0 3 1 (.slice (some ⟨g, 0, none⟩) n c) n us) (hg : w.grownBy w' vc.ownBlock) (hat : vc.ownBlock = some g ∨ g = w.heap.size) :
    MkS w0 w' p vo vr vc vg vo1 (.slice (some ⟨g, 0, none⟩) n c) vg1 no n ng os us gs := by
  have k : Kp (fun b => vc.ownBlock = some b) w w' := (Kp.refl _ w).grown hg fun b e _ => e
  exact ⟨h.kp.trans' k fun b _ e => .inr (.inl e), h.blk.kp k (own_ne_blk h.cnt h.blk (by decide)), own_kp h.out k fun b hb e => own_ne_own h.cnt h.out (by decide) e hb, ho, own_kp h.gn k fun b hb e => own_ne_own h.cnt h.gn (by decide) e hb, h.ao, h.atC hat, h.ag⟩
theorem MkS.pushG (h : MkS w0 w p vo vr vc vg vo1 vc1 vg no nc ng os cs gs) {g n c : Nat} {us : List Value} (ho : w'.ownsRow 0 4 1 (.slice (some ⟨g, 0, none⟩) n c) n us) (hg : w.grownBy w' vg.ownBlock) (hat : vg.ownBlock = some g ∨ g = w.heap.size) :
    MkS w0 w' p vo vr vc vg vo1 vc1 (.slice (some ⟨g, 0, none⟩) n c) no nc n os cs us := by
  have k : Kp (fun b => vg.ownBlock = some b) w w' := (Kp.refl _ w).grown hg fun b e _ => e
  exact ⟨h.kp.trans' k fun b _ e => .inr (.inr e), h.blk.kp k (own_ne_blk h.gn h.blk (by decide)), own_kp h.out k fun b hb e => own_ne_own h.gn h.out (by decide) e hb, own_kp h.cnt k fun b hb e => own_ne_own h.gn h.cnt (by decide) e hb, ho, h.ao, h.ac, h.atG hat⟩

/-- the region's end -/
theorem MkS.done (h : CnAt w0 p vo vr vc vg vs s) (hF : ∀ b, CnF p vo vr vc vg vs b → S b) (hS : ∀ b, w0.heap.size ≤ b → S b)
    (m : MkS w0 w p vo vr vc vg vo1 vc1 vg1 (s.outs.length + 1) (s.count.length + 1) (s.gone.length + 1) (vs ++ [.slice none 0 0]) (iv s.count ++ [.int .i64 1]) (bv s.gone ++ [.bool false])) :
    CnIs (((w.setCell ⟨p, 0, none⟩ vo1).setCell ⟨p, 2, none⟩ vc1).setCell ⟨p, 3, none⟩ vg1) p S ⟨s.outs ++ [[]], s.roots, s.count ++ [1], s.gone ++ [false]⟩ ∧
      Kp S w0 (((w.setCell ⟨p, 0, none⟩ vo1).setCell ⟨p, 2, none⟩ vc1).setCell ⟨p, 3, none⟩ vg1) := by
  have k3 : Kp (At p) w (((w.setCell ⟨p, 0, none⟩ vo1).setCell ⟨p, 2, none⟩ vc1).setCell ⟨p, 3, none⟩ vg1) := ((kp_set _ _ _ _).trans (kp_set _ _ _ _)).trans (kp_set _ _ _ _)
  have so : ∀ b, vo.ownBlock = some b → S b := fun b hb => hF b (.inr (.inl hb))
  have sg : ∀ b, vg.ownBlock = some b → S b := fun b hb => hF b (.inr (.inr (.inl hb)))
  have sc : ∀ b, vc.ownBlock = some b → S b := fun b hb => hF b (.inr (.inr (.inr ⟨vc, by simp, hb⟩)))
  have kb : ∀ {u : Value} {n : Nat} {e : TypeId} {us : List Value}, w.ownsRow 0 e 1 u n us → e ≠ 49 → (((w.setCell ⟨p, 0, none⟩ vo1).setCell ⟨p, 2, none⟩ vc1).setCell ⟨p, 3, none⟩ vg1).ownsRow 0 e 1 u n us :=
    fun hu hn => own_kp hu k3 fun b hb e => by unfold At at e; subst e; exact own_ne_blk hu m.blk hn hb
  have kr : ∀ {u : Value} {n : Nat} {us : List Value}, w0.ownsRow 0 3 1 u n us → (∀ b, u.ownBlock = some b → vc.ownBlock ≠ some b) → w.ownsRow 0 3 1 u n us := fun hu hn => own_kp hu m.kp fun b hb e => by
    rcases e with e | e | e
    · exact own_ne_own h.out hu (by decide) e hb
    · exact hn b hb e
    · exact own_ne_own h.gn hu (by decide) e hb
  have fresh : ∀ u ∈ vs, ∀ b, vc1.ownBlock = some b → u.ownBlock ≠ some b := fun u hu b hb e => by
    rcases m.ac b hb with e' | e'
    · exact h.ap.tail.head hu e' e
    · have : b < w0.heap.size := h.lt (.inr (.inr (.inr ⟨u, by simp [hu], e⟩)))
      omega
  refine ⟨⟨vo1, vr, vc1, vg1, vs ++ [.slice none 0 0], ⟨((m.blk.set_ 0 _).set_ 2 _).set_ 3 _, ?_, fun i h1 h2 => ?_, kb (kr h.root fun b hb e => h.ap.head (List.mem_cons_self ..) hb e) (by decide), ?_, ?_, ?_⟩, fun b hb => ?_⟩, ?_⟩
  · rw [List.length_append, List.length_singleton]; exact kb m.out (by decide)
  · simp only [List.getElem_append]
    by_cases hi : i < vs.length
    · have hi' : i < s.outs.length := by rw [← h.len]; exact hi
      rw [dif_pos hi, dif_pos hi']
      exact kb (kr (h.row i hi hi') fun b hb e => h.ap.tail.head (List.getElem_mem hi) e hb) (by decide)
    · rw [dif_neg hi, dif_neg (by rw [← h.len]; exact hi)]
      simp only [List.getElem_singleton]
      exact World.ownsRow_nil _ _ _ _
  · rw [List.length_append, List.length_singleton, iv_snoc]; exact kb m.cnt (by decide)
  · rw [List.length_append, List.length_singleton, show bv (s.gone ++ [false]) = bv s.gone ++ [.bool false] by simp [bv]]; exact kb m.gn (by decide)
  · have a1 : Apart (vc1 :: vs) := h.ap.tail.tail.cons fresh
    have a2 : Apart (vr :: vc1 :: vs) := a1.cons fun u hu b hb e => by
      rcases List.mem_cons.1 hu with rfl | hu
      · rcases m.ac b e with e' | e'
        · exact h.ap.head (List.mem_cons_self ..) hb e'
        · have : b < w0.heap.size := h.lt (.inr (.inr (.inr ⟨vr, by simp, hb⟩)))
          omega
      · exact h.ap.head (List.mem_cons_of_mem _ hu) hb e
    exact a2.snoc fun u hu b hb e => by simp [Value.ownBlock] at hb
  · rcases hb with rfl | hb | hb | ⟨u, hu, hb⟩
    · exact hF _ (.inl rfl)
    · exact (m.ao b hb).elim (so b) (hS b)
    · exact (m.ag b hb).elim (sg b) (hS b)
    · rcases List.mem_cons.1 hu with rfl | hu
      · exact hF _ (.inr (.inr (.inr ⟨_, List.mem_cons_self .., hb⟩)))
      · rcases List.mem_cons.1 hu with rfl | hu
        · exact (m.ac b hb).elim (sc b) (hS b)
        · rcases List.mem_append.1 hu with hu | hu
          · exact hF _ (.inr (.inr (.inr ⟨u, by simp [hu], hb⟩)))
          · simp only [List.mem_singleton] at hu; subst hu; simp [Value.ownBlock] at hb
  · exact (m.kp.mono fun b _ e => e.elim (so b) fun e => e.elim (sc b) (sg b)).trans' k3 fun b _ e => by unfold At at e; subst e; exact hF _ (.inl rfl)
end

/-- Make's end -/
def MkPost (p : Nat) (S : Nat → Prop) (w : World) (s : Cn) (e : Ending) (w' : World) : Prop :=
  e = .returned (.tuple #[.int .i64 (if makeE s = 0 then (s.outs.length : Int) else 0), errV (makeE s)]) ∧ CnIs w' p S (makeS s) ∧ Kp S w w'

set_option maxRecDepth 100000 in
set_option maxHeartbeats 4000000 in
theorem cmake_any {p : Nat} {S : Nat → Prop} {s : Cn} (w : World) (hP : PInv s []) (hS : ∀ b, w.heap.size ≤ b → S b) (hC : CnIs w p S s) :
    Calls Tryd.prog 7 #[.pointer (some ⟨p, 0, none⟩)] w (MkPost p S w s) := by
  have HCI := hide hC
  obtain ⟨vo, vr, vc, vg, vs, h, hF⟩ := hC
  obtain ⟨e0, Ao, co, hvo, hco, hmo, _⟩ := own_form h.out
  rw [h.len] at hvo hco
  obtain ⟨e1, Ac, cc, hvc, hcc, hmc, _⟩ := own_form h.cnt
  rw [iv_length] at hvc hcc
  obtain ⟨e2, Ag, cg, hvg, hcg, hmg, _⟩ := own_form h.gn
  rw [bv_length] at hvg hcg
  obtain ⟨e3, Ar, cr, hvr, hcr, hmr, _⟩ := own_form h.root
  rw [iv_length] at hvr hcr
  clear e0 e1 e2 e3
  subst hvo hvc hvg hvr
  have HCL := hide hP.clen
  have HGL := hide hP.glen
  have HN12 := hide hP.n12
  have HR12 := hide hP.r12
  obtain ⟨b1, b2, b3, b4, f1, f2, f3, f4⟩ := h.blk.a4
  have H := hide h
  have HF := hide hF
  have HS := hide hS
  by_cases hf : s.outs.length = 12 ∨ s.roots.length = 12
  · have HR := hide (show makeE s = 4 ∧ makeS s = s by unfold makeS makeE; rw [if_pos hf]; exact ⟨rfl, rfl⟩)
    by_cases h1 : s.outs.length = 12
    · rw [h1] at b1
      clear h hF hP hS hf h1 hco hcc hcg hcr
      go_enter Tryd.func7, Tryd.ntmps7
      go_wp2
      go_ret2
      exact ⟨by rw [HR.out.1]; rfl, by rw [HR.out.2]; exact HCI.out, Kp.refl _ _⟩
    · have h2 : s.roots.length = 12 := hf.resolve_left h1
      have h1' : ((s.outs.length : Int) == 12) = false := by rw [beq_eq_false_iff_ne]; omega
      rw [h2] at b2
      clear h hF hP hS hf h1 h2 hco hcc hcg hcr
      go_enter Tryd.func7, Tryd.ntmps7
      go_wp2
      go_ret2
      exact ⟨by rw [HR.out.1]; rfl, by rw [HR.out.2]; exact HCI.out, Kp.refl _ _⟩
  · have he0 : makeE s = 0 := by unfold makeE; rw [if_neg hf]
    have HR := hide (show makeE s = 0 ∧ makeS s = ⟨s.outs ++ [[]], s.roots ++ [(s.outs.length : Int)], s.count ++ [1], s.gone ++ [false]⟩ from ⟨he0, by unfold makeS; rw [if_pos he0]⟩)
    have h1' : ((s.outs.length : Int) == 12) = false := by rw [beq_eq_false_iff_ne]; omega
    have h2' : ((s.roots.length : Int) == 12) = false := by rw [beq_eq_false_iff_ne]; omega
    have HL12 := hide (show s.outs.length ≤ 12 ∧ s.count.length ≤ 12 ∧ s.gone.length ≤ 12 from ⟨hP.n12, by rw [hP.clen]; exact hP.n12, by rw [hP.glen]; exact hP.n12⟩)
    have HLO := hide (fun b (e : (Value.slice Ao s.outs.length co).ownBlock = some b) => (own_lt h.out e).2)
    have HLC := hide (fun b (e : (Value.slice Ac s.count.length cc).ownBlock = some b) => (own_lt h.cnt e).2)
    have HLG := hide (fun b (e : (Value.slice Ag s.gone.length cg).ownBlock = some b) => (own_lt h.gn e).2)
    clear h hF hP hS hf he0
    go_enter Tryd.func7, Tryd.ntmps7
    go_upto_region 3 with fail
    go_cut [0] from 4 (fun s0 w' => s0 = .pointer (some ⟨p, 0, none⟩) ∧ CnIs w' p S ⟨s.outs ++ [[]], s.roots, s.count ++ [1], s.gone ++ [false]⟩ ∧ Kp S w w')
    case first =>
      have HM := hide (MkS.start H.out)
      refine plan_start 30 (by kernel_rfl) rfl (fun hPT => ?_)
      refine plan_take (i := 0) (v := ?_) rfl (by kernel_rfl) (by kernel_rfl) (by kernel_rfl) (fun _ _ _ h => h) hPT (by rfl) ?_ ?_
      rotate_left
      · (intro w; go_simp; with_reducible rfl)
      (clear hPT; intro hPT; simp only [List.getElem_toArray, List.getElem_cons_zero, List.getElem_cons_succ, Act.put, List.setIfInBounds_toArray, List.set_cons_zero, List.set_cons_succ])
      refine plan_take (i := 1) (v := ?_) rfl (by kernel_rfl) (by kernel_rfl) (by kernel_rfl) (fun _ _ _ h => h) hPT (by rfl) ?_ ?_
      rotate_left
      · (intro w; go_simp; with_reducible rfl)
      (clear hPT; intro hPT; simp only [List.getElem_toArray, List.getElem_cons_zero, List.getElem_cons_succ, Act.put, List.setIfInBounds_toArray, List.set_cons_zero, List.set_cons_succ])
      refine plan_take (i := 2) (v := ?_) rfl (by kernel_rfl) (by kernel_rfl) (by kernel_rfl) (fun _ _ _ h => h) hPT (by rfl) ?_ ?_
      rotate_left
      · (intro w; go_simp; with_reducible rfl)
      (clear hPT; intro hPT; simp only [List.getElem_toArray, List.getElem_cons_zero, List.getElem_cons_succ, Act.put, List.setIfInBounds_toArray, List.set_cons_zero, List.set_cons_succ])
      refine plan_take (i := 3) (v := ?_) rfl (by kernel_rfl) (by kernel_rfl) (by kernel_rfl) (fun _ _ _ h => h) hPT (by rfl) ?_ ?_
      rotate_left
      · (intro w; go_simp; with_reducible rfl)
      (clear hPT; intro hPT; simp only [List.getElem_toArray, List.getElem_cons_zero, List.getElem_cons_succ, Act.put, List.setIfInBounds_toArray, List.set_cons_zero, List.set_cons_succ])
      refine plan_take (i := 4) (v := ?_) rfl (by kernel_rfl) (by kernel_rfl) (by kernel_rfl) (fun _ _ _ h => h) hPT (by rfl) ?_ ?_
      rotate_left
      · (intro w; go_simp; with_reducible rfl)
      (clear hPT; intro hPT; simp only [List.getElem_toArray, List.getElem_cons_zero, List.getElem_cons_succ, Act.put, List.setIfInBounds_toArray, List.set_cons_zero, List.set_cons_succ])
      refine plan_take (i := 5) (v := ?_) rfl (by kernel_rfl) (by kernel_rfl) (by kernel_rfl) (fun _ _ _ h => h) hPT (by rfl) ?_ ?_
      rotate_left
      · (intro w; go_simp; with_reducible rfl)
      (clear hPT; intro hPT; simp only [List.getElem_toArray, List.getElem_cons_zero, List.getElem_cons_succ, Act.put, List.setIfInBounds_toArray, List.set_cons_zero, List.set_cons_succ])
      refine plan_take (i := 9) (v := ?_) rfl (by kernel_rfl) (by kernel_rfl) (by kernel_rfl) (fun _ _ _ h => h) hPT (by rfl) ?_ ?_
      rotate_left
      · (intro w; go_simp; with_reducible rfl)
      (clear hPT; intro hPT; simp only [List.getElem_toArray, List.getElem_cons_zero, List.getElem_cons_succ, Act.put, List.setIfInBounds_toArray, List.set_cons_zero, List.set_cons_succ])
      refine plan_take (i := 10) (v := ?_) rfl (by kernel_rfl) (by kernel_rfl) (by kernel_rfl) (fun _ _ _ h => h) hPT (by rfl) ?_ ?_
      rotate_left
      · (intro w; go_simp; with_reducible rfl)
      (clear hPT; intro hPT; simp only [List.getElem_toArray, List.getElem_cons_zero, List.getElem_cons_succ, Act.put, List.setIfInBounds_toArray, List.set_cons_zero, List.set_cons_succ])
      refine plan_take (i := 11) (v := ?_) rfl (by kernel_rfl) (by kernel_rfl) (by kernel_rfl) (fun _ _ _ h => h) hPT (by rfl) ?_ ?_
      rotate_left
      · (intro w; go_simp; with_reducible rfl)
      (clear hPT; intro hPT; simp only [List.getElem_toArray, List.getElem_cons_zero, List.getElem_cons_succ, Act.put, List.setIfInBounds_toArray, List.set_cons_zero, List.set_cons_succ])
      refine plan_take (i := 15) (v := ?_) rfl (by kernel_rfl) (by kernel_rfl) (by kernel_rfl) (fun _ _ _ h => h) hPT (by rfl) ?_ ?_
      rotate_left
      · (intro w; go_simp; with_reducible rfl)
      (clear hPT; intro hPT; simp only [List.getElem_toArray, List.getElem_cons_zero, List.getElem_cons_succ, Act.put, List.setIfInBounds_toArray, List.set_cons_zero, List.set_cons_succ])
      refine plan_take (i := 16) (v := ?_) rfl (by kernel_rfl) (by kernel_rfl) (by kernel_rfl) (fun _ _ _ h => h) hPT (by rfl) ?_ ?_
      rotate_left
      · (intro w; go_simp; with_reducible rfl)
      (clear hPT; intro hPT; simp only [List.getElem_toArray, List.getElem_cons_zero, List.getElem_cons_succ, Act.put, List.setIfInBounds_toArray, List.set_cons_zero, List.set_cons_succ])
      refine plan_take (i := 17) (v := ?_) rfl (by kernel_rfl) (by kernel_rfl) (by kernel_rfl) (fun _ _ _ h => h) hPT (by rfl) ?_ ?_
      rotate_left
      · (intro w; go_simp; with_reducible rfl)
      (clear hPT; intro hPT; simp only [List.getElem_toArray, List.getElem_cons_zero, List.getElem_cons_succ, Act.put, List.setIfInBounds_toArray, List.set_cons_zero, List.set_cons_succ])
      refine plan_load (fun w' => w'.cell? ⟨p, 0, none⟩ = some (.slice Ao s.outs.length co)) (i := 6) (v := ?_) rfl (by kernel_rfl) (by kernel_rfl) (by kernel_rfl) (fun _ _ _ h => h) hPT (by rfl) ?_ ?_ ?_
      rotate_left
      · (first | assumption | (go_simp; done))
      · (intro w hSw; (try dsimp only at hSw); go_simp; with_reducible rfl)
      (clear hPT; intro hPT; simp only [List.getElem_toArray, List.getElem_cons_zero, List.getElem_cons_succ, Act.put, List.setIfInBounds_toArray, List.set_cons_zero, List.set_cons_succ])
      refine plan_load (fun w' => w'.cell? ⟨p, 2, none⟩ = some (.slice Ac s.count.length cc)) (i := 12) (v := ?_) rfl (by kernel_rfl) (by kernel_rfl) (by kernel_rfl) (fun _ _ _ h => h) hPT (by rfl) ?_ ?_ ?_
      rotate_left
      · (first | assumption | (go_simp; done))
      · (intro w hSw; (try dsimp only at hSw); go_simp; with_reducible rfl)
      (clear hPT; intro hPT; simp only [List.getElem_toArray, List.getElem_cons_zero, List.getElem_cons_succ, Act.put, List.setIfInBounds_toArray, List.set_cons_zero, List.set_cons_succ])
      refine plan_load (fun w' => w'.cell? ⟨p, 3, none⟩ = some (.slice Ag s.gone.length cg)) (i := 18) (v := ?_) rfl (by kernel_rfl) (by kernel_rfl) (by kernel_rfl) (fun _ _ _ h => h) hPT (by rfl) ?_ ?_ ?_
      rotate_left
      · (first | assumption | (go_simp; done))
      · (intro w hSw; (try dsimp only at hSw); go_simp; with_reducible rfl)
      (clear hPT; intro hPT; simp only [List.getElem_toArray, List.getElem_cons_zero, List.getElem_cons_succ, Act.put, List.setIfInBounds_toArray, List.set_cons_zero, List.set_cons_succ])
      clear b1 b2 b3 b4 f1 f2 f3 f4
      refine plan_three (i := 7) (j := 13) (k := 19) (by kernel_rfl) rfl rfl rfl (by rfl) (by rfl) (by rfl) (fun K hK => ?o1A) (fun K hK => ?o1B) (fun K hK => ?o1C)
      case o1A =>
        (try simp only [List.getElem_toArray, List.getElem_cons_zero, List.getElem_cons_succ, Act.put, List.setIfInBounds_toArray, List.set_cons_zero, List.set_cons_succ])
        refine build_row rfl fun N7 w7 hN hw => ?_
        have HB7 := hide (HM.out.new_ hN hw)
        replace HM := hide (HM.out.alloc hw)
        clear hN hw
        obtain ⟨z0, z1, z2, z3, y0, y1, y2, y3⟩ := HM.out.blk.a4
        refine hK.out _ _ _ (t_cons z3 (t_cons z2 (t_cons z0 (t_nil _)))) k_same (fun hPT' => ?_)
        (clear hPT hK K; have hPT := hPT'; clear hPT'; try simp only [List.getElem_toArray, List.getElem_cons_zero, List.getElem_cons_succ, Act.put, List.setIfInBounds_toArray, List.set_cons_zero, List.set_cons_succ])
        clear z0 z1 z2 z3 y0 y1 y2 y3
        refine plan_three (i := 8) (j := 13) (k := 19) (by kernel_rfl) rfl rfl rfl (by rfl) (by rfl) (by rfl) (fun K hK => ?o2A) (fun K hK => ?o2B) (fun K hK => ?o2C)
        case o2A =>
          (try simp only [List.getElem_toArray, List.getElem_cons_zero, List.getElem_cons_succ, Act.put, List.setIfInBounds_toArray, List.set_cons_zero, List.set_cons_succ])
          refine wp_push _ (.tmp 25) (.tmp 26) _ rfl 0 25 _ 24 Tryd.underlying22 Tryd.infoRow rfl (.slice Ao s.outs.length co) s.outs.length vs rfl HM.out.out _ rfl 1 _ rfl (HB7.out.2.cell 0) (by have := HL12.out; omega) (by decide) (Nat.zero_le _) ?_
          intro g8 c8 w8 ho hg hat
          clear HB7
          replace HM := hide (HM.out.pushO ho hg hat)
          clear ho hg hat
          obtain ⟨z0, z1, z2, z3, y0, y1, y2, y3⟩ := HM.out.blk.a4
          refine hK.out _ _ _ (t_cons z3 (t_cons z2 (t_cons z0 (t_nil _)))) k_same (fun hPT' => ?_)
          (clear hPT hK K; have hPT := hPT'; clear hPT'; try simp only [List.getElem_toArray, List.getElem_cons_zero, List.getElem_cons_succ, Act.put, List.setIfInBounds_toArray, List.set_cons_zero, List.set_cons_succ])
          clear z0 z1 z2 z3 y0 y1 y2 y3
          refine plan_two (i := 13) (j := 19) (by kernel_rfl) rfl rfl (by rfl) (by rfl) (fun K hK => ?o3A) (fun K hK => ?o3B)
          case o3A =>
            (try simp only [List.getElem_toArray, List.getElem_cons_zero, List.getElem_cons_succ, Act.put, List.setIfInBounds_toArray, List.set_cons_zero, List.set_cons_succ])
            refine build_int rfl fun N13 w13 hN hw => ?_
            have HB13 := hide (HM.out.new_ hN hw)
            replace HM := hide (HM.out.alloc hw)
            clear hN hw
            obtain ⟨z0, z1, z2, z3, y0, y1, y2, y3⟩ := HM.out.blk.a4
            refine hK.out _ _ _ (t_cons z3 (t_cons z2 (t_cons z0 (t_nil _)))) k_same (fun hPT' => ?_)
            (clear hPT hK K; have hPT := hPT'; clear hPT'; try simp only [List.getElem_toArray, List.getElem_cons_zero, List.getElem_cons_succ, Act.put, List.setIfInBounds_toArray, List.set_cons_zero, List.set_cons_succ])
            clear z0 z1 z2 z3 y0 y1 y2 y3
            refine plan_two (i := 14) (j := 19) (by kernel_rfl) rfl rfl (by rfl) (by rfl) (fun K hK => ?o4A) (fun K hK => ?o4B)
            case o4A =>
              (try simp only [List.getElem_toArray, List.getElem_cons_zero, List.getElem_cons_succ, Act.put, List.setIfInBounds_toArray, List.set_cons_zero, List.set_cons_succ])
              refine wp_push _ (.tmp 31) (.tmp 32) _ rfl 0 3 _ 8 Tryd.underlying25 Tryd.infoInt rfl (.slice Ac s.count.length cc) s.count.length (iv s.count) rfl HM.out.cnt _ rfl 1 _ rfl (HB13.out.2.cell 0) (by have := HL12.out; omega) (by decide) (Nat.zero_le _) ?_
              intro g14 c14 w14 ho hg hat
              clear HB13
              replace HM := hide (HM.out.pushC ho hg hat)
              clear ho hg hat
              obtain ⟨z0, z1, z2, z3, y0, y1, y2, y3⟩ := HM.out.blk.a4
              refine hK.out _ _ _ (t_cons z3 (t_cons z2 (t_cons z0 (t_nil _)))) k_same (fun hPT' => ?_)
              (clear hPT hK K; have hPT := hPT'; clear hPT'; try simp only [List.getElem_toArray, List.getElem_cons_zero, List.getElem_cons_succ, Act.put, List.setIfInBounds_toArray, List.set_cons_zero, List.set_cons_succ])
              clear z0 z1 z2 z3 y0 y1 y2 y3
              refine plan_one (i := 19) (by kernel_rfl) rfl (by rfl) (fun K hK => ?_)
              (try simp only [List.getElem_toArray, List.getElem_cons_zero, List.getElem_cons_succ, Act.put, List.setIfInBounds_toArray, List.set_cons_zero, List.set_cons_succ])
              refine build_bool rfl fun N19 w19 hN hw => ?_
              have HB19 := hide (HM.out.new_ hN hw)
              replace HM := hide (HM.out.alloc hw)
              clear hN hw
              obtain ⟨z0, z1, z2, z3, y0, y1, y2, y3⟩ := HM.out.blk.a4
              refine hK.out _ _ _ (t_cons z3 (t_cons z2 (t_cons z0 (t_nil _)))) k_same (fun hPT' => ?_)
              (clear hPT hK K; have hPT := hPT'; clear hPT'; try simp only [List.getElem_toArray, List.getElem_cons_zero, List.getElem_cons_succ, Act.put, List.setIfInBounds_toArray, List.set_cons_zero, List.set_cons_succ])
              clear z0 z1 z2 z3 y0 y1 y2 y3
              refine plan_one (i := 20) (by kernel_rfl) rfl (by rfl) (fun K hK => ?_)
              (try simp only [List.getElem_toArray, List.getElem_cons_zero, List.getElem_cons_succ, Act.put, List.setIfInBounds_toArray, List.set_cons_zero, List.set_cons_succ])
              refine wp_push _ (.tmp 37) (.tmp 38) _ rfl 0 4 _ 1 Tryd.underlying26 Tryd.infoBool rfl (.slice Ag s.gone.length cg) s.gone.length (bv s.gone) rfl HM.out.gn _ rfl 1 _ rfl (HB19.out.2.cell 0) (by have := HL12.out; omega) (by decide) (Nat.zero_le _) ?_
              intro g20 c20 w20 ho hg hat
              clear HB19
              replace HM := hide (HM.out.pushG ho hg hat)
              clear ho hg hat
              obtain ⟨z0, z1, z2, z3, y0, y1, y2, y3⟩ := HM.out.blk.a4
              refine hK.out _ _ _ (t_cons z3 (t_cons z2 (t_cons z0 (t_nil _)))) k_same (fun hPT' => ?_)
              (clear hPT hK K; have hPT := hPT'; clear hPT'; try simp only [List.getElem_toArray, List.getElem_cons_zero, List.getElem_cons_succ, Act.put, List.setIfInBounds_toArray, List.set_cons_zero, List.set_cons_succ])
              clear z0 z1 z2 z3 y0 y1 y2 y3
              obtain ⟨z0, z1, z2, z3, y0, y1, y2, y3⟩ := HM.out.blk.a4
              refine plan_take (i := 21) (v := ?_) rfl (by kernel_rfl) (by kernel_rfl) (by kernel_rfl) (fun _ _ _ h => h) hPT (by rfl) ?_ ?_
              rotate_left
              · (intro w; go_simp; with_reducible rfl)
              (clear hPT; intro hPT; simp only [List.getElem_toArray, List.getElem_cons_zero, List.getElem_cons_succ, Act.put, List.setIfInBounds_toArray, List.set_cons_zero, List.set_cons_succ])
              refine plan_take (i := 22) (v := ?_) rfl (by kernel_rfl) (by kernel_rfl) (by kernel_rfl) (fun _ _ _ h => h) hPT (by rfl) ?_ ?_
              rotate_left
              · (intro w; go_simp; with_reducible rfl)
              (clear hPT; intro hPT; simp only [List.getElem_toArray, List.getElem_cons_zero, List.getElem_cons_succ, Act.put, List.setIfInBounds_toArray, List.set_cons_zero, List.set_cons_succ])
              refine plan_one (i := 23) (by kernel_rfl) rfl (by rfl) (fun K hK => ?_)
              (try simp only [List.getElem_toArray, List.getElem_cons_zero, List.getElem_cons_succ, Act.put, List.setIfInBounds_toArray, List.set_cons_zero, List.set_cons_succ])
              go_simp
              refine hK.out [] _ _ (t_nil _) (k_drop (by kernel_rfl) (k_drop (by kernel_rfl) (k_drop (by kernel_rfl) k_nil))) (fun hPT' => ?_)
              (clear hPT hK K; have hPT := hPT'; clear hPT'; try simp only [List.getElem_toArray, List.getElem_cons_zero, List.getElem_cons_succ, Act.put, List.setIfInBounds_toArray, List.set_cons_zero, List.set_cons_succ])
              refine plan_take (i := 24) (v := ?_) rfl (by kernel_rfl) (by kernel_rfl) (by kernel_rfl) (fun _ _ _ h => h) hPT (by rfl) ?_ ?_
              rotate_left
              · (intro w; go_simp; with_reducible rfl)
              (clear hPT; intro hPT; simp only [List.getElem_toArray, List.getElem_cons_zero, List.getElem_cons_succ, Act.put, List.setIfInBounds_toArray, List.set_cons_zero, List.set_cons_succ])
              refine plan_take (i := 25) (v := ?_) rfl (by kernel_rfl) (by kernel_rfl) (by kernel_rfl) (fun _ _ _ h => h) hPT (by rfl) ?_ ?_
              rotate_left
              · (intro w; go_simp; with_reducible rfl)
              (clear hPT; intro hPT; simp only [List.getElem_toArray, List.getElem_cons_zero, List.getElem_cons_succ, Act.put, List.setIfInBounds_toArray, List.set_cons_zero, List.set_cons_succ])
              refine plan_one (i := 26) (by kernel_rfl) rfl (by rfl) (fun K hK => ?_)
              (try simp only [List.getElem_toArray, List.getElem_cons_zero, List.getElem_cons_succ, Act.put, List.setIfInBounds_toArray, List.set_cons_zero, List.set_cons_succ])
              go_simp
              refine hK.out [] _ _ (t_nil _) k_nil (fun hPT' => ?_)
              (clear hPT hK K; have hPT := hPT'; clear hPT'; try simp only [List.getElem_toArray, List.getElem_cons_zero, List.getElem_cons_succ, Act.put, List.setIfInBounds_toArray, List.set_cons_zero, List.set_cons_succ])
              refine plan_take (i := 27) (v := ?_) rfl (by kernel_rfl) (by kernel_rfl) (by kernel_rfl) (fun _ _ _ h => h) hPT (by rfl) ?_ ?_
              rotate_left
              · (intro w; go_simp; with_reducible rfl)
              (clear hPT; intro hPT; simp only [List.getElem_toArray, List.getElem_cons_zero, List.getElem_cons_succ, Act.put, List.setIfInBounds_toArray, List.set_cons_zero, List.set_cons_succ])
              refine plan_take (i := 28) (v := ?_) rfl (by kernel_rfl) (by kernel_rfl) (by kernel_rfl) (fun _ _ _ h => h) hPT (by rfl) ?_ ?_
              rotate_left
              · (intro w; go_simp; with_reducible rfl)
              (clear hPT; intro hPT; simp only [List.getElem_toArray, List.getElem_cons_zero, List.getElem_cons_succ, Act.put, List.setIfInBounds_toArray, List.set_cons_zero, List.set_cons_succ])
              refine plan_one (i := 29) (by kernel_rfl) rfl (by rfl) (fun K hK => ?_)
              (try simp only [List.getElem_toArray, List.getElem_cons_zero, List.getElem_cons_succ, Act.put, List.setIfInBounds_toArray, List.set_cons_zero, List.set_cons_succ])
              go_simp
              refine hK.out [] _ _ (t_nil _) k_nil (fun hPT' => ?_)
              (clear hPT hK K; have hPT := hPT'; clear hPT'; try simp only [List.getElem_toArray, List.getElem_cons_zero, List.getElem_cons_succ, Act.put, List.setIfInBounds_toArray, List.set_cons_zero, List.set_cons_succ])
              refine plan_done (by kernel_rfl) ?_ _
              clear hPT
              have HD := hide (MkS.done H.out HF.out HS.out HM.out)
              clear HM z0 z1 z2 z3 y0 y1 y2 y3
              go_wp2_with fail
              go_meet
              case rel => exact ⟨rfl, HD.out⟩
            case o4B =>
              (try simp only [List.getElem_toArray, List.getElem_cons_zero, List.getElem_cons_succ, Act.put, List.setIfInBounds_toArray, List.set_cons_zero, List.set_cons_succ])
              refine build_bool rfl fun N19 w19 hN hw => ?_
              have HB19 := hide (HM.out.new_ hN hw)
              replace HB13 := hide (blk_more HB13.out hw)
              replace HM := hide (HM.out.alloc hw)
              clear hN hw
              obtain ⟨z0, z1, z2, z3, y0, y1, y2, y3⟩ := HM.out.blk.a4
              refine hK.out _ _ _ (t_cons z3 (t_cons z2 (t_cons z0 (t_nil _)))) k_same (fun hPT' => ?_)
              (clear hPT hK K; have hPT := hPT'; clear hPT'; try simp only [List.getElem_toArray, List.getElem_cons_zero, List.getElem_cons_succ, Act.put, List.setIfInBounds_toArray, List.set_cons_zero, List.set_cons_succ])
              clear z0 z1 z2 z3 y0 y1 y2 y3
              refine plan_one (i := 14) (by kernel_rfl) rfl (by rfl) (fun K hK => ?_)
              (try simp only [List.getElem_toArray, List.getElem_cons_zero, List.getElem_cons_succ, Act.put, List.setIfInBounds_toArray, List.set_cons_zero, List.set_cons_succ])
              refine wp_push _ (.tmp 31) (.tmp 32) _ rfl 0 3 _ 8 Tryd.underlying25 Tryd.infoInt rfl (.slice Ac s.count.length cc) s.count.length (iv s.count) rfl HM.out.cnt _ rfl 1 _ rfl (HB13.out.2.cell 0) (by have := HL12.out; omega) (by decide) (Nat.zero_le _) ?_
              intro g14 c14 w14 ho hg hat
              replace HB19 := hide (blk_push HB19.out hg HLC.out)
              clear HB13
              replace HM := hide (HM.out.pushC ho hg hat)
              clear ho hg hat
              obtain ⟨z0, z1, z2, z3, y0, y1, y2, y3⟩ := HM.out.blk.a4
              refine hK.out _ _ _ (t_cons z3 (t_cons z2 (t_cons z0 (t_nil _)))) k_same (fun hPT' => ?_)
              (clear hPT hK K; have hPT := hPT'; clear hPT'; try simp only [List.getElem_toArray, List.getElem_cons_zero, List.getElem_cons_succ, Act.put, List.setIfInBounds_toArray, List.set_cons_zero, List.set_cons_succ])
              clear z0 z1 z2 z3 y0 y1 y2 y3
              refine plan_one (i := 20) (by kernel_rfl) rfl (by rfl) (fun K hK => ?_)
              (try simp only [List.getElem_toArray, List.getElem_cons_zero, List.getElem_cons_succ, Act.put, List.setIfInBounds_toArray, List.set_cons_zero, List.set_cons_succ])
              refine wp_push _ (.tmp 37) (.tmp 38) _ rfl 0 4 _ 1 Tryd.underlying26 Tryd.infoBool rfl (.slice Ag s.gone.length cg) s.gone.length (bv s.gone) rfl HM.out.gn _ rfl 1 _ rfl (HB19.out.2.cell 0) (by have := HL12.out; omega) (by decide) (Nat.zero_le _) ?_
              intro g20 c20 w20 ho hg hat
              clear HB19
              replace HM := hide (HM.out.pushG ho hg hat)
              clear ho hg hat
              obtain ⟨z0, z1, z2, z3, y0, y1, y2, y3⟩ := HM.out.blk.a4
              refine hK.out _ _ _ (t_cons z3 (t_cons z2 (t_cons z0 (t_nil _)))) k_same (fun hPT' => ?_)
              (clear hPT hK K; have hPT := hPT'; clear hPT'; try simp only [List.getElem_toArray, List.getElem_cons_zero, List.getElem_cons_succ, Act.put, List.setIfInBounds_toArray, List.set_cons_zero, List.set_cons_succ])
              clear z0 z1 z2 z3 y0 y1 y2 y3
              obtain ⟨z0, z1, z2, z3, y0, y1, y2, y3⟩ := HM.out.blk.a4
              refine plan_take (i := 21) (v := ?_) rfl (by kernel_rfl) (by kernel_rfl) (by kernel_rfl) (fun _ _ _ h => h) hPT (by rfl) ?_ ?_
              rotate_left
              · (intro w; go_simp; with_reducible rfl)
              (clear hPT; intro hPT; simp only [List.getElem_toArray, List.getElem_cons_zero, List.getElem_cons_succ, Act.put, List.setIfInBounds_toArray, List.set_cons_zero, List.set_cons_succ])
              refine plan_take (i := 22) (v := ?_) rfl (by kernel_rfl) (by kernel_rfl) (by kernel_rfl) (fun _ _ _ h => h) hPT (by rfl) ?_ ?_
              rotate_left
              · (intro w; go_simp; with_reducible rfl)
              (clear hPT; intro hPT; simp only [List.getElem_toArray, List.getElem_cons_zero, List.getElem_cons_succ, Act.put, List.setIfInBounds_toArray, List.set_cons_zero, List.set_cons_succ])
              refine plan_one (i := 23) (by kernel_rfl) rfl (by rfl) (fun K hK => ?_)
              (try simp only [List.getElem_toArray, List.getElem_cons_zero, List.getElem_cons_succ, Act.put, List.setIfInBounds_toArray, List.set_cons_zero, List.set_cons_succ])
              go_simp
              refine hK.out [] _ _ (t_nil _) (k_drop (by kernel_rfl) (k_drop (by kernel_rfl) (k_drop (by kernel_rfl) k_nil))) (fun hPT' => ?_)
              (clear hPT hK K; have hPT := hPT'; clear hPT'; try simp only [List.getElem_toArray, List.getElem_cons_zero, List.getElem_cons_succ, Act.put, List.setIfInBounds_toArray, List.set_cons_zero, List.set_cons_succ])
              refine plan_take (i := 24) (v := ?_) rfl (by kernel_rfl) (by kernel_rfl) (by kernel_rfl) (fun _ _ _ h => h) hPT (by rfl) ?_ ?_
              rotate_left
              · (intro w; go_simp; with_reducible rfl)
              (clear hPT; intro hPT; simp only [List.getElem_toArray, List.getElem_cons_zero, List.getElem_cons_succ, Act.put, List.setIfInBounds_toArray, List.set_cons_zero, List.set_cons_succ])
              refine plan_take (i := 25) (v := ?_) rfl (by kernel_rfl) (by kernel_rfl) (by kernel_rfl) (fun _ _ _ h => h) hPT (by rfl) ?_ ?_
              rotate_left
              · (intro w; go_simp; with_reducible rfl)
              (clear hPT; intro hPT; simp only [List.getElem_toArray, List.getElem_cons_zero, List.getElem_cons_succ, Act.put, List.setIfInBounds_toArray, List.set_cons_zero, List.set_cons_succ])
              refine plan_one (i := 26) (by kernel_rfl) rfl (by rfl) (fun K hK => ?_)
              (try simp only [List.getElem_toArray, List.getElem_cons_zero, List.getElem_cons_succ, Act.put, List.setIfInBounds_toArray, List.set_cons_zero, List.set_cons_succ])
              go_simp
              refine hK.out [] _ _ (t_nil _) k_nil (fun hPT' => ?_)
              (clear hPT hK K; have hPT := hPT'; clear hPT'; try simp only [List.getElem_toArray, List.getElem_cons_zero, List.getElem_cons_succ, Act.put, List.setIfInBounds_toArray, List.set_cons_zero, List.set_cons_succ])
              refine plan_take (i := 27) (v := ?_) rfl (by kernel_rfl) (by kernel_rfl) (by kernel_rfl) (fun _ _ _ h => h) hPT (by rfl) ?_ ?_
              rotate_left
              · (intro w; go_simp; with_reducible rfl)
              (clear hPT; intro hPT; simp only [List.getElem_toArray, List.getElem_cons_zero, List.getElem_cons_succ, Act.put, List.setIfInBounds_toArray, List.set_cons_zero, List.set_cons_succ])
              refine plan_take (i := 28) (v := ?_) rfl (by kernel_rfl) (by kernel_rfl) (by kernel_rfl) (fun _ _ _ h => h) hPT (by rfl) ?_ ?_
              rotate_left
              · (intro w; go_simp; with_reducible rfl)
              (clear hPT; intro hPT; simp only [List.getElem_toArray, List.getElem_cons_zero, List.getElem_cons_succ, Act.put, List.setIfInBounds_toArray, List.set_cons_zero, List.set_cons_succ])
              refine plan_one (i := 29) (by kernel_rfl) rfl (by rfl) (fun K hK => ?_)
              (try simp only [List.getElem_toArray, List.getElem_cons_zero, List.getElem_cons_succ, Act.put, List.setIfInBounds_toArray, List.set_cons_zero, List.set_cons_succ])
              go_simp
              refine hK.out [] _ _ (t_nil _) k_nil (fun hPT' => ?_)
              (clear hPT hK K; have hPT := hPT'; clear hPT'; try simp only [List.getElem_toArray, List.getElem_cons_zero, List.getElem_cons_succ, Act.put, List.setIfInBounds_toArray, List.set_cons_zero, List.set_cons_succ])
              refine plan_done (by kernel_rfl) ?_ _
              clear hPT
              have HD := hide (MkS.done H.out HF.out HS.out HM.out)
              clear HM z0 z1 z2 z3 y0 y1 y2 y3
              go_wp2_with fail
              go_meet
              case rel => exact ⟨rfl, HD.out⟩
          case o3B =>
            (try simp only [List.getElem_toArray, List.getElem_cons_zero, List.getElem_cons_succ, Act.put, List.setIfInBounds_toArray, List.set_cons_zero, List.set_cons_succ])
            refine build_bool rfl fun N19 w19 hN hw => ?_
            have HB19 := hide (HM.out.new_ hN hw)
            replace HM := hide (HM.out.alloc hw)
            clear hN hw
            obtain ⟨z0, z1, z2, z3, y0, y1, y2, y3⟩ := HM.out.blk.a4
            refine hK.out _ _ _ (t_cons z3 (t_cons z2 (t_cons z0 (t_nil _)))) k_same (fun hPT' => ?_)
            (clear hPT hK K; have hPT := hPT'; clear hPT'; try simp only [List.getElem_toArray, List.getElem_cons_zero, List.getElem_cons_succ, Act.put, List.setIfInBounds_toArray, List.set_cons_zero, List.set_cons_succ])
            clear z0 z1 z2 z3 y0 y1 y2 y3
            refine plan_one (i := 13) (by kernel_rfl) rfl (by rfl) (fun K hK => ?_)
            (try simp only [List.getElem_toArray, List.getElem_cons_zero, List.getElem_cons_succ, Act.put, List.setIfInBounds_toArray, List.set_cons_zero, List.set_cons_succ])
            refine build_int rfl fun N13 w13 hN hw => ?_
            have HB13 := hide (HM.out.new_ hN hw)
            replace HB19 := hide (blk_more HB19.out hw)
            replace HM := hide (HM.out.alloc hw)
            clear hN hw
            obtain ⟨z0, z1, z2, z3, y0, y1, y2, y3⟩ := HM.out.blk.a4
            refine hK.out _ _ _ (t_cons z3 (t_cons z2 (t_cons z0 (t_nil _)))) k_same (fun hPT' => ?_)
            (clear hPT hK K; have hPT := hPT'; clear hPT'; try simp only [List.getElem_toArray, List.getElem_cons_zero, List.getElem_cons_succ, Act.put, List.setIfInBounds_toArray, List.set_cons_zero, List.set_cons_succ])
            clear z0 z1 z2 z3 y0 y1 y2 y3
            refine plan_one (i := 14) (by kernel_rfl) rfl (by rfl) (fun K hK => ?_)
            (try simp only [List.getElem_toArray, List.getElem_cons_zero, List.getElem_cons_succ, Act.put, List.setIfInBounds_toArray, List.set_cons_zero, List.set_cons_succ])
            refine wp_push _ (.tmp 31) (.tmp 32) _ rfl 0 3 _ 8 Tryd.underlying25 Tryd.infoInt rfl (.slice Ac s.count.length cc) s.count.length (iv s.count) rfl HM.out.cnt _ rfl 1 _ rfl (HB13.out.2.cell 0) (by have := HL12.out; omega) (by decide) (Nat.zero_le _) ?_
            intro g14 c14 w14 ho hg hat
            replace HB19 := hide (blk_push HB19.out hg HLC.out)
            clear HB13
            replace HM := hide (HM.out.pushC ho hg hat)
            clear ho hg hat
            obtain ⟨z0, z1, z2, z3, y0, y1, y2, y3⟩ := HM.out.blk.a4
            refine hK.out _ _ _ (t_cons z3 (t_cons z2 (t_cons z0 (t_nil _)))) k_same (fun hPT' => ?_)
            (clear hPT hK K; have hPT := hPT'; clear hPT'; try simp only [List.getElem_toArray, List.getElem_cons_zero, List.getElem_cons_succ, Act.put, List.setIfInBounds_toArray, List.set_cons_zero, List.set_cons_succ])
            clear z0 z1 z2 z3 y0 y1 y2 y3
            refine plan_one (i := 20) (by kernel_rfl) rfl (by rfl) (fun K hK => ?_)
            (try simp only [List.getElem_toArray, List.getElem_cons_zero, List.getElem_cons_succ, Act.put, List.setIfInBounds_toArray, List.set_cons_zero, List.set_cons_succ])
            refine wp_push _ (.tmp 37) (.tmp 38) _ rfl 0 4 _ 1 Tryd.underlying26 Tryd.infoBool rfl (.slice Ag s.gone.length cg) s.gone.length (bv s.gone) rfl HM.out.gn _ rfl 1 _ rfl (HB19.out.2.cell 0) (by have := HL12.out; omega) (by decide) (Nat.zero_le _) ?_
            intro g20 c20 w20 ho hg hat
            clear HB19
            replace HM := hide (HM.out.pushG ho hg hat)
            clear ho hg hat
            obtain ⟨z0, z1, z2, z3, y0, y1, y2, y3⟩ := HM.out.blk.a4
            refine hK.out _ _ _ (t_cons z3 (t_cons z2 (t_cons z0 (t_nil _)))) k_same (fun hPT' => ?_)
            (clear hPT hK K; have hPT := hPT'; clear hPT'; try simp only [List.getElem_toArray, List.getElem_cons_zero, List.getElem_cons_succ, Act.put, List.setIfInBounds_toArray, List.set_cons_zero, List.set_cons_succ])
            clear z0 z1 z2 z3 y0 y1 y2 y3
            obtain ⟨z0, z1, z2, z3, y0, y1, y2, y3⟩ := HM.out.blk.a4
            refine plan_take (i := 21) (v := ?_) rfl (by kernel_rfl) (by kernel_rfl) (by kernel_rfl) (fun _ _ _ h => h) hPT (by rfl) ?_ ?_
            rotate_left
            · (intro w; go_simp; with_reducible rfl)
            (clear hPT; intro hPT; simp only [List.getElem_toArray, List.getElem_cons_zero, List.getElem_cons_succ, Act.put, List.setIfInBounds_toArray, List.set_cons_zero, List.set_cons_succ])
            refine plan_take (i := 22) (v := ?_) rfl (by kernel_rfl) (by kernel_rfl) (by kernel_rfl) (fun _ _ _ h => h) hPT (by rfl) ?_ ?_
            rotate_left
            · (intro w; go_simp; with_reducible rfl)
            (clear hPT; intro hPT; simp only [List.getElem_toArray, List.getElem_cons_zero, List.getElem_cons_succ, Act.put, List.setIfInBounds_toArray, List.set_cons_zero, List.set_cons_succ])
            refine plan_one (i := 23) (by kernel_rfl) rfl (by rfl) (fun K hK => ?_)
            (try simp only [List.getElem_toArray, List.getElem_cons_zero, List.getElem_cons_succ, Act.put, List.setIfInBounds_toArray, List.set_cons_zero, List.set_cons_succ])
            go_simp
            refine hK.out [] _ _ (t_nil _) (k_drop (by kernel_rfl) (k_drop (by kernel_rfl) (k_drop (by kernel_rfl) k_nil))) (fun hPT' => ?_)
            (clear hPT hK K; have hPT := hPT'; clear hPT'; try simp only [List.getElem_toArray, List.getElem_cons_zero, List.getElem_cons_succ, Act.put, List.setIfInBounds_toArray, List.set_cons_zero, List.set_cons_succ])
            refine plan_take (i := 24) (v := ?_) rfl (by kernel_rfl) (by kernel_rfl) (by kernel_rfl) (fun _ _ _ h => h) hPT (by rfl) ?_ ?_
            rotate_left
            · (intro w; go_simp; with_reducible rfl)
            (clear hPT; intro hPT; simp only [List.getElem_toArray, List.getElem_cons_zero, List.getElem_cons_succ, Act.put, List.setIfInBounds_toArray, List.set_cons_zero, List.set_cons_succ])
            refine plan_take (i := 25) (v := ?_) rfl (by kernel_rfl) (by kernel_rfl) (by kernel_rfl) (fun _ _ _ h => h) hPT (by rfl) ?_ ?_
            rotate_left
            · (intro w; go_simp; with_reducible rfl)
            (clear hPT; intro hPT; simp only [List.getElem_toArray, List.getElem_cons_zero, List.getElem_cons_succ, Act.put, List.setIfInBounds_toArray, List.set_cons_zero, List.set_cons_succ])
            refine plan_one (i := 26) (by kernel_rfl) rfl (by rfl) (fun K hK => ?_)
            (try simp only [List.getElem_toArray, List.getElem_cons_zero, List.getElem_cons_succ, Act.put, List.setIfInBounds_toArray, List.set_cons_zero, List.set_cons_succ])
            go_simp
            refine hK.out [] _ _ (t_nil _) k_nil (fun hPT' => ?_)
            (clear hPT hK K; have hPT := hPT'; clear hPT'; try simp only [List.getElem_toArray, List.getElem_cons_zero, List.getElem_cons_succ, Act.put, List.setIfInBounds_toArray, List.set_cons_zero, List.set_cons_succ])
            refine plan_take (i := 27) (v := ?_) rfl (by kernel_rfl) (by kernel_rfl) (by kernel_rfl) (fun _ _ _ h => h) hPT (by rfl) ?_ ?_
            rotate_left
            · (intro w; go_simp; with_reducible rfl)
            (clear hPT; intro hPT; simp only [List.getElem_toArray, List.getElem_cons_zero, List.getElem_cons_succ, Act.put, List.setIfInBounds_toArray, List.set_cons_zero, List.set_cons_succ])
            refine plan_take (i := 28) (v := ?_) rfl (by kernel_rfl) (by kernel_rfl) (by kernel_rfl) (fun _ _ _ h => h) hPT (by rfl) ?_ ?_
            rotate_left
            · (intro w; go_simp; with_reducible rfl)
            (clear hPT; intro hPT; simp only [List.getElem_toArray, List.getElem_cons_zero, List.getElem_cons_succ, Act.put, List.setIfInBounds_toArray, List.set_cons_zero, List.set_cons_succ])
            refine plan_one (i := 29) (by kernel_rfl) rfl (by rfl) (fun K hK => ?_)
            (try simp only [List.getElem_toArray, List.getElem_cons_zero, List.getElem_cons_succ, Act.put, List.setIfInBounds_toArray, List.set_cons_zero, List.set_cons_succ])
            go_simp
            refine hK.out [] _ _ (t_nil _) k_nil (fun hPT' => ?_)
            (clear hPT hK K; have hPT := hPT'; clear hPT'; try simp only [List.getElem_toArray, List.getElem_cons_zero, List.getElem_cons_succ, Act.put, List.setIfInBounds_toArray, List.set_cons_zero, List.set_cons_succ])
            refine plan_done (by kernel_rfl) ?_ _
            clear hPT
            have HD := hide (MkS.done H.out HF.out HS.out HM.out)
            clear HM z0 z1 z2 z3 y0 y1 y2 y3
            go_wp2_with fail
            go_meet
            case rel => exact ⟨rfl, HD.out⟩
        case o2B =>
          (try simp only [List.getElem_toArray, List.getElem_cons_zero, List.getElem_cons_succ, Act.put, List.setIfInBounds_toArray, List.set_cons_zero, List.set_cons_succ])
          refine build_int rfl fun N13 w13 hN hw => ?_
          have HB13 := hide (HM.out.new_ hN hw)
          replace HB7 := hide (blk_more HB7.out hw)
          replace HM := hide (HM.out.alloc hw)
          clear hN hw
          obtain ⟨z0, z1, z2, z3, y0, y1, y2, y3⟩ := HM.out.blk.a4
          refine hK.out _ _ _ (t_cons z3 (t_cons z2 (t_cons z0 (t_nil _)))) k_same (fun hPT' => ?_)
          (clear hPT hK K; have hPT := hPT'; clear hPT'; try simp only [List.getElem_toArray, List.getElem_cons_zero, List.getElem_cons_succ, Act.put, List.setIfInBounds_toArray, List.set_cons_zero, List.set_cons_succ])
          clear z0 z1 z2 z3 y0 y1 y2 y3
          refine plan_two (i := 8) (j := 19) (by kernel_rfl) rfl rfl (by rfl) (by rfl) (fun K hK => ?o5A) (fun K hK => ?o5B)
          case o5A =>
            (try simp only [List.getElem_toArray, List.getElem_cons_zero, List.getElem_cons_succ, Act.put, List.setIfInBounds_toArray, List.set_cons_zero, List.set_cons_succ])
            refine wp_push _ (.tmp 25) (.tmp 26) _ rfl 0 25 _ 24 Tryd.underlying22 Tryd.infoRow rfl (.slice Ao s.outs.length co) s.outs.length vs rfl HM.out.out _ rfl 1 _ rfl (HB7.out.2.cell 0) (by have := HL12.out; omega) (by decide) (Nat.zero_le _) ?_
            intro g8 c8 w8 ho hg hat
            replace HB13 := hide (blk_push HB13.out hg HLO.out)
            clear HB7
            replace HM := hide (HM.out.pushO ho hg hat)
            clear ho hg hat
            obtain ⟨z0, z1, z2, z3, y0, y1, y2, y3⟩ := HM.out.blk.a4
            refine hK.out _ _ _ (t_cons z3 (t_cons z2 (t_cons z0 (t_nil _)))) k_same (fun hPT' => ?_)
            (clear hPT hK K; have hPT := hPT'; clear hPT'; try simp only [List.getElem_toArray, List.getElem_cons_zero, List.getElem_cons_succ, Act.put, List.setIfInBounds_toArray, List.set_cons_zero, List.set_cons_succ])
            clear z0 z1 z2 z3 y0 y1 y2 y3
            refine plan_two (i := 14) (j := 19) (by kernel_rfl) rfl rfl (by rfl) (by rfl) (fun K hK => ?o6A) (fun K hK => ?o6B)
            case o6A =>
              (try simp only [List.getElem_toArray, List.getElem_cons_zero, List.getElem_cons_succ, Act.put, List.setIfInBounds_toArray, List.set_cons_zero, List.set_cons_succ])
              refine wp_push _ (.tmp 31) (.tmp 32) _ rfl 0 3 _ 8 Tryd.underlying25 Tryd.infoInt rfl (.slice Ac s.count.length cc) s.count.length (iv s.count) rfl HM.out.cnt _ rfl 1 _ rfl (HB13.out.2.cell 0) (by have := HL12.out; omega) (by decide) (Nat.zero_le _) ?_
              intro g14 c14 w14 ho hg hat
              clear HB13
              replace HM := hide (HM.out.pushC ho hg hat)
              clear ho hg hat
              obtain ⟨z0, z1, z2, z3, y0, y1, y2, y3⟩ := HM.out.blk.a4
              refine hK.out _ _ _ (t_cons z3 (t_cons z2 (t_cons z0 (t_nil _)))) k_same (fun hPT' => ?_)
              (clear hPT hK K; have hPT := hPT'; clear hPT'; try simp only [List.getElem_toArray, List.getElem_cons_zero, List.getElem_cons_succ, Act.put, List.setIfInBounds_toArray, List.set_cons_zero, List.set_cons_succ])
              clear z0 z1 z2 z3 y0 y1 y2 y3
              refine plan_one (i := 19) (by kernel_rfl) rfl (by rfl) (fun K hK => ?_)
              (try simp only [List.getElem_toArray, List.getElem_cons_zero, List.getElem_cons_succ, Act.put, List.setIfInBounds_toArray, List.set_cons_zero, List.set_cons_succ])
              refine build_bool rfl fun N19 w19 hN hw => ?_
              have HB19 := hide (HM.out.new_ hN hw)
              replace HM := hide (HM.out.alloc hw)
              clear hN hw
              obtain ⟨z0, z1, z2, z3, y0, y1, y2, y3⟩ := HM.out.blk.a4
              refine hK.out _ _ _ (t_cons z3 (t_cons z2 (t_cons z0 (t_nil _)))) k_same (fun hPT' => ?_)
              (clear hPT hK K; have hPT := hPT'; clear hPT'; try simp only [List.getElem_toArray, List.getElem_cons_zero, List.getElem_cons_succ, Act.put, List.setIfInBounds_toArray, List.set_cons_zero, List.set_cons_succ])
              clear z0 z1 z2 z3 y0 y1 y2 y3
              refine plan_one (i := 20) (by kernel_rfl) rfl (by rfl) (fun K hK => ?_)
              (try simp only [List.getElem_toArray, List.getElem_cons_zero, List.getElem_cons_succ, Act.put, List.setIfInBounds_toArray, List.set_cons_zero, List.set_cons_succ])
              refine wp_push _ (.tmp 37) (.tmp 38) _ rfl 0 4 _ 1 Tryd.underlying26 Tryd.infoBool rfl (.slice Ag s.gone.length cg) s.gone.length (bv s.gone) rfl HM.out.gn _ rfl 1 _ rfl (HB19.out.2.cell 0) (by have := HL12.out; omega) (by decide) (Nat.zero_le _) ?_
              intro g20 c20 w20 ho hg hat
              clear HB19
              replace HM := hide (HM.out.pushG ho hg hat)
              clear ho hg hat
              obtain ⟨z0, z1, z2, z3, y0, y1, y2, y3⟩ := HM.out.blk.a4
              refine hK.out _ _ _ (t_cons z3 (t_cons z2 (t_cons z0 (t_nil _)))) k_same (fun hPT' => ?_)
              (clear hPT hK K; have hPT := hPT'; clear hPT'; try simp only [List.getElem_toArray, List.getElem_cons_zero, List.getElem_cons_succ, Act.put, List.setIfInBounds_toArray, List.set_cons_zero, List.set_cons_succ])
              clear z0 z1 z2 z3 y0 y1 y2 y3
              obtain ⟨z0, z1, z2, z3, y0, y1, y2, y3⟩ := HM.out.blk.a4
              refine plan_take (i := 21) (v := ?_) rfl (by kernel_rfl) (by kernel_rfl) (by kernel_rfl) (fun _ _ _ h => h) hPT (by rfl) ?_ ?_
              rotate_left
              · (intro w; go_simp; with_reducible rfl)
              (clear hPT; intro hPT; simp only [List.getElem_toArray, List.getElem_cons_zero, List.getElem_cons_succ, Act.put, List.setIfInBounds_toArray, List.set_cons_zero, List.set_cons_succ])
              refine plan_take (i := 22) (v := ?_) rfl (by kernel_rfl) (by kernel_rfl) (by kernel_rfl) (fun _ _ _ h => h) hPT (by rfl) ?_ ?_
              rotate_left
              · (intro w; go_simp; with_reducible rfl)
              (clear hPT; intro hPT; simp only [List.getElem_toArray, List.getElem_cons_zero, List.getElem_cons_succ, Act.put, List.setIfInBounds_toArray, List.set_cons_zero, List.set_cons_succ])
              refine plan_one (i := 23) (by kernel_rfl) rfl (by rfl) (fun K hK => ?_)
              (try simp only [List.getElem_toArray, List.getElem_cons_zero, List.getElem_cons_succ, Act.put, List.setIfInBounds_toArray, List.set_cons_zero, List.set_cons_succ])
              go_simp
              refine hK.out [] _ _ (t_nil _) (k_drop (by kernel_rfl) (k_drop (by kernel_rfl) (k_drop (by kernel_rfl) k_nil))) (fun hPT' => ?_)
              (clear hPT hK K; have hPT := hPT'; clear hPT'; try simp only [List.getElem_toArray, List.getElem_cons_zero, List.getElem_cons_succ, Act.put, List.setIfInBounds_toArray, List.set_cons_zero, List.set_cons_succ])
              refine plan_take (i := 24) (v := ?_) rfl (by kernel_rfl) (by kernel_rfl) (by kernel_rfl) (fun _ _ _ h => h) hPT (by rfl) ?_ ?_
              rotate_left
              · (intro w; go_simp; with_reducible rfl)
              (clear hPT; intro hPT; simp only [List.getElem_toArray, List.getElem_cons_zero, List.getElem_cons_succ, Act.put, List.setIfInBounds_toArray, List.set_cons_zero, List.set_cons_succ])
              refine plan_take (i := 25) (v := ?_) rfl (by kernel_rfl) (by kernel_rfl) (by kernel_rfl) (fun _ _ _ h => h) hPT (by rfl) ?_ ?_
              rotate_left
              · (intro w; go_simp; with_reducible rfl)
              (clear hPT; intro hPT; simp only [List.getElem_toArray, List.getElem_cons_zero, List.getElem_cons_succ, Act.put, List.setIfInBounds_toArray, List.set_cons_zero, List.set_cons_succ])
              refine plan_one (i := 26) (by kernel_rfl) rfl (by rfl) (fun K hK => ?_)
              (try simp only [List.getElem_toArray, List.getElem_cons_zero, List.getElem_cons_succ, Act.put, List.setIfInBounds_toArray, List.set_cons_zero, List.set_cons_succ])
              go_simp
              refine hK.out [] _ _ (t_nil _) k_nil (fun hPT' => ?_)
              (clear hPT hK K; have hPT := hPT'; clear hPT'; try simp only [List.getElem_toArray, List.getElem_cons_zero, List.getElem_cons_succ, Act.put, List.setIfInBounds_toArray, List.set_cons_zero, List.set_cons_succ])
              refine plan_take (i := 27) (v := ?_) rfl (by kernel_rfl) (by kernel_rfl) (by kernel_rfl) (fun _ _ _ h => h) hPT (by rfl) ?_ ?_
              rotate_left
              · (intro w; go_simp; with_reducible rfl)
              (clear hPT; intro hPT; simp only [List.getElem_toArray, List.getElem_cons_zero, List.getElem_cons_succ, Act.put, List.setIfInBounds_toArray, List.set_cons_zero, List.set_cons_succ])
              refine plan_take (i := 28) (v := ?_) rfl (by kernel_rfl) (by kernel_rfl) (by kernel_rfl) (fun _ _ _ h => h) hPT (by rfl) ?_ ?_
              rotate_left
              · (intro w; go_simp; with_reducible rfl)
              (clear hPT; intro hPT; simp only [List.getElem_toArray, List.getElem_cons_zero, List.getElem_cons_succ, Act.put, List.setIfInBounds_toArray, List.set_cons_zero, List.set_cons_succ])
              refine plan_one (i := 29) (by kernel_rfl) rfl (by rfl) (fun K hK => ?_)
              (try simp only [List.getElem_toArray, List.getElem_cons_zero, List.getElem_cons_succ, Act.put, List.setIfInBounds_toArray, List.set_cons_zero, List.set_cons_succ])
              go_simp
              refine hK.out [] _ _ (t_nil _) k_nil (fun hPT' => ?_)
              (clear hPT hK K; have hPT := hPT'; clear hPT'; try simp only [List.getElem_toArray, List.getElem_cons_zero, List.getElem_cons_succ, Act.put, List.setIfInBounds_toArray, List.set_cons_zero, List.set_cons_succ])
              refine plan_done (by kernel_rfl) ?_ _
              clear hPT
              have HD := hide (MkS.done H.out HF.out HS.out HM.out)
              clear HM z0 z1 z2 z3 y0 y1 y2 y3
              go_wp2_with fail
              go_meet
              case rel => exact ⟨rfl, HD.out⟩
            case o6B =>
              (try simp only [List.getElem_toArray, List.getElem_cons_zero, List.getElem_cons_succ, Act.put, List.setIfInBounds_toArray, List.set_cons_zero, List.set_cons_succ])
              refine build_bool rfl fun N19 w19 hN hw => ?_
              have HB19 := hide (HM.out.new_ hN hw)
              replace HB13 := hide (blk_more HB13.out hw)
              replace HM := hide (HM.out.alloc hw)
              clear hN hw
              obtain ⟨z0, z1, z2, z3, y0, y1, y2, y3⟩ := HM.out.blk.a4
              refine hK.out _ _ _ (t_cons z3 (t_cons z2 (t_cons z0 (t_nil _)))) k_same (fun hPT' => ?_)
              (clear hPT hK K; have hPT := hPT'; clear hPT'; try simp only [List.getElem_toArray, List.getElem_cons_zero, List.getElem_cons_succ, Act.put, List.setIfInBounds_toArray, List.set_cons_zero, List.set_cons_succ])
              clear z0 z1 z2 z3 y0 y1 y2 y3
              refine plan_one (i := 14) (by kernel_rfl) rfl (by rfl) (fun K hK => ?_)
              (try simp only [List.getElem_toArray, List.getElem_cons_zero, List.getElem_cons_succ, Act.put, List.setIfInBounds_toArray, List.set_cons_zero, List.set_cons_succ])
              refine wp_push _ (.tmp 31) (.tmp 32) _ rfl 0 3 _ 8 Tryd.underlying25 Tryd.infoInt rfl (.slice Ac s.count.length cc) s.count.length (iv s.count) rfl HM.out.cnt _ rfl 1 _ rfl (HB13.out.2.cell 0) (by have := HL12.out; omega) (by decide) (Nat.zero_le _) ?_
              intro g14 c14 w14 ho hg hat
              replace HB19 := hide (blk_push HB19.out hg HLC.out)
              clear HB13
              replace HM := hide (HM.out.pushC ho hg hat)
              clear ho hg hat
              obtain ⟨z0, z1, z2, z3, y0, y1, y2, y3⟩ := HM.out.blk.a4
              refine hK.out _ _ _ (t_cons z3 (t_cons z2 (t_cons z0 (t_nil _)))) k_same (fun hPT' => ?_)
              (clear hPT hK K; have hPT := hPT'; clear hPT'; try simp only [List.getElem_toArray, List.getElem_cons_zero, List.getElem_cons_succ, Act.put, List.setIfInBounds_toArray, List.set_cons_zero, List.set_cons_succ])
              clear z0 z1 z2 z3 y0 y1 y2 y3
              refine plan_one (i := 20) (by kernel_rfl) rfl (by rfl) (fun K hK => ?_)
              (try simp only [List.getElem_toArray, List.getElem_cons_zero, List.getElem_cons_succ, Act.put, List.setIfInBounds_toArray, List.set_cons_zero, List.set_cons_succ])
              refine wp_push _ (.tmp 37) (.tmp 38) _ rfl 0 4 _ 1 Tryd.underlying26 Tryd.infoBool rfl (.slice Ag s.gone.length cg) s.gone.length (bv s.gone) rfl HM.out.gn _ rfl 1 _ rfl (HB19.out.2.cell 0) (by have := HL12.out; omega) (by decide) (Nat.zero_le _) ?_
              intro g20 c20 w20 ho hg hat
              clear HB19
              replace HM := hide (HM.out.pushG ho hg hat)
              clear ho hg hat
              obtain ⟨z0, z1, z2, z3, y0, y1, y2, y3⟩ := HM.out.blk.a4
              refine hK.out _ _ _ (t_cons z3 (t_cons z2 (t_cons z0 (t_nil _)))) k_same (fun hPT' => ?_)
              (clear hPT hK K; have hPT := hPT'; clear hPT'; try simp only [List.getElem_toArray, List.getElem_cons_zero, List.getElem_cons_succ, Act.put, List.setIfInBounds_toArray, List.set_cons_zero, List.set_cons_succ])
              clear z0 z1 z2 z3 y0 y1 y2 y3
              obtain ⟨z0, z1, z2, z3, y0, y1, y2, y3⟩ := HM.out.blk.a4
              refine plan_take (i := 21) (v := ?_) rfl (by kernel_rfl) (by kernel_rfl) (by kernel_rfl) (fun _ _ _ h => h) hPT (by rfl) ?_ ?_
              rotate_left
              · (intro w; go_simp; with_reducible rfl)
              (clear hPT; intro hPT; simp only [List.getElem_toArray, List.getElem_cons_zero, List.getElem_cons_succ, Act.put, List.setIfInBounds_toArray, List.set_cons_zero, List.set_cons_succ])
              refine plan_take (i := 22) (v := ?_) rfl (by kernel_rfl) (by kernel_rfl) (by kernel_rfl) (fun _ _ _ h => h) hPT (by rfl) ?_ ?_
              rotate_left
              · (intro w; go_simp; with_reducible rfl)
              (clear hPT; intro hPT; simp only [List.getElem_toArray, List.getElem_cons_zero, List.getElem_cons_succ, Act.put, List.setIfInBounds_toArray, List.set_cons_zero, List.set_cons_succ])
              refine plan_one (i := 23) (by kernel_rfl) rfl (by rfl) (fun K hK => ?_)
              (try simp only [List.getElem_toArray, List.getElem_cons_zero, List.getElem_cons_succ, Act.put, List.setIfInBounds_toArray, List.set_cons_zero, List.set_cons_succ])
              go_simp
              refine hK.out [] _ _ (t_nil _) (k_drop (by kernel_rfl) (k_drop (by kernel_rfl) (k_drop (by kernel_rfl) k_nil))) (fun hPT' => ?_)
              (clear hPT hK K; have hPT := hPT'; clear hPT'; try simp only [List.getElem_toArray, List.getElem_cons_zero, List.getElem_cons_succ, Act.put, List.setIfInBounds_toArray, List.set_cons_zero, List.set_cons_succ])
              refine plan_take (i := 24) (v := ?_) rfl (by kernel_rfl) (by kernel_rfl) (by kernel_rfl) (fun _ _ _ h => h) hPT (by rfl) ?_ ?_
              rotate_left
              · (intro w; go_simp; with_reducible rfl)
              (clear hPT; intro hPT; simp only [List.getElem_toArray, List.getElem_cons_zero, List.getElem_cons_succ, Act.put, List.setIfInBounds_toArray, List.set_cons_zero, List.set_cons_succ])
              refine plan_take (i := 25) (v := ?_) rfl (by kernel_rfl) (by kernel_rfl) (by kernel_rfl) (fun _ _ _ h => h) hPT (by rfl) ?_ ?_
              rotate_left
              · (intro w; go_simp; with_reducible rfl)
              (clear hPT; intro hPT; simp only [List.getElem_toArray, List.getElem_cons_zero, List.getElem_cons_succ, Act.put, List.setIfInBounds_toArray, List.set_cons_zero, List.set_cons_succ])
              refine plan_one (i := 26) (by kernel_rfl) rfl (by rfl) (fun K hK => ?_)
              (try simp only [List.getElem_toArray, List.getElem_cons_zero, List.getElem_cons_succ, Act.put, List.setIfInBounds_toArray, List.set_cons_zero, List.set_cons_succ])
              go_simp
              refine hK.out [] _ _ (t_nil _) k_nil (fun hPT' => ?_)
              (clear hPT hK K; have hPT := hPT'; clear hPT'; try simp only [List.getElem_toArray, List.getElem_cons_zero, List.getElem_cons_succ, Act.put, List.setIfInBounds_toArray, List.set_cons_zero, List.set_cons_succ])
              refine plan_take (i := 27) (v := ?_) rfl (by kernel_rfl) (by kernel_rfl) (by kernel_rfl) (fun _ _ _ h => h) hPT (by rfl) ?_ ?_
              rotate_left
              · (intro w; go_simp; with_reducible rfl)
              (clear hPT; intro hPT; simp only [List.getElem_toArray, List.getElem_cons_zero, List.getElem_cons_succ, Act.put, List.setIfInBounds_toArray, List.set_cons_zero, List.set_cons_succ])
              refine plan_take (i := 28) (v := ?_) rfl (by kernel_rfl) (by kernel_rfl) (by kernel_rfl) (fun _ _ _ h => h) hPT (by rfl) ?_ ?_
              rotate_left
              · (intro w; go_simp; with_reducible rfl)
              (clear hPT; intro hPT; simp only [List.getElem_toArray, List.getElem_cons_zero, List.getElem_cons_succ, Act.put, List.setIfInBounds_toArray, List.set_cons_zero, List.set_cons_succ])
              refine plan_one (i := 29) (by kernel_rfl) rfl (by rfl) (fun K hK => ?_)
              (try simp only [List.getElem_toArray, List.getElem_cons_zero, List.getElem_cons_succ, Act.put, List.setIfInBounds_toArray, List.set_cons_zero, List.set_cons_succ])
              go_simp
              refine hK.out [] _ _ (t_nil _) k_nil (fun hPT' => ?_)
              (clear hPT hK K; have hPT := hPT'; clear hPT'; try simp only [List.getElem_toArray, List.getElem_cons_zero, List.getElem_cons_succ, Act.put, List.setIfInBounds_toArray, List.set_cons_zero, List.set_cons_succ])
              refine plan_done (by kernel_rfl) ?_ _
              clear hPT
              have HD := hide (MkS.done H.out HF.out HS.out HM.out)
              clear HM z0 z1 z2 z3 y0 y1 y2 y3
              go_wp2_with fail
              go_meet
              case rel => exact ⟨rfl, HD.out⟩
          case o5B =>
            (try simp only [List.getElem_toArray, List.getElem_cons_zero, List.getElem_cons_succ, Act.put, List.setIfInBounds_toArray, List.set_cons_zero, List.set_cons_succ])
            refine build_bool rfl fun N19 w19 hN hw => ?_
            have HB19 := hide (HM.out.new_ hN hw)
            replace HB7 := hide (blk_more HB7.out hw)
            replace HB13 := hide (blk_more HB13.out hw)
            replace HM := hide (HM.out.alloc hw)
            clear hN hw
            obtain ⟨z0, z1, z2, z3, y0, y1, y2, y3⟩ := HM.out.blk.a4
            refine hK.out _ _ _ (t_cons z3 (t_cons z2 (t_cons z0 (t_nil _)))) k_same (fun hPT' => ?_)
            (clear hPT hK K; have hPT := hPT'; clear hPT'; try simp only [List.getElem_toArray, List.getElem_cons_zero, List.getElem_cons_succ, Act.put, List.setIfInBounds_toArray, List.set_cons_zero, List.set_cons_succ])
            clear z0 z1 z2 z3 y0 y1 y2 y3
            refine plan_one (i := 8) (by kernel_rfl) rfl (by rfl) (fun K hK => ?_)
            (try simp only [List.getElem_toArray, List.getElem_cons_zero, List.getElem_cons_succ, Act.put, List.setIfInBounds_toArray, List.set_cons_zero, List.set_cons_succ])
            refine wp_push _ (.tmp 25) (.tmp 26) _ rfl 0 25 _ 24 Tryd.underlying22 Tryd.infoRow rfl (.slice Ao s.outs.length co) s.outs.length vs rfl HM.out.out _ rfl 1 _ rfl (HB7.out.2.cell 0) (by have := HL12.out; omega) (by decide) (Nat.zero_le _) ?_
            intro g8 c8 w8 ho hg hat
            replace HB13 := hide (blk_push HB13.out hg HLO.out)
            replace HB19 := hide (blk_push HB19.out hg HLO.out)
            clear HB7
            replace HM := hide (HM.out.pushO ho hg hat)
            clear ho hg hat
            obtain ⟨z0, z1, z2, z3, y0, y1, y2, y3⟩ := HM.out.blk.a4
            refine hK.out _ _ _ (t_cons z3 (t_cons z2 (t_cons z0 (t_nil _)))) k_same (fun hPT' => ?_)
            (clear hPT hK K; have hPT := hPT'; clear hPT'; try simp only [List.getElem_toArray, List.getElem_cons_zero, List.getElem_cons_succ, Act.put, List.setIfInBounds_toArray, List.set_cons_zero, List.set_cons_succ])
            clear z0 z1 z2 z3 y0 y1 y2 y3
            refine plan_one (i := 14) (by kernel_rfl) rfl (by rfl) (fun K hK => ?_)
            (try simp only [List.getElem_toArray, List.getElem_cons_zero, List.getElem_cons_succ, Act.put, List.setIfInBounds_toArray, List.set_cons_zero, List.set_cons_succ])
            refine wp_push _ (.tmp 31) (.tmp 32) _ rfl 0 3 _ 8 Tryd.underlying25 Tryd.infoInt rfl (.slice Ac s.count.length cc) s.count.length (iv s.count) rfl HM.out.cnt _ rfl 1 _ rfl (HB13.out.2.cell 0) (by have := HL12.out; omega) (by decide) (Nat.zero_le _) ?_
            intro g14 c14 w14 ho hg hat
            replace HB19 := hide (blk_push HB19.out hg HLC.out)
            clear HB13
            replace HM := hide (HM.out.pushC ho hg hat)
            clear ho hg hat
            obtain ⟨z0, z1, z2, z3, y0, y1, y2, y3⟩ := HM.out.blk.a4
            refine hK.out _ _ _ (t_cons z3 (t_cons z2 (t_cons z0 (t_nil _)))) k_same (fun hPT' => ?_)
            (clear hPT hK K; have hPT := hPT'; clear hPT'; try simp only [List.getElem_toArray, List.getElem_cons_zero, List.getElem_cons_succ, Act.put, List.setIfInBounds_toArray, List.set_cons_zero, List.set_cons_succ])
            clear z0 z1 z2 z3 y0 y1 y2 y3
            refine plan_one (i := 20) (by kernel_rfl) rfl (by rfl) (fun K hK => ?_)
            (try simp only [List.getElem_toArray, List.getElem_cons_zero, List.getElem_cons_succ, Act.put, List.setIfInBounds_toArray, List.set_cons_zero, List.set_cons_succ])
            refine wp_push _ (.tmp 37) (.tmp 38) _ rfl 0 4 _ 1 Tryd.underlying26 Tryd.infoBool rfl (.slice Ag s.gone.length cg) s.gone.length (bv s.gone) rfl HM.out.gn _ rfl 1 _ rfl (HB19.out.2.cell 0) (by have := HL12.out; omega) (by decide) (Nat.zero_le _) ?_
            intro g20 c20 w20 ho hg hat
            clear HB19
            replace HM := hide (HM.out.pushG ho hg hat)
            clear ho hg hat
            obtain ⟨z0, z1, z2, z3, y0, y1, y2, y3⟩ := HM.out.blk.a4
            refine hK.out _ _ _ (t_cons z3 (t_cons z2 (t_cons z0 (t_nil _)))) k_same (fun hPT' => ?_)
            (clear hPT hK K; have hPT := hPT'; clear hPT'; try simp only [List.getElem_toArray, List.getElem_cons_zero, List.getElem_cons_succ, Act.put, List.setIfInBounds_toArray, List.set_cons_zero, List.set_cons_succ])
            clear z0 z1 z2 z3 y0 y1 y2 y3
            obtain ⟨z0, z1, z2, z3, y0, y1, y2, y3⟩ := HM.out.blk.a4
            refine plan_take (i := 21) (v := ?_) rfl (by kernel_rfl) (by kernel_rfl) (by kernel_rfl) (fun _ _ _ h => h) hPT (by rfl) ?_ ?_
            rotate_left
            · (intro w; go_simp; with_reducible rfl)
            (clear hPT; intro hPT; simp only [List.getElem_toArray, List.getElem_cons_zero, List.getElem_cons_succ, Act.put, List.setIfInBounds_toArray, List.set_cons_zero, List.set_cons_succ])
            refine plan_take (i := 22) (v := ?_) rfl (by kernel_rfl) (by kernel_rfl) (by kernel_rfl) (fun _ _ _ h => h) hPT (by rfl) ?_ ?_
            rotate_left
            · (intro w; go_simp; with_reducible rfl)
            (clear hPT; intro hPT; simp only [List.getElem_toArray, List.getElem_cons_zero, List.getElem_cons_succ, Act.put, List.setIfInBounds_toArray, List.set_cons_zero, List.set_cons_succ])
            refine plan_one (i := 23) (by kernel_rfl) rfl (by rfl) (fun K hK => ?_)
            (try simp only [List.getElem_toArray, List.getElem_cons_zero, List.getElem_cons_succ, Act.put, List.setIfInBounds_toArray, List.set_cons_zero, List.set_cons_succ])
            go_simp
            refine hK.out [] _ _ (t_nil _) (k_drop (by kernel_rfl) (k_drop (by kernel_rfl) (k_drop (by kernel_rfl) k_nil))) (fun hPT' => ?_)
            (clear hPT hK K; have hPT := hPT'; clear hPT'; try simp only [List.getElem_toArray, List.getElem_cons_zero, List.getElem_cons_succ, Act.put, List.setIfInBounds_toArray, List.set_cons_zero, List.set_cons_succ])
            refine plan_take (i := 24) (v := ?_) rfl (by kernel_rfl) (by kernel_rfl) (by kernel_rfl) (fun _ _ _ h => h) hPT (by rfl) ?_ ?_
            rotate_left
            · (intro w; go_simp; with_reducible rfl)
            (clear hPT; intro hPT; simp only [List.getElem_toArray, List.getElem_cons_zero, List.getElem_cons_succ, Act.put, List.setIfInBounds_toArray, List.set_cons_zero, List.set_cons_succ])
            refine plan_take (i := 25) (v := ?_) rfl (by kernel_rfl) (by kernel_rfl) (by kernel_rfl) (fun _ _ _ h => h) hPT (by rfl) ?_ ?_
            rotate_left
            · (intro w; go_simp; with_reducible rfl)
            (clear hPT; intro hPT; simp only [List.getElem_toArray, List.getElem_cons_zero, List.getElem_cons_succ, Act.put, List.setIfInBounds_toArray, List.set_cons_zero, List.set_cons_succ])
            refine plan_one (i := 26) (by kernel_rfl) rfl (by rfl) (fun K hK => ?_)
            (try simp only [List.getElem_toArray, List.getElem_cons_zero, List.getElem_cons_succ, Act.put, List.setIfInBounds_toArray, List.set_cons_zero, List.set_cons_succ])
            go_simp
            refine hK.out [] _ _ (t_nil _) k_nil (fun hPT' => ?_)
            (clear hPT hK K; have hPT := hPT'; clear hPT'; try simp only [List.getElem_toArray, List.getElem_cons_zero, List.getElem_cons_succ, Act.put, List.setIfInBounds_toArray, List.set_cons_zero, List.set_cons_succ])
            refine plan_take (i := 27) (v := ?_) rfl (by kernel_rfl) (by kernel_rfl) (by kernel_rfl) (fun _ _ _ h => h) hPT (by rfl) ?_ ?_
            rotate_left
            · (intro w; go_simp; with_reducible rfl)
            (clear hPT; intro hPT; simp only [List.getElem_toArray, List.getElem_cons_zero, List.getElem_cons_succ, Act.put, List.setIfInBounds_toArray, List.set_cons_zero, List.set_cons_succ])
            refine plan_take (i := 28) (v := ?_) rfl (by kernel_rfl) (by kernel_rfl) (by kernel_rfl) (fun _ _ _ h => h) hPT (by rfl) ?_ ?_
            rotate_left
            · (intro w; go_simp; with_reducible rfl)
            (clear hPT; intro hPT; simp only [List.getElem_toArray, List.getElem_cons_zero, List.getElem_cons_succ, Act.put, List.setIfInBounds_toArray, List.set_cons_zero, List.set_cons_succ])
            refine plan_one (i := 29) (by kernel_rfl) rfl (by rfl) (fun K hK => ?_)
            (try simp only [List.getElem_toArray, List.getElem_cons_zero, List.getElem_cons_succ, Act.put, List.setIfInBounds_toArray, List.set_cons_zero, List.set_cons_succ])
            go_simp
            refine hK.out [] _ _ (t_nil _) k_nil (fun hPT' => ?_)
            (clear hPT hK K; have hPT := hPT'; clear hPT'; try simp only [List.getElem_toArray, List.getElem_cons_zero, List.getElem_cons_succ, Act.put, List.setIfInBounds_toArray, List.set_cons_zero, List.set_cons_succ])
            refine plan_done (by kernel_rfl) ?_ _
            clear hPT
            have HD := hide (MkS.done H.out HF.out HS.out HM.out)
            clear HM z0 z1 z2 z3 y0 y1 y2 y3
            go_wp2_with fail
            go_meet
            case rel => exact ⟨rfl, HD.out⟩
        case o2C =>
          (try simp only [List.getElem_toArray, List.getElem_cons_zero, List.getElem_cons_succ, Act.put, List.setIfInBounds_toArray, List.set_cons_zero, List.set_cons_succ])
          refine build_bool rfl fun N19 w19 hN hw => ?_
          have HB19 := hide (HM.out.new_ hN hw)
          replace HB7 := hide (blk_more HB7.out hw)
          replace HM := hide (HM.out.alloc hw)
          clear hN hw
          obtain ⟨z0, z1, z2, z3, y0, y1, y2, y3⟩ := HM.out.blk.a4
          refine hK.out _ _ _ (t_cons z3 (t_cons z2 (t_cons z0 (t_nil _)))) k_same (fun hPT' => ?_)
          (clear hPT hK K; have hPT := hPT'; clear hPT'; try simp only [List.getElem_toArray, List.getElem_cons_zero, List.getElem_cons_succ, Act.put, List.setIfInBounds_toArray, List.set_cons_zero, List.set_cons_succ])
          clear z0 z1 z2 z3 y0 y1 y2 y3
          refine plan_two (i := 8) (j := 13) (by kernel_rfl) rfl rfl (by rfl) (by rfl) (fun K hK => ?o7A) (fun K hK => ?o7B)
          case o7A =>
            (try simp only [List.getElem_toArray, List.getElem_cons_zero, List.getElem_cons_succ, Act.put, List.setIfInBounds_toArray, List.set_cons_zero, List.set_cons_succ])
            refine wp_push _ (.tmp 25) (.tmp 26) _ rfl 0 25 _ 24 Tryd.underlying22 Tryd.infoRow rfl (.slice Ao s.outs.length co) s.outs.length vs rfl HM.out.out _ rfl 1 _ rfl (HB7.out.2.cell 0) (by have := HL12.out; omega) (by decide) (Nat.zero_le _) ?_
            intro g8 c8 w8 ho hg hat
            replace HB19 := hide (blk_push HB19.out hg HLO.out)
            clear HB7
            replace HM := hide (HM.out.pushO ho hg hat)
            clear ho hg hat
            obtain ⟨z0, z1, z2, z3, y0, y1, y2, y3⟩ := HM.out.blk.a4
            refine hK.out _ _ _ (t_cons z3 (t_cons z2 (t_cons z0 (t_nil _)))) k_same (fun hPT' => ?_)
            (clear hPT hK K; have hPT := hPT'; clear hPT'; try simp only [List.getElem_toArray, List.getElem_cons_zero, List.getElem_cons_succ, Act.put, List.setIfInBounds_toArray, List.set_cons_zero, List.set_cons_succ])
            clear z0 z1 z2 z3 y0 y1 y2 y3
            refine plan_one (i := 13) (by kernel_rfl) rfl (by rfl) (fun K hK => ?_)
            (try simp only [List.getElem_toArray, List.getElem_cons_zero, List.getElem_cons_succ, Act.put, List.setIfInBounds_toArray, List.set_cons_zero, List.set_cons_succ])
            refine build_int rfl fun N13 w13 hN hw => ?_
            have HB13 := hide (HM.out.new_ hN hw)
            replace HB19 := hide (blk_more HB19.out hw)
            replace HM := hide (HM.out.alloc hw)
            clear hN hw
            obtain ⟨z0, z1, z2, z3, y0, y1, y2, y3⟩ := HM.out.blk.a4
            refine hK.out _ _ _ (t_cons z3 (t_cons z2 (t_cons z0 (t_nil _)))) k_same (fun hPT' => ?_)
            (clear hPT hK K; have hPT := hPT'; clear hPT'; try simp only [List.getElem_toArray, List.getElem_cons_zero, List.getElem_cons_succ, Act.put, List.setIfInBounds_toArray, List.set_cons_zero, List.set_cons_succ])
            clear z0 z1 z2 z3 y0 y1 y2 y3
            refine plan_one (i := 14) (by kernel_rfl) rfl (by rfl) (fun K hK => ?_)
            (try simp only [List.getElem_toArray, List.getElem_cons_zero, List.getElem_cons_succ, Act.put, List.setIfInBounds_toArray, List.set_cons_zero, List.set_cons_succ])
            refine wp_push _ (.tmp 31) (.tmp 32) _ rfl 0 3 _ 8 Tryd.underlying25 Tryd.infoInt rfl (.slice Ac s.count.length cc) s.count.length (iv s.count) rfl HM.out.cnt _ rfl 1 _ rfl (HB13.out.2.cell 0) (by have := HL12.out; omega) (by decide) (Nat.zero_le _) ?_
            intro g14 c14 w14 ho hg hat
            replace HB19 := hide (blk_push HB19.out hg HLC.out)
            clear HB13
            replace HM := hide (HM.out.pushC ho hg hat)
            clear ho hg hat
            obtain ⟨z0, z1, z2, z3, y0, y1, y2, y3⟩ := HM.out.blk.a4
            refine hK.out _ _ _ (t_cons z3 (t_cons z2 (t_cons z0 (t_nil _)))) k_same (fun hPT' => ?_)
            (clear hPT hK K; have hPT := hPT'; clear hPT'; try simp only [List.getElem_toArray, List.getElem_cons_zero, List.getElem_cons_succ, Act.put, List.setIfInBounds_toArray, List.set_cons_zero, List.set_cons_succ])
            clear z0 z1 z2 z3 y0 y1 y2 y3
            refine plan_one (i := 20) (by kernel_rfl) rfl (by rfl) (fun K hK => ?_)
            (try simp only [List.getElem_toArray, List.getElem_cons_zero, List.getElem_cons_succ, Act.put, List.setIfInBounds_toArray, List.set_cons_zero, List.set_cons_succ])
            refine wp_push _ (.tmp 37) (.tmp 38) _ rfl 0 4 _ 1 Tryd.underlying26 Tryd.infoBool rfl (.slice Ag s.gone.length cg) s.gone.length (bv s.gone) rfl HM.out.gn _ rfl 1 _ rfl (HB19.out.2.cell 0) (by have := HL12.out; omega) (by decide) (Nat.zero_le _) ?_
            intro g20 c20 w20 ho hg hat
            clear HB19
            replace HM := hide (HM.out.pushG ho hg hat)
            clear ho hg hat
            obtain ⟨z0, z1, z2, z3, y0, y1, y2, y3⟩ := HM.out.blk.a4
            refine hK.out _ _ _ (t_cons z3 (t_cons z2 (t_cons z0 (t_nil _)))) k_same (fun hPT' => ?_)
            (clear hPT hK K; have hPT := hPT'; clear hPT'; try simp only [List.getElem_toArray, List.getElem_cons_zero, List.getElem_cons_succ, Act.put, List.setIfInBounds_toArray, List.set_cons_zero, List.set_cons_succ])
            clear z0 z1 z2 z3 y0 y1 y2 y3
            obtain ⟨z0, z1, z2, z3, y0, y1, y2, y3⟩ := HM.out.blk.a4
            refine plan_take (i := 21) (v := ?_) rfl (by kernel_rfl) (by kernel_rfl) (by kernel_rfl) (fun _ _ _ h => h) hPT (by rfl) ?_ ?_
            rotate_left
            · (intro w; go_simp; with_reducible rfl)
            (clear hPT; intro hPT; simp only [List.getElem_toArray, List.getElem_cons_zero, List.getElem_cons_succ, Act.put, List.setIfInBounds_toArray, List.set_cons_zero, List.set_cons_succ])
            refine plan_take (i := 22) (v := ?_) rfl (by kernel_rfl) (by kernel_rfl) (by kernel_rfl) (fun _ _ _ h => h) hPT (by rfl) ?_ ?_
            rotate_left
            · (intro w; go_simp; with_reducible rfl)
            (clear hPT; intro hPT; simp only [List.getElem_toArray, List.getElem_cons_zero, List.getElem_cons_succ, Act.put, List.setIfInBounds_toArray, List.set_cons_zero, List.set_cons_succ])
            refine plan_one (i := 23) (by kernel_rfl) rfl (by rfl) (fun K hK => ?_)
            (try simp only [List.getElem_toArray, List.getElem_cons_zero, List.getElem_cons_succ, Act.put, List.setIfInBounds_toArray, List.set_cons_zero, List.set_cons_succ])
            go_simp
            refine hK.out [] _ _ (t_nil _) (k_drop (by kernel_rfl) (k_drop (by kernel_rfl) (k_drop (by kernel_rfl) k_nil))) (fun hPT' => ?_)
            (clear hPT hK K; have hPT := hPT'; clear hPT'; try simp only [List.getElem_toArray, List.getElem_cons_zero, List.getElem_cons_succ, Act.put, List.setIfInBounds_toArray, List.set_cons_zero, List.set_cons_succ])
            refine plan_take (i := 24) (v := ?_) rfl (by kernel_rfl) (by kernel_rfl) (by kernel_rfl) (fun _ _ _ h => h) hPT (by rfl) ?_ ?_
            rotate_left
            · (intro w; go_simp; with_reducible rfl)
            (clear hPT; intro hPT; simp only [List.getElem_toArray, List.getElem_cons_zero, List.getElem_cons_succ, Act.put, List.setIfInBounds_toArray, List.set_cons_zero, List.set_cons_succ])
            refine plan_take (i := 25) (v := ?_) rfl (by kernel_rfl) (by kernel_rfl) (by kernel_rfl) (fun _ _ _ h => h) hPT (by rfl) ?_ ?_
            rotate_left
            · (intro w; go_simp; with_reducible rfl)
            (clear hPT; intro hPT; simp only [List.getElem_toArray, List.getElem_cons_zero, List.getElem_cons_succ, Act.put, List.setIfInBounds_toArray, List.set_cons_zero, List.set_cons_succ])
            refine plan_one (i := 26) (by kernel_rfl) rfl (by rfl) (fun K hK => ?_)
            (try simp only [List.getElem_toArray, List.getElem_cons_zero, List.getElem_cons_succ, Act.put, List.setIfInBounds_toArray, List.set_cons_zero, List.set_cons_succ])
            go_simp
            refine hK.out [] _ _ (t_nil _) k_nil (fun hPT' => ?_)
            (clear hPT hK K; have hPT := hPT'; clear hPT'; try simp only [List.getElem_toArray, List.getElem_cons_zero, List.getElem_cons_succ, Act.put, List.setIfInBounds_toArray, List.set_cons_zero, List.set_cons_succ])
            refine plan_take (i := 27) (v := ?_) rfl (by kernel_rfl) (by kernel_rfl) (by kernel_rfl) (fun _ _ _ h => h) hPT (by rfl) ?_ ?_
            rotate_left
            · (intro w; go_simp; with_reducible rfl)
            (clear hPT; intro hPT; simp only [List.getElem_toArray, List.getElem_cons_zero, List.getElem_cons_succ, Act.put, List.setIfInBounds_toArray, List.set_cons_zero, List.set_cons_succ])
            refine plan_take (i := 28) (v := ?_) rfl (by kernel_rfl) (by kernel_rfl) (by kernel_rfl) (fun _ _ _ h => h) hPT (by rfl) ?_ ?_
            rotate_left
            · (intro w; go_simp; with_reducible rfl)
            (clear hPT; intro hPT; simp only [List.getElem_toArray, List.getElem_cons_zero, List.getElem_cons_succ, Act.put, List.setIfInBounds_toArray, List.set_cons_zero, List.set_cons_succ])
            refine plan_one (i := 29) (by kernel_rfl) rfl (by rfl) (fun K hK => ?_)
            (try simp only [List.getElem_toArray, List.getElem_cons_zero, List.getElem_cons_succ, Act.put, List.setIfInBounds_toArray, List.set_cons_zero, List.set_cons_succ])
            go_simp
            refine hK.out [] _ _ (t_nil _) k_nil (fun hPT' => ?_)
            (clear hPT hK K; have hPT := hPT'; clear hPT'; try simp only [List.getElem_toArray, List.getElem_cons_zero, List.getElem_cons_succ, Act.put, List.setIfInBounds_toArray, List.set_cons_zero, List.set_cons_succ])
            refine plan_done (by kernel_rfl) ?_ _
            clear hPT
            have HD := hide (MkS.done H.out HF.out HS.out HM.out)
            clear HM z0 z1 z2 z3 y0 y1 y2 y3
            go_wp2_with fail
            go_meet
            case rel => exact ⟨rfl, HD.out⟩
          case o7B =>
            (try simp only [List.getElem_toArray, List.getElem_cons_zero, List.getElem_cons_succ, Act.put, List.setIfInBounds_toArray, List.set_cons_zero, List.set_cons_succ])
            refine build_int rfl fun N13 w13 hN hw => ?_
            have HB13 := hide (HM.out.new_ hN hw)
            replace HB7 := hide (blk_more HB7.out hw)
            replace HB19 := hide (blk_more HB19.out hw)
            replace HM := hide (HM.out.alloc hw)
            clear hN hw
            obtain ⟨z0, z1, z2, z3, y0, y1, y2, y3⟩ := HM.out.blk.a4
            refine hK.out _ _ _ (t_cons z3 (t_cons z2 (t_cons z0 (t_nil _)))) k_same (fun hPT' => ?_)
            (clear hPT hK K; have hPT := hPT'; clear hPT'; try simp only [List.getElem_toArray, List.getElem_cons_zero, List.getElem_cons_succ, Act.put, List.setIfInBounds_toArray, List.set_cons_zero, List.set_cons_succ])
            clear z0 z1 z2 z3 y0 y1 y2 y3
            refine plan_one (i := 8) (by kernel_rfl) rfl (by rfl) (fun K hK => ?_)
            (try simp only [List.getElem_toArray, List.getElem_cons_zero, List.getElem_cons_succ, Act.put, List.setIfInBounds_toArray, List.set_cons_zero, List.set_cons_succ])
            refine wp_push _ (.tmp 25) (.tmp 26) _ rfl 0 25 _ 24 Tryd.underlying22 Tryd.infoRow rfl (.slice Ao s.outs.length co) s.outs.length vs rfl HM.out.out _ rfl 1 _ rfl (HB7.out.2.cell 0) (by have := HL12.out; omega) (by decide) (Nat.zero_le _) ?_
            intro g8 c8 w8 ho hg hat
            replace HB13 := hide (blk_push HB13.out hg HLO.out)
            replace HB19 := hide (blk_push HB19.out hg HLO.out)
            clear HB7
            replace HM := hide (HM.out.pushO ho hg hat)
            clear ho hg hat
            obtain ⟨z0, z1, z2, z3, y0, y1, y2, y3⟩ := HM.out.blk.a4
            refine hK.out _ _ _ (t_cons z3 (t_cons z2 (t_cons z0 (t_nil _)))) k_same (fun hPT' => ?_)
            (clear hPT hK K; have hPT := hPT'; clear hPT'; try simp only [List.getElem_toArray, List.getElem_cons_zero, List.getElem_cons_succ, Act.put, List.setIfInBounds_toArray, List.set_cons_zero, List.set_cons_succ])
            clear z0 z1 z2 z3 y0 y1 y2 y3
            refine plan_one (i := 14) (by kernel_rfl) rfl (by rfl) (fun K hK => ?_)
            (try simp only [List.getElem_toArray, List.getElem_cons_zero, List.getElem_cons_succ, Act.put, List.setIfInBounds_toArray, List.set_cons_zero, List.set_cons_succ])
            refine wp_push _ (.tmp 31) (.tmp 32) _ rfl 0 3 _ 8 Tryd.underlying25 Tryd.infoInt rfl (.slice Ac s.count.length cc) s.count.length (iv s.count) rfl HM.out.cnt _ rfl 1 _ rfl (HB13.out.2.cell 0) (by have := HL12.out; omega) (by decide) (Nat.zero_le _) ?_
            intro g14 c14 w14 ho hg hat
            replace HB19 := hide (blk_push HB19.out hg HLC.out)
            clear HB13
            replace HM := hide (HM.out.pushC ho hg hat)
            clear ho hg hat
            obtain ⟨z0, z1, z2, z3, y0, y1, y2, y3⟩ := HM.out.blk.a4
            refine hK.out _ _ _ (t_cons z3 (t_cons z2 (t_cons z0 (t_nil _)))) k_same (fun hPT' => ?_)
            (clear hPT hK K; have hPT := hPT'; clear hPT'; try simp only [List.getElem_toArray, List.getElem_cons_zero, List.getElem_cons_succ, Act.put, List.setIfInBounds_toArray, List.set_cons_zero, List.set_cons_succ])
            clear z0 z1 z2 z3 y0 y1 y2 y3
            refine plan_one (i := 20) (by kernel_rfl) rfl (by rfl) (fun K hK => ?_)
            (try simp only [List.getElem_toArray, List.getElem_cons_zero, List.getElem_cons_succ, Act.put, List.setIfInBounds_toArray, List.set_cons_zero, List.set_cons_succ])
            refine wp_push _ (.tmp 37) (.tmp 38) _ rfl 0 4 _ 1 Tryd.underlying26 Tryd.infoBool rfl (.slice Ag s.gone.length cg) s.gone.length (bv s.gone) rfl HM.out.gn _ rfl 1 _ rfl (HB19.out.2.cell 0) (by have := HL12.out; omega) (by decide) (Nat.zero_le _) ?_
            intro g20 c20 w20 ho hg hat
            clear HB19
            replace HM := hide (HM.out.pushG ho hg hat)
            clear ho hg hat
            obtain ⟨z0, z1, z2, z3, y0, y1, y2, y3⟩ := HM.out.blk.a4
            refine hK.out _ _ _ (t_cons z3 (t_cons z2 (t_cons z0 (t_nil _)))) k_same (fun hPT' => ?_)
            (clear hPT hK K; have hPT := hPT'; clear hPT'; try simp only [List.getElem_toArray, List.getElem_cons_zero, List.getElem_cons_succ, Act.put, List.setIfInBounds_toArray, List.set_cons_zero, List.set_cons_succ])
            clear z0 z1 z2 z3 y0 y1 y2 y3
            obtain ⟨z0, z1, z2, z3, y0, y1, y2, y3⟩ := HM.out.blk.a4
            refine plan_take (i := 21) (v := ?_) rfl (by kernel_rfl) (by kernel_rfl) (by kernel_rfl) (fun _ _ _ h => h) hPT (by rfl) ?_ ?_
            rotate_left
            · (intro w; go_simp; with_reducible rfl)
            (clear hPT; intro hPT; simp only [List.getElem_toArray, List.getElem_cons_zero, List.getElem_cons_succ, Act.put, List.setIfInBounds_toArray, List.set_cons_zero, List.set_cons_succ])
            refine plan_take (i := 22) (v := ?_) rfl (by kernel_rfl) (by kernel_rfl) (by kernel_rfl) (fun _ _ _ h => h) hPT (by rfl) ?_ ?_
            rotate_left
            · (intro w; go_simp; with_reducible rfl)
            (clear hPT; intro hPT; simp only [List.getElem_toArray, List.getElem_cons_zero, List.getElem_cons_succ, Act.put, List.setIfInBounds_toArray, List.set_cons_zero, List.set_cons_succ])
            refine plan_one (i := 23) (by kernel_rfl) rfl (by rfl) (fun K hK => ?_)
            (try simp only [List.getElem_toArray, List.getElem_cons_zero, List.getElem_cons_succ, Act.put, List.setIfInBounds_toArray, List.set_cons_zero, List.set_cons_succ])
            go_simp
            refine hK.out [] _ _ (t_nil _) (k_drop (by kernel_rfl) (k_drop (by kernel_rfl) (k_drop (by kernel_rfl) k_nil))) (fun hPT' => ?_)
            (clear hPT hK K; have hPT := hPT'; clear hPT'; try simp only [List.getElem_toArray, List.getElem_cons_zero, List.getElem_cons_succ, Act.put, List.setIfInBounds_toArray, List.set_cons_zero, List.set_cons_succ])
            refine plan_take (i := 24) (v := ?_) rfl (by kernel_rfl) (by kernel_rfl) (by kernel_rfl) (fun _ _ _ h => h) hPT (by rfl) ?_ ?_
            rotate_left
            · (intro w; go_simp; with_reducible rfl)
            (clear hPT; intro hPT; simp only [List.getElem_toArray, List.getElem_cons_zero, List.getElem_cons_succ, Act.put, List.setIfInBounds_toArray, List.set_cons_zero, List.set_cons_succ])
            refine plan_take (i := 25) (v := ?_) rfl (by kernel_rfl) (by kernel_rfl) (by kernel_rfl) (fun _ _ _ h => h) hPT (by rfl) ?_ ?_
            rotate_left
            · (intro w; go_simp; with_reducible rfl)
            (clear hPT; intro hPT; simp only [List.getElem_toArray, List.getElem_cons_zero, List.getElem_cons_succ, Act.put, List.setIfInBounds_toArray, List.set_cons_zero, List.set_cons_succ])
            refine plan_one (i := 26) (by kernel_rfl) rfl (by rfl) (fun K hK => ?_)
            (try simp only [List.getElem_toArray, List.getElem_cons_zero, List.getElem_cons_succ, Act.put, List.setIfInBounds_toArray, List.set_cons_zero, List.set_cons_succ])
            go_simp
            refine hK.out [] _ _ (t_nil _) k_nil (fun hPT' => ?_)
            (clear hPT hK K; have hPT := hPT'; clear hPT'; try simp only [List.getElem_toArray, List.getElem_cons_zero, List.getElem_cons_succ, Act.put, List.setIfInBounds_toArray, List.set_cons_zero, List.set_cons_succ])
            refine plan_take (i := 27) (v := ?_) rfl (by kernel_rfl) (by kernel_rfl) (by kernel_rfl) (fun _ _ _ h => h) hPT (by rfl) ?_ ?_
            rotate_left
            · (intro w; go_simp; with_reducible rfl)
            (clear hPT; intro hPT; simp only [List.getElem_toArray, List.getElem_cons_zero, List.getElem_cons_succ, Act.put, List.setIfInBounds_toArray, List.set_cons_zero, List.set_cons_succ])
            refine plan_take (i := 28) (v := ?_) rfl (by kernel_rfl) (by kernel_rfl) (by kernel_rfl) (fun _ _ _ h => h) hPT (by rfl) ?_ ?_
            rotate_left
            · (intro w; go_simp; with_reducible rfl)
            (clear hPT; intro hPT; simp only [List.getElem_toArray, List.getElem_cons_zero, List.getElem_cons_succ, Act.put, List.setIfInBounds_toArray, List.set_cons_zero, List.set_cons_succ])
            refine plan_one (i := 29) (by kernel_rfl) rfl (by rfl) (fun K hK => ?_)
            (try simp only [List.getElem_toArray, List.getElem_cons_zero, List.getElem_cons_succ, Act.put, List.setIfInBounds_toArray, List.set_cons_zero, List.set_cons_succ])
            go_simp
            refine hK.out [] _ _ (t_nil _) k_nil (fun hPT' => ?_)
            (clear hPT hK K; have hPT := hPT'; clear hPT'; try simp only [List.getElem_toArray, List.getElem_cons_zero, List.getElem_cons_succ, Act.put, List.setIfInBounds_toArray, List.set_cons_zero, List.set_cons_succ])
            refine plan_done (by kernel_rfl) ?_ _
            clear hPT
            have HD := hide (MkS.done H.out HF.out HS.out HM.out)
            clear HM z0 z1 z2 z3 y0 y1 y2 y3
            go_wp2_with fail
            go_meet
            case rel => exact ⟨rfl, HD.out⟩
      case o1B =>
        (try simp only [List.getElem_toArray, List.getElem_cons_zero, List.getElem_cons_succ, Act.put, List.setIfInBounds_toArray, List.set_cons_zero, List.set_cons_succ])
        refine build_int rfl fun N13 w13 hN hw => ?_
        have HB13 := hide (HM.out.new_ hN hw)
        replace HM := hide (HM.out.alloc hw)
        clear hN hw
        obtain ⟨z0, z1, z2, z3, y0, y1, y2, y3⟩ := HM.out.blk.a4
        refine hK.out _ _ _ (t_cons z3 (t_cons z2 (t_cons z0 (t_nil _)))) k_same (fun hPT' => ?_)
        (clear hPT hK K; have hPT := hPT'; clear hPT'; try simp only [List.getElem_toArray, List.getElem_cons_zero, List.getElem_cons_succ, Act.put, List.setIfInBounds_toArray, List.set_cons_zero, List.set_cons_succ])
        clear z0 z1 z2 z3 y0 y1 y2 y3
        refine plan_two (i := 7) (j := 19) (by kernel_rfl) rfl rfl (by rfl) (by rfl) (fun K hK => ?o8A) (fun K hK => ?o8B)
        case o8A =>
          (try simp only [List.getElem_toArray, List.getElem_cons_zero, List.getElem_cons_succ, Act.put, List.setIfInBounds_toArray, List.set_cons_zero, List.set_cons_succ])
          refine build_row rfl fun N7 w7 hN hw => ?_
          have HB7 := hide (HM.out.new_ hN hw)
          replace HB13 := hide (blk_more HB13.out hw)
          replace HM := hide (HM.out.alloc hw)
          clear hN hw
          obtain ⟨z0, z1, z2, z3, y0, y1, y2, y3⟩ := HM.out.blk.a4
          refine hK.out _ _ _ (t_cons z3 (t_cons z2 (t_cons z0 (t_nil _)))) k_same (fun hPT' => ?_)
          (clear hPT hK K; have hPT := hPT'; clear hPT'; try simp only [List.getElem_toArray, List.getElem_cons_zero, List.getElem_cons_succ, Act.put, List.setIfInBounds_toArray, List.set_cons_zero, List.set_cons_succ])
          clear z0 z1 z2 z3 y0 y1 y2 y3
          refine plan_two (i := 8) (j := 19) (by kernel_rfl) rfl rfl (by rfl) (by rfl) (fun K hK => ?o9A) (fun K hK => ?o9B)
          case o9A =>
            (try simp only [List.getElem_toArray, List.getElem_cons_zero, List.getElem_cons_succ, Act.put, List.setIfInBounds_toArray, List.set_cons_zero, List.set_cons_succ])
            refine wp_push _ (.tmp 25) (.tmp 26) _ rfl 0 25 _ 24 Tryd.underlying22 Tryd.infoRow rfl (.slice Ao s.outs.length co) s.outs.length vs rfl HM.out.out _ rfl 1 _ rfl (HB7.out.2.cell 0) (by have := HL12.out; omega) (by decide) (Nat.zero_le _) ?_
            intro g8 c8 w8 ho hg hat
            replace HB13 := hide (blk_push HB13.out hg HLO.out)
            clear HB7
            replace HM := hide (HM.out.pushO ho hg hat)
            clear ho hg hat
            obtain ⟨z0, z1, z2, z3, y0, y1, y2, y3⟩ := HM.out.blk.a4
            refine hK.out _ _ _ (t_cons z3 (t_cons z2 (t_cons z0 (t_nil _)))) k_same (fun hPT' => ?_)
            (clear hPT hK K; have hPT := hPT'; clear hPT'; try simp only [List.getElem_toArray, List.getElem_cons_zero, List.getElem_cons_succ, Act.put, List.setIfInBounds_toArray, List.set_cons_zero, List.set_cons_succ])
            clear z0 z1 z2 z3 y0 y1 y2 y3
            refine plan_two (i := 14) (j := 19) (by kernel_rfl) rfl rfl (by rfl) (by rfl) (fun K hK => ?o10A) (fun K hK => ?o10B)
            case o10A =>
              (try simp only [List.getElem_toArray, List.getElem_cons_zero, List.getElem_cons_succ, Act.put, List.setIfInBounds_toArray, List.set_cons_zero, List.set_cons_succ])
              refine wp_push _ (.tmp 31) (.tmp 32) _ rfl 0 3 _ 8 Tryd.underlying25 Tryd.infoInt rfl (.slice Ac s.count.length cc) s.count.length (iv s.count) rfl HM.out.cnt _ rfl 1 _ rfl (HB13.out.2.cell 0) (by have := HL12.out; omega) (by decide) (Nat.zero_le _) ?_
              intro g14 c14 w14 ho hg hat
              clear HB13
              replace HM := hide (HM.out.pushC ho hg hat)
              clear ho hg hat
              obtain ⟨z0, z1, z2, z3, y0, y1, y2, y3⟩ := HM.out.blk.a4
              refine hK.out _ _ _ (t_cons z3 (t_cons z2 (t_cons z0 (t_nil _)))) k_same (fun hPT' => ?_)
              (clear hPT hK K; have hPT := hPT'; clear hPT'; try simp only [List.getElem_toArray, List.getElem_cons_zero, List.getElem_cons_succ, Act.put, List.setIfInBounds_toArray, List.set_cons_zero, List.set_cons_succ])
              clear z0 z1 z2 z3 y0 y1 y2 y3
              refine plan_one (i := 19) (by kernel_rfl) rfl (by rfl) (fun K hK => ?_)
              (try simp only [List.getElem_toArray, List.getElem_cons_zero, List.getElem_cons_succ, Act.put, List.setIfInBounds_toArray, List.set_cons_zero, List.set_cons_succ])
              refine build_bool rfl fun N19 w19 hN hw => ?_
              have HB19 := hide (HM.out.new_ hN hw)
              replace HM := hide (HM.out.alloc hw)
              clear hN hw
              obtain ⟨z0, z1, z2, z3, y0, y1, y2, y3⟩ := HM.out.blk.a4
              refine hK.out _ _ _ (t_cons z3 (t_cons z2 (t_cons z0 (t_nil _)))) k_same (fun hPT' => ?_)
              (clear hPT hK K; have hPT := hPT'; clear hPT'; try simp only [List.getElem_toArray, List.getElem_cons_zero, List.getElem_cons_succ, Act.put, List.setIfInBounds_toArray, List.set_cons_zero, List.set_cons_succ])
              clear z0 z1 z2 z3 y0 y1 y2 y3
              refine plan_one (i := 20) (by kernel_rfl) rfl (by rfl) (fun K hK => ?_)
              (try simp only [List.getElem_toArray, List.getElem_cons_zero, List.getElem_cons_succ, Act.put, List.setIfInBounds_toArray, List.set_cons_zero, List.set_cons_succ])
              refine wp_push _ (.tmp 37) (.tmp 38) _ rfl 0 4 _ 1 Tryd.underlying26 Tryd.infoBool rfl (.slice Ag s.gone.length cg) s.gone.length (bv s.gone) rfl HM.out.gn _ rfl 1 _ rfl (HB19.out.2.cell 0) (by have := HL12.out; omega) (by decide) (Nat.zero_le _) ?_
              intro g20 c20 w20 ho hg hat
              clear HB19
              replace HM := hide (HM.out.pushG ho hg hat)
              clear ho hg hat
              obtain ⟨z0, z1, z2, z3, y0, y1, y2, y3⟩ := HM.out.blk.a4
              refine hK.out _ _ _ (t_cons z3 (t_cons z2 (t_cons z0 (t_nil _)))) k_same (fun hPT' => ?_)
              (clear hPT hK K; have hPT := hPT'; clear hPT'; try simp only [List.getElem_toArray, List.getElem_cons_zero, List.getElem_cons_succ, Act.put, List.setIfInBounds_toArray, List.set_cons_zero, List.set_cons_succ])
              clear z0 z1 z2 z3 y0 y1 y2 y3
              obtain ⟨z0, z1, z2, z3, y0, y1, y2, y3⟩ := HM.out.blk.a4
              refine plan_take (i := 21) (v := ?_) rfl (by kernel_rfl) (by kernel_rfl) (by kernel_rfl) (fun _ _ _ h => h) hPT (by rfl) ?_ ?_
              rotate_left
              · (intro w; go_simp; with_reducible rfl)
              (clear hPT; intro hPT; simp only [List.getElem_toArray, List.getElem_cons_zero, List.getElem_cons_succ, Act.put, List.setIfInBounds_toArray, List.set_cons_zero, List.set_cons_succ])
              refine plan_take (i := 22) (v := ?_) rfl (by kernel_rfl) (by kernel_rfl) (by kernel_rfl) (fun _ _ _ h => h) hPT (by rfl) ?_ ?_
              rotate_left
              · (intro w; go_simp; with_reducible rfl)
              (clear hPT; intro hPT; simp only [List.getElem_toArray, List.getElem_cons_zero, List.getElem_cons_succ, Act.put, List.setIfInBounds_toArray, List.set_cons_zero, List.set_cons_succ])
              refine plan_one (i := 23) (by kernel_rfl) rfl (by rfl) (fun K hK => ?_)
              (try simp only [List.getElem_toArray, List.getElem_cons_zero, List.getElem_cons_succ, Act.put, List.setIfInBounds_toArray, List.set_cons_zero, List.set_cons_succ])
              go_simp
              refine hK.out [] _ _ (t_nil _) (k_drop (by kernel_rfl) (k_drop (by kernel_rfl) (k_drop (by kernel_rfl) k_nil))) (fun hPT' => ?_)
              (clear hPT hK K; have hPT := hPT'; clear hPT'; try simp only [List.getElem_toArray, List.getElem_cons_zero, List.getElem_cons_succ, Act.put, List.setIfInBounds_toArray, List.set_cons_zero, List.set_cons_succ])
              refine plan_take (i := 24) (v := ?_) rfl (by kernel_rfl) (by kernel_rfl) (by kernel_rfl) (fun _ _ _ h => h) hPT (by rfl) ?_ ?_
              rotate_left
              · (intro w; go_simp; with_reducible rfl)
              (clear hPT; intro hPT; simp only [List.getElem_toArray, List.getElem_cons_zero, List.getElem_cons_succ, Act.put, List.setIfInBounds_toArray, List.set_cons_zero, List.set_cons_succ])
              refine plan_take (i := 25) (v := ?_) rfl (by kernel_rfl) (by kernel_rfl) (by kernel_rfl) (fun _ _ _ h => h) hPT (by rfl) ?_ ?_
              rotate_left
              · (intro w; go_simp; with_reducible rfl)
              (clear hPT; intro hPT; simp only [List.getElem_toArray, List.getElem_cons_zero, List.getElem_cons_succ, Act.put, List.setIfInBounds_toArray, List.set_cons_zero, List.set_cons_succ])
              refine plan_one (i := 26) (by kernel_rfl) rfl (by rfl) (fun K hK => ?_)
              (try simp only [List.getElem_toArray, List.getElem_cons_zero, List.getElem_cons_succ, Act.put, List.setIfInBounds_toArray, List.set_cons_zero, List.set_cons_succ])
              go_simp
              refine hK.out [] _ _ (t_nil _) k_nil (fun hPT' => ?_)
              (clear hPT hK K; have hPT := hPT'; clear hPT'; try simp only [List.getElem_toArray, List.getElem_cons_zero, List.getElem_cons_succ, Act.put, List.setIfInBounds_toArray, List.set_cons_zero, List.set_cons_succ])
              refine plan_take (i := 27) (v := ?_) rfl (by kernel_rfl) (by kernel_rfl) (by kernel_rfl) (fun _ _ _ h => h) hPT (by rfl) ?_ ?_
              rotate_left
              · (intro w; go_simp; with_reducible rfl)
              (clear hPT; intro hPT; simp only [List.getElem_toArray, List.getElem_cons_zero, List.getElem_cons_succ, Act.put, List.setIfInBounds_toArray, List.set_cons_zero, List.set_cons_succ])
              refine plan_take (i := 28) (v := ?_) rfl (by kernel_rfl) (by kernel_rfl) (by kernel_rfl) (fun _ _ _ h => h) hPT (by rfl) ?_ ?_
              rotate_left
              · (intro w; go_simp; with_reducible rfl)
              (clear hPT; intro hPT; simp only [List.getElem_toArray, List.getElem_cons_zero, List.getElem_cons_succ, Act.put, List.setIfInBounds_toArray, List.set_cons_zero, List.set_cons_succ])
              refine plan_one (i := 29) (by kernel_rfl) rfl (by rfl) (fun K hK => ?_)
              (try simp only [List.getElem_toArray, List.getElem_cons_zero, List.getElem_cons_succ, Act.put, List.setIfInBounds_toArray, List.set_cons_zero, List.set_cons_succ])
              go_simp
              refine hK.out [] _ _ (t_nil _) k_nil (fun hPT' => ?_)
              (clear hPT hK K; have hPT := hPT'; clear hPT'; try simp only [List.getElem_toArray, List.getElem_cons_zero, List.getElem_cons_succ, Act.put, List.setIfInBounds_toArray, List.set_cons_zero, List.set_cons_succ])
              refine plan_done (by kernel_rfl) ?_ _
              clear hPT
              have HD := hide (MkS.done H.out HF.out HS.out HM.out)
              clear HM z0 z1 z2 z3 y0 y1 y2 y3
              go_wp2_with fail
              go_meet
              case rel => exact ⟨rfl, HD.out⟩
            case o10B =>
              (try simp only [List.getElem_toArray, List.getElem_cons_zero, List.getElem_cons_succ, Act.put, List.setIfInBounds_toArray, List.set_cons_zero, List.set_cons_succ])
              refine build_bool rfl fun N19 w19 hN hw => ?_
              have HB19 := hide (HM.out.new_ hN hw)
              replace HB13 := hide (blk_more HB13.out hw)
              replace HM := hide (HM.out.alloc hw)
              clear hN hw
              obtain ⟨z0, z1, z2, z3, y0, y1, y2, y3⟩ := HM.out.blk.a4
              refine hK.out _ _ _ (t_cons z3 (t_cons z2 (t_cons z0 (t_nil _)))) k_same (fun hPT' => ?_)
              (clear hPT hK K; have hPT := hPT'; clear hPT'; try simp only [List.getElem_toArray, List.getElem_cons_zero, List.getElem_cons_succ, Act.put, List.setIfInBounds_toArray, List.set_cons_zero, List.set_cons_succ])
              clear z0 z1 z2 z3 y0 y1 y2 y3
              refine plan_one (i := 14) (by kernel_rfl) rfl (by rfl) (fun K hK => ?_)
              (try simp only [List.getElem_toArray, List.getElem_cons_zero, List.getElem_cons_succ, Act.put, List.setIfInBounds_toArray, List.set_cons_zero, List.set_cons_succ])
              refine wp_push _ (.tmp 31) (.tmp 32) _ rfl 0 3 _ 8 Tryd.underlying25 Tryd.infoInt rfl (.slice Ac s.count.length cc) s.count.length (iv s.count) rfl HM.out.cnt _ rfl 1 _ rfl (HB13.out.2.cell 0) (by have := HL12.out; omega) (by decide) (Nat.zero_le _) ?_
              intro g14 c14 w14 ho hg hat
              replace HB19 := hide (blk_push HB19.out hg HLC.out)
              clear HB13
              replace HM := hide (HM.out.pushC ho hg hat)
              clear ho hg hat
              obtain ⟨z0, z1, z2, z3, y0, y1, y2, y3⟩ := HM.out.blk.a4
              refine hK.out _ _ _ (t_cons z3 (t_cons z2 (t_cons z0 (t_nil _)))) k_same (fun hPT' => ?_)
              (clear hPT hK K; have hPT := hPT'; clear hPT'; try simp only [List.getElem_toArray, List.getElem_cons_zero, List.getElem_cons_succ, Act.put, List.setIfInBounds_toArray, List.set_cons_zero, List.set_cons_succ])
              clear z0 z1 z2 z3 y0 y1 y2 y3
              refine plan_one (i := 20) (by kernel_rfl) rfl (by rfl) (fun K hK => ?_)
              (try simp only [List.getElem_toArray, List.getElem_cons_zero, List.getElem_cons_succ, Act.put, List.setIfInBounds_toArray, List.set_cons_zero, List.set_cons_succ])
              refine wp_push _ (.tmp 37) (.tmp 38) _ rfl 0 4 _ 1 Tryd.underlying26 Tryd.infoBool rfl (.slice Ag s.gone.length cg) s.gone.length (bv s.gone) rfl HM.out.gn _ rfl 1 _ rfl (HB19.out.2.cell 0) (by have := HL12.out; omega) (by decide) (Nat.zero_le _) ?_
              intro g20 c20 w20 ho hg hat
              clear HB19
              replace HM := hide (HM.out.pushG ho hg hat)
              clear ho hg hat
              obtain ⟨z0, z1, z2, z3, y0, y1, y2, y3⟩ := HM.out.blk.a4
              refine hK.out _ _ _ (t_cons z3 (t_cons z2 (t_cons z0 (t_nil _)))) k_same (fun hPT' => ?_)
              (clear hPT hK K; have hPT := hPT'; clear hPT'; try simp only [List.getElem_toArray, List.getElem_cons_zero, List.getElem_cons_succ, Act.put, List.setIfInBounds_toArray, List.set_cons_zero, List.set_cons_succ])
              clear z0 z1 z2 z3 y0 y1 y2 y3
              obtain ⟨z0, z1, z2, z3, y0, y1, y2, y3⟩ := HM.out.blk.a4
              refine plan_take (i := 21) (v := ?_) rfl (by kernel_rfl) (by kernel_rfl) (by kernel_rfl) (fun _ _ _ h => h) hPT (by rfl) ?_ ?_
              rotate_left
              · (intro w; go_simp; with_reducible rfl)
              (clear hPT; intro hPT; simp only [List.getElem_toArray, List.getElem_cons_zero, List.getElem_cons_succ, Act.put, List.setIfInBounds_toArray, List.set_cons_zero, List.set_cons_succ])
              refine plan_take (i := 22) (v := ?_) rfl (by kernel_rfl) (by kernel_rfl) (by kernel_rfl) (fun _ _ _ h => h) hPT (by rfl) ?_ ?_
              rotate_left
              · (intro w; go_simp; with_reducible rfl)
              (clear hPT; intro hPT; simp only [List.getElem_toArray, List.getElem_cons_zero, List.getElem_cons_succ, Act.put, List.setIfInBounds_toArray, List.set_cons_zero, List.set_cons_succ])
              refine plan_one (i := 23) (by kernel_rfl) rfl (by rfl) (fun K hK => ?_)
              (try simp only [List.getElem_toArray, List.getElem_cons_zero, List.getElem_cons_succ, Act.put, List.setIfInBounds_toArray, List.set_cons_zero, List.set_cons_succ])
              go_simp
              refine hK.out [] _ _ (t_nil _) (k_drop (by kernel_rfl) (k_drop (by kernel_rfl) (k_drop (by kernel_rfl) k_nil))) (fun hPT' => ?_)
              (clear hPT hK K; have hPT := hPT'; clear hPT'; try simp only [List.getElem_toArray, List.getElem_cons_zero, List.getElem_cons_succ, Act.put, List.setIfInBounds_toArray, List.set_cons_zero, List.set_cons_succ])
              refine plan_take (i := 24) (v := ?_) rfl (by kernel_rfl) (by kernel_rfl) (by kernel_rfl) (fun _ _ _ h => h) hPT (by rfl) ?_ ?_
              rotate_left
              · (intro w; go_simp; with_reducible rfl)
              (clear hPT; intro hPT; simp only [List.getElem_toArray, List.getElem_cons_zero, List.getElem_cons_succ, Act.put, List.setIfInBounds_toArray, List.set_cons_zero, List.set_cons_succ])
              refine plan_take (i := 25) (v := ?_) rfl (by kernel_rfl) (by kernel_rfl) (by kernel_rfl) (fun _ _ _ h => h) hPT (by rfl) ?_ ?_
              rotate_left
              · (intro w; go_simp; with_reducible rfl)
              (clear hPT; intro hPT; simp only [List.getElem_toArray, List.getElem_cons_zero, List.getElem_cons_succ, Act.put, List.setIfInBounds_toArray, List.set_cons_zero, List.set_cons_succ])
              refine plan_one (i := 26) (by kernel_rfl) rfl (by rfl) (fun K hK => ?_)
              (try simp only [List.getElem_toArray, List.getElem_cons_zero, List.getElem_cons_succ, Act.put, List.setIfInBounds_toArray, List.set_cons_zero, List.set_cons_succ])
              go_simp
              refine hK.out [] _ _ (t_nil _) k_nil (fun hPT' => ?_)
              (clear hPT hK K; have hPT := hPT'; clear hPT'; try simp only [List.getElem_toArray, List.getElem_cons_zero, List.getElem_cons_succ, Act.put, List.setIfInBounds_toArray, List.set_cons_zero, List.set_cons_succ])
              refine plan_take (i := 27) (v := ?_) rfl (by kernel_rfl) (by kernel_rfl) (by kernel_rfl) (fun _ _ _ h => h) hPT (by rfl) ?_ ?_
              rotate_left
              · (intro w; go_simp; with_reducible rfl)
              (clear hPT; intro hPT; simp only [List.getElem_toArray, List.getElem_cons_zero, List.getElem_cons_succ, Act.put, List.setIfInBounds_toArray, List.set_cons_zero, List.set_cons_succ])
              refine plan_take (i := 28) (v := ?_) rfl (by kernel_rfl) (by kernel_rfl) (by kernel_rfl) (fun _ _ _ h => h) hPT (by rfl) ?_ ?_
              rotate_left
              · (intro w; go_simp; with_reducible rfl)
              (clear hPT; intro hPT; simp only [List.getElem_toArray, List.getElem_cons_zero, List.getElem_cons_succ, Act.put, List.setIfInBounds_toArray, List.set_cons_zero, List.set_cons_succ])
              refine plan_one (i := 29) (by kernel_rfl) rfl (by rfl) (fun K hK => ?_)
              (try simp only [List.getElem_toArray, List.getElem_cons_zero, List.getElem_cons_succ, Act.put, List.setIfInBounds_toArray, List.set_cons_zero, List.set_cons_succ])
              go_simp
              refine hK.out [] _ _ (t_nil _) k_nil (fun hPT' => ?_)
              (clear hPT hK K; have hPT := hPT'; clear hPT'; try simp only [List.getElem_toArray, List.getElem_cons_zero, List.getElem_cons_succ, Act.put, List.setIfInBounds_toArray, List.set_cons_zero, List.set_cons_succ])
              refine plan_done (by kernel_rfl) ?_ _
              clear hPT
              have HD := hide (MkS.done H.out HF.out HS.out HM.out)
              clear HM z0 z1 z2 z3 y0 y1 y2 y3
              go_wp2_with fail
              go_meet
              case rel => exact ⟨rfl, HD.out⟩
          case o9B =>
            (try simp only [List.getElem_toArray, List.getElem_cons_zero, List.getElem_cons_succ, Act.put, List.setIfInBounds_toArray, List.set_cons_zero, List.set_cons_succ])
            refine build_bool rfl fun N19 w19 hN hw => ?_
            have HB19 := hide (HM.out.new_ hN hw)
            replace HB7 := hide (blk_more HB7.out hw)
            replace HB13 := hide (blk_more HB13.out hw)
            replace HM := hide (HM.out.alloc hw)
            clear hN hw
            obtain ⟨z0, z1, z2, z3, y0, y1, y2, y3⟩ := HM.out.blk.a4
            refine hK.out _ _ _ (t_cons z3 (t_cons z2 (t_cons z0 (t_nil _)))) k_same (fun hPT' => ?_)
            (clear hPT hK K; have hPT := hPT'; clear hPT'; try simp only [List.getElem_toArray, List.getElem_cons_zero, List.getElem_cons_succ, Act.put, List.setIfInBounds_toArray, List.set_cons_zero, List.set_cons_succ])
            clear z0 z1 z2 z3 y0 y1 y2 y3
            refine plan_one (i := 8) (by kernel_rfl) rfl (by rfl) (fun K hK => ?_)
            (try simp only [List.getElem_toArray, List.getElem_cons_zero, List.getElem_cons_succ, Act.put, List.setIfInBounds_toArray, List.set_cons_zero, List.set_cons_succ])
            refine wp_push _ (.tmp 25) (.tmp 26) _ rfl 0 25 _ 24 Tryd.underlying22 Tryd.infoRow rfl (.slice Ao s.outs.length co) s.outs.length vs rfl HM.out.out _ rfl 1 _ rfl (HB7.out.2.cell 0) (by have := HL12.out; omega) (by decide) (Nat.zero_le _) ?_
            intro g8 c8 w8 ho hg hat
            replace HB13 := hide (blk_push HB13.out hg HLO.out)
            replace HB19 := hide (blk_push HB19.out hg HLO.out)
            clear HB7
            replace HM := hide (HM.out.pushO ho hg hat)
            clear ho hg hat
            obtain ⟨z0, z1, z2, z3, y0, y1, y2, y3⟩ := HM.out.blk.a4
            refine hK.out _ _ _ (t_cons z3 (t_cons z2 (t_cons z0 (t_nil _)))) k_same (fun hPT' => ?_)
            (clear hPT hK K; have hPT := hPT'; clear hPT'; try simp only [List.getElem_toArray, List.getElem_cons_zero, List.getElem_cons_succ, Act.put, List.setIfInBounds_toArray, List.set_cons_zero, List.set_cons_succ])
            clear z0 z1 z2 z3 y0 y1 y2 y3
            refine plan_one (i := 14) (by kernel_rfl) rfl (by rfl) (fun K hK => ?_)
            (try simp only [List.getElem_toArray, List.getElem_cons_zero, List.getElem_cons_succ, Act.put, List.setIfInBounds_toArray, List.set_cons_zero, List.set_cons_succ])
            refine wp_push _ (.tmp 31) (.tmp 32) _ rfl 0 3 _ 8 Tryd.underlying25 Tryd.infoInt rfl (.slice Ac s.count.length cc) s.count.length (iv s.count) rfl HM.out.cnt _ rfl 1 _ rfl (HB13.out.2.cell 0) (by have := HL12.out; omega) (by decide) (Nat.zero_le _) ?_
            intro g14 c14 w14 ho hg hat
            replace HB19 := hide (blk_push HB19.out hg HLC.out)
            clear HB13
            replace HM := hide (HM.out.pushC ho hg hat)
            clear ho hg hat
            obtain ⟨z0, z1, z2, z3, y0, y1, y2, y3⟩ := HM.out.blk.a4
            refine hK.out _ _ _ (t_cons z3 (t_cons z2 (t_cons z0 (t_nil _)))) k_same (fun hPT' => ?_)
            (clear hPT hK K; have hPT := hPT'; clear hPT'; try simp only [List.getElem_toArray, List.getElem_cons_zero, List.getElem_cons_succ, Act.put, List.setIfInBounds_toArray, List.set_cons_zero, List.set_cons_succ])
            clear z0 z1 z2 z3 y0 y1 y2 y3
            refine plan_one (i := 20) (by kernel_rfl) rfl (by rfl) (fun K hK => ?_)
            (try simp only [List.getElem_toArray, List.getElem_cons_zero, List.getElem_cons_succ, Act.put, List.setIfInBounds_toArray, List.set_cons_zero, List.set_cons_succ])
            refine wp_push _ (.tmp 37) (.tmp 38) _ rfl 0 4 _ 1 Tryd.underlying26 Tryd.infoBool rfl (.slice Ag s.gone.length cg) s.gone.length (bv s.gone) rfl HM.out.gn _ rfl 1 _ rfl (HB19.out.2.cell 0) (by have := HL12.out; omega) (by decide) (Nat.zero_le _) ?_
            intro g20 c20 w20 ho hg hat
            clear HB19
            replace HM := hide (HM.out.pushG ho hg hat)
            clear ho hg hat
            obtain ⟨z0, z1, z2, z3, y0, y1, y2, y3⟩ := HM.out.blk.a4
            refine hK.out _ _ _ (t_cons z3 (t_cons z2 (t_cons z0 (t_nil _)))) k_same (fun hPT' => ?_)
            (clear hPT hK K; have hPT := hPT'; clear hPT'; try simp only [List.getElem_toArray, List.getElem_cons_zero, List.getElem_cons_succ, Act.put, List.setIfInBounds_toArray, List.set_cons_zero, List.set_cons_succ])
            clear z0 z1 z2 z3 y0 y1 y2 y3
            obtain ⟨z0, z1, z2, z3, y0, y1, y2, y3⟩ := HM.out.blk.a4
            refine plan_take (i := 21) (v := ?_) rfl (by kernel_rfl) (by kernel_rfl) (by kernel_rfl) (fun _ _ _ h => h) hPT (by rfl) ?_ ?_
            rotate_left
            · (intro w; go_simp; with_reducible rfl)
            (clear hPT; intro hPT; simp only [List.getElem_toArray, List.getElem_cons_zero, List.getElem_cons_succ, Act.put, List.setIfInBounds_toArray, List.set_cons_zero, List.set_cons_succ])
            refine plan_take (i := 22) (v := ?_) rfl (by kernel_rfl) (by kernel_rfl) (by kernel_rfl) (fun _ _ _ h => h) hPT (by rfl) ?_ ?_
            rotate_left
            · (intro w; go_simp; with_reducible rfl)
            (clear hPT; intro hPT; simp only [List.getElem_toArray, List.getElem_cons_zero, List.getElem_cons_succ, Act.put, List.setIfInBounds_toArray, List.set_cons_zero, List.set_cons_succ])
            refine plan_one (i := 23) (by kernel_rfl) rfl (by rfl) (fun K hK => ?_)
            (try simp only [List.getElem_toArray, List.getElem_cons_zero, List.getElem_cons_succ, Act.put, List.setIfInBounds_toArray, List.set_cons_zero, List.set_cons_succ])
            go_simp
            refine hK.out [] _ _ (t_nil _) (k_drop (by kernel_rfl) (k_drop (by kernel_rfl) (k_drop (by kernel_rfl) k_nil))) (fun hPT' => ?_)
            (clear hPT hK K; have hPT := hPT'; clear hPT'; try simp only [List.getElem_toArray, List.getElem_cons_zero, List.getElem_cons_succ, Act.put, List.setIfInBounds_toArray, List.set_cons_zero, List.set_cons_succ])
            refine plan_take (i := 24) (v := ?_) rfl (by kernel_rfl) (by kernel_rfl) (by kernel_rfl) (fun _ _ _ h => h) hPT (by rfl) ?_ ?_
            rotate_left
            · (intro w; go_simp; with_reducible rfl)
            (clear hPT; intro hPT; simp only [List.getElem_toArray, List.getElem_cons_zero, List.getElem_cons_succ, Act.put, List.setIfInBounds_toArray, List.set_cons_zero, List.set_cons_succ])
            refine plan_take (i := 25) (v := ?_) rfl (by kernel_rfl) (by kernel_rfl) (by kernel_rfl) (fun _ _ _ h => h) hPT (by rfl) ?_ ?_
            rotate_left
            · (intro w; go_simp; with_reducible rfl)
            (clear hPT; intro hPT; simp only [List.getElem_toArray, List.getElem_cons_zero, List.getElem_cons_succ, Act.put, List.setIfInBounds_toArray, List.set_cons_zero, List.set_cons_succ])
            refine plan_one (i := 26) (by kernel_rfl) rfl (by rfl) (fun K hK => ?_)
            (try simp only [List.getElem_toArray, List.getElem_cons_zero, List.getElem_cons_succ, Act.put, List.setIfInBounds_toArray, List.set_cons_zero, List.set_cons_succ])
            go_simp
            refine hK.out [] _ _ (t_nil _) k_nil (fun hPT' => ?_)
            (clear hPT hK K; have hPT := hPT'; clear hPT'; try simp only [List.getElem_toArray, List.getElem_cons_zero, List.getElem_cons_succ, Act.put, List.setIfInBounds_toArray, List.set_cons_zero, List.set_cons_succ])
            refine plan_take (i := 27) (v := ?_) rfl (by kernel_rfl) (by kernel_rfl) (by kernel_rfl) (fun _ _ _ h => h) hPT (by rfl) ?_ ?_
            rotate_left
            · (intro w; go_simp; with_reducible rfl)
            (clear hPT; intro hPT; simp only [List.getElem_toArray, List.getElem_cons_zero, List.getElem_cons_succ, Act.put, List.setIfInBounds_toArray, List.set_cons_zero, List.set_cons_succ])
            refine plan_take (i := 28) (v := ?_) rfl (by kernel_rfl) (by kernel_rfl) (by kernel_rfl) (fun _ _ _ h => h) hPT (by rfl) ?_ ?_
            rotate_left
            · (intro w; go_simp; with_reducible rfl)
            (clear hPT; intro hPT; simp only [List.getElem_toArray, List.getElem_cons_zero, List.getElem_cons_succ, Act.put, List.setIfInBounds_toArray, List.set_cons_zero, List.set_cons_succ])
            refine plan_one (i := 29) (by kernel_rfl) rfl (by rfl) (fun K hK => ?_)
            (try simp only [List.getElem_toArray, List.getElem_cons_zero, List.getElem_cons_succ, Act.put, List.setIfInBounds_toArray, List.set_cons_zero, List.set_cons_succ])
            go_simp
            refine hK.out [] _ _ (t_nil _) k_nil (fun hPT' => ?_)
            (clear hPT hK K; have hPT := hPT'; clear hPT'; try simp only [List.getElem_toArray, List.getElem_cons_zero, List.getElem_cons_succ, Act.put, List.setIfInBounds_toArray, List.set_cons_zero, List.set_cons_succ])
            refine plan_done (by kernel_rfl) ?_ _
            clear hPT
            have HD := hide (MkS.done H.out HF.out HS.out HM.out)
            clear HM z0 z1 z2 z3 y0 y1 y2 y3
            go_wp2_with fail
            go_meet
            case rel => exact ⟨rfl, HD.out⟩
        case o8B =>
          (try simp only [List.getElem_toArray, List.getElem_cons_zero, List.getElem_cons_succ, Act.put, List.setIfInBounds_toArray, List.set_cons_zero, List.set_cons_succ])
          refine build_bool rfl fun N19 w19 hN hw => ?_
          have HB19 := hide (HM.out.new_ hN hw)
          replace HB13 := hide (blk_more HB13.out hw)
          replace HM := hide (HM.out.alloc hw)
          clear hN hw
          obtain ⟨z0, z1, z2, z3, y0, y1, y2, y3⟩ := HM.out.blk.a4
          refine hK.out _ _ _ (t_cons z3 (t_cons z2 (t_cons z0 (t_nil _)))) k_same (fun hPT' => ?_)
          (clear hPT hK K; have hPT := hPT'; clear hPT'; try simp only [List.getElem_toArray, List.getElem_cons_zero, List.getElem_cons_succ, Act.put, List.setIfInBounds_toArray, List.set_cons_zero, List.set_cons_succ])
          clear z0 z1 z2 z3 y0 y1 y2 y3
          refine plan_one (i := 7) (by kernel_rfl) rfl (by rfl) (fun K hK => ?_)
          (try simp only [List.getElem_toArray, List.getElem_cons_zero, List.getElem_cons_succ, Act.put, List.setIfInBounds_toArray, List.set_cons_zero, List.set_cons_succ])
          refine build_row rfl fun N7 w7 hN hw => ?_
          have HB7 := hide (HM.out.new_ hN hw)
          replace HB13 := hide (blk_more HB13.out hw)
          replace HB19 := hide (blk_more HB19.out hw)
          replace HM := hide (HM.out.alloc hw)
          clear hN hw
          obtain ⟨z0, z1, z2, z3, y0, y1, y2, y3⟩ := HM.out.blk.a4
          refine hK.out _ _ _ (t_cons z3 (t_cons z2 (t_cons z0 (t_nil _)))) k_same (fun hPT' => ?_)
          (clear hPT hK K; have hPT := hPT'; clear hPT'; try simp only [List.getElem_toArray, List.getElem_cons_zero, List.getElem_cons_succ, Act.put, List.setIfInBounds_toArray, List.set_cons_zero, List.set_cons_succ])
          clear z0 z1 z2 z3 y0 y1 y2 y3
          refine plan_one (i := 8) (by kernel_rfl) rfl (by rfl) (fun K hK => ?_)
          (try simp only [List.getElem_toArray, List.getElem_cons_zero, List.getElem_cons_succ, Act.put, List.setIfInBounds_toArray, List.set_cons_zero, List.set_cons_succ])
          refine wp_push _ (.tmp 25) (.tmp 26) _ rfl 0 25 _ 24 Tryd.underlying22 Tryd.infoRow rfl (.slice Ao s.outs.length co) s.outs.length vs rfl HM.out.out _ rfl 1 _ rfl (HB7.out.2.cell 0) (by have := HL12.out; omega) (by decide) (Nat.zero_le _) ?_
          intro g8 c8 w8 ho hg hat
          replace HB13 := hide (blk_push HB13.out hg HLO.out)
          replace HB19 := hide (blk_push HB19.out hg HLO.out)
          clear HB7
          replace HM := hide (HM.out.pushO ho hg hat)
          clear ho hg hat
          obtain ⟨z0, z1, z2, z3, y0, y1, y2, y3⟩ := HM.out.blk.a4
          refine hK.out _ _ _ (t_cons z3 (t_cons z2 (t_cons z0 (t_nil _)))) k_same (fun hPT' => ?_)
          (clear hPT hK K; have hPT := hPT'; clear hPT'; try simp only [List.getElem_toArray, List.getElem_cons_zero, List.getElem_cons_succ, Act.put, List.setIfInBounds_toArray, List.set_cons_zero, List.set_cons_succ])
          clear z0 z1 z2 z3 y0 y1 y2 y3
          refine plan_one (i := 14) (by kernel_rfl) rfl (by rfl) (fun K hK => ?_)
          (try simp only [List.getElem_toArray, List.getElem_cons_zero, List.getElem_cons_succ, Act.put, List.setIfInBounds_toArray, List.set_cons_zero, List.set_cons_succ])
          refine wp_push _ (.tmp 31) (.tmp 32) _ rfl 0 3 _ 8 Tryd.underlying25 Tryd.infoInt rfl (.slice Ac s.count.length cc) s.count.length (iv s.count) rfl HM.out.cnt _ rfl 1 _ rfl (HB13.out.2.cell 0) (by have := HL12.out; omega) (by decide) (Nat.zero_le _) ?_
          intro g14 c14 w14 ho hg hat
          replace HB19 := hide (blk_push HB19.out hg HLC.out)
          clear HB13
          replace HM := hide (HM.out.pushC ho hg hat)
          clear ho hg hat
          obtain ⟨z0, z1, z2, z3, y0, y1, y2, y3⟩ := HM.out.blk.a4
          refine hK.out _ _ _ (t_cons z3 (t_cons z2 (t_cons z0 (t_nil _)))) k_same (fun hPT' => ?_)
          (clear hPT hK K; have hPT := hPT'; clear hPT'; try simp only [List.getElem_toArray, List.getElem_cons_zero, List.getElem_cons_succ, Act.put, List.setIfInBounds_toArray, List.set_cons_zero, List.set_cons_succ])
          clear z0 z1 z2 z3 y0 y1 y2 y3
          refine plan_one (i := 20) (by kernel_rfl) rfl (by rfl) (fun K hK => ?_)
          (try simp only [List.getElem_toArray, List.getElem_cons_zero, List.getElem_cons_succ, Act.put, List.setIfInBounds_toArray, List.set_cons_zero, List.set_cons_succ])
          refine wp_push _ (.tmp 37) (.tmp 38) _ rfl 0 4 _ 1 Tryd.underlying26 Tryd.infoBool rfl (.slice Ag s.gone.length cg) s.gone.length (bv s.gone) rfl HM.out.gn _ rfl 1 _ rfl (HB19.out.2.cell 0) (by have := HL12.out; omega) (by decide) (Nat.zero_le _) ?_
          intro g20 c20 w20 ho hg hat
          clear HB19
          replace HM := hide (HM.out.pushG ho hg hat)
          clear ho hg hat
          obtain ⟨z0, z1, z2, z3, y0, y1, y2, y3⟩ := HM.out.blk.a4
          refine hK.out _ _ _ (t_cons z3 (t_cons z2 (t_cons z0 (t_nil _)))) k_same (fun hPT' => ?_)
          (clear hPT hK K; have hPT := hPT'; clear hPT'; try simp only [List.getElem_toArray, List.getElem_cons_zero, List.getElem_cons_succ, Act.put, List.setIfInBounds_toArray, List.set_cons_zero, List.set_cons_succ])
          clear z0 z1 z2 z3 y0 y1 y2 y3
          obtain ⟨z0, z1, z2, z3, y0, y1, y2, y3⟩ := HM.out.blk.a4
          refine plan_take (i := 21) (v := ?_) rfl (by kernel_rfl) (by kernel_rfl) (by kernel_rfl) (fun _ _ _ h => h) hPT (by rfl) ?_ ?_
          rotate_left
          · (intro w; go_simp; with_reducible rfl)
          (clear hPT; intro hPT; simp only [List.getElem_toArray, List.getElem_cons_zero, List.getElem_cons_succ, Act.put, List.setIfInBounds_toArray, List.set_cons_zero, List.set_cons_succ])
          refine plan_take (i := 22) (v := ?_) rfl (by kernel_rfl) (by kernel_rfl) (by kernel_rfl) (fun _ _ _ h => h) hPT (by rfl) ?_ ?_
          rotate_left
          · (intro w; go_simp; with_reducible rfl)
          (clear hPT; intro hPT; simp only [List.getElem_toArray, List.getElem_cons_zero, List.getElem_cons_succ, Act.put, List.setIfInBounds_toArray, List.set_cons_zero, List.set_cons_succ])
          refine plan_one (i := 23) (by kernel_rfl) rfl (by rfl) (fun K hK => ?_)
          (try simp only [List.getElem_toArray, List.getElem_cons_zero, List.getElem_cons_succ, Act.put, List.setIfInBounds_toArray, List.set_cons_zero, List.set_cons_succ])
          go_simp
          refine hK.out [] _ _ (t_nil _) (k_drop (by kernel_rfl) (k_drop (by kernel_rfl) (k_drop (by kernel_rfl) k_nil))) (fun hPT' => ?_)
          (clear hPT hK K; have hPT := hPT'; clear hPT'; try simp only [List.getElem_toArray, List.getElem_cons_zero, List.getElem_cons_succ, Act.put, List.setIfInBounds_toArray, List.set_cons_zero, List.set_cons_succ])
          refine plan_take (i := 24) (v := ?_) rfl (by kernel_rfl) (by kernel_rfl) (by kernel_rfl) (fun _ _ _ h => h) hPT (by rfl) ?_ ?_
          rotate_left
          · (intro w; go_simp; with_reducible rfl)
          (clear hPT; intro hPT; simp only [List.getElem_toArray, List.getElem_cons_zero, List.getElem_cons_succ, Act.put, List.setIfInBounds_toArray, List.set_cons_zero, List.set_cons_succ])
          refine plan_take (i := 25) (v := ?_) rfl (by kernel_rfl) (by kernel_rfl) (by kernel_rfl) (fun _ _ _ h => h) hPT (by rfl) ?_ ?_
          rotate_left
          · (intro w; go_simp; with_reducible rfl)
          (clear hPT; intro hPT; simp only [List.getElem_toArray, List.getElem_cons_zero, List.getElem_cons_succ, Act.put, List.setIfInBounds_toArray, List.set_cons_zero, List.set_cons_succ])
          refine plan_one (i := 26) (by kernel_rfl) rfl (by rfl) (fun K hK => ?_)
          (try simp only [List.getElem_toArray, List.getElem_cons_zero, List.getElem_cons_succ, Act.put, List.setIfInBounds_toArray, List.set_cons_zero, List.set_cons_succ])
          go_simp
          refine hK.out [] _ _ (t_nil _) k_nil (fun hPT' => ?_)
          (clear hPT hK K; have hPT := hPT'; clear hPT'; try simp only [List.getElem_toArray, List.getElem_cons_zero, List.getElem_cons_succ, Act.put, List.setIfInBounds_toArray, List.set_cons_zero, List.set_cons_succ])
          refine plan_take (i := 27) (v := ?_) rfl (by kernel_rfl) (by kernel_rfl) (by kernel_rfl) (fun _ _ _ h => h) hPT (by rfl) ?_ ?_
          rotate_left
          · (intro w; go_simp; with_reducible rfl)
          (clear hPT; intro hPT; simp only [List.getElem_toArray, List.getElem_cons_zero, List.getElem_cons_succ, Act.put, List.setIfInBounds_toArray, List.set_cons_zero, List.set_cons_succ])
          refine plan_take (i := 28) (v := ?_) rfl (by kernel_rfl) (by kernel_rfl) (by kernel_rfl) (fun _ _ _ h => h) hPT (by rfl) ?_ ?_
          rotate_left
          · (intro w; go_simp; with_reducible rfl)
          (clear hPT; intro hPT; simp only [List.getElem_toArray, List.getElem_cons_zero, List.getElem_cons_succ, Act.put, List.setIfInBounds_toArray, List.set_cons_zero, List.set_cons_succ])
          refine plan_one (i := 29) (by kernel_rfl) rfl (by rfl) (fun K hK => ?_)
          (try simp only [List.getElem_toArray, List.getElem_cons_zero, List.getElem_cons_succ, Act.put, List.setIfInBounds_toArray, List.set_cons_zero, List.set_cons_succ])
          go_simp
          refine hK.out [] _ _ (t_nil _) k_nil (fun hPT' => ?_)
          (clear hPT hK K; have hPT := hPT'; clear hPT'; try simp only [List.getElem_toArray, List.getElem_cons_zero, List.getElem_cons_succ, Act.put, List.setIfInBounds_toArray, List.set_cons_zero, List.set_cons_succ])
          refine plan_done (by kernel_rfl) ?_ _
          clear hPT
          have HD := hide (MkS.done H.out HF.out HS.out HM.out)
          clear HM z0 z1 z2 z3 y0 y1 y2 y3
          go_wp2_with fail
          go_meet
          case rel => exact ⟨rfl, HD.out⟩
      case o1C =>
        (try simp only [List.getElem_toArray, List.getElem_cons_zero, List.getElem_cons_succ, Act.put, List.setIfInBounds_toArray, List.set_cons_zero, List.set_cons_succ])
        refine build_bool rfl fun N19 w19 hN hw => ?_
        have HB19 := hide (HM.out.new_ hN hw)
        replace HM := hide (HM.out.alloc hw)
        clear hN hw
        obtain ⟨z0, z1, z2, z3, y0, y1, y2, y3⟩ := HM.out.blk.a4
        refine hK.out _ _ _ (t_cons z3 (t_cons z2 (t_cons z0 (t_nil _)))) k_same (fun hPT' => ?_)
        (clear hPT hK K; have hPT := hPT'; clear hPT'; try simp only [List.getElem_toArray, List.getElem_cons_zero, List.getElem_cons_succ, Act.put, List.setIfInBounds_toArray, List.set_cons_zero, List.set_cons_succ])
        clear z0 z1 z2 z3 y0 y1 y2 y3
        refine plan_two (i := 7) (j := 13) (by kernel_rfl) rfl rfl (by rfl) (by rfl) (fun K hK => ?o11A) (fun K hK => ?o11B)
        case o11A =>
          (try simp only [List.getElem_toArray, List.getElem_cons_zero, List.getElem_cons_succ, Act.put, List.setIfInBounds_toArray, List.set_cons_zero, List.set_cons_succ])
          refine build_row rfl fun N7 w7 hN hw => ?_
          have HB7 := hide (HM.out.new_ hN hw)
          replace HB19 := hide (blk_more HB19.out hw)
          replace HM := hide (HM.out.alloc hw)
          clear hN hw
          obtain ⟨z0, z1, z2, z3, y0, y1, y2, y3⟩ := HM.out.blk.a4
          refine hK.out _ _ _ (t_cons z3 (t_cons z2 (t_cons z0 (t_nil _)))) k_same (fun hPT' => ?_)
          (clear hPT hK K; have hPT := hPT'; clear hPT'; try simp only [List.getElem_toArray, List.getElem_cons_zero, List.getElem_cons_succ, Act.put, List.setIfInBounds_toArray, List.set_cons_zero, List.set_cons_succ])
          clear z0 z1 z2 z3 y0 y1 y2 y3
          refine plan_two (i := 8) (j := 13) (by kernel_rfl) rfl rfl (by rfl) (by rfl) (fun K hK => ?o12A) (fun K hK => ?o12B)
          case o12A =>
            (try simp only [List.getElem_toArray, List.getElem_cons_zero, List.getElem_cons_succ, Act.put, List.setIfInBounds_toArray, List.set_cons_zero, List.set_cons_succ])
            refine wp_push _ (.tmp 25) (.tmp 26) _ rfl 0 25 _ 24 Tryd.underlying22 Tryd.infoRow rfl (.slice Ao s.outs.length co) s.outs.length vs rfl HM.out.out _ rfl 1 _ rfl (HB7.out.2.cell 0) (by have := HL12.out; omega) (by decide) (Nat.zero_le _) ?_
            intro g8 c8 w8 ho hg hat
            replace HB19 := hide (blk_push HB19.out hg HLO.out)
            clear HB7
            replace HM := hide (HM.out.pushO ho hg hat)
            clear ho hg hat
            obtain ⟨z0, z1, z2, z3, y0, y1, y2, y3⟩ := HM.out.blk.a4
            refine hK.out _ _ _ (t_cons z3 (t_cons z2 (t_cons z0 (t_nil _)))) k_same (fun hPT' => ?_)
            (clear hPT hK K; have hPT := hPT'; clear hPT'; try simp only [List.getElem_toArray, List.getElem_cons_zero, List.getElem_cons_succ, Act.put, List.setIfInBounds_toArray, List.set_cons_zero, List.set_cons_succ])
            clear z0 z1 z2 z3 y0 y1 y2 y3
            refine plan_one (i := 13) (by kernel_rfl) rfl (by rfl) (fun K hK => ?_)
            (try simp only [List.getElem_toArray, List.getElem_cons_zero, List.getElem_cons_succ, Act.put, List.setIfInBounds_toArray, List.set_cons_zero, List.set_cons_succ])
            refine build_int rfl fun N13 w13 hN hw => ?_
            have HB13 := hide (HM.out.new_ hN hw)
            replace HB19 := hide (blk_more HB19.out hw)
            replace HM := hide (HM.out.alloc hw)
            clear hN hw
            obtain ⟨z0, z1, z2, z3, y0, y1, y2, y3⟩ := HM.out.blk.a4
            refine hK.out _ _ _ (t_cons z3 (t_cons z2 (t_cons z0 (t_nil _)))) k_same (fun hPT' => ?_)
            (clear hPT hK K; have hPT := hPT'; clear hPT'; try simp only [List.getElem_toArray, List.getElem_cons_zero, List.getElem_cons_succ, Act.put, List.setIfInBounds_toArray, List.set_cons_zero, List.set_cons_succ])
            clear z0 z1 z2 z3 y0 y1 y2 y3
            refine plan_one (i := 14) (by kernel_rfl) rfl (by rfl) (fun K hK => ?_)
            (try simp only [List.getElem_toArray, List.getElem_cons_zero, List.getElem_cons_succ, Act.put, List.setIfInBounds_toArray, List.set_cons_zero, List.set_cons_succ])
            refine wp_push _ (.tmp 31) (.tmp 32) _ rfl 0 3 _ 8 Tryd.underlying25 Tryd.infoInt rfl (.slice Ac s.count.length cc) s.count.length (iv s.count) rfl HM.out.cnt _ rfl 1 _ rfl (HB13.out.2.cell 0) (by have := HL12.out; omega) (by decide) (Nat.zero_le _) ?_
            intro g14 c14 w14 ho hg hat
            replace HB19 := hide (blk_push HB19.out hg HLC.out)
            clear HB13
            replace HM := hide (HM.out.pushC ho hg hat)
            clear ho hg hat
            obtain ⟨z0, z1, z2, z3, y0, y1, y2, y3⟩ := HM.out.blk.a4
            refine hK.out _ _ _ (t_cons z3 (t_cons z2 (t_cons z0 (t_nil _)))) k_same (fun hPT' => ?_)
            (clear hPT hK K; have hPT := hPT'; clear hPT'; try simp only [List.getElem_toArray, List.getElem_cons_zero, List.getElem_cons_succ, Act.put, List.setIfInBounds_toArray, List.set_cons_zero, List.set_cons_succ])
            clear z0 z1 z2 z3 y0 y1 y2 y3
            refine plan_one (i := 20) (by kernel_rfl) rfl (by rfl) (fun K hK => ?_)
            (try simp only [List.getElem_toArray, List.getElem_cons_zero, List.getElem_cons_succ, Act.put, List.setIfInBounds_toArray, List.set_cons_zero, List.set_cons_succ])
            refine wp_push _ (.tmp 37) (.tmp 38) _ rfl 0 4 _ 1 Tryd.underlying26 Tryd.infoBool rfl (.slice Ag s.gone.length cg) s.gone.length (bv s.gone) rfl HM.out.gn _ rfl 1 _ rfl (HB19.out.2.cell 0) (by have := HL12.out; omega) (by decide) (Nat.zero_le _) ?_
            intro g20 c20 w20 ho hg hat
            clear HB19
            replace HM := hide (HM.out.pushG ho hg hat)
            clear ho hg hat
            obtain ⟨z0, z1, z2, z3, y0, y1, y2, y3⟩ := HM.out.blk.a4
            refine hK.out _ _ _ (t_cons z3 (t_cons z2 (t_cons z0 (t_nil _)))) k_same (fun hPT' => ?_)
            (clear hPT hK K; have hPT := hPT'; clear hPT'; try simp only [List.getElem_toArray, List.getElem_cons_zero, List.getElem_cons_succ, Act.put, List.setIfInBounds_toArray, List.set_cons_zero, List.set_cons_succ])
            clear z0 z1 z2 z3 y0 y1 y2 y3
            obtain ⟨z0, z1, z2, z3, y0, y1, y2, y3⟩ := HM.out.blk.a4
            refine plan_take (i := 21) (v := ?_) rfl (by kernel_rfl) (by kernel_rfl) (by kernel_rfl) (fun _ _ _ h => h) hPT (by rfl) ?_ ?_
            rotate_left
            · (intro w; go_simp; with_reducible rfl)
            (clear hPT; intro hPT; simp only [List.getElem_toArray, List.getElem_cons_zero, List.getElem_cons_succ, Act.put, List.setIfInBounds_toArray, List.set_cons_zero, List.set_cons_succ])
            refine plan_take (i := 22) (v := ?_) rfl (by kernel_rfl) (by kernel_rfl) (by kernel_rfl) (fun _ _ _ h => h) hPT (by rfl) ?_ ?_
            rotate_left
            · (intro w; go_simp; with_reducible rfl)
            (clear hPT; intro hPT; simp only [List.getElem_toArray, List.getElem_cons_zero, List.getElem_cons_succ, Act.put, List.setIfInBounds_toArray, List.set_cons_zero, List.set_cons_succ])
            refine plan_one (i := 23) (by kernel_rfl) rfl (by rfl) (fun K hK => ?_)
            (try simp only [List.getElem_toArray, List.getElem_cons_zero, List.getElem_cons_succ, Act.put, List.setIfInBounds_toArray, List.set_cons_zero, List.set_cons_succ])
            go_simp
            refine hK.out [] _ _ (t_nil _) (k_drop (by kernel_rfl) (k_drop (by kernel_rfl) (k_drop (by kernel_rfl) k_nil))) (fun hPT' => ?_)
            (clear hPT hK K; have hPT := hPT'; clear hPT'; try simp only [List.getElem_toArray, List.getElem_cons_zero, List.getElem_cons_succ, Act.put, List.setIfInBounds_toArray, List.set_cons_zero, List.set_cons_succ])
            refine plan_take (i := 24) (v := ?_) rfl (by kernel_rfl) (by kernel_rfl) (by kernel_rfl) (fun _ _ _ h => h) hPT (by rfl) ?_ ?_
            rotate_left
            · (intro w; go_simp; with_reducible rfl)
            (clear hPT; intro hPT; simp only [List.getElem_toArray, List.getElem_cons_zero, List.getElem_cons_succ, Act.put, List.setIfInBounds_toArray, List.set_cons_zero, List.set_cons_succ])
            refine plan_take (i := 25) (v := ?_) rfl (by kernel_rfl) (by kernel_rfl) (by kernel_rfl) (fun _ _ _ h => h) hPT (by rfl) ?_ ?_
            rotate_left
            · (intro w; go_simp; with_reducible rfl)
            (clear hPT; intro hPT; simp only [List.getElem_toArray, List.getElem_cons_zero, List.getElem_cons_succ, Act.put, List.setIfInBounds_toArray, List.set_cons_zero, List.set_cons_succ])
            refine plan_one (i := 26) (by kernel_rfl) rfl (by rfl) (fun K hK => ?_)
            (try simp only [List.getElem_toArray, List.getElem_cons_zero, List.getElem_cons_succ, Act.put, List.setIfInBounds_toArray, List.set_cons_zero, List.set_cons_succ])
            go_simp
            refine hK.out [] _ _ (t_nil _) k_nil (fun hPT' => ?_)
            (clear hPT hK K; have hPT := hPT'; clear hPT'; try simp only [List.getElem_toArray, List.getElem_cons_zero, List.getElem_cons_succ, Act.put, List.setIfInBounds_toArray, List.set_cons_zero, List.set_cons_succ])
            refine plan_take (i := 27) (v := ?_) rfl (by kernel_rfl) (by kernel_rfl) (by kernel_rfl) (fun _ _ _ h => h) hPT (by rfl) ?_ ?_
            rotate_left
            · (intro w; go_simp; with_reducible rfl)
            (clear hPT; intro hPT; simp only [List.getElem_toArray, List.getElem_cons_zero, List.getElem_cons_succ, Act.put, List.setIfInBounds_toArray, List.set_cons_zero, List.set_cons_succ])
            refine plan_take (i := 28) (v := ?_) rfl (by kernel_rfl) (by kernel_rfl) (by kernel_rfl) (fun _ _ _ h => h) hPT (by rfl) ?_ ?_
            rotate_left
            · (intro w; go_simp; with_reducible rfl)
            (clear hPT; intro hPT; simp only [List.getElem_toArray, List.getElem_cons_zero, List.getElem_cons_succ, Act.put, List.setIfInBounds_toArray, List.set_cons_zero, List.set_cons_succ])
            refine plan_one (i := 29) (by kernel_rfl) rfl (by rfl) (fun K hK => ?_)
            (try simp only [List.getElem_toArray, List.getElem_cons_zero, List.getElem_cons_succ, Act.put, List.setIfInBounds_toArray, List.set_cons_zero, List.set_cons_succ])
            go_simp
            refine hK.out [] _ _ (t_nil _) k_nil (fun hPT' => ?_)
            (clear hPT hK K; have hPT := hPT'; clear hPT'; try simp only [List.getElem_toArray, List.getElem_cons_zero, List.getElem_cons_succ, Act.put, List.setIfInBounds_toArray, List.set_cons_zero, List.set_cons_succ])
            refine plan_done (by kernel_rfl) ?_ _
            clear hPT
            have HD := hide (MkS.done H.out HF.out HS.out HM.out)
            clear HM z0 z1 z2 z3 y0 y1 y2 y3
            go_wp2_with fail
            go_meet
            case rel => exact ⟨rfl, HD.out⟩
          case o12B =>
            (try simp only [List.getElem_toArray, List.getElem_cons_zero, List.getElem_cons_succ, Act.put, List.setIfInBounds_toArray, List.set_cons_zero, List.set_cons_succ])
            refine build_int rfl fun N13 w13 hN hw => ?_
            have HB13 := hide (HM.out.new_ hN hw)
            replace HB7 := hide (blk_more HB7.out hw)
            replace HB19 := hide (blk_more HB19.out hw)
            replace HM := hide (HM.out.alloc hw)
            clear hN hw
            obtain ⟨z0, z1, z2, z3, y0, y1, y2, y3⟩ := HM.out.blk.a4
            refine hK.out _ _ _ (t_cons z3 (t_cons z2 (t_cons z0 (t_nil _)))) k_same (fun hPT' => ?_)
            (clear hPT hK K; have hPT := hPT'; clear hPT'; try simp only [List.getElem_toArray, List.getElem_cons_zero, List.getElem_cons_succ, Act.put, List.setIfInBounds_toArray, List.set_cons_zero, List.set_cons_succ])
            clear z0 z1 z2 z3 y0 y1 y2 y3
            refine plan_one (i := 8) (by kernel_rfl) rfl (by rfl) (fun K hK => ?_)
            (try simp only [List.getElem_toArray, List.getElem_cons_zero, List.getElem_cons_succ, Act.put, List.setIfInBounds_toArray, List.set_cons_zero, List.set_cons_succ])
            refine wp_push _ (.tmp 25) (.tmp 26) _ rfl 0 25 _ 24 Tryd.underlying22 Tryd.infoRow rfl (.slice Ao s.outs.length co) s.outs.length vs rfl HM.out.out _ rfl 1 _ rfl (HB7.out.2.cell 0) (by have := HL12.out; omega) (by decide) (Nat.zero_le _) ?_
            intro g8 c8 w8 ho hg hat
            replace HB13 := hide (blk_push HB13.out hg HLO.out)
            replace HB19 := hide (blk_push HB19.out hg HLO.out)
            clear HB7
            replace HM := hide (HM.out.pushO ho hg hat)
            clear ho hg hat
            obtain ⟨z0, z1, z2, z3, y0, y1, y2, y3⟩ := HM.out.blk.a4
            refine hK.out _ _ _ (t_cons z3 (t_cons z2 (t_cons z0 (t_nil _)))) k_same (fun hPT' => ?_)
            (clear hPT hK K; have hPT := hPT'; clear hPT'; try simp only [List.getElem_toArray, List.getElem_cons_zero, List.getElem_cons_succ, Act.put, List.setIfInBounds_toArray, List.set_cons_zero, List.set_cons_succ])
            clear z0 z1 z2 z3 y0 y1 y2 y3
            refine plan_one (i := 14) (by kernel_rfl) rfl (by rfl) (fun K hK => ?_)
            (try simp only [List.getElem_toArray, List.getElem_cons_zero, List.getElem_cons_succ, Act.put, List.setIfInBounds_toArray, List.set_cons_zero, List.set_cons_succ])
            refine wp_push _ (.tmp 31) (.tmp 32) _ rfl 0 3 _ 8 Tryd.underlying25 Tryd.infoInt rfl (.slice Ac s.count.length cc) s.count.length (iv s.count) rfl HM.out.cnt _ rfl 1 _ rfl (HB13.out.2.cell 0) (by have := HL12.out; omega) (by decide) (Nat.zero_le _) ?_
            intro g14 c14 w14 ho hg hat
            replace HB19 := hide (blk_push HB19.out hg HLC.out)
            clear HB13
            replace HM := hide (HM.out.pushC ho hg hat)
            clear ho hg hat
            obtain ⟨z0, z1, z2, z3, y0, y1, y2, y3⟩ := HM.out.blk.a4
            refine hK.out _ _ _ (t_cons z3 (t_cons z2 (t_cons z0 (t_nil _)))) k_same (fun hPT' => ?_)
            (clear hPT hK K; have hPT := hPT'; clear hPT'; try simp only [List.getElem_toArray, List.getElem_cons_zero, List.getElem_cons_succ, Act.put, List.setIfInBounds_toArray, List.set_cons_zero, List.set_cons_succ])
            clear z0 z1 z2 z3 y0 y1 y2 y3
            refine plan_one (i := 20) (by kernel_rfl) rfl (by rfl) (fun K hK => ?_)
            (try simp only [List.getElem_toArray, List.getElem_cons_zero, List.getElem_cons_succ, Act.put, List.setIfInBounds_toArray, List.set_cons_zero, List.set_cons_succ])
            refine wp_push _ (.tmp 37) (.tmp 38) _ rfl 0 4 _ 1 Tryd.underlying26 Tryd.infoBool rfl (.slice Ag s.gone.length cg) s.gone.length (bv s.gone) rfl HM.out.gn _ rfl 1 _ rfl (HB19.out.2.cell 0) (by have := HL12.out; omega) (by decide) (Nat.zero_le _) ?_
            intro g20 c20 w20 ho hg hat
            clear HB19
            replace HM := hide (HM.out.pushG ho hg hat)
            clear ho hg hat
            obtain ⟨z0, z1, z2, z3, y0, y1, y2, y3⟩ := HM.out.blk.a4
            refine hK.out _ _ _ (t_cons z3 (t_cons z2 (t_cons z0 (t_nil _)))) k_same (fun hPT' => ?_)
            (clear hPT hK K; have hPT := hPT'; clear hPT'; try simp only [List.getElem_toArray, List.getElem_cons_zero, List.getElem_cons_succ, Act.put, List.setIfInBounds_toArray, List.set_cons_zero, List.set_cons_succ])
            clear z0 z1 z2 z3 y0 y1 y2 y3
            obtain ⟨z0, z1, z2, z3, y0, y1, y2, y3⟩ := HM.out.blk.a4
            refine plan_take (i := 21) (v := ?_) rfl (by kernel_rfl) (by kernel_rfl) (by kernel_rfl) (fun _ _ _ h => h) hPT (by rfl) ?_ ?_
            rotate_left
            · (intro w; go_simp; with_reducible rfl)
            (clear hPT; intro hPT; simp only [List.getElem_toArray, List.getElem_cons_zero, List.getElem_cons_succ, Act.put, List.setIfInBounds_toArray, List.set_cons_zero, List.set_cons_succ])
            refine plan_take (i := 22) (v := ?_) rfl (by kernel_rfl) (by kernel_rfl) (by kernel_rfl) (fun _ _ _ h => h) hPT (by rfl) ?_ ?_
            rotate_left
            · (intro w; go_simp; with_reducible rfl)
            (clear hPT; intro hPT; simp only [List.getElem_toArray, List.getElem_cons_zero, List.getElem_cons_succ, Act.put, List.setIfInBounds_toArray, List.set_cons_zero, List.set_cons_succ])
            refine plan_one (i := 23) (by kernel_rfl) rfl (by rfl) (fun K hK => ?_)
            (try simp only [List.getElem_toArray, List.getElem_cons_zero, List.getElem_cons_succ, Act.put, List.setIfInBounds_toArray, List.set_cons_zero, List.set_cons_succ])
            go_simp
            refine hK.out [] _ _ (t_nil _) (k_drop (by kernel_rfl) (k_drop (by kernel_rfl) (k_drop (by kernel_rfl) k_nil))) (fun hPT' => ?_)
            (clear hPT hK K; have hPT := hPT'; clear hPT'; try simp only [List.getElem_toArray, List.getElem_cons_zero, List.getElem_cons_succ, Act.put, List.setIfInBounds_toArray, List.set_cons_zero, List.set_cons_succ])
            refine plan_take (i := 24) (v := ?_) rfl (by kernel_rfl) (by kernel_rfl) (by kernel_rfl) (fun _ _ _ h => h) hPT (by rfl) ?_ ?_
            rotate_left
            · (intro w; go_simp; with_reducible rfl)
            (clear hPT; intro hPT; simp only [List.getElem_toArray, List.getElem_cons_zero, List.getElem_cons_succ, Act.put, List.setIfInBounds_toArray, List.set_cons_zero, List.set_cons_succ])
            refine plan_take (i := 25) (v := ?_) rfl (by kernel_rfl) (by kernel_rfl) (by kernel_rfl) (fun _ _ _ h => h) hPT (by rfl) ?_ ?_
            rotate_left
            · (intro w; go_simp; with_reducible rfl)
            (clear hPT; intro hPT; simp only [List.getElem_toArray, List.getElem_cons_zero, List.getElem_cons_succ, Act.put, List.setIfInBounds_toArray, List.set_cons_zero, List.set_cons_succ])
            refine plan_one (i := 26) (by kernel_rfl) rfl (by rfl) (fun K hK => ?_)
            (try simp only [List.getElem_toArray, List.getElem_cons_zero, List.getElem_cons_succ, Act.put, List.setIfInBounds_toArray, List.set_cons_zero, List.set_cons_succ])
            go_simp
            refine hK.out [] _ _ (t_nil _) k_nil (fun hPT' => ?_)
            (clear hPT hK K; have hPT := hPT'; clear hPT'; try simp only [List.getElem_toArray, List.getElem_cons_zero, List.getElem_cons_succ, Act.put, List.setIfInBounds_toArray, List.set_cons_zero, List.set_cons_succ])
            refine plan_take (i := 27) (v := ?_) rfl (by kernel_rfl) (by kernel_rfl) (by kernel_rfl) (fun _ _ _ h => h) hPT (by rfl) ?_ ?_
            rotate_left
            · (intro w; go_simp; with_reducible rfl)
            (clear hPT; intro hPT; simp only [List.getElem_toArray, List.getElem_cons_zero, List.getElem_cons_succ, Act.put, List.setIfInBounds_toArray, List.set_cons_zero, List.set_cons_succ])
            refine plan_take (i := 28) (v := ?_) rfl (by kernel_rfl) (by kernel_rfl) (by kernel_rfl) (fun _ _ _ h => h) hPT (by rfl) ?_ ?_
            rotate_left
            · (intro w; go_simp; with_reducible rfl)
            (clear hPT; intro hPT; simp only [List.getElem_toArray, List.getElem_cons_zero, List.getElem_cons_succ, Act.put, List.setIfInBounds_toArray, List.set_cons_zero, List.set_cons_succ])
            refine plan_one (i := 29) (by kernel_rfl) rfl (by rfl) (fun K hK => ?_)
            (try simp only [List.getElem_toArray, List.getElem_cons_zero, List.getElem_cons_succ, Act.put, List.setIfInBounds_toArray, List.set_cons_zero, List.set_cons_succ])
            go_simp
            refine hK.out [] _ _ (t_nil _) k_nil (fun hPT' => ?_)
            (clear hPT hK K; have hPT := hPT'; clear hPT'; try simp only [List.getElem_toArray, List.getElem_cons_zero, List.getElem_cons_succ, Act.put, List.setIfInBounds_toArray, List.set_cons_zero, List.set_cons_succ])
            refine plan_done (by kernel_rfl) ?_ _
            clear hPT
            have HD := hide (MkS.done H.out HF.out HS.out HM.out)
            clear HM z0 z1 z2 z3 y0 y1 y2 y3
            go_wp2_with fail
            go_meet
            case rel => exact ⟨rfl, HD.out⟩
        case o11B =>
          (try simp only [List.getElem_toArray, List.getElem_cons_zero, List.getElem_cons_succ, Act.put, List.setIfInBounds_toArray, List.set_cons_zero, List.set_cons_succ])
          refine build_int rfl fun N13 w13 hN hw => ?_
          have HB13 := hide (HM.out.new_ hN hw)
          replace HB19 := hide (blk_more HB19.out hw)
          replace HM := hide (HM.out.alloc hw)
          clear hN hw
          obtain ⟨z0, z1, z2, z3, y0, y1, y2, y3⟩ := HM.out.blk.a4
          refine hK.out _ _ _ (t_cons z3 (t_cons z2 (t_cons z0 (t_nil _)))) k_same (fun hPT' => ?_)
          (clear hPT hK K; have hPT := hPT'; clear hPT'; try simp only [List.getElem_toArray, List.getElem_cons_zero, List.getElem_cons_succ, Act.put, List.setIfInBounds_toArray, List.set_cons_zero, List.set_cons_succ])
          clear z0 z1 z2 z3 y0 y1 y2 y3
          refine plan_one (i := 7) (by kernel_rfl) rfl (by rfl) (fun K hK => ?_)
          (try simp only [List.getElem_toArray, List.getElem_cons_zero, List.getElem_cons_succ, Act.put, List.setIfInBounds_toArray, List.set_cons_zero, List.set_cons_succ])
          refine build_row rfl fun N7 w7 hN hw => ?_
          have HB7 := hide (HM.out.new_ hN hw)
          replace HB13 := hide (blk_more HB13.out hw)
          replace HB19 := hide (blk_more HB19.out hw)
          replace HM := hide (HM.out.alloc hw)
          clear hN hw
          obtain ⟨z0, z1, z2, z3, y0, y1, y2, y3⟩ := HM.out.blk.a4
          refine hK.out _ _ _ (t_cons z3 (t_cons z2 (t_cons z0 (t_nil _)))) k_same (fun hPT' => ?_)
          (clear hPT hK K; have hPT := hPT'; clear hPT'; try simp only [List.getElem_toArray, List.getElem_cons_zero, List.getElem_cons_succ, Act.put, List.setIfInBounds_toArray, List.set_cons_zero, List.set_cons_succ])
          clear z0 z1 z2 z3 y0 y1 y2 y3
          refine plan_one (i := 8) (by kernel_rfl) rfl (by rfl) (fun K hK => ?_)
          (try simp only [List.getElem_toArray, List.getElem_cons_zero, List.getElem_cons_succ, Act.put, List.setIfInBounds_toArray, List.set_cons_zero, List.set_cons_succ])
          refine wp_push _ (.tmp 25) (.tmp 26) _ rfl 0 25 _ 24 Tryd.underlying22 Tryd.infoRow rfl (.slice Ao s.outs.length co) s.outs.length vs rfl HM.out.out _ rfl 1 _ rfl (HB7.out.2.cell 0) (by have := HL12.out; omega) (by decide) (Nat.zero_le _) ?_
          intro g8 c8 w8 ho hg hat
          replace HB13 := hide (blk_push HB13.out hg HLO.out)
          replace HB19 := hide (blk_push HB19.out hg HLO.out)
          clear HB7
          replace HM := hide (HM.out.pushO ho hg hat)
          clear ho hg hat
          obtain ⟨z0, z1, z2, z3, y0, y1, y2, y3⟩ := HM.out.blk.a4
          refine hK.out _ _ _ (t_cons z3 (t_cons z2 (t_cons z0 (t_nil _)))) k_same (fun hPT' => ?_)
          (clear hPT hK K; have hPT := hPT'; clear hPT'; try simp only [List.getElem_toArray, List.getElem_cons_zero, List.getElem_cons_succ, Act.put, List.setIfInBounds_toArray, List.set_cons_zero, List.set_cons_succ])
          clear z0 z1 z2 z3 y0 y1 y2 y3
          refine plan_one (i := 14) (by kernel_rfl) rfl (by rfl) (fun K hK => ?_)
          (try simp only [List.getElem_toArray, List.getElem_cons_zero, List.getElem_cons_succ, Act.put, List.setIfInBounds_toArray, List.set_cons_zero, List.set_cons_succ])
          refine wp_push _ (.tmp 31) (.tmp 32) _ rfl 0 3 _ 8 Tryd.underlying25 Tryd.infoInt rfl (.slice Ac s.count.length cc) s.count.length (iv s.count) rfl HM.out.cnt _ rfl 1 _ rfl (HB13.out.2.cell 0) (by have := HL12.out; omega) (by decide) (Nat.zero_le _) ?_
          intro g14 c14 w14 ho hg hat
          replace HB19 := hide (blk_push HB19.out hg HLC.out)
          clear HB13
          replace HM := hide (HM.out.pushC ho hg hat)
          clear ho hg hat
          obtain ⟨z0, z1, z2, z3, y0, y1, y2, y3⟩ := HM.out.blk.a4
          refine hK.out _ _ _ (t_cons z3 (t_cons z2 (t_cons z0 (t_nil _)))) k_same (fun hPT' => ?_)
          (clear hPT hK K; have hPT := hPT'; clear hPT'; try simp only [List.getElem_toArray, List.getElem_cons_zero, List.getElem_cons_succ, Act.put, List.setIfInBounds_toArray, List.set_cons_zero, List.set_cons_succ])
          clear z0 z1 z2 z3 y0 y1 y2 y3
          refine plan_one (i := 20) (by kernel_rfl) rfl (by rfl) (fun K hK => ?_)
          (try simp only [List.getElem_toArray, List.getElem_cons_zero, List.getElem_cons_succ, Act.put, List.setIfInBounds_toArray, List.set_cons_zero, List.set_cons_succ])
          refine wp_push _ (.tmp 37) (.tmp 38) _ rfl 0 4 _ 1 Tryd.underlying26 Tryd.infoBool rfl (.slice Ag s.gone.length cg) s.gone.length (bv s.gone) rfl HM.out.gn _ rfl 1 _ rfl (HB19.out.2.cell 0) (by have := HL12.out; omega) (by decide) (Nat.zero_le _) ?_
          intro g20 c20 w20 ho hg hat
          clear HB19
          replace HM := hide (HM.out.pushG ho hg hat)
          clear ho hg hat
          obtain ⟨z0, z1, z2, z3, y0, y1, y2, y3⟩ := HM.out.blk.a4
          refine hK.out _ _ _ (t_cons z3 (t_cons z2 (t_cons z0 (t_nil _)))) k_same (fun hPT' => ?_)
          (clear hPT hK K; have hPT := hPT'; clear hPT'; try simp only [List.getElem_toArray, List.getElem_cons_zero, List.getElem_cons_succ, Act.put, List.setIfInBounds_toArray, List.set_cons_zero, List.set_cons_succ])
          clear z0 z1 z2 z3 y0 y1 y2 y3
          obtain ⟨z0, z1, z2, z3, y0, y1, y2, y3⟩ := HM.out.blk.a4
          refine plan_take (i := 21) (v := ?_) rfl (by kernel_rfl) (by kernel_rfl) (by kernel_rfl) (fun _ _ _ h => h) hPT (by rfl) ?_ ?_
          rotate_left
          · (intro w; go_simp; with_reducible rfl)
          (clear hPT; intro hPT; simp only [List.getElem_toArray, List.getElem_cons_zero, List.getElem_cons_succ, Act.put, List.setIfInBounds_toArray, List.set_cons_zero, List.set_cons_succ])
          refine plan_take (i := 22) (v := ?_) rfl (by kernel_rfl) (by kernel_rfl) (by kernel_rfl) (fun _ _ _ h => h) hPT (by rfl) ?_ ?_
          rotate_left
          · (intro w; go_simp; with_reducible rfl)
          (clear hPT; intro hPT; simp only [List.getElem_toArray, List.getElem_cons_zero, List.getElem_cons_succ, Act.put, List.setIfInBounds_toArray, List.set_cons_zero, List.set_cons_succ])
          refine plan_one (i := 23) (by kernel_rfl) rfl (by rfl) (fun K hK => ?_)
          (try simp only [List.getElem_toArray, List.getElem_cons_zero, List.getElem_cons_succ, Act.put, List.setIfInBounds_toArray, List.set_cons_zero, List.set_cons_succ])
          go_simp
          refine hK.out [] _ _ (t_nil _) (k_drop (by kernel_rfl) (k_drop (by kernel_rfl) (k_drop (by kernel_rfl) k_nil))) (fun hPT' => ?_)
          (clear hPT hK K; have hPT := hPT'; clear hPT'; try simp only [List.getElem_toArray, List.getElem_cons_zero, List.getElem_cons_succ, Act.put, List.setIfInBounds_toArray, List.set_cons_zero, List.set_cons_succ])
          refine plan_take (i := 24) (v := ?_) rfl (by kernel_rfl) (by kernel_rfl) (by kernel_rfl) (fun _ _ _ h => h) hPT (by rfl) ?_ ?_
          rotate_left
          · (intro w; go_simp; with_reducible rfl)
          (clear hPT; intro hPT; simp only [List.getElem_toArray, List.getElem_cons_zero, List.getElem_cons_succ, Act.put, List.setIfInBounds_toArray, List.set_cons_zero, List.set_cons_succ])
          refine plan_take (i := 25) (v := ?_) rfl (by kernel_rfl) (by kernel_rfl) (by kernel_rfl) (fun _ _ _ h => h) hPT (by rfl) ?_ ?_
          rotate_left
          · (intro w; go_simp; with_reducible rfl)
          (clear hPT; intro hPT; simp only [List.getElem_toArray, List.getElem_cons_zero, List.getElem_cons_succ, Act.put, List.setIfInBounds_toArray, List.set_cons_zero, List.set_cons_succ])
          refine plan_one (i := 26) (by kernel_rfl) rfl (by rfl) (fun K hK => ?_)
          (try simp only [List.getElem_toArray, List.getElem_cons_zero, List.getElem_cons_succ, Act.put, List.setIfInBounds_toArray, List.set_cons_zero, List.set_cons_succ])
          go_simp
          refine hK.out [] _ _ (t_nil _) k_nil (fun hPT' => ?_)
          (clear hPT hK K; have hPT := hPT'; clear hPT'; try simp only [List.getElem_toArray, List.getElem_cons_zero, List.getElem_cons_succ, Act.put, List.setIfInBounds_toArray, List.set_cons_zero, List.set_cons_succ])
          refine plan_take (i := 27) (v := ?_) rfl (by kernel_rfl) (by kernel_rfl) (by kernel_rfl) (fun _ _ _ h => h) hPT (by rfl) ?_ ?_
          rotate_left
          · (intro w; go_simp; with_reducible rfl)
          (clear hPT; intro hPT; simp only [List.getElem_toArray, List.getElem_cons_zero, List.getElem_cons_succ, Act.put, List.setIfInBounds_toArray, List.set_cons_zero, List.set_cons_succ])
          refine plan_take (i := 28) (v := ?_) rfl (by kernel_rfl) (by kernel_rfl) (by kernel_rfl) (fun _ _ _ h => h) hPT (by rfl) ?_ ?_
          rotate_left
          · (intro w; go_simp; with_reducible rfl)
          (clear hPT; intro hPT; simp only [List.getElem_toArray, List.getElem_cons_zero, List.getElem_cons_succ, Act.put, List.setIfInBounds_toArray, List.set_cons_zero, List.set_cons_succ])
          refine plan_one (i := 29) (by kernel_rfl) rfl (by rfl) (fun K hK => ?_)
          (try simp only [List.getElem_toArray, List.getElem_cons_zero, List.getElem_cons_succ, Act.put, List.setIfInBounds_toArray, List.set_cons_zero, List.set_cons_succ])
          go_simp
          refine hK.out [] _ _ (t_nil _) k_nil (fun hPT' => ?_)
          (clear hPT hK K; have hPT := hPT'; clear hPT'; try simp only [List.getElem_toArray, List.getElem_cons_zero, List.getElem_cons_succ, Act.put, List.setIfInBounds_toArray, List.set_cons_zero, List.set_cons_succ])
          refine plan_done (by kernel_rfl) ?_ _
          clear hPT
          have HD := hide (MkS.done H.out HF.out HS.out HM.out)
          clear HM z0 z1 z2 z3 y0 y1 y2 y3
          go_wp2_with fail
          go_meet
          case rel => exact ⟨rfl, HD.out⟩
    case rest =>
      obtain ⟨rfl, hc2, hk2⟩ := hcut
      obtain ⟨vo, vr, vc, vg, vs, h, hF⟩ := hc2
      clear H HF b1 b2 b3 b4 f1 f2 f3 f4
      obtain ⟨e0, Ao, co, hvo, hco, hmo, _⟩ := own_form h.out
      rw [h.len] at hvo hco
      obtain ⟨e3, Ar, cr, hvr, hcr, hmr, _⟩ := own_form h.root
      rw [iv_length] at hvr hcr
      simp only [List.length_append, List.length_singleton] at hvo hco
      simp only at hvr hcr
      clear e0 e3
      subst hvo
      have HVR := hide hvr
      obtain ⟨b1, b2, b3, b4, f1, f2, f3, f4⟩ := h.blk.a4
      rw [hvr] at b2
      have H := hide (h.no (Kp.refl No wc).drew)
      have HRT := hide H.out.root
      rw [hvr] at HRT
      have HF := hide hF
      have HS2 := hide (show ∀ b, wc.drew.heap.size ≤ b → S b from fun b hb => HS.out b (Nat.le_trans hk2.size hb))
      have HK2 := hide hk2
      have HPL := hide h.blk.lt
      clear h hF hk2 hvr
      have hpl := HPL.out
      go_upto_region 4 with fail
      refine plan_start 16 (by kernel_rfl) rfl (fun hPT => ?_)
      refine plan_take (i := 0) (v := ?_) rfl (by kernel_rfl) (by kernel_rfl) (by kernel_rfl) (fun _ _ _ h => h) hPT (by rfl) ?_ ?_
      rotate_left
      · (intro w; go_simp; with_reducible rfl)
      (clear hPT; intro hPT; simp only [List.getElem_toArray, List.getElem_cons_zero, List.getElem_cons_succ, Act.put, List.setIfInBounds_toArray, List.set_cons_zero, List.set_cons_succ])
      refine plan_take (i := 1) (v := ?_) rfl (by kernel_rfl) (by kernel_rfl) (by kernel_rfl) (fun _ _ _ h => h) hPT (by rfl) ?_ ?_
      rotate_left
      · (intro w; go_simp; with_reducible rfl)
      (clear hPT; intro hPT; simp only [List.getElem_toArray, List.getElem_cons_zero, List.getElem_cons_succ, Act.put, List.setIfInBounds_toArray, List.set_cons_zero, List.set_cons_succ])
      refine plan_take (i := 2) (v := ?_) rfl (by kernel_rfl) (by kernel_rfl) (by kernel_rfl) (fun _ _ _ h => h) hPT (by rfl) ?_ ?_
      rotate_left
      · (intro w; go_simp; with_reducible rfl)
      (clear hPT; intro hPT; simp only [List.getElem_toArray, List.getElem_cons_zero, List.getElem_cons_succ, Act.put, List.setIfInBounds_toArray, List.set_cons_zero, List.set_cons_succ])
      refine plan_take (i := 3) (v := ?_) rfl (by kernel_rfl) (by kernel_rfl) (by kernel_rfl) (fun _ _ _ h => h) hPT (by rfl) ?_ ?_
      rotate_left
      · (intro w; go_simp; with_reducible rfl)
      (clear hPT; intro hPT; simp only [List.getElem_toArray, List.getElem_cons_zero, List.getElem_cons_succ, Act.put, List.setIfInBounds_toArray, List.set_cons_zero, List.set_cons_succ])
      refine plan_take (i := 5) (v := ?_) rfl (by kernel_rfl) (by kernel_rfl) (by kernel_rfl) (fun _ _ _ h => h) hPT (by rfl) ?_ ?_
      rotate_left
      · (intro w; go_simp; with_reducible rfl)
      (clear hPT; intro hPT; simp only [List.getElem_toArray, List.getElem_cons_zero, List.getElem_cons_succ, Act.put, List.setIfInBounds_toArray, List.set_cons_zero, List.set_cons_succ])
      refine plan_take (i := 6) (v := ?_) rfl (by kernel_rfl) (by kernel_rfl) (by kernel_rfl) (fun _ _ _ h => h) hPT (by rfl) ?_ ?_
      rotate_left
      · (intro w; go_simp; with_reducible rfl)
      (clear hPT; intro hPT; simp only [List.getElem_toArray, List.getElem_cons_zero, List.getElem_cons_succ, Act.put, List.setIfInBounds_toArray, List.set_cons_zero, List.set_cons_succ])
      refine plan_take (i := 7) (v := ?_) rfl (by kernel_rfl) (by kernel_rfl) (by kernel_rfl) (fun _ _ _ h => h) hPT (by rfl) ?_ ?_
      rotate_left
      · (intro w; go_simp; with_reducible rfl)
      (clear hPT; intro hPT; simp only [List.getElem_toArray, List.getElem_cons_zero, List.getElem_cons_succ, Act.put, List.setIfInBounds_toArray, List.set_cons_zero, List.set_cons_succ])
      refine plan_load (fun w' => w'.cell? ⟨p, 1, none⟩ = some (.slice Ar s.roots.length cr)) (i := 4) (v := ?_) rfl (by kernel_rfl) (by kernel_rfl) (by kernel_rfl) (fun _ _ _ h => h) hPT (by rfl) ?_ ?_ ?_
      rotate_left
      · (first | assumption | (go_simp; done))
      · (intro w hSw; (try dsimp only at hSw); go_simp; with_reducible rfl)
      (clear hPT; intro hPT; simp only [List.getElem_toArray, List.getElem_cons_zero, List.getElem_cons_succ, Act.put, List.setIfInBounds_toArray, List.set_cons_zero, List.set_cons_succ])
      refine plan_load (fun w' => w'.cell? ⟨p, 0, none⟩ = some (.slice Ao (s.outs.length + 1) co)) (i := 8) (v := ?_) rfl (by kernel_rfl) (by kernel_rfl) (by kernel_rfl) (fun _ _ _ h => h) hPT (by rfl) ?_ ?_ ?_
      rotate_left
      · (first | assumption | (go_simp; done))
      · (intro w hSw; (try dsimp only at hSw); go_simp; with_reducible rfl)
      (clear hPT; intro hPT; simp only [List.getElem_toArray, List.getElem_cons_zero, List.getElem_cons_succ, Act.put, List.setIfInBounds_toArray, List.set_cons_zero, List.set_cons_succ])
      refine plan_take (i := 9) (v := ?_) rfl (by kernel_rfl) (by kernel_rfl) (by kernel_rfl) (fun _ _ _ h => h) hPT (by rfl) ?_ ?_
      rotate_left
      · (intro w; go_simp; with_reducible rfl)
      (clear hPT; intro hPT; simp only [List.getElem_toArray, List.getElem_cons_zero, List.getElem_cons_succ, Act.put, List.setIfInBounds_toArray, List.set_cons_zero, List.set_cons_succ])
      refine plan_take (i := 10) (v := ?_) rfl (by kernel_rfl) (by kernel_rfl) (by kernel_rfl) (fun _ _ _ h => h) hPT (by rfl) ?_ ?_
      rotate_left
      · (intro w; go_simp; with_reducible rfl)
      (clear hPT; intro hPT; simp only [List.getElem_toArray, List.getElem_cons_zero, List.getElem_cons_succ, Act.put, List.setIfInBounds_toArray, List.set_cons_zero, List.set_cons_succ])
      refine plan_one (i := 11) (by kernel_rfl) rfl (by rfl) (fun K hK => ?_)
      (try simp only [List.getElem_toArray, List.getElem_cons_zero, List.getElem_cons_succ, Act.put, List.setIfInBounds_toArray, List.set_cons_zero, List.set_cons_succ])
      go_simp
      have hwr : IntKind.i64.wrap (s.outs.length : Int) = (s.outs.length : Int) := by have := HN12.out; rw [IntKind.wrap_i64]; omega
      rw [hwr]
      refine hK.out _ _ _ (t_cons (by go_simp) (t_cons (by go_simp) (t_nil _))) k_same (fun hPT' => ?_)
      (clear hPT hK K; have hPT := hPT'; clear hPT'; try simp only [List.getElem_toArray, List.getElem_cons_zero, List.getElem_cons_succ, Act.put, List.setIfInBounds_toArray, List.set_cons_zero, List.set_cons_succ])
      refine plan_one (i := 12) (by kernel_rfl) rfl (by rfl) (fun K hK => ?_)
      (try simp only [List.getElem_toArray, List.getElem_cons_zero, List.getElem_cons_succ, Act.put, List.setIfInBounds_toArray, List.set_cons_zero, List.set_cons_succ])
      refine wp_push _ (.tmp 50) (.tmp 57) _ rfl 0 3 _ 8 Tryd.underlying25 Tryd.infoInt rfl (.slice Ar s.roots.length cr) s.roots.length (iv s.roots) rfl (HRT.out.alloc _) _ rfl 1 _ rfl ((Blk.new wc.drew _ _).cell 0) (by have := HR12.out; omega) (by decide) (Nat.zero_le _) ?_
      intro g' c' w4 ho4 hgr4 hat
      have HPS := hide (root_push H.out HF.out HS2.out HVR.out ho4 hgr4 (by simpa using hat))
      obtain ⟨a1, a2, a3, a4, g1, g2, g3, g4⟩ := HPS.out.1.a4
      clear ho4 hgr4 hat
      refine hK.out _ _ _ (t_cons a1 (t_nil _)) (k_keep (k_drop (by kernel_rfl) k_nil)) (fun hPT' => ?_)
      (clear hPT hK K; have hPT := hPT'; clear hPT'; try simp only [List.getElem_toArray, List.getElem_cons_zero, List.getElem_cons_succ, Act.put, List.setIfInBounds_toArray, List.set_cons_zero, List.set_cons_succ])
      refine plan_take (i := 13) (v := ?_) rfl (by kernel_rfl) (by kernel_rfl) (by kernel_rfl) (fun _ _ _ h => h) hPT (by rfl) ?_ ?_
      rotate_left
      · (intro w; go_simp; with_reducible rfl)
      (clear hPT; intro hPT; simp only [List.getElem_toArray, List.getElem_cons_zero, List.getElem_cons_succ, Act.put, List.setIfInBounds_toArray, List.set_cons_zero, List.set_cons_succ])
      refine plan_take (i := 14) (v := ?_) rfl (by kernel_rfl) (by kernel_rfl) (by kernel_rfl) (fun _ _ _ h => h) hPT (by rfl) ?_ ?_
      rotate_left
      · (intro w; go_simp; with_reducible rfl)
      (clear hPT; intro hPT; simp only [List.getElem_toArray, List.getElem_cons_zero, List.getElem_cons_succ, Act.put, List.setIfInBounds_toArray, List.set_cons_zero, List.set_cons_succ])
      refine plan_one (i := 15) (by kernel_rfl) rfl (by rfl) (fun K hK => ?_)
      (try simp only [List.getElem_toArray, List.getElem_cons_zero, List.getElem_cons_succ, Act.put, List.setIfInBounds_toArray, List.set_cons_zero, List.set_cons_succ])
      go_simp
      refine hK.out [] _ _ (t_nil _) (k_drop (by kernel_rfl) k_nil) (fun hPT' => ?_)
      (clear hPT hK K; have hPT := hPT'; clear hPT'; try simp only [List.getElem_toArray, List.getElem_cons_zero, List.getElem_cons_succ, Act.put, List.setIfInBounds_toArray, List.set_cons_zero, List.set_cons_succ])
      refine plan_done (by kernel_rfl) ?_ _
      clear hPT
      have H4 := hide HPS.out.2.1
      have HS4 := hide HPS.out.2.2
      generalize w4.setCell ⟨p, 1, none⟩ (.slice (some ⟨g', 0, none⟩) (s.roots.length + 1) c') = W at H4 HS4 ⊢
      clear a1 a2 a3 a4 g1 g2 g3 g4 b1 b2 b3 b4 f1 f2 f3 f4 HPS
      obtain ⟨a1, a2, a3, a4, g1, g2, g3, g4⟩ := H4.out.blk.a4
      go_wp2
      go_ret2
      exact ⟨by rw [HR.out.1, if_pos rfl]; rfl, by rw [HR.out.2]; exact ⟨_, _, _, _, _, H4.out, HS4.out.1⟩, HK2.out.trans ((Kp.refl S wc).drew.trans HS4.out.2)⟩
end Go.Proofs.YtiibadganlincaaDoor
