/- colors.New, walked: a mark of a heap. -/
import Derived.Test.YtgbdjidjbcbhjaaDoorColorMem
import Derived.Test.YtgbdjidjbcbhjaaDoorCheney
namespace Go.Proofs.YtgbdjidjbcbhjaaDoor
open Go.RowKit

/-- a row more -/
theorem MarkAt.more {w w2 w3 : World} {p base : Nat} {vo vr vc v : Value} {vs : List Value} {O : List (List Int)} {roots c xs : List Int} (h : MarkAt w p base vo vr vc vs O roots c) (hk2 : Kp No w w2) (hv : w2.ownsRow w.heap.size 3 1 v xs.length (iv xs)) {g' c' : Nat}
    (ha : w3.ownsRow base 23 1 (.slice (some ⟨g', 0, none⟩) (O.length + 1) c') (O.length + 1) (vs ++ [v])) (hgr : (w2.alloc (.cells #[v] 23)).grownBy w3 vo.ownBlock) (hbase : base ≤ w.heap.size) :
    MarkAt (w3.setCell ⟨p, 0, none⟩ (.slice (some ⟨g', 0, none⟩) (O.length + 1) c')) p base (.slice (some ⟨g', 0, none⟩) (O.length + 1) c') vr vc (vs ++ [v]) (O ++ [xs]) roots c := by
  have h2 := h.no hk2
  have k3 : Kp (fun b => vo.ownBlock = some b) w2 w3 := ((Kp.refl _ w2).alloc _).grown hgr fun b h _ => h
  have k4 := kp_set w3 p 0 (.slice (some ⟨g', 0, none⟩) (O.length + 1) c')
  have b3 : Blk w3 p 100 #[vo, vr, vc] := h2.blk.kp k3 (own_ne_blk h2.out h2.blk (by decide))
  have step : ∀ {u : Value} {ys : List Int}, w2.ownsRow base 3 1 u ys.length (iv ys) → (w3.setCell ⟨p, 0, none⟩ (.slice (some ⟨g', 0, none⟩) (O.length + 1) c')).ownsRow base 3 1 u ys.length (iv ys) := by
    intro u ys hu
    have hu3 := own_kp hu k3 fun b hb e => own_ne_own hu h2.out (by decide) hb e
    exact own_kp hu3 k4 fun b hb e => by unfold At at e; subst e; exact own_ne_blk hu3 b3 (by decide) hb
  have hvb := own_base hv (base' := base) fun b hb => by have := (own_lt hv hb).1; omega
  have hsz := h.len
  refine ⟨b3.set_ 0 _, ?_, fun i h1 h3 => ?_, step h2.root, step h2.col, ?_⟩
  · rw [List.length_append, List.length_singleton]
    exact own_kp ha k4 fun b hb e => by unfold At at e; subst e; exact own_ne_blk ha b3 (by decide) hb
  · rw [List.getElem_append]
    simp only [List.getElem_append]
    by_cases hi : i < vs.length
    · rw [dif_pos hi, dif_pos (by omega)]
      exact step (h2.row i hi (by omega))
    · rw [dif_neg hi, dif_neg (by omega)]
      simp only [List.getElem_singleton]
      exact step hvb
  · have := Apart.snoc (v := v) h.ap fun u hu g hg hg' => by
      have h1 := (own_lt hv hg).1
      have h4 : MkF p vo vr vc vs g := by
        rcases List.mem_cons.1 hu with rfl | hu
        · exact .inr (.inr (.inr (.inl hg')))
        · rcases List.mem_cons.1 hu with rfl | hu
          · exact .inr (.inr (.inl hg'))
          · exact .inr (.inr (.inr (.inr ⟨u, hu, hg'⟩)))
      have := h.lt h4
      omega
    simpa using this

/-- the first state -/
theorem MarkAt.start {W : World} {base n : Nat} {vr vc : Value} {roots : List Int} (h1 : W.ownsRow base 3 1 vr roots.length (iv roots)) (h2 : W.ownsRow base 3 1 vc n (iv (List.replicate n 0))) (hne : ∀ g, vc.ownBlock = some g → vr.ownBlock ≠ some g) :
    MarkAt (W.alloc (.cells #[.slice none 0 0, vr, vc] 100)) W.heap.size base (.slice none 0 0) vr vc [] [] roots (List.replicate n 0) :=
  ⟨Blk.new W _ _, World.ownsRow_nil _ _ _ _, fun i h _ => by simp at h, h1.alloc _, by rw [List.length_replicate]; exact h2.alloc _, Apart.cons (Apart.cons Apart.nil_ fun u hu => by cases hu) fun u hu g hg => by simp at hu; subst hu; exact hne g hg⟩

/-- a new mark -/
def NewPost (w : World) (outs : List (List Int)) (roots : List Int) (e : Ending) (w' : World) : Prop :=
  ∃ p vo vr vc vs, e = .returned (.tuple #[.pointer (some ⟨p, 0, none⟩), .nilIface]) ∧ MarkAt w' p w.heap.size vo vr vc vs outs roots (newC outs roots) ∧ w.heap.size ≤ p ∧ Kp No w w'

set_option maxRecDepth 100000 in
set_option maxHeartbeats 4000000 in
theorem new_ok {F : Nat → Prop} (vo vr : Value) (outs : List (List Int)) (roots : List Int) (w : World) (ho : RowsIn w F vo outs) (hr : IntsIn w F vr roots) (hok : Ok outs roots) :
    Calls Tryd.prog 36 #[.agg #[vo, vr]] w (NewPost w outs roots) := by
  have HO := hide ho
  have HR := hide hr
  have HOK := hide hok
  have HE := hide (chk_of_ok hok)
  have HL := hide hok.n12
  have HR12 := hide hok.r12
  clear ho hr hok
  have hmk := run_make_row' (P := Tryd.prog) 23 3 (.int .i64 0) 8 Tryd.underlying23 Tryd.infoInt rfl .i64 .i64 outs.length (by have := HL.out; omega) (by have := HL.out; omega)
  go_enter Tryd.func36, Tryd.ntmps36
  go_wp2_with fail
  refine Calls.mono (check_any vo vr outs roots _ (HO.out.no ((Kp.refl No _).alloc _)) (HR.out.no ((Kp.refl No _).alloc _))) ?_
  rw [HE.out]
  rintro e w1 ⟨rfl, hk1⟩
  have hb1 := (Blk.new w 25 #[vo, vr]).kp hk1 id
  have HK1 := hide (((Kp.refl No w).alloc (.cells #[vo, vr] 25)).trans' hk1 fun _ _ h => h)
  obtain ⟨a1, a2, a3, a4, a5⟩ := hb1.a2
  have HB1 := hide hb1
  clear hk1 hb1
  unfold errV
  obtain ⟨Ao, co, rfl, hco, hmo, _⟩ := RowsIn.form HO.out
  obtain ⟨Ar, cr, rfl, hcr, hmr, _⟩ := id HR.out
  go_wp2_with fail
  refine plan_start 11 (by kernel_rfl) rfl (fun hPT => ?_)
  refine plan_take (i := 0) (v := ?_) rfl (by kernel_rfl) (by kernel_rfl) (by kernel_rfl) (fun _ _ _ h => h) hPT (by rfl) ?_ ?_
  rotate_left
  · (intro w; go_simp; with_reducible rfl)
  (clear hPT; intro hPT; simp only [List.getElem_toArray, List.getElem_cons_zero, List.getElem_cons_succ, Act.put, List.setIfInBounds_toArray, List.set_cons_zero, List.set_cons_succ])
  refine plan_take (i := 4) (v := ?_) rfl (by kernel_rfl) (by kernel_rfl) (by kernel_rfl) (fun _ _ _ h => h) hPT (by rfl) ?_ ?_
  rotate_left
  · (intro w; go_simp; with_reducible rfl)
  (clear hPT; intro hPT; simp only [List.getElem_toArray, List.getElem_cons_zero, List.getElem_cons_succ, Act.put, List.setIfInBounds_toArray, List.set_cons_zero, List.set_cons_succ])
  refine plan_load (fun w' => w'.cell? ⟨w.heap.size, 1, none⟩ = some (.slice Ar roots.length cr)) (i := 1) (v := ?_) rfl (by kernel_rfl) (by kernel_rfl) (by kernel_rfl) (fun _ _ _ h => h) hPT (by rfl) ?_ ?_ ?_
  rotate_left
  · (first | assumption | (go_simp; done))
  · (intro w hSw; (try dsimp only at hSw); go_simp; with_reducible rfl)
  (clear hPT; intro hPT; simp only [List.getElem_toArray, List.getElem_cons_zero, List.getElem_cons_succ, Act.put, List.setIfInBounds_toArray, List.set_cons_zero, List.set_cons_succ])
  refine plan_load (fun w' => w'.cell? ⟨w.heap.size, 0, none⟩ = some (.slice Ao outs.length co)) (i := 5) (v := ?_) rfl (by kernel_rfl) (by kernel_rfl) (by kernel_rfl) (fun _ _ _ h => h) hPT (by rfl) ?_ ?_ ?_
  rotate_left
  · (first | assumption | (go_simp; done))
  · (intro w hSw; (try dsimp only at hSw); go_simp; with_reducible rfl)
  (clear hPT; intro hPT; simp only [List.getElem_toArray, List.getElem_cons_zero, List.getElem_cons_succ, Act.put, List.setIfInBounds_toArray, List.set_cons_zero, List.set_cons_succ])
  refine plan_take (i := 6) (v := ?_) rfl (by kernel_rfl) (by kernel_rfl) (by kernel_rfl) (fun _ _ _ h => h) hPT (by rfl) ?_ ?_
  rotate_left
  · (intro w; go_simp; with_reducible rfl)
  (clear hPT; intro hPT; simp only [List.getElem_toArray, List.getElem_cons_zero, List.getElem_cons_succ, Act.put, List.setIfInBounds_toArray, List.set_cons_zero, List.set_cons_succ])
  refine plan_two (i := 2) (j := 7) (by kernel_rfl) rfl rfl (by rfl) (by rfl) (fun K hK => ?ordA) (fun K hK => ?ordB)
  case' ordA =>
    (try simp only [List.getElem_toArray, List.getElem_cons_zero, List.getElem_cons_succ, Act.put, List.setIfInBounds_toArray, List.set_cons_zero, List.set_cons_succ])
    go_simp
    refine Calls.mono (clone_any _ roots _ (HR.out.no HK1.out.drew) (by have := HR12.out; omega)) ?_
    rintro e w2 ⟨v1, rfl, hown, hk2⟩
    obtain ⟨e0, A1, c1', hv1, _⟩ := own_form hown
    clear e0
    rw [iv_length] at hv1
    subst hv1
    have HB2 := hide ((HB1.out.drew).kp hk2 id)
    have HK2 := hide (HK1.out.drew.trans' hk2 fun _ _ h => h)
    have hK2s : w1.heap.size ≤ w2.heap.size := by have := hk2.size; simpa using this
    have HOW := hide hown
    obtain ⟨c1, c2, c3, c4, c5⟩ := HB2.out.a2
    clear hown hk2
    refine hK.out _ _ _ (t_cons c1 (t_cons c2 (t_nil _))) k_same (fun hPT' => ?_)
    (clear hPT hK K; have hPT := hPT'; clear hPT'; try simp only [List.getElem_toArray, List.getElem_cons_zero, List.getElem_cons_succ, Act.put, List.setIfInBounds_toArray, List.set_cons_zero, List.set_cons_succ])
    refine plan_take (i := 3) (v := ?_) rfl (by kernel_rfl) (by kernel_rfl) (by kernel_rfl) (fun _ _ _ h => h) hPT (by rfl) ?_ ?_
    rotate_left
    · (intro w; go_simp; with_reducible rfl)
    (clear hPT; intro hPT; simp only [List.getElem_toArray, List.getElem_cons_zero, List.getElem_cons_succ, Act.put, List.setIfInBounds_toArray, List.set_cons_zero, List.set_cons_succ])
    refine plan_one (i := 7) (by kernel_rfl) rfl (by rfl) (fun K hK => ?_)
    (try simp only [List.getElem_toArray, List.getElem_cons_zero, List.getElem_cons_succ, Act.put, List.setIfInBounds_toArray, List.set_cons_zero, List.set_cons_succ])
    go_simp
    refine hK.out _ _ _ (t_cons (by go_simp) (t_cons (by go_simp) (t_nil _))) k_same (fun hPT' => ?_)
    (clear hPT hK K; have hPT := hPT'; clear hPT'; try simp only [List.getElem_toArray, List.getElem_cons_zero, List.getElem_cons_succ, Act.put, List.setIfInBounds_toArray, List.set_cons_zero, List.set_cons_succ])
    refine plan_take (i := 8) (v := ?_) rfl (by kernel_rfl) (by kernel_rfl) (by kernel_rfl) (fun _ _ _ h => h) hPT (by rfl) ?_ ?_
    rotate_left
    · (intro w; go_simp; with_reducible rfl)
    (clear hPT; intro hPT; simp only [List.getElem_toArray, List.getElem_cons_zero, List.getElem_cons_succ, Act.put, List.setIfInBounds_toArray, List.set_cons_zero, List.set_cons_succ])
    refine plan_one (i := 9) (by kernel_rfl) rfl (by rfl) (fun K hK => ?_)
    (try simp only [List.getElem_toArray, List.getElem_cons_zero, List.getElem_cons_succ, Act.put, List.setIfInBounds_toArray, List.set_cons_zero, List.set_cons_succ])
    go_simp
    refine hK.out _ _ _ (t_cons (by go_simp) (t_cons (by go_simp) (t_nil _))) k_same (fun hPT' => ?_)
    (clear hPT hK K; have hPT := hPT'; clear hPT'; try simp only [List.getElem_toArray, List.getElem_cons_zero, List.getElem_cons_succ, Act.put, List.setIfInBounds_toArray, List.set_cons_zero, List.set_cons_succ])
    refine plan_take (i := 10) (v := ?_) rfl (by kernel_rfl) (by kernel_rfl) (by kernel_rfl) (fun _ _ _ h => h) hPT (by rfl) ?_ ?_
    rotate_left
    · (intro w; go_simp; with_reducible rfl)
    (clear hPT; intro hPT; simp only [List.getElem_toArray, List.getElem_cons_zero, List.getElem_cons_succ, Act.put, List.setIfInBounds_toArray, List.set_cons_zero, List.set_cons_succ])
    refine plan_done (by kernel_rfl) ?_ _
    clear hPT
    have HM := hide (MarkAt.start (W := w2.alloc (.cells (madeCells #[.int .i64 0] outs.length) 3)) (base := w.heap.size) (vr := .slice A1 roots.length c1') (vc := .slice (some ⟨w2.heap.size, 0, none⟩) outs.length outs.length)
      (own_base (HOW.out.alloc _) fun b hb => by have := (own_lt HOW.out hb).1; have := HK1.out.size; simp at *; omega) (own_made w2 outs.length w.heap.size (by have := HK2.out.size; omega) (by have := HL.out; omega))
      (fun g hg e => by simp only [Value.ownBlock, Option.some.injEq] at hg; have := (own_lt HOW.out e).2; omega))
    have HKW := hide ((HK2.out.alloc (.cells (madeCells #[.int .i64 0] outs.length) 3)).alloc (.cells #[.slice none 0 0, .slice A1 roots.length c1', .slice (some ⟨w2.heap.size, 0, none⟩) outs.length outs.length] 100))
    rw [World.size_alloc] at HM
    have HBW := hide ((HB2.out.alloc (.cells (madeCells #[.int .i64 0] outs.length) 3)).alloc (.cells #[.slice none 0 0, .slice A1 roots.length c1', .slice (some ⟨w2.heap.size, 0, none⟩) outs.length outs.length] 100))
    obtain ⟨W, hW⟩ : ∃ W, (w2.alloc (.cells (madeCells #[.int .i64 0] outs.length) 3)).alloc (.cells #[.slice none 0 0, .slice A1 roots.length c1', .slice (some ⟨w2.heap.size, 0, none⟩) outs.length outs.length] 100) = W := ⟨_, rfl⟩
    rw [hW] at HM HKW HBW ⊢
    clear hW
    obtain ⟨p, hp⟩ : ∃ p, w2.heap.size + 1 = p := ⟨_, rfl⟩
    rw [hp] at HM ⊢
    obtain ⟨gc, hgc⟩ : ∃ gc, w2.heap.size = gc := ⟨_, rfl⟩
    rw [hgc] at HM ⊢
    have hpw : w1.heap.size ≤ p := by omega
    clear hp hgc
  case' ordB =>
    (try simp only [List.getElem_toArray, List.getElem_cons_zero, List.getElem_cons_succ, Act.put, List.setIfInBounds_toArray, List.set_cons_zero, List.set_cons_succ])
    go_simp
    refine hK.out _ _ _ (t_cons (by go_simp) (t_cons (by go_simp) (t_nil _))) k_same (fun hPT' => ?_)
    (clear hPT hK K; have hPT := hPT'; clear hPT'; try simp only [List.getElem_toArray, List.getElem_cons_zero, List.getElem_cons_succ, Act.put, List.setIfInBounds_toArray, List.set_cons_zero, List.set_cons_succ])
    refine plan_one (i := 2) (by kernel_rfl) rfl (by rfl) (fun K hK => ?_)
    (try simp only [List.getElem_toArray, List.getElem_cons_zero, List.getElem_cons_succ, Act.put, List.setIfInBounds_toArray, List.set_cons_zero, List.set_cons_succ])
    go_simp
    have HKM := hide ((HK1.out.alloc (.cells (madeCells #[.int .i64 0] outs.length) 3)).drew)
    refine Calls.mono (clone_any _ roots _ (HR.out.no HKM.out) (by have := HR12.out; omega)) ?_
    rintro e w2 ⟨v1, rfl, hown, hk2⟩
    obtain ⟨e0, A1, c1', hv1, _⟩ := own_form hown
    clear e0
    rw [iv_length] at hv1
    subst hv1
    have HB2 := hide (((HB1.out.alloc (.cells (madeCells #[.int .i64 0] outs.length) 3)).drew).kp hk2 id)
    have HK2 := hide (HKM.out.trans' hk2 fun _ _ h => h)
    have hK2s : w1.heap.size ≤ w2.heap.size := by have := hk2.size; simp at this; omega
    have HOW := hide hown
    have HOM := hide (own_kp (own_made w1 outs.length w.heap.size (by have := HK1.out.size; omega) (by have := HL.out; omega)) ((Kp.refl No _).drew.trans hk2) fun _ _ h => h)
    obtain ⟨c1, c2, c3, c4, c5⟩ := HB2.out.a2
    clear hown hk2
    refine hK.out _ _ _ (t_cons c1 (t_cons c2 (t_nil _))) k_same (fun hPT' => ?_)
    (clear hPT hK K; have hPT := hPT'; clear hPT'; try simp only [List.getElem_toArray, List.getElem_cons_zero, List.getElem_cons_succ, Act.put, List.setIfInBounds_toArray, List.set_cons_zero, List.set_cons_succ])
    refine plan_take (i := 3) (v := ?_) rfl (by kernel_rfl) (by kernel_rfl) (by kernel_rfl) (fun _ _ _ h => h) hPT (by rfl) ?_ ?_
    rotate_left
    · (intro w; go_simp; with_reducible rfl)
    (clear hPT; intro hPT; simp only [List.getElem_toArray, List.getElem_cons_zero, List.getElem_cons_succ, Act.put, List.setIfInBounds_toArray, List.set_cons_zero, List.set_cons_succ])
    refine plan_take (i := 8) (v := ?_) rfl (by kernel_rfl) (by kernel_rfl) (by kernel_rfl) (fun _ _ _ h => h) hPT (by rfl) ?_ ?_
    rotate_left
    · (intro w; go_simp; with_reducible rfl)
    (clear hPT; intro hPT; simp only [List.getElem_toArray, List.getElem_cons_zero, List.getElem_cons_succ, Act.put, List.setIfInBounds_toArray, List.set_cons_zero, List.set_cons_succ])
    refine plan_one (i := 9) (by kernel_rfl) rfl (by rfl) (fun K hK => ?_)
    (try simp only [List.getElem_toArray, List.getElem_cons_zero, List.getElem_cons_succ, Act.put, List.setIfInBounds_toArray, List.set_cons_zero, List.set_cons_succ])
    go_simp
    refine hK.out _ _ _ (t_cons (by go_simp) (t_cons (by go_simp) (t_nil _))) k_same (fun hPT' => ?_)
    (clear hPT hK K; have hPT := hPT'; clear hPT'; try simp only [List.getElem_toArray, List.getElem_cons_zero, List.getElem_cons_succ, Act.put, List.setIfInBounds_toArray, List.set_cons_zero, List.set_cons_succ])
    refine plan_take (i := 10) (v := ?_) rfl (by kernel_rfl) (by kernel_rfl) (by kernel_rfl) (fun _ _ _ h => h) hPT (by rfl) ?_ ?_
    rotate_left
    · (intro w; go_simp; with_reducible rfl)
    (clear hPT; intro hPT; simp only [List.getElem_toArray, List.getElem_cons_zero, List.getElem_cons_succ, Act.put, List.setIfInBounds_toArray, List.set_cons_zero, List.set_cons_succ])
    refine plan_done (by kernel_rfl) ?_ _
    clear hPT
    have HM := hide (MarkAt.start (W := w2) (base := w.heap.size) (vr := .slice A1 roots.length c1') (vc := .slice (some ⟨w1.heap.size, 0, none⟩) outs.length outs.length)
      (own_base HOW.out fun b hb => by have := (own_lt HOW.out hb).1; have := HKM.out.size; omega) HOM.out
      (fun g hg e => by simp only [Value.ownBlock, Option.some.injEq] at hg; have := (own_lt HOW.out e).1; simp at this; omega))
    have HKW := hide (HK2.out.alloc (.cells #[.slice none 0 0, .slice A1 roots.length c1', .slice (some ⟨w1.heap.size, 0, none⟩) outs.length outs.length] 100))
    have HBW := hide (HB2.out.alloc (.cells #[.slice none 0 0, .slice A1 roots.length c1', .slice (some ⟨w1.heap.size, 0, none⟩) outs.length outs.length] 100))
    obtain ⟨W, hW⟩ : ∃ W, w2.alloc (.cells #[.slice none 0 0, .slice A1 roots.length c1', .slice (some ⟨w1.heap.size, 0, none⟩) outs.length outs.length] 100) = W := ⟨_, rfl⟩
    rw [hW] at HM HKW HBW ⊢
    clear hW
    obtain ⟨p, hp⟩ : ∃ p, w2.heap.size = p := ⟨_, rfl⟩
    rw [hp] at HM ⊢
    obtain ⟨gc, hgc⟩ : ∃ gc, w1.heap.size = gc := ⟨_, rfl⟩
    rw [hgc] at HM ⊢
    have hpw : w1.heap.size ≤ p := by omega
    clear hp hgc
  all_goals
    clear hmk HB2 HK2 HOW c1 c2 c3 c4 c5 a1 a2 a3 a4 hK2s
    obtain ⟨d1, d2, d3, d4, d5⟩ := HBW.out.a2
    have HZ := hide (show newC outs roots = shades (List.replicate outs.length 0) roots from rfl)
    have HZL := hide (show (List.replicate outs.length (0 : Int)).length = outs.length by simp)
    obtain ⟨z, hz⟩ : ∃ z, List.replicate outs.length (0 : Int) = z := ⟨_, rfl⟩
    rw [hz] at HM HZ HZL
    clear hz
    go_wp2_with fail
    go_loopw [28] (fun q wr => ∃ k : Nat, q = .int .i64 k ∧ k ≤ outs.length ∧ Blk wr w.heap.size 25 #[.slice Ao outs.length co, .slice Ar roots.length cr] ∧ Kp No w wr ∧ ∃ vo vs, MarkAt wr p w.heap.size vo (.slice A1 roots.length c1') (.slice (some ⟨gc, 0, none⟩) outs.length outs.length) vs (outs.take k) roots z)
      (fun q _ => outs.length - (intOf q).toNat)
    case atStart => exact ⟨0, rfl, Nat.zero_le _, HBW.out, HKW.out, _, _, HM.out⟩
    case round =>
      obtain ⟨k, rfl, hk, hbr, hkr, vo, vs, hmk⟩ := hrel
      have HBR := hide hbr
      have HKR := hide hkr
      have HMK := hide hmk
      clear d1 d2 d3 d4 hbr hkr
      by_cases hlt : k < outs.length
      · obtain ⟨_, _, e, _, _, hrow⟩ := RowsIn.form (HO.out.no HKR.out)
        cases e
        obtain ⟨bo, oo, A', c', rfl, _, hrc, hri⟩ := hrow k hlt
        clear hrow
        obtain ⟨_, _, e, hla, hma, _⟩ := id hri
        cases e
        have HRI := hide hri
        have hOl : (outs.take k).length = k := by rw [List.length_take]; omega
        obtain ⟨e0, Av, cv, hvo, hcv, hmv, _⟩ := own_form hmk.out
        rw [hmk.len, hOl] at hvo hcv
        subst hvo
        obtain ⟨p1, p2, p3, p4, p5, p6, p7⟩ := hmk.blk.a3
        have HOL := hide hOl
        have HFW := hide (HOK.out.few _ (List.getElem_mem hlt))
        have HTK := hide (show outs.take (k + 1) = outs.take k ++ [outs[k]] from List.take_succ_eq_append_getElem hlt)
        have HWZ := hide (show w.heap.size ≤ wr.heap.size from HKR.out.size)
        clear hri hmk hOl e0
        go_wp2_with fail
        refine plan_start 14 (by kernel_rfl) rfl (fun hPT => ?_)
        refine plan_take (i := 0) (v := ?_) rfl (by kernel_rfl) (by kernel_rfl) (by kernel_rfl) (fun _ _ _ h => h) hPT (by rfl) ?_ ?_
        rotate_left
        · (intro w; go_simp; with_reducible rfl)
        (clear hPT; intro hPT; simp only [List.getElem_toArray, List.getElem_cons_zero, List.getElem_cons_succ, Act.put, List.setIfInBounds_toArray, List.set_cons_zero, List.set_cons_succ])
        refine plan_take (i := 1) (v := ?_) rfl (by kernel_rfl) (by kernel_rfl) (by kernel_rfl) (fun _ _ _ h => h) hPT (by rfl) ?_ ?_
        rotate_left
        · (intro w; go_simp; with_reducible rfl)
        (clear hPT; intro hPT; simp only [List.getElem_toArray, List.getElem_cons_zero, List.getElem_cons_succ, Act.put, List.setIfInBounds_toArray, List.set_cons_zero, List.set_cons_succ])
        refine plan_take (i := 2) (v := ?_) rfl (by kernel_rfl) (by kernel_rfl) (by kernel_rfl) (fun _ _ _ h => h) hPT (by rfl) ?_ ?_
        rotate_left
        · (intro w; go_simp; with_reducible rfl)
        (clear hPT; intro hPT; simp only [List.getElem_toArray, List.getElem_cons_zero, List.getElem_cons_succ, Act.put, List.setIfInBounds_toArray, List.set_cons_zero, List.set_cons_succ])
        refine plan_take (i := 3) (v := ?_) rfl (by kernel_rfl) (by kernel_rfl) (by kernel_rfl) (fun _ _ _ h => h) hPT (by rfl) ?_ ?_
        rotate_left
        · (intro w; go_simp; with_reducible rfl)
        (clear hPT; intro hPT; simp only [List.getElem_toArray, List.getElem_cons_zero, List.getElem_cons_succ, Act.put, List.setIfInBounds_toArray, List.set_cons_zero, List.set_cons_succ])
        refine plan_take (i := 4) (v := ?_) rfl (by kernel_rfl) (by kernel_rfl) (by kernel_rfl) (fun _ _ _ h => h) hPT (by rfl) ?_ ?_
        rotate_left
        · (intro w; go_simp; with_reducible rfl)
        (clear hPT; intro hPT; simp only [List.getElem_toArray, List.getElem_cons_zero, List.getElem_cons_succ, Act.put, List.setIfInBounds_toArray, List.set_cons_zero, List.set_cons_succ])
        refine plan_load (fun w' => w'.cell? ⟨p, 0, none⟩ = some (.slice Av k cv)) (i := 5) (v := ?_) rfl (by kernel_rfl) (by kernel_rfl) (by kernel_rfl) (fun _ _ _ h => h) hPT (by rfl) ?_ ?_ ?_
        rotate_left
        · (first | assumption | (go_simp; done))
        · (intro w hSw; (try dsimp only at hSw); go_simp; with_reducible rfl)
        (clear hPT; intro hPT; simp only [List.getElem_toArray, List.getElem_cons_zero, List.getElem_cons_succ, Act.put, List.setIfInBounds_toArray, List.set_cons_zero, List.set_cons_succ])
        refine plan_take (i := 6) (v := ?_) rfl (by kernel_rfl) (by kernel_rfl) (by kernel_rfl) (fun _ _ _ h => h) hPT (by rfl) ?_ ?_
        rotate_left
        · (intro w; go_simp; with_reducible rfl)
        (clear hPT; intro hPT; simp only [List.getElem_toArray, List.getElem_cons_zero, List.getElem_cons_succ, Act.put, List.setIfInBounds_toArray, List.set_cons_zero, List.set_cons_succ])
        refine plan_one (i := 7) (by kernel_rfl) rfl (by rfl) (fun K hK => ?_)
        (try simp only [List.getElem_toArray, List.getElem_cons_zero, List.getElem_cons_succ, Act.put, List.setIfInBounds_toArray, List.set_cons_zero, List.set_cons_succ])
        go_simp
        refine Calls.mono (clone_any _ outs[k] _ (HRI.out.no (Kp.refl No _).drew) (by have := HFW.out; omega)) ?_
        rintro e w3 ⟨v, rfl, hown, hk3⟩
        obtain ⟨e0, A3, c3', hv3, _⟩ := own_form hown
        clear e0
        rw [iv_length] at hv3
        subst hv3
        have HK3 := hide ((Kp.refl No wr).drew.trans hk3)
        have HM3 := hide (HMK.out.no HK3.out)
        have HOW := hide hown
        clear p1 p2 p3 p4 p5 p6 p7 hown hk3
        obtain ⟨p1, p2, p3, p4, p5, p6, p7⟩ := HM3.out.blk.a3
        refine hK.out _ _ _ (t_cons p1 (t_nil _)) k_same (fun hPT' => ?_)
        (clear hPT hK K; have hPT := hPT'; clear hPT'; try simp only [List.getElem_toArray, List.getElem_cons_zero, List.getElem_cons_succ, Act.put, List.setIfInBounds_toArray, List.set_cons_zero, List.set_cons_succ])
        refine plan_one (i := 8) (by kernel_rfl) rfl (by rfl) (fun K hK => ?_)
        (try simp only [List.getElem_toArray, List.getElem_cons_zero, List.getElem_cons_succ, Act.put, List.setIfInBounds_toArray, List.set_cons_zero, List.set_cons_succ])
        go_simp
        refine hK.out _ _ _ (t_cons (by go_simp) (t_nil _)) k_same (fun hPT' => ?_)
        (clear hPT hK K; have hPT := hPT'; clear hPT'; try simp only [List.getElem_toArray, List.getElem_cons_zero, List.getElem_cons_succ, Act.put, List.setIfInBounds_toArray, List.set_cons_zero, List.set_cons_succ])
        refine plan_one (i := 9) (by kernel_rfl) rfl (by rfl) (fun K hK => ?_)
        (try simp only [List.getElem_toArray, List.getElem_cons_zero, List.getElem_cons_succ, Act.put, List.setIfInBounds_toArray, List.set_cons_zero, List.set_cons_succ])
        refine wp_push _ (.tmp 37) (.tmp 40) _ rfl w.heap.size 23 _ 24 Tryd.underlying22 Tryd.infoRow rfl (.slice Av k cv) k vs rfl (by have := HM3.out.out; rw [HOL.out] at this; exact this.alloc _) _ rfl 1 _ rfl ((Blk.new _ _ _).cell 0) (by have := HL.out; omega) (by decide) (by have := HWZ.out; have := HK3.out.size; simp; omega) ?_
        intro g' c' w4 ho' hgr hat
        have HM4 := hide (HMK.out.more HK3.out (by simpa using HOW.out) (by rw [HOL.out]; exact ho') hgr HWZ.out)
        have b4 := (HM3.out.blk.alloc (.cells #[.slice A3 (outs[k]).length c3'] 23)).grown hgr (own_ne_blk HM3.out.out HM3.out.blk (by decide)).symm
        obtain ⟨q1, q2, q3, q4, q5, q6, q7⟩ := b4.a3
        have HK4 := hide (show Kp No w w4 from (HKR.out.trans (HK3.out.alloc _)).grown hgr fun j e hj => by have := (own_lt HM3.out.out e).1; omega)
        have HB4 := hide (show Blk w4 w.heap.size 25 #[.slice (some ⟨bo, oo, none⟩) outs.length co, .slice Ar roots.length cr] from ((HBR.out.kp HK3.out id).alloc _).grown hgr (own_ne_blk HM3.out.out (HBR.out.kp HK3.out id) (by decide)).symm)
        clear ho' hgr hat b4
        refine hK.out [] _ _ (t_nil _) (k_drop (by kernel_rfl) k_nil) (fun hPT' => ?_)
        (clear hPT hK K; have hPT := hPT'; clear hPT'; try simp only [List.getElem_toArray, List.getElem_cons_zero, List.getElem_cons_succ, Act.put, List.setIfInBounds_toArray, List.set_cons_zero, List.set_cons_succ])
        refine plan_take (i := 10) (v := ?_) rfl (by kernel_rfl) (by kernel_rfl) (by kernel_rfl) (fun _ _ _ h => h) hPT (by rfl) ?_ ?_
        rotate_left
        · (intro w; go_simp; with_reducible rfl)
        (clear hPT; intro hPT; simp only [List.getElem_toArray, List.getElem_cons_zero, List.getElem_cons_succ, Act.put, List.setIfInBounds_toArray, List.set_cons_zero, List.set_cons_succ])
        refine plan_take (i := 11) (v := ?_) rfl (by kernel_rfl) (by kernel_rfl) (by kernel_rfl) (fun _ _ _ h => h) hPT (by rfl) ?_ ?_
        rotate_left
        · (intro w; go_simp; with_reducible rfl)
        (clear hPT; intro hPT; simp only [List.getElem_toArray, List.getElem_cons_zero, List.getElem_cons_succ, Act.put, List.setIfInBounds_toArray, List.set_cons_zero, List.set_cons_succ])
        refine plan_take (i := 12) (v := ?_) rfl (by kernel_rfl) (by kernel_rfl) (by kernel_rfl) (fun _ _ _ h => h) hPT (by rfl) ?_ ?_
        rotate_left
        · (intro w; go_simp; with_reducible rfl)
        (clear hPT; intro hPT; simp only [List.getElem_toArray, List.getElem_cons_zero, List.getElem_cons_succ, Act.put, List.setIfInBounds_toArray, List.set_cons_zero, List.set_cons_succ])
        refine plan_one (i := 13) (by kernel_rfl) rfl (by rfl) (fun K hK => ?_)
        (try simp only [List.getElem_toArray, List.getElem_cons_zero, List.getElem_cons_succ, Act.put, List.setIfInBounds_toArray, List.set_cons_zero, List.set_cons_succ])
        go_simp
        refine hK.out [] _ _ (t_nil _) k_nil (fun hPT' => ?_)
        (clear hPT hK K; have hPT := hPT'; clear hPT'; try simp only [List.getElem_toArray, List.getElem_cons_zero, List.getElem_cons_succ, Act.put, List.setIfInBounds_toArray, List.set_cons_zero, List.set_cons_succ])
        refine plan_done (by kernel_rfl) ?_ _
        clear hPT
        go_wp2
        go_roundw
        case rel =>
          have hm := HM4.out
          rw [HOL.out, ← HTK.out] at hm
          refine ⟨k + 1, by go_num, hlt, ?_, ?_, _, _, hm⟩
          · exact HB4.out.kp (kp_set _ _ _ _) (fun e => by unfold At at e; omega)
          · exact HK4.out.setCell (p := ⟨p, 0, none⟩) (fun h => by simp only at h; omega) _
        case measure => simp [intOf]; omega
      · obtain rfl : k = outs.length := by omega
        rw [List.take_length] at HMK
        obtain ⟨d1, d2, d3, d4, d5⟩ := HBR.out.a2
        obtain ⟨wo, rfl⟩ : ∃ wo : World, wo = wr := ⟨_, rfl⟩
        clear hmk
        go_wp2_with fail
        go_loopw [49] (fun q wq => ∃ j : Nat, q = .int .i64 j ∧ j ≤ roots.length ∧ MarkAt wq p w.heap.size vo (.slice A1 roots.length c1') (.slice (some ⟨gc, 0, none⟩) outs.length outs.length) vs outs roots (shades z (roots.take j)) ∧ Kp No w wq)
          (fun q _ => roots.length - (intOf q).toNat)
        case atStart => exact ⟨0, rfl, Nat.zero_le _, HMK.out, HKR.out⟩
        case round =>
          obtain ⟨j, rfl, hj, hmj, hkj⟩ := hrel
          have HMJ := hide hmj
          have HKJ := hide hkj
          clear hmj hkj d1 d2 d3 d4
          by_cases hjl : j < roots.length
          · obtain ⟨_, _, e, _, _, hcell⟩ := HR.out.no HKJ.out
            cases e
            obtain ⟨b, o, rfl, _, hcx⟩ := hcell j hjl
            clear hcell
            have HXR := hide (HOK.out.root _ (List.getElem_mem hjl))
            have HT := hide (show shades z (roots.take (j + 1)) = shade (shades z (roots.take j)) roots[j] by rw [List.take_succ_eq_append_getElem hjl, shades_snoc])
            have HSL := hide (show (shades z (roots.take j)).length = outs.length by rw [shades_length]; exact HZL.out)
            go_wp2_with fail
            refine Calls.mono (shade_any _ _ HMJ.out HXR.out.1 (by rw [HSL.out]; exact HXR.out.2) (by rw [HSL.out]; exact HL.out)) ?_
            rintro e w5 ⟨rfl, hm5, hk5⟩
            have HM5 := hide hm5
            have HK5 := hide (HKJ.out.trans' hk5 fun b hb e => by have := (own_lt HMJ.out.col e).1; omega)
            clear hm5 hk5
            go_wp2
            go_roundw
            case rel => exact ⟨j + 1, by go_num, hjl, by rw [HT.out]; exact HM5.out, HK5.out⟩
            case measure => simp [intOf]; omega
          · obtain rfl : j = roots.length := by omega
            rw [List.take_length] at HMJ
            go_wp2
            refine bodyPost_ret (v := .tuple #[.pointer (some ⟨p, 0, none⟩), .nilIface]) (by simp [results, Tryd.results36, go_sem]) rfl ⟨p, _, _, _, _, rfl, by rw [HZ.out]; exact HMJ.out, by omega, HKJ.out⟩
end Go.Proofs.YtgbdjidjbcbhjaaDoor
