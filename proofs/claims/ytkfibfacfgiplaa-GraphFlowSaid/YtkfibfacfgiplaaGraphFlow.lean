/- The law GraphFlow, walked: of every heap and every root. -/
import Derived.Test.YtkfibfacfgiplaaGraphFact
import Derived.Test.YtkfibfacfgiplaaPush
namespace Go.Proofs.Ytkfibfacfgiplaa
open Go.RowKit

theorem comes_more {outs : List (List Int)} {roots : List Int} {root x : Int} : Comes outs (roots ++ [root]) x ↔ Comes outs roots x ∨ Comes outs [root] x := by
  constructor
  · refine fun h => h.sub (P := fun x => Comes outs roots x ∨ Comes outs [root] x) (fun y hy => ?_) (fun y hy z hz => ?_)
    · rcases List.mem_append.1 hy with h | h
      · exact .inl (.root h)
      · exact .inr (.root h)
    · exact hy.elim (fun h => .inl (.next h hz)) fun h => .inr (.next h hz)
  · rintro (h | h)
    · exact h.sub (fun y hy => .root (List.mem_append.2 (.inl hy))) fun y hy z hz => .next hy hz
    · exact h.sub (fun y hy => .root (List.mem_append.2 (.inr hy))) fun y hy z hz => .next hy hz

theorem Ok.more {outs : List (List Int)} {roots : List Int} (h : Ok outs roots) {root : Int} (hl : roots.length < 12) (h0 : 0 ≤ root) (h1 : root < outs.length) : Ok outs (roots ++ [root]) :=
  ⟨h.n12, by simp; omega, fun x hx => by
    rcases List.mem_append.1 hx with hx | hx
    · exact h.root x hx
    · simp at hx; subst hx; exact ⟨h0, h1⟩, h.few, h.out⟩
theorem Ok.less {outs : List (List Int)} {roots : List Int} {root : Int} (h : Ok outs (roots ++ [root])) : Ok outs roots ∧ roots.length < 12 ∧ 0 ≤ root ∧ root < outs.length :=
  ⟨⟨h.n12, by have := h.r12; simp at this; omega, fun x hx => h.root x (List.mem_append.2 (.inl hx)), h.few, h.out⟩, by have := h.r12; simp at this; omega, h.root root (by simp)⟩
theorem Ok.one {outs : List (List Int)} {roots : List Int} (h : Ok outs roots) {root : Int} (h0 : 0 ≤ root) (h1 : root < outs.length) : Ok outs [root] :=
  ⟨h.n12, by simp, fun x hx => by simp at hx; subst hx; exact ⟨h0, h1⟩, h.few, h.out⟩

theorem bad_more {outs : List (List Int)} {roots : List Int} {root : Int} (h : Ok outs roots) (hm : chk outs (roots ++ [root]) ≠ 0) (h12 : ¬ roots.length = 12) : btw root 0 ((outs.length : Int) - 1) = false := by
  cases e : btw root 0 ((outs.length : Int) - 1) with
  | false => rfl
  | true =>
    exfalso
    rw [btw_iff] at e
    exact hm (chk_of_ok (h.more (by have := h.r12; omega) e.1 (by omega)))
theorem flow_bits {outs : List (List Int)} {roots : List Int} {root : Int} (h : Ok outs (roots ++ [root])) (i : Nat) :
    bt (reachN outs (roots ++ [root])) i = (bt (reachN outs roots) i || bt (reachN outs [root]) i) := by
  obtain ⟨h1, _, h2, h3⟩ := h.less
  unfold bt
  rw [Bool.eq_iff_iff, Bool.or_eq_true, reachN_bit h, reachN_bit h1, reachN_bit (h1.one h2 h3), comes_more]
theorem reach_root {outs : List (List Int)} {roots : List Int} (h : Ok outs roots) {x : Int} (hx : x ∈ roots) : bt (reachN outs roots) x.toNat = true := by
  unfold bt
  rw [reachN_bit h, Int.toNat_of_nonneg (h.root x hx).1]
  exact .root hx
theorem reach_next {outs : List (List Int)} {roots : List Int} (h : Ok outs roots) {i : Nat} (hi : bt (reachN outs roots) i = true) {x : Int} (hx : x ∈ adj outs (i : Int)) : bt (reachN outs roots) x.toNat = true := by
  unfold bt at hi ⊢
  rw [reachN_bit h] at hi ⊢
  rw [Int.toNat_of_nonneg (h.adjIn x hx).1]
  exact .next hi hx

set_option maxHeartbeats 1000000 in
theorem graphFlow_any {F : Nat → Prop} (vo vr : Value) (outs : List (List Int)) (roots : List Int) (root : Int) (w : World) (ho : RowsIn w F vo outs) (hr : IntsIn w F vr roots) (_ : -9223372036854775808 ≤ root ∧ root ≤ 9223372036854775807) :
    Calls Try.prog 4 #[.agg #[vo, vr], .int .i64 root] w fun e w' => e = .returned (.bool true) ∧ Kp No w w' := by
  have HO := hide ho
  have HR := hide hr
  clear ho hr
  by_cases hc : chk outs roots = 0
  · have HOK := hide (ok_of_chk hc)
    clear hc
    go_enter Try.func4, Try.ntmps4
    go_wp2_with fail
    refine Calls.mono (graphFact_any _) ?_
    rintro e w1 ⟨rfl, hk1⟩
    have hb1 := (Blk.new w 25 #[vo, vr]).kp hk1 id
    obtain ⟨a1, a2, a3, a4, a5⟩ := hb1.a2
    have HB1 := hide hb1
    have HK1 := hide (((Kp.refl No w).alloc (.cells #[vo, vr] 25)).trans' hk1 fun _ _ h => h)
    clear hk1 hb1
    obtain ⟨Ao, co, rfl, hco, hmo, _⟩ := RowsIn.form HO.out
    obtain ⟨Ar, cr, rfl, hcr, hmr, _⟩ := id HR.out
    go_wp2_with fail
    refine Calls.mono (reach_ok _ _ outs roots _ (HO.out.no HK1.out) (HR.out.no HK1.out) HOK.out) ?_
    rintro e w2 ⟨rfl, hk2⟩
    have hb2 := HB1.out.kp hk2 id
    clear a1 a2 a3 a4
    obtain ⟨a1, a2, a3, a4, _⟩ := hb2.a2
    have HB2 := hide hb2
    have HK2 := hide (HK1.out.trans hk2)
    clear hk2 hb2
    have HN := hide (reachN_lt HOK.out)
    have HL := hide HOK.out.n12
    go_wp2_with fail
    have hRo : ∀ k (h : k < roots.length), ∃ b o, Ar = some ⟨b, o, none⟩ ∧ w2.cell? ⟨b, o + k, none⟩ = some (.int .i64 roots[k]) := by
      obtain ⟨_, _, e, _, _, h⟩ := HR.out.no HK2.out
      cases e
      exact fun k hk => let ⟨b, o, h1, _, h2⟩ := h k hk; ⟨b, o, h1, h2⟩
    have hOu : ∀ k (h : k < outs.length), ∃ b o A' c', Ao = some ⟨b, o, none⟩ ∧ w2.cell? ⟨b, o + k, none⟩ = some (.slice A' (adj outs (k : Int)).length c') ∧ IntsIn w2 F (.slice A' (adj outs (k : Int)).length c') (adj outs (k : Int)) := by
      obtain ⟨_, _, e, _, _, h⟩ := RowsIn.form (HO.out.no HK2.out)
      cases e
      intro k hk
      obtain ⟨b, o, A', c', h1, _, h2, h3⟩ := h k hk
      have hadj : adj outs (k : Int) = outs[k] := by
        unfold adj
        rw [Int.toNat_natCast, List.getD_eq_getElem?_getD, List.getElem?_eq_getElem hk]
        rfl
      rw [← hadj] at h2 h3
      exact ⟨b, o, A', c', h1, h2, h3⟩
    have HRO := hide hRo
    have HOU := hide hOu
    clear hRo hOu
    go_loop [8] (fun p => ∃ k : Nat, p = .int .i64 k ∧ k ≤ roots.length) (fun p => roots.length - (intOf p).toNat)
    case atStart => exact ⟨0, rfl, Nat.zero_le _⟩
    case round =>
      obtain ⟨k, rfl, hk⟩ := hrel
      by_cases hlt : k < roots.length
      · obtain ⟨b, o, rfl, hc⟩ := HRO.out k hlt
        go_wp2_with fail
        refine Calls.mono (bit_int (reachN outs roots) roots[k] (by have := HN.out; omega) (HOK.out.root _ (List.getElem_mem hlt)).1 (by have := (HOK.out.root _ (List.getElem_mem hlt)).2; have := HL.out; omega) _) ?_
        rw [reach_root HOK.out (List.getElem_mem hlt)]
        rintro e w3 ⟨rfl, rfl⟩
        go_wp2
        go_round
        case rel => exact ⟨k + 1, by go_num, hlt⟩
        case measure => simp [intOf]; omega
      · obtain rfl : k = roots.length := by omega
        go_wp2_with fail
        go_loop [9] (fun p => ∃ k : Nat, p = .int .i64 k ∧ k ≤ outs.length) (fun p => outs.length - (intOf p).toNat)
        case atStart => exact ⟨0, rfl, Nat.zero_le _⟩
        case round =>
          obtain ⟨i, rfl, hi⟩ := hrel
          by_cases hil : i < outs.length
          · obtain ⟨b, o, A', c', rfl, hrc, hri⟩ := HOU.out i hil
            have HRI := hide hri
            obtain ⟨_, _, e, hl', hm', _⟩ := hri
            cases e
            have hi12 : i < 12 := by have := HL.out; omega
            go_wp2_with fail
            go_loop [10] (fun p => ∃ k : Nat, p = .int .i64 k ∧ k ≤ (adj outs (i : Int)).length) (fun p => (adj outs (i : Int)).length - (intOf p).toNat)
            case atStart => exact ⟨0, rfl, Nat.zero_le _⟩
            case round =>
              obtain ⟨j, rfl, hj⟩ := hrel
              by_cases hjl : j < (adj outs (i : Int)).length
              · obtain ⟨_, _, e, _, _, hcell⟩ := HRI.out
                cases e
                obtain ⟨b', o', rfl, _, hc⟩ := hcell j hjl
                clear hcell
                go_wp2_with fail
                refine Calls.mono (bit_any (reachN outs roots) i (by have := HN.out; omega) (by omega) _) ?_
                rintro e w3 ⟨rfl, rfl⟩
                by_cases hb : bt (reachN outs roots) i = true
                · rw [hb]
                  have HX := hide (reach_next HOK.out hb (List.getElem_mem hjl))
                  clear hb
                  go_wp2_with fail
                  refine Calls.mono (bit_int (reachN outs roots) (adj outs (i : Int))[j] (by have := HN.out; omega) (HOK.out.adjIn _ (List.getElem_mem hjl)).1 (by have := (HOK.out.adjIn _ (List.getElem_mem hjl)).2; have := HL.out; omega) _) ?_
                  rw [HX.out]
                  rintro e w3 ⟨rfl, rfl⟩
                  go_wp2
                  go_round
                  case rel => exact ⟨j + 1, by go_num, hjl⟩
                  case measure => simp [intOf]; omega
                · have hb' : bt (reachN outs roots) i = false := by simpa using hb
                  rw [hb']
                  clear hb hb'
                  go_wp2
                  go_round
                  case rel => exact ⟨i + 1, by go_num, hil⟩
                  case measure => simp [intOf]; omega
              · obtain rfl : j = (adj outs (i : Int)).length := by omega
                go_wp2
                go_round
                case rel => exact ⟨i + 1, by go_num, hil⟩
                case measure => simp [intOf]; omega
          · obtain rfl : i = outs.length := by omega
            have HRC := hide (cellsIn_ints.2 (HR.out.no HK2.out))
            have hr12 := HOK.out.r12
            go_wp2_with (at_builtin; refine wpList_add (F := F) _ rfl (.tmp 75) (.tmp 77) _ rfl w2.heap.size 3 _ 8 Try.underlying23 Try.infoInt rfl (.slice none 0 0) 0 [] rfl (World.ownsRow_nil _ _ _ _) _ rfl (iv roots) HRC.out (by intro u hu; simp only [iv, List.mem_map] at hu; obtain ⟨x, _, rfl⟩ := hu; rfl) (by simp [iv]; omega) (by omega) (Nat.le_refl _) ?_; intro v' w3 ho3 hgr3 _; rw [List.nil_append, Nat.zero_add] at ho3; obtain ⟨_, A3, c3, rfl, _⟩ := own_form ho3; have HO3 := hide ho3; have HK3 := hide ((Kp.refl No w2).grown hgr3 (fun k e => by cases e)); clear ho3 hgr3)
            have HRT := hide (show IntsIn w3 (fun j => Value.ownBlock (.slice A3 (iv roots).length c3) = some j) _ roots from .of_own HO3.out fun _ h => h)
            clear a1 a2 a3 a4
            obtain ⟨a1, a2, a3, a4, _⟩ := (HB2.out.kp HK3.out id).a2
            have hsz := HK3.out.size
            refine plan_start 13 (by kernel_rfl) rfl (fun hPT => ?_)
            refine plan_take (i := 0) (v := ?_) rfl (by kernel_rfl) (by kernel_rfl) (by kernel_rfl) (fun _ _ _ h => h) hPT (by rfl) ?_ ?_
            rotate_left
            · (intro w; go_simp; with_reducible rfl)
            (clear hPT; intro hPT; simp only [List.getElem_toArray, List.getElem_cons_zero, List.getElem_cons_succ, Act.put, List.setIfInBounds_toArray, List.set_cons_zero, List.set_cons_succ])
            refine plan_take (i := 2) (v := ?_) rfl (by kernel_rfl) (by kernel_rfl) (by kernel_rfl) (fun _ _ _ h => h) hPT (by rfl) ?_ ?_
            rotate_left
            · (intro w; go_simp; with_reducible rfl)
            (clear hPT; intro hPT; simp only [List.getElem_toArray, List.getElem_cons_zero, List.getElem_cons_succ, Act.put, List.setIfInBounds_toArray, List.set_cons_zero, List.set_cons_succ])
            refine plan_take (i := 3) (v := ?_) rfl (by kernel_rfl) (by kernel_rfl) (by kernel_rfl) (fun _ _ _ h => h) hPT (by rfl) ?_ ?_
            rotate_left
            · (intro w; go_simp; with_reducible rfl)
            (clear hPT; intro hPT; simp only [List.getElem_toArray, List.getElem_cons_zero, List.getElem_cons_succ, Act.put, List.setIfInBounds_toArray, List.set_cons_zero, List.set_cons_succ])
            refine plan_load (fun w' => w'.cell? ⟨w.heap.size, 0, none⟩ = some (.slice Ao outs.length co)) (i := 1) (v := ?_) rfl (by kernel_rfl) (by kernel_rfl) (by kernel_rfl) (fun _ _ _ h => h) hPT (by rfl) ?_ ?_ ?_
            rotate_left
            · (first | assumption | (go_simp; done))
            · (intro w hSw; (try dsimp only at hSw); go_simp; with_reducible rfl)
            (clear hPT; intro hPT; simp only [List.getElem_toArray, List.getElem_cons_zero, List.getElem_cons_succ, Act.put, List.setIfInBounds_toArray, List.set_cons_zero, List.set_cons_succ])
            refine plan_one (i := 4) (by kernel_rfl) rfl (by rfl) (fun K hK => ?_)
            (try simp only [List.getElem_toArray, List.getElem_cons_zero, List.getElem_cons_succ, Act.put, List.setIfInBounds_toArray, List.set_cons_zero, List.set_cons_succ])
            go_simp
            refine hK.out _ _ _ (t_cons (by go_simp) (t_nil _)) k_same (fun hPT' => ?_)
            (clear hPT hK K; have hPT := hPT'; clear hPT'; try simp only [List.getElem_toArray, List.getElem_cons_zero, List.getElem_cons_succ, Act.put, List.setIfInBounds_toArray, List.set_cons_zero, List.set_cons_succ])
            refine plan_one (i := 5) (by kernel_rfl) rfl (by rfl) (fun K hK => ?_)
            (try simp only [List.getElem_toArray, List.getElem_cons_zero, List.getElem_cons_succ, Act.put, List.setIfInBounds_toArray, List.set_cons_zero, List.set_cons_succ])
            refine wp_push _ (.tmp 82) (.tmp 84) _ rfl w2.heap.size 3 _ 8 Try.underlying23 Try.infoInt rfl (.slice A3 (iv roots).length c3) (iv roots).length (iv roots) rfl (HO3.out.drew.alloc _) _ rfl 1 _ rfl ((Blk.new _ _ _).cell 0) (by simp [iv]; omega) (by decide) (by simp; omega) ?_
            intro g' c' w4 ho4 hgr4 _
            have hk4 : Kp No w2 w4 := ((HK3.out.alloc _).drew).grown hgr4 fun k e hk => by have := (own_lt HO3.out e).1; omega
            have hi4 : IntsIn w4 (fun _ => True) (.slice (some ⟨g', 0, none⟩) ((iv roots).length + 1) c') (roots ++ [root]) :=
              IntsIn.of_own (base := w2.heap.size) (e := 3) (n := (iv roots).length + 1) (by simpa [iv] using ho4) fun _ _ => trivial
            obtain ⟨g1, g2, g3, g4, _⟩ := (HB2.out.kp hk4 id).a2
            have HK4 := hide hk4
            have HI4 := hide hi4
            clear hk4 hi4 ho4 hgr4 HO3 HRT
            refine hK.out _ _ _ (t_cons g1 (t_nil _)) k_same (fun hPT' => ?_)
            (clear hPT hK K; have hPT := hPT'; clear hPT'; try simp only [List.getElem_toArray, List.getElem_cons_zero, List.getElem_cons_succ, Act.put, List.setIfInBounds_toArray, List.set_cons_zero, List.set_cons_succ])
            refine plan_take (i := 6) (v := ?_) rfl (by kernel_rfl) (by kernel_rfl) (by kernel_rfl) (fun _ _ _ h => h) hPT (by rfl) ?_ ?_
            rotate_left
            · (intro w; go_simp; with_reducible rfl)
            (clear hPT; intro hPT; simp only [List.getElem_toArray, List.getElem_cons_zero, List.getElem_cons_succ, Act.put, List.setIfInBounds_toArray, List.set_cons_zero, List.set_cons_succ])
            refine plan_one (i := 7) (by kernel_rfl) rfl (by rfl) (fun K hK => ?_)
            (try simp only [List.getElem_toArray, List.getElem_cons_zero, List.getElem_cons_succ, Act.put, List.setIfInBounds_toArray, List.set_cons_zero, List.set_cons_succ])
            go_simp
            by_cases hm : chk outs (roots ++ [root]) = 0
            · have HM := hide (ok_of_chk hm)
              clear hm
              refine Calls.mono (reach_ok (F := fun _ => True) _ _ outs (roots ++ [root]) _ ((HO.out.no (HK2.out.trans HK4.out)).mono fun _ _ _ => trivial) HI4.out HM.out) ?_
              rintro e w5 ⟨rfl, hk5⟩
              have HK5 := hide (HK4.out.trans hk5)
              clear g1 g2 g3 g4 a1 a2 a3 a4 hk5
              obtain ⟨g1, g2, g3, g4, _⟩ := (HB2.out.kp HK5.out id).a2
              refine hK.out _ _ _ (t_cons g1 (t_nil _)) k_same (fun hPT' => ?_)
              (clear hPT hK K; have hPT := hPT'; clear hPT'; try simp only [List.getElem_toArray, List.getElem_cons_zero, List.getElem_cons_succ, Act.put, List.setIfInBounds_toArray, List.set_cons_zero, List.set_cons_succ])
              refine plan_take (i := 8) (v := ?_) rfl (by kernel_rfl) (by kernel_rfl) (by kernel_rfl) (fun _ _ _ h => h) hPT (by rfl) ?_ ?_
              rotate_left
              · (intro w; go_simp; with_reducible rfl)
              (clear hPT; intro hPT; simp only [List.getElem_toArray, List.getElem_cons_zero, List.getElem_cons_succ, Act.put, List.setIfInBounds_toArray, List.set_cons_zero, List.set_cons_succ])
              refine plan_take (i := 9) (v := ?_) rfl (by kernel_rfl) (by kernel_rfl) (by kernel_rfl) (fun _ _ _ h => h) hPT (by rfl) ?_ ?_
              rotate_left
              · (intro w; go_simp; with_reducible rfl)
              (clear hPT; intro hPT; simp only [List.getElem_toArray, List.getElem_cons_zero, List.getElem_cons_succ, Act.put, List.setIfInBounds_toArray, List.set_cons_zero, List.set_cons_succ])
              refine plan_take (i := 10) (v := ?_) rfl (by kernel_rfl) (by kernel_rfl) (by kernel_rfl) (fun _ _ _ h => h) hPT (by rfl) ?_ ?_
              rotate_left
              · (intro w; go_simp; with_reducible rfl)
              (clear hPT; intro hPT; simp only [List.getElem_toArray, List.getElem_cons_zero, List.getElem_cons_succ, Act.put, List.setIfInBounds_toArray, List.set_cons_zero, List.set_cons_succ])
              refine plan_take (i := 11) (v := ?_) rfl (by kernel_rfl) (by kernel_rfl) (by kernel_rfl) (fun _ _ _ h => h) hPT (by rfl) ?_ ?_
              rotate_left
              · (intro w; go_simp; with_reducible rfl)
              (clear hPT; intro hPT; simp only [List.getElem_toArray, List.getElem_cons_zero, List.getElem_cons_succ, Act.put, List.setIfInBounds_toArray, List.set_cons_zero, List.set_cons_succ])
              refine plan_take (i := 12) (v := ?_) rfl (by kernel_rfl) (by kernel_rfl) (by kernel_rfl) (fun _ _ _ h => h) hPT (by rfl) ?_ ?_
              rotate_left
              · (intro w; go_simp; with_reducible rfl)
              (clear hPT; intro hPT; simp only [List.getElem_toArray, List.getElem_cons_zero, List.getElem_cons_succ, Act.put, List.setIfInBounds_toArray, List.set_cons_zero, List.set_cons_succ])
              refine plan_done (by kernel_rfl) ?_ _
              clear hPT
              go_wp2_with fail
              obtain ⟨_, _, hq0, hq1⟩ := HM.out.less
              have HQ := hide (HOK.out.one hq0 hq1)
              refine Calls.mono (reach_ok (F := fun _ => True) _ _ outs [root] _ (((HO.out.no (HK2.out.trans HK5.out)).mono fun _ _ _ => trivial).no ((Kp.refl No _).alloc _)) (one_blk (Blk.new _ _ _) trivial) HQ.out) ?_
              rintro e w6 ⟨rfl, hk6⟩
              have HK6 := hide (HK5.out.trans (((Kp.refl No w5).alloc (.cells #[.int .i64 root] 3)).trans' hk6 fun _ _ h => h))
              clear g1 g2 g3 g4 hk6
              obtain ⟨g1, g2, g3, g4, _⟩ := (HB2.out.kp HK6.out id).a2
              have HNM := hide (reachN_lt HM.out)
              have HNQ := hide (reachN_lt HQ.out)
              go_wp2_with fail
              go_loop [14] (fun p => ∃ k : Nat, p = .int .i64 k ∧ k ≤ outs.length) (fun p => outs.length - (intOf p).toNat)
              case atStart => exact ⟨0, rfl, Nat.zero_le _⟩
              case round =>
                obtain ⟨i, rfl, hi⟩ := hrel
                by_cases hil : i < outs.length
                · have hi12 : i < 12 := by have := HL.out; omega
                  have HFB := hide (flow_bits HM.out i)
                  go_wp2_with fail
                  refine Calls.mono (bit_any (reachN outs (roots ++ [root])) i (by have := HNM.out; omega) (by omega) _) ?_
                  rintro e w7 ⟨rfl, rfl⟩
                  go_wp2_with fail
                  refine Calls.mono (bit_any (reachN outs roots) i (by have := HN.out; omega) (by omega) _) ?_
                  rintro e w7 ⟨rfl, rfl⟩
                  rw [HFB.out]
                  cases hb : bt (reachN outs roots) i with
                  | true =>
                    go_wp2
                    go_round
                    case rel => exact ⟨i + 1, by go_num, hil⟩
                    case measure => simp [intOf]; omega
                  | false =>
                    go_wp2_with fail
                    refine Calls.mono (bit_any (reachN outs [root]) i (by have := HNQ.out; omega) (by omega) _) ?_
                    rintro e w7 ⟨rfl, rfl⟩
                    go_wp2
                    go_round
                    case rel => exact ⟨i + 1, by go_num, hil⟩
                    case measure => simp [intOf]; omega
                · obtain rfl : i = outs.length := by omega
                  go_wp2
                  go_ret
                  exact ⟨rfl, HK2.out.trans HK6.out⟩
            · have HM := hide hm
              refine Calls.mono (reach_bad (F := fun _ => True) _ _ outs (roots ++ [root]) _ ((HO.out.no (HK2.out.trans HK4.out)).mono fun _ _ _ => trivial) HI4.out HM.out) ?_
              rintro e w5 ⟨rfl, hk5⟩
              have HK5 := hide (HK4.out.trans hk5)
              clear g1 g2 g3 g4 a1 a2 a3 a4 hk5
              obtain ⟨g1, g2, g3, g4, _⟩ := (HB2.out.kp HK5.out id).a2
              refine hK.out _ _ _ (t_cons g1 (t_nil _)) k_same (fun hPT' => ?_)
              (clear hPT hK K; have hPT := hPT'; clear hPT'; try simp only [List.getElem_toArray, List.getElem_cons_zero, List.getElem_cons_succ, Act.put, List.setIfInBounds_toArray, List.set_cons_zero, List.set_cons_succ])
              refine plan_take (i := 8) (v := ?_) rfl (by kernel_rfl) (by kernel_rfl) (by kernel_rfl) (fun _ _ _ h => h) hPT (by rfl) ?_ ?_
              rotate_left
              · (intro w; go_simp; with_reducible rfl)
              (clear hPT; intro hPT; simp only [List.getElem_toArray, List.getElem_cons_zero, List.getElem_cons_succ, Act.put, List.setIfInBounds_toArray, List.set_cons_zero, List.set_cons_succ])
              refine plan_take (i := 9) (v := ?_) rfl (by kernel_rfl) (by kernel_rfl) (by kernel_rfl) (fun _ _ _ h => h) hPT (by rfl) ?_ ?_
              rotate_left
              · (intro w; go_simp; with_reducible rfl)
              (clear hPT; intro hPT; simp only [List.getElem_toArray, List.getElem_cons_zero, List.getElem_cons_succ, Act.put, List.setIfInBounds_toArray, List.set_cons_zero, List.set_cons_succ])
              refine plan_take (i := 10) (v := ?_) rfl (by kernel_rfl) (by kernel_rfl) (by kernel_rfl) (fun _ _ _ h => h) hPT (by rfl) ?_ ?_
              rotate_left
              · (intro w; go_simp; with_reducible rfl)
              (clear hPT; intro hPT; simp only [List.getElem_toArray, List.getElem_cons_zero, List.getElem_cons_succ, Act.put, List.setIfInBounds_toArray, List.set_cons_zero, List.set_cons_succ])
              refine plan_take (i := 11) (v := ?_) rfl (by kernel_rfl) (by kernel_rfl) (by kernel_rfl) (fun _ _ _ h => h) hPT (by rfl) ?_ ?_
              rotate_left
              · (intro w; go_simp; with_reducible rfl)
              (clear hPT; intro hPT; simp only [List.getElem_toArray, List.getElem_cons_zero, List.getElem_cons_succ, Act.put, List.setIfInBounds_toArray, List.set_cons_zero, List.set_cons_succ])
              refine plan_take (i := 12) (v := ?_) rfl (by kernel_rfl) (by kernel_rfl) (by kernel_rfl) (fun _ _ _ h => h) hPT (by rfl) ?_ ?_
              rotate_left
              · (intro w; go_simp; with_reducible rfl)
              (clear hPT; intro hPT; simp only [List.getElem_toArray, List.getElem_cons_zero, List.getElem_cons_succ, Act.put, List.setIfInBounds_toArray, List.set_cons_zero, List.set_cons_succ])
              refine plan_done (by kernel_rfl) ?_ _
              clear hPT
              by_cases h12 : roots.length = 12
              · have e12 : ((roots.length : Int) == 12) = true := by rw [h12]; rfl
                go_wp2
                go_ret
                exact ⟨rfl, HK2.out.trans HK5.out⟩
              · have e12 : ((roots.length : Int) == 12) = false := by simp; omega
                have HBM := hide (bad_more HOK.out HM.out h12)
                go_wp2_with fail
                refine Calls.mono (in_any root 0 ((outs.length : Int) - 1) _) ?_
                rw [HBM.out]
                rintro e w7 ⟨rfl, rfl⟩
                go_wp2
                go_ret
                exact ⟨rfl, HK2.out.trans HK5.out⟩
  · have HC := hide hc
    go_enter Try.func4, Try.ntmps4
    go_wp2_with fail
    refine Calls.mono (graphFact_any _) ?_
    rintro e w1 ⟨rfl, hk1⟩
    have hb1 := (Blk.new w 25 #[vo, vr]).kp hk1 id
    obtain ⟨a1, a2, a3, a4, a5⟩ := hb1.a2
    have HK1 := hide (((Kp.refl No w).alloc (.cells #[vo, vr] 25)).trans' hk1 fun _ _ h => h)
    clear hk1 hb1
    go_wp2_with fail
    refine Calls.mono (reach_bad vo vr outs roots _ (HO.out.no HK1.out) (HR.out.no HK1.out) HC.out) ?_
    rintro e w2 ⟨rfl, hk2⟩
    have HK2 := hide (HK1.out.trans hk2)
    clear hk2
    go_wp2
    go_ret
    exact ⟨rfl, HK2.out⟩
end Go.Proofs.Ytkfibfacfgiplaa
