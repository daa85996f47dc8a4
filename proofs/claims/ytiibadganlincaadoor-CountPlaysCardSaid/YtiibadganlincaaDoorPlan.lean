/- A region that leaves its order open, walked in one order: what may come up early is taken first; what a taken load reads is shown anew behind each operation that does not wait for it. No condition. -/
import Derived.Test.YtiibadganlincaaDoorBase
import Derived.Deep.RegionHeld3
import Derived.Deep.RegionWith
namespace Go.Proofs.YtiibadganlincaaDoor
open Go.RowKit

section
variable {P : Program} {ops : Array Oper} {Q : Exit → Act → World → Prop} {md : Region.Mode}

/-- does operation j wait for i, by an edge of its own? -/
def waitsFor (md : Region.Mode) (ops : Array Oper) (j i : Nat) : Bool := match ops[j]? with
  | some o => o.after.any fun e => Region.binds md e && e.on == i
  | none => false

/-- whatever order is picked; what the taken loads ask of the world holds behind each operation that does not wait for them -/
def wpAnyT (P : Program) (md : Region.Mode) (ops : Array Oper) (Q : Exit → Act → World → Prop) : Nat → List (Nat × (World → Prop)) → Array Bool → Act → World → Prop
  | 0, _, listed, a, w => Region.ready md ops listed = [] ∧ Q .normal a w
  | fuel + 1, T, listed, a, w =>
    (Region.ready md ops listed = [] → Q .normal a w) ∧
    ∀ j ∈ Region.ready md ops listed, wpOp P ops Q j (fun a' w' => ∃ T', (∀ x ∈ T', x.2 w') ∧ (∀ x ∈ T, x ∈ T' ∨ waitsFor md ops j x.1 = true) ∧ wpAnyT P md ops Q fuel T' (listed.setIfInBounds j true) a' w') a w

theorem wpAny_of_T : ∀ (fuel : Nat) (T : List (Nat × (World → Prop))) (listed : Array Bool) (a : Act) (w : World), wpAnyT P md ops Q fuel T listed a w → wpAny P md ops Q fuel listed a w
  | 0, _, _, _, _, h => h
  | fuel + 1, _, _, _, _, h => ⟨h.1, fun i hi => wpOp_mono (fun a' w' ⟨T', _, _, h'⟩ => wpAny_of_T fuel T' _ a' w' h') (h.2 i hi)⟩

theorem wpAnyT_first {S : World → Prop} {i : Nat} {oi : Oper} {v : Value} (hi : ops[i]? = some oi) (hsel : ∀ (j : Nat) (o : Oper) cs b, ops[j]? = some o → o.op ≠ .select cs b)
    (hQ : ∀ c a w, Q (.panic c) (a.put oi.dst v) w → Q (.panic c) a w) :
    ∀ (fuel : Nat) (T0 T1 : List (Nat × (World → Prop))) (listed : Array Bool) (a : Act) (w : World),
      (∀ j oj, ops[j]? = some oj → j ≠ i → listed.getD j true = false → (∀ e ∈ oj.after, Region.binds md e = true → e.on ≠ i) → oi.apart ops oj = true) →
      i ∈ Region.ready md ops listed → YieldsIf P ops S oi v a → S w → (∀ x ∈ T1, x.2 w) → (∀ x ∈ T0, x ∈ T1) → ((i, S) ∈ T1 ∨ ∀ w, S w) →
      wpAnyT P md ops Q fuel T1 (listed.setIfInBounds i true) (a.put oi.dst v) w → wpAnyT P md ops Q (fuel + 1) T0 listed a w := by
  intro fuel
  induction fuel with
  | zero =>
    intro T0 T1 listed a w _ hr hy hS hT hsub _ H
    refine ⟨fun h => (by rw [h] at hr; cases hr), fun j hj => ?_⟩
    by_cases hji : j = i
    · subst hji; exact hy.wpOp hi hS ⟨T1, hT, fun x hx => .inl (hsub x hx), H⟩
    · have := ready_mono hj hji
      rw [H.1] at this
      cases this
  | succ fuel ih =>
    intro T0 T1 listed a w hfree hr hy hS hT hsub hmem H
    refine ⟨fun h => (by rw [h] at hr; cases hr), fun j hj => ?_⟩
    by_cases hji : j = i
    · subst hji; exact hy.wpOp hi hS ⟨T1, hT, fun x hx => .inl (hsub x hx), H⟩
    · have h1 := H.2 j (ready_mono hj hji)
      obtain ⟨hjun, oj, hoj, hall⟩ := mem_ready.1 hj
      have hnot : ∀ e ∈ oj.after, Region.binds md e = true → e.on ≠ i := fun e he hb heq => by
        have h1 := hall e he hb
        have h0 := (mem_ready.1 hr).1
        rw [heq] at h1
        rcases Nat.lt_or_ge i listed.size with h' | h'
        · simp [h'] at h0 h1; rw [h0] at h1; cases h1
        · simp [Array.getElem?_eq_none h'] at h1
      have hnw : waitsFor md ops j i = false := by
        unfold waitsFor
        rw [hoj]
        simp only
        rw [Bool.eq_false_iff]
        intro h
        obtain ⟨e, he, hb⟩ := Array.any_eq_true'.1 h
        simp only [Bool.and_eq_true, beq_iff_eq] at hb
        exact hnot e he hb.1 hb.2
      have h2 := wpOp_putIf hoj (hfree j oj hoj hji hjun hnot) (fun cs b => hsel i oi cs b hi) (fun cs b => hsel j oj cs b hoj) hQ hy h1
      have hfree' : ∀ k ok, ops[k]? = some ok → k ≠ i → (listed.setIfInBounds j true).getD k true = false →
          (∀ e ∈ ok.after, Region.binds md e = true → e.on ≠ i) → oi.apart ops ok = true := fun k ok hk hki hun hno => by
        refine hfree k ok hk hki ?_ hno
        by_cases hjk : j = k
        · subst hjk; exact hjun
        · rw [getD_set_ne true hjk] at hun; exact hun
      refine wpOp_mono (fun a' w' h3 => ?_) h2
      obtain ⟨hy', T', hT', hk', h3⟩ := h3
      have hm' : (i, S) ∈ T' ∨ ∀ w, S w := by
        rcases hmem with h | h
        · rcases hk' _ h with h | h
          · exact .inl h
          · rw [hnw] at h; cases h
        · exact .inr h
      have hS' : S w' := by
        rcases hm' with h | h
        · exact hT' _ h
        · exact h w'
      refine ⟨T', hT', fun x hx => hk' x (hsub x hx), ih T' T' (listed.setIfInBounds j true) a' w' hfree' (ready_mono hr (Ne.symm hji)) hy' hS' hT' (fun _ h => h) hm' ?_⟩
      rw [Array.setIfInBounds_comm _ _ hji]
      exact h3

/-- take number i first: it yields in whatever world -/
theorem plan_take {i : Nat} {oi : Oper} {v : Value} {fuel : Nat} {T : List (Nat × (World → Prop))} {listed : Array Bool} {a : Act} {w : World} (hi : ops[i]? = some oi)
    (hs : Region.noSelect ops = true) (hf : Region.free md ops listed i = true) (hr : (Region.ready md ops listed).contains i = true)
    (hQ : ∀ c a w, Q (.panic c) (a.put oi.dst v) w → Q (.panic c) a w) (hT : Hid (∀ x ∈ T, x.2 w)) (hw : Region.wanted oi (yielded ops a.tmps) = true)
    (hy : ∀ w, (execOp a.eval oi).run P w = .ok (.value v) w)
    (h : Hid (∀ x ∈ T, x.2 w) → wpAnyT P md ops Q fuel T (listed.setIfInBounds i true) (a.put oi.dst v) w) : wpAnyT P md ops Q (fuel + 1) T listed a w :=
  wpAnyT_first (S := fun _ => True) hi (Region.noSelect_spec hs) hQ fuel T T listed a w (Region.free_spec hi hf) (by simpa using hr) (.inl ⟨hw, fun w _ => hy w⟩) trivial hT.out (fun _ h => h) (.inr fun _ => trivial) (h hT)

/-- take number i first: it yields in each world that meets S -/
theorem plan_load (S : World → Prop) {i : Nat} {oi : Oper} {v : Value} {fuel : Nat} {T : List (Nat × (World → Prop))} {listed : Array Bool} {a : Act} {w : World} (hi : ops[i]? = some oi)
    (hs : Region.noSelect ops = true) (hf : Region.free md ops listed i = true) (hr : (Region.ready md ops listed).contains i = true)
    (hQ : ∀ c a w, Q (.panic c) (a.put oi.dst v) w → Q (.panic c) a w) (hT : Hid (∀ x ∈ T, x.2 w)) (hw : Region.wanted oi (yielded ops a.tmps) = true)
    (hS : S w) (hy : ∀ w, S w → (execOp a.eval oi).run P w = .ok (.value v) w)
    (h : Hid (∀ x ∈ (i, S) :: T, x.2 w) → wpAnyT P md ops Q fuel ((i, S) :: T) (listed.setIfInBounds i true) (a.put oi.dst v) w) : wpAnyT P md ops Q (fuel + 1) T listed a w :=
  have hT' : ∀ x ∈ (i, S) :: T, x.2 w := fun x hx => by
    rcases List.mem_cons.1 hx with rfl | hx
    · exact hS
    · exact hT.out x hx
  wpAnyT_first (S := S) hi (Region.noSelect_spec hs) hQ fuel T ((i, S) :: T) listed a w (Region.free_spec hi hf) (by simpa using hr) (.inl ⟨hw, hy⟩) hS hT' (fun _ h => List.mem_cons_of_mem _ h) (.inl (List.mem_cons_self ..)) (h hT')

/-- number i is passed over -/
theorem plan_pass {i : Nat} {oi : Oper} {fuel : Nat} {T : List (Nat × (World → Prop))} {listed : Array Bool} {a : Act} {w : World} (hi : ops[i]? = some oi)
    (hs : Region.noSelect ops = true) (hf : Region.free md ops listed i = true) (hr : (Region.ready md ops listed).contains i = true)
    (hQ : ∀ c a w, Q (.panic c) (a.put oi.dst undef) w → Q (.panic c) a w) (hT : Hid (∀ x ∈ T, x.2 w)) (hw : Region.wanted oi (yielded ops a.tmps) = false)
    (h : Hid (∀ x ∈ T, x.2 w) → wpAnyT P md ops Q fuel T (listed.setIfInBounds i true) (a.put oi.dst undef) w) : wpAnyT P md ops Q (fuel + 1) T listed a w :=
  wpAnyT_first (S := fun _ => True) hi (Region.noSelect_spec hs) hQ fuel T T listed a w (Region.free_spec hi hf) (by simpa using hr) (.inr ⟨hw, rfl⟩) trivial hT.out (fun _ h => h) (.inr fun _ => trivial) (h hT)

/-- none but number i may come up: it is carried out -/
theorem plan_one {i : Nat} {o : Oper} {fuel : Nat} {T : List (Nat × (World → Prop))} {listed : Array Bool} {a : Act} {w : World} (hr : Region.ready md ops listed = [i]) (ho : ops[i]? = some o)
    (hw : Region.wanted o (yielded ops a.tmps) = true)
    (h : ∀ K : Act → World → Prop, Shut (∀ T' a' w', (∀ x ∈ T', x.2 w') → (∀ x ∈ T, x ∈ T' ∨ waitsFor md ops i x.1 = true) → (Hid (∀ x ∈ T', x.2 w') → wpAnyT P md ops Q fuel T' (listed.setIfInBounds i true) a' w') → K a' w') → o.wp P a w K Q) :
    wpAnyT P md ops Q (fuel + 1) T listed a w :=
  ⟨fun h0 => absurd (hr ▸ h0) (by simp), fun j hj => by
    rw [hr] at hj
    have hj : j = i := by simpa using hj
    subst hj
    unfold wpOp
    rw [ho]
    simp only [hw, if_true]
    exact .inl (h _ fun T' a' w' h1 h2 h3 => ⟨T', h1, h2, h3 (hide h1)⟩)⟩

/-- two may come up: either is carried out -/
theorem plan_two {i j : Nat} {oi oj : Oper} {fuel : Nat} {T : List (Nat × (World → Prop))} {listed : Array Bool} {a : Act} {w : World} (hr : Region.ready md ops listed = [i, j]) (hoi : ops[i]? = some oi) (hoj : ops[j]? = some oj)
    (hwi : Region.wanted oi (yielded ops a.tmps) = true) (hwj : Region.wanted oj (yielded ops a.tmps) = true)
    (h1 : ∀ K : Act → World → Prop, Shut (∀ T' a' w', (∀ x ∈ T', x.2 w') → (∀ x ∈ T, x ∈ T' ∨ waitsFor md ops i x.1 = true) → (Hid (∀ x ∈ T', x.2 w') → wpAnyT P md ops Q fuel T' (listed.setIfInBounds i true) a' w') → K a' w') → oi.wp P a w K Q)
    (h2 : ∀ K : Act → World → Prop, Shut (∀ T' a' w', (∀ x ∈ T', x.2 w') → (∀ x ∈ T, x ∈ T' ∨ waitsFor md ops j x.1 = true) → (Hid (∀ x ∈ T', x.2 w') → wpAnyT P md ops Q fuel T' (listed.setIfInBounds j true) a' w') → K a' w') → oj.wp P a w K Q) :
    wpAnyT P md ops Q (fuel + 1) T listed a w :=
  ⟨fun h0 => absurd (hr ▸ h0) (by simp), fun k hk => by
    rw [hr] at hk
    simp only [List.mem_cons, List.not_mem_nil, or_false] at hk
    rcases hk with rfl | rfl
    · unfold wpOp
      rw [hoi]
      simp only [hwi, if_true]
      exact .inl (h1 _ fun T' a' w' h1 h2 h3 => ⟨T', h1, h2, h3 (hide h1)⟩)
    · unfold wpOp
      rw [hoj]
      simp only [hwj, if_true]
      exact .inl (h2 _ fun T' a' w' h1 h2 h3 => ⟨T', h1, h2, h3 (hide h1)⟩)⟩

theorem plan_done {T : List (Nat × (World → Prop))} {listed : Array Bool} {a : Act} {w : World} (hr : Region.ready md ops listed = []) (h : Q .normal a w) : ∀ fuel, wpAnyT P md ops Q fuel T listed a w
  | 0 => ⟨hr, h⟩
  | _ + 1 => ⟨fun _ => h, by rw [hr]; simp⟩

theorem plan_start {id : Nat} {a : Act} {w : World} (n : Nat) (hm : P.follows .mixedOrders = true) (hn : ops.size = n)
    (h : Hid (∀ x ∈ ([] : List (Nat × (World → Prop))), x.2 w.drew) → wpAnyT P .any ops Q n [] (Array.replicate n false) a w.drew) : (Code.region id ops true).wp P Q a w := by
  subst hn
  exact wp_region_any hm (wpAny_of_T _ _ _ _ _ (h (hide fun _ h => by cases h)))

theorem panic_put {fn : Func} {R : Ending → World → Prop} {c : List PanicEntry} {a : Act} {d : Option Tmp} {v : Value} {w : World} (h : bodyPost P fn R (.panic c) (a.put d v) w) : bodyPost P fn R (.panic c) a w := by
  cases d <;> exact h
theorem t_nil (w : World) : ∀ x ∈ ([] : List (Nat × (World → Prop))), x.2 w := fun _ h => by cases h
theorem t_cons {w : World} {i : Nat} {S : World → Prop} {T : List (Nat × (World → Prop))} (h : S w) (t : ∀ x ∈ T, x.2 w) : ∀ x ∈ (i, S) :: T, x.2 w := fun x hx => by
  rcases List.mem_cons.1 hx with rfl | hx
  · exact h
  · exact t x hx
theorem k_same {T : List (Nat × (World → Prop))} {j : Nat} : ∀ x ∈ T, x ∈ T ∨ waitsFor md ops j x.1 = true := fun _ h => .inl h
theorem k_nil {T : List (Nat × (World → Prop))} {j : Nat} : ∀ x ∈ ([] : List (Nat × (World → Prop))), x ∈ T ∨ waitsFor md ops j x.1 = true := fun _ h => by cases h
theorem k_drop {T T' : List (Nat × (World → Prop))} {i j : Nat} {S : World → Prop} (h : waitsFor md ops j i = true) (t : ∀ x ∈ T, x ∈ T' ∨ waitsFor md ops j x.1 = true) : ∀ x ∈ (i, S) :: T, x ∈ T' ∨ waitsFor md ops j x.1 = true := fun x hx => by
  rcases List.mem_cons.1 hx with rfl | hx
  · exact .inr h
  · exact t x hx

theorem k_keep {T T' : List (Nat × (World → Prop))} {j : Nat} {x0 : Nat × (World → Prop)} (t : ∀ x ∈ T, x ∈ T' ∨ waitsFor md ops j x.1 = true) : ∀ x ∈ x0 :: T, x ∈ x0 :: T' ∨ waitsFor md ops j x.1 = true := fun x hx => by
  rcases List.mem_cons.1 hx with rfl | hx
  · exact .inl (List.mem_cons_self ..)
  · exact (t x hx).imp (fun h => List.mem_cons_of_mem _ h) id

/-- an append of one element, at a step -/
theorem wp_push (w : World) {o : Oper} {a : Act} {K : Act → World → Prop} {Q : Exit → Act → World → Prop} (s x : Operand) (t : TypeId)
    (ho : o.op = .call { callee := .builtin .append, args := #[s, x], argTypes := #[t, t] })
    (base : Nat) (e : TypeId) (z : Value) (bytes : Nat) (ht : P.underlying t = some (.slice e)) (hinfo : (P.info? e).map (fun i => (i.zero, i.size, i.bytes)) = some (some z, 1, bytes)) (hzs : z.cells.size = 1)
    (v : Value) (n : Nat) (xs : List Value) (hs : a.eval s = v) (hown : w.ownsRow base e 1 v n xs) (u : Value) (h1 : u.oneCell' = true) (c N : Nat) (hx : a.eval x = .slice (some ⟨N, 0, none⟩) 1 c) (hc : w.cell? ⟨N, 0, none⟩ = some u)
    (h63 : n + 1 ≤ 1073741824) (hb : bytes ≤ 1024) (hbase : base ≤ w.heap.size)
    (h : ∀ g' c' w', w'.ownsRow base e 1 (.slice (some ⟨g', 0, none⟩) (n + 1) c') (n + 1) (xs ++ [u]) → w.grownBy w' v.ownBlock → (v.ownBlock = some g' ∨ g' = w.heap.size) → K (a.put o.dst (.slice (some ⟨g', 0, none⟩) (n + 1) c')) w') : Oper.wp P o a w K Q := by
  obtain ⟨g', c', w', hr, h2, h3, h4⟩ := run_push (P := P) w t o.type base e z bytes ht hinfo hzs v n xs hown u h1 c N hc h63 hb hbase
  unfold Oper.wp execOp
  simp only [ho, resolve, invoke, builtin, Sem.run_bind, Sem.run_pure, Result.andThen_ok, List.map_toArray, List.map_cons, List.map_nil, hs, hx, hr]
  exact h g' c' w' h2 h3 h4
end

end Go.Proofs.YtiibadganlincaaDoor
