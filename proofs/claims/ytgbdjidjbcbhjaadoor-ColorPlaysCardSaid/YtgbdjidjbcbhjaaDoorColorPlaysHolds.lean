/- The law ColorPlays holds of every input that its types let in. No condition. -/
import Derived.Test.YtgbdjidjbcbhjaaDoorWrap
import Derived.Test.YtgbdjidjbcbhjaaDoorLaid
import Derived.Test.YtgbdjidjbcbhjaaDoorColorPlays
namespace Go.Proofs.YtgbdjidjbcbhjaaDoor
open Go.RowKit Go.ChangeShapes Go.WideShapes Go.ChangeAt Go.Joins Go.Deep

set_option maxRecDepth 100000 in
theorem colorPlays_lifted (os : Os) (started : os.Started) (H : Type) (enc : TypeId × Value → H) :
    ReturnsInHanded {} Tryd.checked os 7 .any (fun w args => (Rows.colorPlaysSpec.pre enc Tryd.prog Tryd.f7 [] false w args ∧ laidMetH Tryd.prog Rows.colorPlaysRow.laid w) ∧ sizedMet enc Tryd.prog Tryd.f7 (OpenSpec.ofChange Rows.colorPlaysSpec) false w args) (Rows.colorPlaysSpec.post enc Tryd.prog Tryd.f7 false true false false) := by
  refine returnsInHanded_of_change_and (C := Tryd.checked) (X := fun w _ => laidMetH Tryd.prog Rows.colorPlaysRow.laid w) (fun _ _ _ hh h => h.of_heap hh) wrap_own started (by kernel_rfl) Tryd.func7
    (ChangeSpec.witness_at (enc := enc) (C := Tryd.checked) (os := os) (X := fun w _ => laidMetH Tryd.prog Rows.colorPlaysRow.laid w) false (laidWorld os) #[.agg #[.slice none 0 0, .slice none 0 0], .slice none 0 0] 8 rfl (by kernel_rfl) (by kernel_rfl) (by kernel_rfl) (by kernel_rfl) (by kernel_rfl) (laidWorld_met os _)) ?_
  intro W base args ds gs before hval0 hW _ _ hL _
  have hg := handle_of_laid hL
  have hval : ∀ (j : Nat) t v, Tryd.f7.params[j]? = some t → args[j]? = some v → Value.okWide Tryd.prog W .any base t v := hval0
  have hW' := hW
  obtain ⟨p, q, hA0, hV, rfl, _, _⟩ := hW
  have hA : DataW.TrodAll enc Tryd.prog W 0 (fun _ => true) true Tryd.f7.params.toList args.toList ds p := hA0
  rw [Tryd.params7] at hA hval
  obtain ⟨v0, v1, d0, d1, p0, p1, rfl, rfl, rfl, h0, h1⟩ := trodAll_two hA
  obtain ⟨c0a, c0b, y0a, y0b, m0, rfl, rfl, rfl, hy0a, hy0b⟩ := open_agg2 Tryd.underlying25 (by kernel_rfl) wrap_cells_heap (hval 0 25 v0 rfl rfl) h0
  obtain ⟨outs0, ho0⟩ := read_rows hy0a
  obtain ⟨roots0, hr0⟩ := read_ints hy0b
  obtain ⟨A1, len1, cap1, rfl⟩ := okWide_slice Tryd.underlying22 (hval 1 22 v1 rfl rfl)
  obtain ⟨fuel1, hf1⟩ := h1
  obtain ⟨xss1, hx1⟩ := read_rows hf1
  refine (colorPlays_any c0a c0b _ outs0 roots0 xss1 W ho0 hr0 hx1 hg).mono fun e W' ⟨he, hk⟩ => ?_
  exact ⟨_, he, law_post rfl (by kernel_rfl) rfl (by rw [Tryd.params7]; decide +kernel) hW' hk⟩

theorem colorPlays_h1 : Tryd.prog.funcNamed Rows.colorPlaysRow.func = some 7 := by kernel_rfl
theorem colorPlays_h2 : joinedFacts Tryd.prog 7 Tryd.f7 Rows.colorPlaysSpec Rows.colorPlaysRow = true := by
  unfold joinedFacts
  with_reducible (repeat' apply band_intro)
  all_goals first | with_reducible exact fact_mayEnter | ((with_reducible refine fact_lifts_of _ ?_); rfl) | ((with_reducible refine fact_make_of _ ?_); rfl) | as_aux_lemma => kernel_rfl
theorem colorPlays_h3 : Tryd.f7.isInstance Tryd.prog Rows.colorPlaysRow.origin Rows.colorPlaysRow.targs := of_decide_eq_true (by kernel_rfl)
theorem colorPlays_h4 : Tryd.f7.isWrapper Tryd.prog Rows.colorPlaysRow.wrapper Rows.colorPlaysRow.mainSum := by unfold Func.isWrapper; rw [if_neg (by decide +kernel)]; exact ⟨rfl, rfl⟩
theorem colorPlays_row : Rows.ColorPlaysSaid :=
  OpenClaim.holds_of_wide 7 Tryd.f7 rfl rfl rfl rfl rfl rfl rfl ⟨rfl, rfl, rfl, rfl, rfl⟩ rfl rfl rfl rfl rfl colorPlays_h1 Tryd.func7 colorPlays_h2 colorPlays_h3 colorPlays_h4
    (fun os started H enc _ => colorPlays_lifted os started H enc)

theorem colorPlays_params : ∀ (j : Nat) t, Tryd.f7.params[j]? = some t → Tryd.prog.wantsStandIn t = false := by
  intro j t ht
  rw [Tryd.params7] at ht
  have h3 : t = 25 ∨ t = 22 := by
    rcases j with _ | _ | _ | j <;> simp at ht <;> simp [ht]
  rcases h3 with rfl | rfl
  · exact (show Tryd.prog.wantsStandIn 25 = false by kernel_rfl)
  · exact (show Tryd.prog.wantsStandIn 22 = false by kernel_rfl)
theorem colorPlays_holds : Rows.ColorPlaysCardSaid :=
  Claim7.holds_tied_plain_at .later [] [.handle] true (true, "4a647e7e388d42896a7327d1a1ce7f395f25dd0968ac3346dfc86a666dcb673d") true
    colorPlays_row (fun _ h => by cases h) (by kernel_rfl) (fun _ h => by cases h) colorPlays_row_tie rfl ⟨rfl, rfl⟩ (by kernel_rfl) rfl
    (fun f fn hf hfn => by
      obtain rfl : f = 7 := Option.some.inj (colorPlays_h1.symm.trans hf) |>.symm
      obtain rfl : fn = Tryd.f7 := (Option.some.inj (Tryd.func7.symm.trans hfn)).symm
      exact ⟨by kernel_rfl, colorPlays_params⟩)
    (by kernel_rfl)
#print axioms colorPlays_holds
end Go.Proofs.YtgbdjidjbcbhjaaDoor
