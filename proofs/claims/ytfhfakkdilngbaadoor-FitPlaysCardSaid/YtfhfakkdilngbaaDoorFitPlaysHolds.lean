/- The law FitPlays holds of every input that its types let in. No condition. -/
import Derived.Test.YtfhfakkdilngbaaDoorWrap
import Derived.Test.YtfhfakkdilngbaaDoorLaid
import Derived.Test.YtfhfakkdilngbaaDoorFitPlays
namespace Go.Proofs.YtfhfakkdilngbaaDoor
open Go.RowKit Go.ChangeShapes Go.WideShapes Go.ChangeAt Go.Joins Go.Deep

set_option maxRecDepth 100000 in
theorem fitPlays_lifted (os : Os) (started : os.Started) (H : Type) (enc : TypeId × Value → H) :
    ReturnsInHanded {} Tryd.checked os 4 .any (fun w args => (Rows.fitPlaysSpec.pre enc Tryd.prog Tryd.f4 [] false w args ∧ laidMetH Tryd.prog Rows.fitPlaysRow.laid w) ∧ sizedMet enc Tryd.prog Tryd.f4 (OpenSpec.ofChange Rows.fitPlaysSpec) false w args) (Rows.fitPlaysSpec.post enc Tryd.prog Tryd.f4 false true false false) := by
  refine returnsInHanded_of_change_and (C := Tryd.checked) (X := fun w _ => laidMetH Tryd.prog Rows.fitPlaysRow.laid w) (fun _ _ _ hh h => h.of_heap hh) wrap_own started (by kernel_rfl) Tryd.func4
    (ChangeSpec.witness_at (enc := enc) (C := Tryd.checked) (os := os) (X := fun w _ => laidMetH Tryd.prog Rows.fitPlaysRow.laid w) false (laidWorld os) #[.slice none 0 0] 8 rfl (by kernel_rfl) (by kernel_rfl) (by kernel_rfl) (by kernel_rfl) (by kernel_rfl) (laidWorld_met os _)) ?_
  intro W base args ds gs before hval0 hW _ _ hL _
  have hg := handle_of_laid hL
  have hval : ∀ (j : Nat) t v, Tryd.f4.params[j]? = some t → args[j]? = some v → Value.okWide Tryd.prog W .any base t v := hval0
  have hW' := hW
  obtain ⟨p, q, hA0, hV, rfl, _, _⟩ := hW
  have hA : DataW.TrodAll enc Tryd.prog W 0 (fun _ => true) true Tryd.f4.params.toList args.toList ds p := hA0
  rw [Tryd.params4] at hA hval
  obtain ⟨v0, d0, rfl, rfl, h0⟩ := trodAll_one hA
  obtain ⟨A0, len0, cap0, rfl⟩ := okWide_slice Tryd.underlying22 (hval 0 22 v0 rfl rfl)
  obtain ⟨fuel0, hf0⟩ := h0
  obtain ⟨xs0, hx0, br0⟩ := read_ints_r hf0
  refine (fitPlays_any _ xs0 W hx0 br0 hg).mono fun e W' ⟨he, hk⟩ => ?_
  exact ⟨_, he, law_post rfl (by kernel_rfl) rfl (by rw [Tryd.params4]; decide +kernel) hW' hk⟩

theorem fitPlays_h1 : Tryd.prog.funcNamed Rows.fitPlaysRow.func = some 4 := by kernel_rfl
theorem fitPlays_h2 : joinedFacts Tryd.prog 4 Tryd.f4 Rows.fitPlaysSpec Rows.fitPlaysRow = true := by
  unfold joinedFacts
  with_reducible (repeat' apply band_intro)
  all_goals first | with_reducible exact fact_mayEnter | ((with_reducible refine fact_lifts_of _ ?_); rfl) | ((with_reducible refine fact_make_of _ ?_); rfl) | as_aux_lemma => kernel_rfl
theorem fitPlays_h3 : Tryd.f4.isInstance Tryd.prog Rows.fitPlaysRow.origin Rows.fitPlaysRow.targs := of_decide_eq_true (by kernel_rfl)
theorem fitPlays_h4 : Tryd.f4.isWrapper Tryd.prog Rows.fitPlaysRow.wrapper Rows.fitPlaysRow.mainSum := by unfold Func.isWrapper; rw [if_neg (by decide +kernel)]; exact ⟨rfl, rfl⟩
theorem fitPlays_row : Rows.FitPlaysSaid :=
  OpenClaim.holds_of_wide 4 Tryd.f4 rfl rfl rfl rfl rfl rfl rfl ⟨rfl, rfl, rfl, rfl, rfl⟩ rfl rfl rfl rfl rfl fitPlays_h1 Tryd.func4 fitPlays_h2 fitPlays_h3 fitPlays_h4
    (fun os started H enc _ => fitPlays_lifted os started H enc)

theorem fitPlays_params : ∀ (j : Nat) t, Tryd.f4.params[j]? = some t → Tryd.prog.wantsStandIn t = false := by
  intro j t ht
  rw [Tryd.params4] at ht
  have h3 : t = 22 := by
    rcases j with _ | _ | _ | j <;> simp at ht <;> simp [ht]
  rcases h3 with rfl
  · exact (show Tryd.prog.wantsStandIn 22 = false by kernel_rfl)
theorem fitPlays_holds : Rows.FitPlaysCardSaid :=
  Claim7.holds_tied_plain_at .later [] [.handle] true (true, "5dd08914b89a1d577fb937f3fd724eff743bde32c9f43ad871ff2af28711d06a") true
    fitPlays_row (fun _ h => by cases h) (by kernel_rfl) (fun _ h => by cases h) fitPlays_row_tie rfl ⟨rfl, rfl⟩ (by kernel_rfl) rfl
    (fun f fn hf hfn => by
      obtain rfl : f = 4 := Option.some.inj (fitPlays_h1.symm.trans hf) |>.symm
      obtain rfl : fn = Tryd.f4 := (Option.some.inj (Tryd.func4.symm.trans hfn)).symm
      exact ⟨by kernel_rfl, fitPlays_params⟩)
    (by kernel_rfl)
#print axioms fitPlays_holds
end Go.Proofs.YtfhfakkdilngbaaDoor
