/- The law CountPlays holds of every input that its types let in. No condition. -/
import Derived.Test.YtiibadganlincaaDoorWrap
import Derived.Test.YtiibadganlincaaDoorLaid
import Derived.Test.YtiibadganlincaaDoorCountPlays
namespace Go.Proofs.YtiibadganlincaaDoor
open Go.RowKit Go.ChangeShapes Go.WideShapes Go.ChangeAt Go.Joins Go.Deep

set_option maxRecDepth 100000 in
theorem countPlays_lifted (os : Os) (started : os.Started) (H : Type) (enc : TypeId × Value → H) :
    ReturnsInHanded {} Tryd.checked os 3 .any (fun w args => (Rows.countPlaysSpec.pre enc Tryd.prog Tryd.f3 [] false w args ∧ laidMetH Tryd.prog Rows.countPlaysRow.laid w) ∧ sizedMet enc Tryd.prog Tryd.f3 (OpenSpec.ofChange Rows.countPlaysSpec) false w args) (Rows.countPlaysSpec.post enc Tryd.prog Tryd.f3 false true false false) := by
  refine returnsInHanded_of_change_and (C := Tryd.checked) (X := fun w _ => laidMetH Tryd.prog Rows.countPlaysRow.laid w) (fun _ _ _ hh h => h.of_heap hh) wrap_own started (by kernel_rfl) Tryd.func3
    (ChangeSpec.witness_at (enc := enc) (C := Tryd.checked) (os := os) (X := fun w _ => laidMetH Tryd.prog Rows.countPlaysRow.laid w) false (laidWorld os) #[.slice none 0 0] 8 rfl (by kernel_rfl) (by kernel_rfl) (by kernel_rfl) (by kernel_rfl) (by kernel_rfl) (laidWorld_met os _)) ?_
  intro W base args ds gs before hval0 hW _ _ hL _
  have hg := handle_of_laid hL
  have hval : ∀ (j : Nat) t v, Tryd.f3.params[j]? = some t → args[j]? = some v → Value.okWide Tryd.prog W .any base t v := hval0
  have hW' := hW
  obtain ⟨p, q, hA0, hV, rfl, _, _⟩ := hW
  have hA : DataW.TrodAll enc Tryd.prog W 0 (fun _ => true) true Tryd.f3.params.toList args.toList ds p := hA0
  rw [Tryd.params3] at hA hval
  obtain ⟨v0, d0, rfl, rfl, h0⟩ := trodAll_one hA
  obtain ⟨A0, len0, cap0, rfl⟩ := okWide_slice Tryd.underlying22 (hval 0 22 v0 rfl rfl)
  obtain ⟨fuel0, hf0⟩ := h0
  obtain ⟨xss0, hx0⟩ := read_rows hf0
  refine (countPlays_any _ xss0 W hx0 hg).mono fun e W' ⟨he, hk⟩ => ?_
  exact ⟨_, he, law_post rfl (by kernel_rfl) rfl (by rw [Tryd.params3]; decide +kernel) hW' hk⟩

theorem countPlays_h1 : Tryd.prog.funcNamed Rows.countPlaysRow.func = some 3 := by kernel_rfl
theorem countPlays_h2 : joinedFacts Tryd.prog 3 Tryd.f3 Rows.countPlaysSpec Rows.countPlaysRow = true := by
  unfold joinedFacts
  with_reducible (repeat' apply band_intro)
  all_goals first | with_reducible exact fact_mayEnter | ((with_reducible refine fact_lifts_of _ ?_); rfl) | ((with_reducible refine fact_make_of _ ?_); rfl) | as_aux_lemma => kernel_rfl
theorem countPlays_h3 : Tryd.f3.isInstance Tryd.prog Rows.countPlaysRow.origin Rows.countPlaysRow.targs := of_decide_eq_true (by kernel_rfl)
theorem countPlays_h4 : Tryd.f3.isWrapper Tryd.prog Rows.countPlaysRow.wrapper Rows.countPlaysRow.mainSum := by unfold Func.isWrapper; rw [if_neg (by decide +kernel)]; exact ⟨rfl, rfl⟩
theorem countPlays_row : Rows.CountPlaysSaid :=
  OpenClaim.holds_of_wide 3 Tryd.f3 rfl rfl rfl rfl rfl rfl rfl ⟨rfl, rfl, rfl, rfl, rfl⟩ rfl rfl rfl rfl rfl countPlays_h1 Tryd.func3 countPlays_h2 countPlays_h3 countPlays_h4
    (fun os started H enc _ => countPlays_lifted os started H enc)

theorem countPlays_params : ∀ (j : Nat) t, Tryd.f3.params[j]? = some t → Tryd.prog.wantsStandIn t = false := by
  intro j t ht
  rw [Tryd.params3] at ht
  have h3 : t = 22 := by
    rcases j with _ | _ | _ | j <;> simp at ht <;> simp [ht]
  rcases h3 with rfl
  · exact (show Tryd.prog.wantsStandIn 22 = false by kernel_rfl)
theorem countPlays_holds : Rows.CountPlaysCardSaid :=
  Claim7.holds_tied_plain_at .later [] [.handle] true (true, "6fd50705516ef88e4bd9b19b1211131052b102546274f6bf3a179ddc3864352a") true
    countPlays_row (fun _ h => by cases h) (by kernel_rfl) (fun _ h => by cases h) countPlays_row_tie rfl ⟨rfl, rfl⟩ (by kernel_rfl) rfl
    (fun f fn hf hfn => by
      obtain rfl : f = 3 := Option.some.inj (countPlays_h1.symm.trans hf) |>.symm
      obtain rfl : fn = Tryd.f3 := (Option.some.inj (Tryd.func3.symm.trans hfn)).symm
      exact ⟨by kernel_rfl, countPlays_params⟩)
    (by kernel_rfl)
#print axioms countPlays_holds
end Go.Proofs.YtiibadganlincaaDoor
