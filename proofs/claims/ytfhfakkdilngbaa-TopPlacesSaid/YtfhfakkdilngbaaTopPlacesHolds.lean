/- The law TopPlaces holds of every input that its types let in. No condition. -/
import Derived.Test.YtfhfakkdilngbaaWrap
import Derived.Test.YtfhfakkdilngbaaTopPlaces
namespace Go.Proofs.Ytfhfakkdilngbaa
open Go.RowKit Go.ChangeShapes Go.WideShapes Go.ChangeAt Go.Joins Go.Deep

set_option maxRecDepth 100000 in
theorem topPlaces_lifted (os : Os) (started : os.Started) (H : Type) (enc : TypeId × Value → H) :
    ReturnsInHanded {} Try.checked os 7 .any (Rows.topPlacesSpec.pre6 enc Try.prog Try.f7 Rows.topPlacesRow.domain false) (Rows.topPlacesSpec.post enc Try.prog Try.f7 false true false false) := by
  refine returnsInHanded_of_change (C := Try.checked) wrap_own started (by kernel_rfl) Try.func7
    (ChangeSpec.witness6 (enc := enc) (C := Try.checked) false ⟨#[], #[.slice none 0 0], []⟩ 8 (by kernel_rfl) (by kernel_rfl) (by kernel_rfl) (by kernel_rfl)) ?_
  intro W base args ds gs before hval0 hW _ _
  have hval : ∀ (j : Nat) t v, Try.f7.params[j]? = some t → args[j]? = some v → Value.okWide Try.prog W .any base t v := hval0
  have hW' := hW
  obtain ⟨p, q, hA0, hV, rfl, _, _⟩ := hW
  have hA : DataW.TrodAll enc Try.prog W 0 (fun _ => true) true Try.f7.params.toList args.toList ds p := hA0
  rw [Try.params7] at hA hval
  obtain ⟨v0, d0, rfl, rfl, h0⟩ := trodAll_one hA
  obtain ⟨A0, len0, cap0, rfl⟩ := okWide_slice Try.underlying22 (hval 0 22 v0 rfl rfl)
  obtain ⟨fuel0, hf0⟩ := h0
  obtain ⟨xs0, hx0, br0⟩ := read_ints_r hf0
  refine (topPlaces_any _ xs0 W hx0 br0).mono fun e W' ⟨he, hk⟩ => ?_
  exact ⟨_, he, law_post rfl (by kernel_rfl) rfl (by rw [Try.params7]; decide +kernel) hW' hk⟩

theorem topPlaces_h1 : Try.prog.funcNamed Rows.topPlacesRow.func = some 7 := by kernel_rfl
theorem topPlaces_h2 : joinedFacts Try.prog 7 Try.f7 Rows.topPlacesSpec Rows.topPlacesRow = true := by
  unfold joinedFacts
  with_reducible (repeat' apply band_intro)
  all_goals first | with_reducible exact fact_mayEnter | ((with_reducible refine fact_lifts_of _ ?_); rfl) | ((with_reducible refine fact_make_of _ ?_); rfl) | as_aux_lemma => kernel_rfl
theorem topPlaces_h3 : Try.f7.isInstance Try.prog Rows.topPlacesRow.origin Rows.topPlacesRow.targs := of_decide_eq_true (by kernel_rfl)
theorem topPlaces_h4 : Try.f7.isWrapper Try.prog Rows.topPlacesRow.wrapper Rows.topPlacesRow.mainSum := by unfold Func.isWrapper; rw [if_neg (by decide +kernel)]; exact ⟨rfl, rfl⟩
theorem topPlaces_holds : Rows.TopPlacesSaid :=
  OpenClaim.holds_of_wide 7 Try.f7 rfl rfl rfl rfl rfl rfl rfl ⟨rfl, rfl, rfl, rfl, rfl⟩ rfl rfl rfl rfl rfl topPlaces_h1 Try.func7 topPlaces_h2 topPlaces_h3 topPlaces_h4
    (fun os started H enc _ => topPlaces_lifted os started H enc)

#print axioms topPlaces_holds
end Go.Proofs.Ytfhfakkdilngbaa
