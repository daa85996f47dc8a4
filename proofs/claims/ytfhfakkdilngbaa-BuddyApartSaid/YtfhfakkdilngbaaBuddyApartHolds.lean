/- The law BuddyApart holds of every input that its types let in. No condition. -/
import Derived.Test.YtfhfakkdilngbaaWrap
import Derived.Test.YtfhfakkdilngbaaBuddyApart
namespace Go.Proofs.Ytfhfakkdilngbaa
open Go.RowKit Go.ChangeShapes Go.WideShapes Go.ChangeAt Go.Joins Go.Deep

set_option maxRecDepth 100000 in
theorem buddyApart_lifted (os : Os) (started : os.Started) (H : Type) (enc : TypeId × Value → H) :
    ReturnsInHanded {} Try.checked os 5 .any (Rows.buddyApartSpec.pre6 enc Try.prog Try.f5 Rows.buddyApartRow.domain false) (Rows.buddyApartSpec.post enc Try.prog Try.f5 false true false false) := by
  refine returnsInHanded_of_change (C := Try.checked) wrap_own started (by kernel_rfl) Try.func5
    (ChangeSpec.witness6 (enc := enc) (C := Try.checked) false ⟨#[], #[.slice none 0 0], []⟩ 8 (by kernel_rfl) (by kernel_rfl) (by kernel_rfl) (by kernel_rfl)) ?_
  intro W base args ds gs before hval0 hW _ _
  have hval : ∀ (j : Nat) t v, Try.f5.params[j]? = some t → args[j]? = some v → Value.okWide Try.prog W .any base t v := hval0
  have hW' := hW
  obtain ⟨p, q, hA0, hV, rfl, _, _⟩ := hW
  have hA : DataW.TrodAll enc Try.prog W 0 (fun _ => true) true Try.f5.params.toList args.toList ds p := hA0
  rw [Try.params5] at hA hval
  obtain ⟨v0, d0, rfl, rfl, h0⟩ := trodAll_one hA
  obtain ⟨A0, len0, cap0, rfl⟩ := okWide_slice Try.underlying22 (hval 0 22 v0 rfl rfl)
  obtain ⟨fuel0, hf0⟩ := h0
  obtain ⟨xs0, hx0, br0⟩ := read_ints_r hf0
  refine (buddyApart_any _ xs0 W hx0 br0).mono fun e W' ⟨he, hk⟩ => ?_
  exact ⟨_, he, law_post rfl (by kernel_rfl) rfl (by rw [Try.params5]; decide +kernel) hW' hk⟩

theorem buddyApart_h1 : Try.prog.funcNamed Rows.buddyApartRow.func = some 5 := by kernel_rfl
theorem buddyApart_h2 : joinedFacts Try.prog 5 Try.f5 Rows.buddyApartSpec Rows.buddyApartRow = true := by
  unfold joinedFacts
  with_reducible (repeat' apply band_intro)
  all_goals first | with_reducible exact fact_mayEnter | ((with_reducible refine fact_lifts_of _ ?_); rfl) | ((with_reducible refine fact_make_of _ ?_); rfl) | as_aux_lemma => kernel_rfl
theorem buddyApart_h3 : Try.f5.isInstance Try.prog Rows.buddyApartRow.origin Rows.buddyApartRow.targs := of_decide_eq_true (by kernel_rfl)
theorem buddyApart_h4 : Try.f5.isWrapper Try.prog Rows.buddyApartRow.wrapper Rows.buddyApartRow.mainSum := by unfold Func.isWrapper; rw [if_neg (by decide +kernel)]; exact ⟨rfl, rfl⟩
theorem buddyApart_holds : Rows.BuddyApartSaid :=
  OpenClaim.holds_of_wide 5 Try.f5 rfl rfl rfl rfl rfl rfl rfl ⟨rfl, rfl, rfl, rfl, rfl⟩ rfl rfl rfl rfl rfl buddyApart_h1 Try.func5 buddyApart_h2 buddyApart_h3 buddyApart_h4
    (fun os started H enc _ => buddyApart_lifted os started H enc)

#print axioms buddyApart_holds
end Go.Proofs.Ytfhfakkdilngbaa
