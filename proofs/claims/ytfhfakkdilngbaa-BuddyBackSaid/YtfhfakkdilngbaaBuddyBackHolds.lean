/- The law BuddyBack holds of every input that its types let in. No condition. -/
import Derived.Test.YtfhfakkdilngbaaWrap
import Derived.Test.YtfhfakkdilngbaaBuddyBack
namespace Go.Proofs.Ytfhfakkdilngbaa
open Go.RowKit Go.ChangeShapes Go.WideShapes Go.ChangeAt Go.Joins Go.Deep

set_option maxRecDepth 100000 in
theorem buddyBack_lifted (os : Os) (started : os.Started) (H : Type) (enc : TypeId × Value → H) :
    ReturnsInHanded {} Try.checked os 6 .any (Rows.buddyBackSpec.pre6 enc Try.prog Try.f6 Rows.buddyBackRow.domain false) (Rows.buddyBackSpec.post enc Try.prog Try.f6 false true false false) := by
  refine returnsInHanded_of_change (C := Try.checked) wrap_own started (by kernel_rfl) Try.func6
    (ChangeSpec.witness6 (enc := enc) (C := Try.checked) false ⟨#[], #[.slice none 0 0, .bool false], []⟩ 8 (by kernel_rfl) (by kernel_rfl) (by kernel_rfl) (by kernel_rfl)) ?_
  intro W base args ds gs before hval0 hW _ _
  have hval : ∀ (j : Nat) t v, Try.f6.params[j]? = some t → args[j]? = some v → Value.okWide Try.prog W .any base t v := hval0
  have hW' := hW
  obtain ⟨p, q, hA0, hV, rfl, _, _⟩ := hW
  have hA : DataW.TrodAll enc Try.prog W 0 (fun _ => true) true Try.f6.params.toList args.toList ds p := hA0
  rw [Try.params6] at hA hval
  obtain ⟨v0, v1, d0, d1, p0, p1, rfl, rfl, rfl, h0, h1⟩ := trodAll_two hA
  obtain ⟨A0, len0, cap0, rfl⟩ := okWide_slice Try.underlying22 (hval 0 22 v0 rfl rfl)
  obtain ⟨fuel0, hf0⟩ := h0
  obtain ⟨xs0, hx0, br0⟩ := read_ints_r hf0
  obtain ⟨n1, rfl, rfl, rfl⟩ := open_bool Try.underlying4 (hval 1 4 v1 rfl rfl) h1
  refine (buddyBack_any _ xs0 n1 W hx0 br0).mono fun e W' ⟨he, hk⟩ => ?_
  exact ⟨_, he, law_post rfl (by kernel_rfl) rfl (by rw [Try.params6]; decide +kernel) hW' hk⟩

theorem buddyBack_h1 : Try.prog.funcNamed Rows.buddyBackRow.func = some 6 := by kernel_rfl
theorem buddyBack_h2 : joinedFacts Try.prog 6 Try.f6 Rows.buddyBackSpec Rows.buddyBackRow = true := by
  unfold joinedFacts
  with_reducible (repeat' apply band_intro)
  all_goals first | with_reducible exact fact_mayEnter | ((with_reducible refine fact_lifts_of _ ?_); rfl) | ((with_reducible refine fact_make_of _ ?_); rfl) | as_aux_lemma => kernel_rfl
theorem buddyBack_h3 : Try.f6.isInstance Try.prog Rows.buddyBackRow.origin Rows.buddyBackRow.targs := of_decide_eq_true (by kernel_rfl)
theorem buddyBack_h4 : Try.f6.isWrapper Try.prog Rows.buddyBackRow.wrapper Rows.buddyBackRow.mainSum := by unfold Func.isWrapper; rw [if_neg (by decide +kernel)]; exact ⟨rfl, rfl⟩
theorem buddyBack_holds : Rows.BuddyBackSaid :=
  OpenClaim.holds_of_wide 6 Try.f6 rfl rfl rfl rfl rfl rfl rfl ⟨rfl, rfl, rfl, rfl, rfl⟩ rfl rfl rfl rfl rfl buddyBack_h1 Try.func6 buddyBack_h2 buddyBack_h3 buddyBack_h4
    (fun os started H enc _ => buddyBack_lifted os started H enc)

#print axioms buddyBack_holds
end Go.Proofs.Ytfhfakkdilngbaa
