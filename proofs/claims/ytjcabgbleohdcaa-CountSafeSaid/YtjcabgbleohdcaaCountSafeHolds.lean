/- The law CountSafe holds of every input that its types let in. No condition. -/
import Derived.Test.YtjcabgbleohdcaaWrap
import Derived.Test.YtjcabgbleohdcaaCountSafe
namespace Go.Proofs.Ytjcabgbleohdcaa
open Go.RowKit Go.ChangeShapes Go.WideShapes Go.ChangeAt Go.Joins Go.Deep

set_option maxRecDepth 100000 in
theorem countSafe_lifted (os : Os) (started : os.Started) (H : Type) (enc : TypeId × Value → H) :
    ReturnsInHanded {} Try.checked os 5 .any (Rows.countSafeSpec.pre6 enc Try.prog Try.f5 Rows.countSafeRow.domain false) (Rows.countSafeSpec.post enc Try.prog Try.f5 false true false false) := by
  refine returnsInHanded_of_change (C := Try.checked) wrap_own started (by kernel_rfl) Try.func5
    (ChangeSpec.witness6 (enc := enc) (C := Try.checked) false ⟨#[], #[.slice none 0 0], []⟩ 8 (by kernel_rfl) (by kernel_rfl) (by kernel_rfl) (by kernel_rfl)) ?_
  intro W base args ds gs before hval0 hW _ _
  have hval : ∀ (j : Nat) t v, Try.f5.params[j]? = some t → args[j]? = some v → Value.okWide Try.prog W .any base t v := hval0
  have hW' := hW
  obtain ⟨p, q, hA0, hV, rfl, _, _⟩ := hW
  have hA : DataW.TrodAll enc Try.prog W 0 (fun _ => true) true Try.f5.params.toList args.toList ds p := hA0
  rw [Try.params5] at hA hval
  obtain ⟨v0, d0, rfl, rfl, h0⟩ := trodAll_one hA
  obtain ⟨A0, len0, cap0, rfl⟩ := okWide_slice Try.underlying22 (hval 0 22 v0 rfl rfl)
  obtain ⟨fuel0, hf0⟩ := h0
  obtain ⟨xss0, hx0⟩ := read_rows hf0
  refine (countSafe_any _ xss0 W hx0).mono fun e W' ⟨he, hk⟩ => ?_
  exact ⟨_, he, law_post rfl (by kernel_rfl) rfl (by rw [Try.params5]; decide +kernel) hW' hk⟩

theorem countSafe_h1 : Try.prog.funcNamed Rows.countSafeRow.func = some 5 := by kernel_rfl
theorem countSafe_h2 : joinedFacts Try.prog 5 Try.f5 Rows.countSafeSpec Rows.countSafeRow = true := by
  unfold joinedFacts
  with_reducible (repeat' apply band_intro)
  all_goals first | with_reducible exact fact_mayEnter | ((with_reducible refine fact_lifts_of _ ?_); rfl) | ((with_reducible refine fact_make_of _ ?_); rfl) | as_aux_lemma => kernel_rfl
theorem countSafe_h3 : Try.f5.isInstance Try.prog Rows.countSafeRow.origin Rows.countSafeRow.targs := of_decide_eq_true (by kernel_rfl)
theorem countSafe_h4 : Try.f5.isWrapper Try.prog Rows.countSafeRow.wrapper Rows.countSafeRow.mainSum := by unfold Func.isWrapper; rw [if_neg (by decide +kernel)]; exact ⟨rfl, rfl⟩
theorem countSafe_holds : Rows.CountSafeSaid :=
  OpenClaim.holds_of_wide 5 Try.f5 rfl rfl rfl rfl rfl rfl rfl ⟨rfl, rfl, rfl, rfl, rfl⟩ rfl rfl rfl rfl rfl countSafe_h1 Try.func5 countSafe_h2 countSafe_h3 countSafe_h4
    (fun os started H enc _ => countSafe_lifted os started H enc)

#print axioms countSafe_holds
end Go.Proofs.Ytjcabgbleohdcaa
