/- The law CountEmpty holds of every input that its types let in. No condition. -/
import Derived.Test.YtjcabgbleohdcaaWrap
import Derived.Test.YtjcabgbleohdcaaCountEmpty
namespace Go.Proofs.Ytjcabgbleohdcaa
open Go.RowKit Go.ChangeShapes Go.WideShapes Go.ChangeAt Go.Joins Go.Deep

set_option maxRecDepth 100000 in
theorem countEmpty_lifted (os : Os) (started : os.Started) (H : Type) (enc : TypeId × Value → H) :
    ReturnsInHanded {} Try.checked os 6 .any (Rows.countEmptySpec.pre6 enc Try.prog Try.f6 Rows.countEmptyRow.domain false) (Rows.countEmptySpec.post enc Try.prog Try.f6 false true false false) := by
  refine returnsInHanded_of_change (C := Try.checked) wrap_own started (by kernel_rfl) Try.func6
    (ChangeSpec.witness6 (enc := enc) (C := Try.checked) false ⟨#[], #[.slice none 0 0], []⟩ 8 (by kernel_rfl) (by kernel_rfl) (by kernel_rfl) (by kernel_rfl)) ?_
  intro W base args ds gs before hval0 hW _ _
  have hval : ∀ (j : Nat) t v, Try.f6.params[j]? = some t → args[j]? = some v → Value.okWide Try.prog W .any base t v := hval0
  have hW' := hW
  obtain ⟨p, q, hA0, hV, rfl, _, _⟩ := hW
  have hA : DataW.TrodAll enc Try.prog W 0 (fun _ => true) true Try.f6.params.toList args.toList ds p := hA0
  rw [Try.params6] at hA hval
  obtain ⟨v0, d0, rfl, rfl, h0⟩ := trodAll_one hA
  obtain ⟨A0, len0, cap0, rfl⟩ := okWide_slice Try.underlying22 (hval 0 22 v0 rfl rfl)
  obtain ⟨fuel0, hf0⟩ := h0
  obtain ⟨xss0, hx0⟩ := read_rows hf0
  refine (countEmpty_any _ xss0 W hx0).mono fun e W' ⟨he, hk⟩ => ?_
  exact ⟨_, he, law_post rfl (by kernel_rfl) rfl (by rw [Try.params6]; decide +kernel) hW' hk⟩

theorem countEmpty_h1 : Try.prog.funcNamed Rows.countEmptyRow.func = some 6 := by kernel_rfl
theorem countEmpty_h2 : joinedFacts Try.prog 6 Try.f6 Rows.countEmptySpec Rows.countEmptyRow = true := by
  unfold joinedFacts
  with_reducible (repeat' apply band_intro)
  all_goals first | with_reducible exact fact_mayEnter | ((with_reducible refine fact_lifts_of _ ?_); rfl) | ((with_reducible refine fact_make_of _ ?_); rfl) | as_aux_lemma => kernel_rfl
theorem countEmpty_h3 : Try.f6.isInstance Try.prog Rows.countEmptyRow.origin Rows.countEmptyRow.targs := of_decide_eq_true (by kernel_rfl)
theorem countEmpty_h4 : Try.f6.isWrapper Try.prog Rows.countEmptyRow.wrapper Rows.countEmptyRow.mainSum := by unfold Func.isWrapper; rw [if_neg (by decide +kernel)]; exact ⟨rfl, rfl⟩
theorem countEmpty_holds : Rows.CountEmptySaid :=
  OpenClaim.holds_of_wide 6 Try.f6 rfl rfl rfl rfl rfl rfl rfl ⟨rfl, rfl, rfl, rfl, rfl⟩ rfl rfl rfl rfl rfl countEmpty_h1 Try.func6 countEmpty_h2 countEmpty_h3 countEmpty_h4
    (fun os started H enc _ => countEmpty_lifted os started H enc)

#print axioms countEmpty_holds
end Go.Proofs.Ytjcabgbleohdcaa
