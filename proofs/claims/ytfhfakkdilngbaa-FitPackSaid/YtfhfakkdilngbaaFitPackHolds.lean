/- The law FitPack holds of every input that its types let in. No condition. -/
import Derived.Test.YtfhfakkdilngbaaWrap
import Derived.Test.YtfhfakkdilngbaaFitPack
namespace Go.Proofs.Ytfhfakkdilngbaa
open Go.RowKit Go.ChangeShapes Go.WideShapes Go.ChangeAt Go.Joins Go.Deep

set_option maxRecDepth 100000 in
theorem fitPack_lifted (os : Os) (started : os.Started) (H : Type) (enc : TypeId × Value → H) :
    ReturnsInHanded {} Try.checked os 4 .any (Rows.fitPackSpec.pre6 enc Try.prog Try.f4 Rows.fitPackRow.domain false) (Rows.fitPackSpec.post enc Try.prog Try.f4 false true false false) := by
  refine returnsInHanded_of_change (C := Try.checked) wrap_own started (by kernel_rfl) Try.func4
    (ChangeSpec.witness6 (enc := enc) (C := Try.checked) false ⟨#[], #[.slice none 0 0], []⟩ 8 (by kernel_rfl) (by kernel_rfl) (by kernel_rfl) (by kernel_rfl)) ?_
  intro W base args ds gs before hval0 hW _ _
  have hval : ∀ (j : Nat) t v, Try.f4.params[j]? = some t → args[j]? = some v → Value.okWide Try.prog W .any base t v := hval0
  have hW' := hW
  obtain ⟨p, q, hA0, hV, rfl, _, _⟩ := hW
  have hA : DataW.TrodAll enc Try.prog W 0 (fun _ => true) true Try.f4.params.toList args.toList ds p := hA0
  rw [Try.params4] at hA hval
  obtain ⟨v0, d0, rfl, rfl, h0⟩ := trodAll_one hA
  obtain ⟨A0, len0, cap0, rfl⟩ := okWide_slice Try.underlying22 (hval 0 22 v0 rfl rfl)
  obtain ⟨fuel0, hf0⟩ := h0
  obtain ⟨xs0, hx0, br0⟩ := read_ints_r hf0
  refine (fitPack_any _ xs0 W hx0 br0).mono fun e W' ⟨he, hk⟩ => ?_
  exact ⟨_, he, law_post rfl (by kernel_rfl) rfl (by rw [Try.params4]; decide +kernel) hW' hk⟩

theorem fitPack_h1 : Try.prog.funcNamed Rows.fitPackRow.func = some 4 := by kernel_rfl
theorem fitPack_h2 : joinedFacts Try.prog 4 Try.f4 Rows.fitPackSpec Rows.fitPackRow = true := by
  unfold joinedFacts
  with_reducible (repeat' apply band_intro)
  all_goals first | with_reducible exact fact_mayEnter | ((with_reducible refine fact_lifts_of _ ?_); rfl) | ((with_reducible refine fact_make_of _ ?_); rfl) | as_aux_lemma => kernel_rfl
theorem fitPack_h3 : Try.f4.isInstance Try.prog Rows.fitPackRow.origin Rows.fitPackRow.targs := of_decide_eq_true (by kernel_rfl)
theorem fitPack_h4 : Try.f4.isWrapper Try.prog Rows.fitPackRow.wrapper Rows.fitPackRow.mainSum := by unfold Func.isWrapper; rw [if_neg (by decide +kernel)]; exact ⟨rfl, rfl⟩
theorem fitPack_holds : Rows.FitPackSaid :=
  OpenClaim.holds_of_wide 4 Try.f4 rfl rfl rfl rfl rfl rfl rfl ⟨rfl, rfl, rfl, rfl, rfl⟩ rfl rfl rfl rfl rfl fitPack_h1 Try.func4 fitPack_h2 fitPack_h3 fitPack_h4
    (fun os started H enc _ => fitPack_lifted os started H enc)

#print axioms fitPack_holds
end Go.Proofs.Ytfhfakkdilngbaa
