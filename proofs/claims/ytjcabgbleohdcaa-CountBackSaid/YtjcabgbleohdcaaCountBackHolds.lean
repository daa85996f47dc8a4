/- The law CountBack holds of every input that its types let in. No condition. -/
import Derived.Test.YtjcabgbleohdcaaWrap
import Derived.Test.YtjcabgbleohdcaaCountBack
namespace Go.Proofs.Ytjcabgbleohdcaa
open Go.RowKit Go.ChangeShapes Go.WideShapes Go.ChangeAt Go.Joins Go.Deep

set_option maxRecDepth 100000 in
theorem countBack_lifted (os : Os) (started : os.Started) (H : Type) (enc : TypeId × Value → H) :
    ReturnsInHanded {} Try.checked os 4 .any (Rows.countBackSpec.pre6 enc Try.prog Try.f4 Rows.countBackRow.domain false) (Rows.countBackSpec.post enc Try.prog Try.f4 false true false false) := by
  refine returnsInHanded_of_change (C := Try.checked) wrap_own started (by kernel_rfl) Try.func4
    (ChangeSpec.witness6 (enc := enc) (C := Try.checked) false ⟨#[], #[.slice none 0 0, .int .i64 0, .int .i64 0], []⟩ 8 (by kernel_rfl) (by kernel_rfl) (by kernel_rfl) (by kernel_rfl)) ?_
  intro W base args ds gs before hval0 hW _ _
  have hval : ∀ (j : Nat) t v, Try.f4.params[j]? = some t → args[j]? = some v → Value.okWide Try.prog W .any base t v := hval0
  have hW' := hW
  obtain ⟨p, q, hA0, hV, rfl, _, _⟩ := hW
  have hA : DataW.TrodAll enc Try.prog W 0 (fun _ => true) true Try.f4.params.toList args.toList ds p := hA0
  rw [Try.params4] at hA hval
  obtain ⟨v0, v1, v2, d0, d1, d2, p0, p1, p2, rfl, rfl, rfl, h0, h1, h2⟩ := trodAll_three hA
  obtain ⟨A0, len0, cap0, rfl⟩ := okWide_slice Try.underlying22 (hval 0 22 v0 rfl rfl)
  obtain ⟨fuel0, hf0⟩ := h0
  obtain ⟨xss0, hx0⟩ := read_rows hf0
  obtain ⟨n1, rfl, rfl, rfl, wn1⟩ := open_int Try.underlying3 (hval 1 3 v1 rfl rfl) h1
  obtain ⟨n2, rfl, rfl, rfl, wn2⟩ := open_int Try.underlying3 (hval 2 3 v2 rfl rfl) h2
  refine (countBack_any _ xss0 n1 n2 W hx0).mono fun e W' ⟨he, hk⟩ => ?_
  exact ⟨_, he, law_post rfl (by kernel_rfl) rfl (by rw [Try.params4]; decide +kernel) hW' hk⟩

theorem countBack_h1 : Try.prog.funcNamed Rows.countBackRow.func = some 4 := by kernel_rfl
theorem countBack_h2 : joinedFacts Try.prog 4 Try.f4 Rows.countBackSpec Rows.countBackRow = true := by
  unfold joinedFacts
  with_reducible (repeat' apply band_intro)
  all_goals first | with_reducible exact fact_mayEnter | ((with_reducible refine fact_lifts_of _ ?_); rfl) | ((with_reducible refine fact_make_of _ ?_); rfl) | as_aux_lemma => kernel_rfl
theorem countBack_h3 : Try.f4.isInstance Try.prog Rows.countBackRow.origin Rows.countBackRow.targs := of_decide_eq_true (by kernel_rfl)
theorem countBack_h4 : Try.f4.isWrapper Try.prog Rows.countBackRow.wrapper Rows.countBackRow.mainSum := by unfold Func.isWrapper; rw [if_neg (by decide +kernel)]; exact ⟨rfl, rfl⟩
theorem countBack_holds : Rows.CountBackSaid :=
  OpenClaim.holds_of_wide 4 Try.f4 rfl rfl rfl rfl rfl rfl rfl ⟨rfl, rfl, rfl, rfl, rfl⟩ rfl rfl rfl rfl rfl countBack_h1 Try.func4 countBack_h2 countBack_h3 countBack_h4
    (fun os started H enc _ => countBack_lifted os started H enc)

#print axioms countBack_holds
end Go.Proofs.Ytjcabgbleohdcaa
