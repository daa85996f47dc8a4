/- The law TopLoan holds of every input that its types let in. No condition. -/
import Derived.Test.YteclfnkmgbebcaaWrap
import Derived.Test.YteclfnkmgbebcaaTopLoan
namespace Go.Proofs.Yteclfnkmgbebcaa
open Go.RowKit Go.ChangeShapes Go.WideShapes Go.ChangeAt Go.Joins Go.Deep

set_option maxRecDepth 100000 in
theorem topLoan_lifted (os : Os) (started : os.Started) (H : Type) (enc : TypeId × Value → H) :
    ReturnsInHanded {} Try.checked os 3 .any (Rows.topLoanSpec.pre6 enc Try.prog Try.f3 Rows.topLoanRow.domain false) (Rows.topLoanSpec.post enc Try.prog Try.f3 false true false false) := by
  refine returnsInHanded_of_change (C := Try.checked) wrap_own started (by kernel_rfl) Try.func3
    (ChangeSpec.witness6 (enc := enc) (C := Try.checked) false ⟨#[], #[.int .i64 0, .int .i64 0, .slice none 0 0], []⟩ 8 (by kernel_rfl) (by kernel_rfl) (by kernel_rfl) (by kernel_rfl)) ?_
  intro W base args ds gs before hval0 hW _ _
  have hval : ∀ (j : Nat) t v, Try.f3.params[j]? = some t → args[j]? = some v → Value.okWide Try.prog W .any base t v := hval0
  have hW' := hW
  obtain ⟨p, q, hA0, hV, rfl, _, _⟩ := hW
  have hA : DataW.TrodAll enc Try.prog W 0 (fun _ => true) true Try.f3.params.toList args.toList ds p := hA0
  rw [Try.params3] at hA hval
  obtain ⟨v0, v1, v2, d0, d1, d2, p0, p1, p2, rfl, rfl, rfl, h0, h1, h2⟩ := trodAll_three hA
  obtain ⟨n0, rfl, rfl, rfl, wn0⟩ := open_int Try.underlying3 (hval 0 3 v0 rfl rfl) h0
  obtain ⟨n1, rfl, rfl, rfl, wn1⟩ := open_int Try.underlying3 (hval 1 3 v1 rfl rfl) h1
  obtain ⟨A2, len2, cap2, rfl⟩ := okWide_slice Try.underlying22 (hval 2 22 v2 rfl rfl)
  obtain ⟨fuel2, hf2⟩ := h2
  obtain ⟨xss2, hx2⟩ := read_rows hf2
  refine (topLoan_any _ n0 n1 xss2 W hx2).mono fun e W' ⟨he, hk⟩ => ?_
  exact ⟨_, he, law_post rfl (by kernel_rfl) rfl (by rw [Try.params3]; decide +kernel) hW' hk⟩

theorem topLoan_h1 : Try.prog.funcNamed Rows.topLoanRow.func = some 3 := by kernel_rfl
theorem topLoan_h2 : joinedFacts Try.prog 3 Try.f3 Rows.topLoanSpec Rows.topLoanRow = true := by
  unfold joinedFacts
  with_reducible (repeat' apply band_intro)
  all_goals first | with_reducible exact fact_mayEnter | ((with_reducible refine fact_lifts_of _ ?_); rfl) | ((with_reducible refine fact_make_of _ ?_); rfl) | as_aux_lemma => kernel_rfl
theorem topLoan_h3 : Try.f3.isInstance Try.prog Rows.topLoanRow.origin Rows.topLoanRow.targs := of_decide_eq_true (by kernel_rfl)
theorem topLoan_h4 : Try.f3.isWrapper Try.prog Rows.topLoanRow.wrapper Rows.topLoanRow.mainSum := by unfold Func.isWrapper; rw [if_neg (by decide +kernel)]; exact ⟨rfl, rfl⟩
theorem topLoan_holds : Rows.TopLoanSaid :=
  OpenClaim.holds_of_wide 3 Try.f3 rfl rfl rfl rfl rfl rfl rfl ⟨rfl, rfl, rfl, rfl, rfl⟩ rfl rfl rfl rfl rfl topLoan_h1 Try.func3 topLoan_h2 topLoan_h3 topLoan_h4
    (fun os started H enc _ => topLoan_lifted os started H enc)

#print axioms topLoan_holds
end Go.Proofs.Yteclfnkmgbebcaa
