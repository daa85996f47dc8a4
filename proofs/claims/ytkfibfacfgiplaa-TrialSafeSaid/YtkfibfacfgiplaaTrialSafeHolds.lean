/- The law TrialSafe holds of every input that its types let in. No condition. -/
import Derived.Test.YtkfibfacfgiplaaWrap
import Derived.Test.YtkfibfacfgiplaaTrialSafe
namespace Go.Proofs.Ytkfibfacfgiplaa
open Go.RowKit Go.ChangeShapes Go.WideShapes Go.ChangeAt Go.Joins Go.Deep

set_option maxRecDepth 100000 in
theorem trialSafe_lifted (os : Os) (started : os.Started) (H : Type) (enc : TypeId × Value → H) :
    ReturnsInHanded {} Try.checked os 7 .any (Rows.trialSafeSpec.pre6 enc Try.prog Try.f7 Rows.trialSafeRow.domain false) (Rows.trialSafeSpec.post enc Try.prog Try.f7 false true false false) := by
  refine returnsInHanded_of_change (C := Try.checked) wrap_own started (by kernel_rfl) Try.func7
    (ChangeSpec.witness6 (enc := enc) (C := Try.checked) false ⟨#[], #[.agg #[.slice none 0 0, .slice none 0 0], .int .i64 0], []⟩ 8 (by kernel_rfl) (by kernel_rfl) (by kernel_rfl) (by kernel_rfl)) ?_
  intro W base args ds gs before hval0 hW _ _
  have hval : ∀ (j : Nat) t v, Try.f7.params[j]? = some t → args[j]? = some v → Value.okWide Try.prog W .any base t v := hval0
  have hW' := hW
  obtain ⟨p, q, hA0, hV, rfl, _, _⟩ := hW
  have hA : DataW.TrodAll enc Try.prog W 0 (fun _ => true) true Try.f7.params.toList args.toList ds p := hA0
  rw [Try.params7] at hA hval
  obtain ⟨v0, v1, d0, d1, p0, p1, rfl, rfl, rfl, h0, h1⟩ := trodAll_two hA
  obtain ⟨c0a, c0b, y0a, y0b, m0, rfl, rfl, rfl, hy0a, hy0b⟩ := open_agg2 Try.underlying25 (by kernel_rfl) wrap_cells_heap (hval 0 25 v0 rfl rfl) h0
  obtain ⟨outs0, ho0⟩ := read_rows hy0a
  obtain ⟨roots0, hr0⟩ := read_ints hy0b
  obtain ⟨n1, rfl, rfl, rfl, wn1⟩ := open_int Try.underlying3 (hval 1 3 v1 rfl rfl) h1
  have bn1 : -9223372036854775808 ≤ n1 ∧ n1 ≤ 9223372036854775807 := by simpa [Lit.wf, IntKind.has, IntKind.min, IntKind.max, IntKind.bits, IntKind.signed] using wn1
  refine (trialSafe_any c0a c0b outs0 roots0 n1 W ho0 hr0 bn1).mono fun e W' ⟨he, hk⟩ => ?_
  exact ⟨_, he, law_post rfl (by kernel_rfl) rfl (by rw [Try.params7]; decide +kernel) hW' hk⟩

theorem trialSafe_h1 : Try.prog.funcNamed Rows.trialSafeRow.func = some 7 := by kernel_rfl
theorem trialSafe_h2 : joinedFacts Try.prog 7 Try.f7 Rows.trialSafeSpec Rows.trialSafeRow = true := by
  unfold joinedFacts
  with_reducible (repeat' apply band_intro)
  all_goals first | with_reducible exact fact_mayEnter | ((with_reducible refine fact_lifts_of _ ?_); rfl) | ((with_reducible refine fact_make_of _ ?_); rfl) | as_aux_lemma => kernel_rfl
theorem trialSafe_h3 : Try.f7.isInstance Try.prog Rows.trialSafeRow.origin Rows.trialSafeRow.targs := of_decide_eq_true (by kernel_rfl)
theorem trialSafe_h4 : Try.f7.isWrapper Try.prog Rows.trialSafeRow.wrapper Rows.trialSafeRow.mainSum := by unfold Func.isWrapper; rw [if_neg (by decide +kernel)]; exact ⟨rfl, rfl⟩
theorem trialSafe_holds : Rows.TrialSafeSaid :=
  OpenClaim.holds_of_wide 7 Try.f7 rfl rfl rfl rfl rfl rfl rfl ⟨rfl, rfl, rfl, rfl, rfl⟩ rfl rfl rfl rfl rfl trialSafe_h1 Try.func7 trialSafe_h2 trialSafe_h3 trialSafe_h4
    (fun os started H enc _ => trialSafe_lifted os started H enc)

#print axioms trialSafe_holds
end Go.Proofs.Ytkfibfacfgiplaa
