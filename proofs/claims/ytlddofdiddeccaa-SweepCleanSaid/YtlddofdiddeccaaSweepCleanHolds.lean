/- The law SweepClean holds of every input that its types let in. No condition. -/
import Derived.Test.YtlddofdiddeccaaWrap
import Derived.Test.YtlddofdiddeccaaSweepClean
namespace Go.Proofs.Ytlddofdiddeccaa
open Go.RowKit Go.ChangeShapes Go.WideShapes Go.ChangeAt Go.Joins Go.Deep

set_option maxRecDepth 100000 in
theorem sweepClean_lifted (os : Os) (started : os.Started) (H : Type) (enc : TypeId × Value → H) :
    ReturnsInHanded {} Try.checked os 5 .any (Rows.sweepCleanSpec.pre6 enc Try.prog Try.f5 Rows.sweepCleanRow.domain false) (Rows.sweepCleanSpec.post enc Try.prog Try.f5 false true false false) := by
  refine returnsInHanded_of_change (C := Try.checked) wrap_own started (by kernel_rfl) Try.func5
    (ChangeSpec.witness6 (enc := enc) (C := Try.checked) false ⟨#[], #[.agg #[.slice none 0 0, .slice none 0 0]], []⟩ 8 (by kernel_rfl) (by kernel_rfl) (by kernel_rfl) (by kernel_rfl)) ?_
  intro W base args ds gs before hval0 hW _ _
  have hval : ∀ (j : Nat) t v, Try.f5.params[j]? = some t → args[j]? = some v → Value.okWide Try.prog W .any base t v := hval0
  have hW' := hW
  obtain ⟨p, q, hA0, hV, rfl, _, _⟩ := hW
  have hA : DataW.TrodAll enc Try.prog W 0 (fun _ => true) true Try.f5.params.toList args.toList ds p := hA0
  rw [Try.params5] at hA hval
  obtain ⟨v0, d0, rfl, rfl, h0⟩ := trodAll_one hA
  obtain ⟨c0a, c0b, y0a, y0b, m0, rfl, rfl, rfl, hy0a, hy0b⟩ := open_agg2 Try.underlying25 (by kernel_rfl) wrap_cells_heap (hval 0 25 v0 rfl rfl) h0
  obtain ⟨outs0, ho0⟩ := read_rows hy0a
  obtain ⟨roots0, hr0⟩ := read_ints hy0b
  refine (sweepClean_any c0a c0b outs0 roots0 W ho0 hr0).mono fun e W' ⟨he, hk⟩ => ?_
  exact ⟨_, he, law_post rfl (by kernel_rfl) rfl (by rw [Try.params5]; decide +kernel) hW' hk⟩

theorem sweepClean_h1 : Try.prog.funcNamed Rows.sweepCleanRow.func = some 5 := by kernel_rfl
theorem sweepClean_h2 : joinedFacts Try.prog 5 Try.f5 Rows.sweepCleanSpec Rows.sweepCleanRow = true := by
  unfold joinedFacts
  with_reducible (repeat' apply band_intro)
  all_goals first | with_reducible exact fact_mayEnter | ((with_reducible refine fact_lifts_of _ ?_); rfl) | ((with_reducible refine fact_make_of _ ?_); rfl) | as_aux_lemma => kernel_rfl
theorem sweepClean_h3 : Try.f5.isInstance Try.prog Rows.sweepCleanRow.origin Rows.sweepCleanRow.targs := of_decide_eq_true (by kernel_rfl)
theorem sweepClean_h4 : Try.f5.isWrapper Try.prog Rows.sweepCleanRow.wrapper Rows.sweepCleanRow.mainSum := by unfold Func.isWrapper; rw [if_neg (by decide +kernel)]; exact ⟨rfl, rfl⟩
theorem sweepClean_holds : Rows.SweepCleanSaid :=
  OpenClaim.holds_of_wide 5 Try.f5 rfl rfl rfl rfl rfl rfl rfl ⟨rfl, rfl, rfl, rfl, rfl⟩ rfl rfl rfl rfl rfl sweepClean_h1 Try.func5 sweepClean_h2 sweepClean_h3 sweepClean_h4
    (fun os started H enc _ => sweepClean_lifted os started H enc)

#print axioms sweepClean_holds
end Go.Proofs.Ytlddofdiddeccaa
