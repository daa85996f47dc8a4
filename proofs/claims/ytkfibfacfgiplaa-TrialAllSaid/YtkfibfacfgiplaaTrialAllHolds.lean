/- The law TrialAll holds of every input that its types let in. No condition. -/
import Derived.Test.YtkfibfacfgiplaaWrap
import Derived.Test.YtkfibfacfgiplaaTrialAll
namespace Go.Proofs.Ytkfibfacfgiplaa
open Go.RowKit Go.ChangeShapes Go.WideShapes Go.ChangeAt Go.Joins Go.Deep

set_option maxRecDepth 100000 in
theorem trialAll_lifted (os : Os) (started : os.Started) (H : Type) (enc : TypeId × Value → H) :
    ReturnsInHanded {} Try.checked os 8 .any (Rows.trialAllSpec.pre6 enc Try.prog Try.f8 Rows.trialAllRow.domain false) (Rows.trialAllSpec.post enc Try.prog Try.f8 false true false false) := by
  refine returnsInHanded_of_change (C := Try.checked) wrap_own started (by kernel_rfl) Try.func8
    (ChangeSpec.witness6 (enc := enc) (C := Try.checked) false ⟨#[], #[.agg #[.slice none 0 0, .slice none 0 0], .int .i64 0], []⟩ 8 (by kernel_rfl) (by kernel_rfl) (by kernel_rfl) (by kernel_rfl)) ?_
  intro W base args ds gs before hval0 hW _ _
  have hval : ∀ (j : Nat) t v, Try.f8.params[j]? = some t → args[j]? = some v → Value.okWide Try.prog W .any base t v := hval0
  have hW' := hW
  obtain ⟨p, q, hA0, hV, rfl, _, _⟩ := hW
  have hA : DataW.TrodAll enc Try.prog W 0 (fun _ => true) true Try.f8.params.toList args.toList ds p := hA0
  rw [Try.params8] at hA hval
  obtain ⟨v0, v1, d0, d1, p0, p1, rfl, rfl, rfl, h0, h1⟩ := trodAll_two hA
  obtain ⟨c0a, c0b, y0a, y0b, m0, rfl, rfl, rfl, hy0a, hy0b⟩ := open_agg2 Try.underlying25 (by kernel_rfl) wrap_cells_heap (hval 0 25 v0 rfl rfl) h0
  obtain ⟨outs0, ho0⟩ := read_rows hy0a
  obtain ⟨roots0, hr0⟩ := read_ints hy0b
  obtain ⟨n1, rfl, rfl, rfl, wn1⟩ := open_int Try.underlying3 (hval 1 3 v1 rfl rfl) h1
  have bn1 : -9223372036854775808 ≤ n1 ∧ n1 ≤ 9223372036854775807 := by simpa [Lit.wf, IntKind.has, IntKind.min, IntKind.max, IntKind.bits, IntKind.signed] using wn1
  refine (trialAll_any c0a c0b outs0 roots0 n1 W ho0 hr0 bn1).mono fun e W' ⟨he, hk⟩ => ?_
  exact ⟨_, he, law_post rfl (by kernel_rfl) rfl (by rw [Try.params8]; decide +kernel) hW' hk⟩

theorem trialAll_h1 : Try.prog.funcNamed Rows.trialAllRow.func = some 8 := by kernel_rfl
theorem trialAll_h2 : joinedFacts Try.prog 8 Try.f8 Rows.trialAllSpec Rows.trialAllRow = true := by
  unfold joinedFacts
  with_reducible (repeat' apply band_intro)
  all_goals first | with_reducible exact fact_mayEnter | ((with_reducible refine fact_lifts_of _ ?_); rfl) | ((with_reducible refine fact_make_of _ ?_); rfl) | as_aux_lemma => kernel_rfl
theorem trialAll_h3 : Try.f8.isInstance Try.prog Rows.trialAllRow.origin Rows.trialAllRow.targs := of_decide_eq_true (by kernel_rfl)
theorem trialAll_h4 : Try.f8.isWrapper Try.prog Rows.trialAllRow.wrapper Rows.trialAllRow.mainSum := by unfold Func.isWrapper; rw [if_neg (by decide +kernel)]; exact ⟨rfl, rfl⟩
theorem trialAll_holds : Rows.TrialAllSaid :=
  OpenClaim.holds_of_wide 8 Try.f8 rfl rfl rfl rfl rfl rfl rfl ⟨rfl, rfl, rfl, rfl, rfl⟩ rfl rfl rfl rfl rfl trialAll_h1 Try.func8 trialAll_h2 trialAll_h3 trialAll_h4
    (fun os started H enc _ => trialAll_lifted os started H enc)

#print axioms trialAll_holds
end Go.Proofs.Ytkfibfacfgiplaa
