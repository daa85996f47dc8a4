/- The law SweepTurn holds of every input that its types let in. No condition. -/
import Derived.Test.YtjapcoonaabdnaaWrap
import Derived.Test.YtjapcoonaabdnaaSweepTurn
namespace Go.Proofs.Ytjapcoonaabdnaa
open Go.RowKit Go.ChangeShapes Go.WideShapes Go.ChangeAt Go.Joins Go.Deep

set_option maxRecDepth 100000 in
theorem sweepTurn_lifted (os : Os) (started : os.Started) (H : Type) (enc : TypeId × Value → H) :
    ReturnsInHanded {} Try.checked os 3 .any (Rows.sweepTurnSpec.pre6 enc Try.prog Try.f3 Rows.sweepTurnRow.domain false) (Rows.sweepTurnSpec.post enc Try.prog Try.f3 false true false false) := by
  refine returnsInHanded_of_change (C := Try.checked) wrap_own started (by kernel_rfl) Try.func3
    (ChangeSpec.witness6 (enc := enc) (C := Try.checked) false ⟨#[], #[.agg #[.slice none 0 0, .slice none 0 0]], []⟩ 8 (by kernel_rfl) (by kernel_rfl) (by kernel_rfl) (by kernel_rfl)) ?_
  intro W base args ds gs before hval0 hW _ _
  have hval : ∀ (j : Nat) t v, Try.f3.params[j]? = some t → args[j]? = some v → Value.okWide Try.prog W .any base t v := hval0
  have hW' := hW
  obtain ⟨p, q, hA0, hV, rfl, _, _⟩ := hW
  have hA : DataW.TrodAll enc Try.prog W 0 (fun _ => true) true Try.f3.params.toList args.toList ds p := hA0
  rw [Try.params3] at hA hval
  obtain ⟨v0, d0, rfl, rfl, h0⟩ := trodAll_one hA
  obtain ⟨c0a, c0b, y0a, y0b, m0, rfl, rfl, rfl, hy0a, hy0b⟩ := open_agg2 Try.underlying25 (by kernel_rfl) wrap_cells_heap (hval 0 25 v0 rfl rfl) h0
  obtain ⟨outs0, ho0⟩ := read_rows hy0a
  obtain ⟨roots0, hr0⟩ := read_ints hy0b
  refine (sweepTurn_any c0a c0b outs0 roots0 W ho0 hr0).mono fun e W' ⟨he, hk⟩ => ?_
  exact ⟨_, he, law_post rfl (by kernel_rfl) rfl (by rw [Try.params3]; decide +kernel) hW' hk⟩

theorem sweepTurn_h1 : Try.prog.funcNamed Rows.sweepTurnRow.func = some 3 := by kernel_rfl
theorem sweepTurn_h2 : joinedFacts Try.prog 3 Try.f3 Rows.sweepTurnSpec Rows.sweepTurnRow = true := by
  unfold joinedFacts
  with_reducible (repeat' apply band_intro)
  all_goals first | with_reducible exact fact_mayEnter | ((with_reducible refine fact_lifts_of _ ?_); rfl) | ((with_reducible refine fact_make_of _ ?_); rfl) | as_aux_lemma => kernel_rfl
theorem sweepTurn_h3 : Try.f3.isInstance Try.prog Rows.sweepTurnRow.origin Rows.sweepTurnRow.targs := of_decide_eq_true (by kernel_rfl)
theorem sweepTurn_h4 : Try.f3.isWrapper Try.prog Rows.sweepTurnRow.wrapper Rows.sweepTurnRow.mainSum := by unfold Func.isWrapper; rw [if_neg (by decide +kernel)]; exact ⟨rfl, rfl⟩
theorem sweepTurn_holds : Rows.SweepTurnSaid :=
  OpenClaim.holds_of_wide 3 Try.f3 rfl rfl rfl rfl rfl rfl rfl ⟨rfl, rfl, rfl, rfl, rfl⟩ rfl rfl rfl rfl rfl sweepTurn_h1 Try.func3 sweepTurn_h2 sweepTurn_h3 sweepTurn_h4
    (fun os started H enc _ => sweepTurn_lifted os started H enc)

#print axioms sweepTurn_holds
end Go.Proofs.Ytjapcoonaabdnaa
