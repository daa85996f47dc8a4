/- The law ColorJust holds of every input that its types let in. No condition. -/
import Derived.Test.YtkfibfacfgiplaaWrap
import Derived.Test.YtkfibfacfgiplaaColorJust
namespace Go.Proofs.Ytkfibfacfgiplaa
open Go.RowKit Go.ChangeShapes Go.WideShapes Go.ChangeAt Go.Joins Go.Deep

set_option maxRecDepth 100000 in
theorem colorJust_lifted (os : Os) (started : os.Started) (H : Type) (enc : TypeId × Value → H) :
    ReturnsInHanded {} Try.checked os 10 .any (Rows.colorJustSpec.pre6 enc Try.prog Try.f10 Rows.colorJustRow.domain false) (Rows.colorJustSpec.post enc Try.prog Try.f10 false true false false) := by
  refine returnsInHanded_of_change (C := Try.checked) wrap_own started (by kernel_rfl) Try.func10
    (ChangeSpec.witness6 (enc := enc) (C := Try.checked) false ⟨#[], #[.agg #[.slice none 0 0, .slice none 0 0]], []⟩ 8 (by kernel_rfl) (by kernel_rfl) (by kernel_rfl) (by kernel_rfl)) ?_
  intro W base args ds gs before hval0 hW _ _
  have hval : ∀ (j : Nat) t v, Try.f10.params[j]? = some t → args[j]? = some v → Value.okWide Try.prog W .any base t v := hval0
  have hW' := hW
  obtain ⟨p, q, hA0, hV, rfl, _, _⟩ := hW
  have hA : DataW.TrodAll enc Try.prog W 0 (fun _ => true) true Try.f10.params.toList args.toList ds p := hA0
  rw [Try.params10] at hA hval
  obtain ⟨v0, d0, rfl, rfl, h0⟩ := trodAll_one hA
  obtain ⟨c0a, c0b, y0a, y0b, m0, rfl, rfl, rfl, hy0a, hy0b⟩ := open_agg2 Try.underlying25 (by kernel_rfl) wrap_cells_heap (hval 0 25 v0 rfl rfl) h0
  obtain ⟨outs0, ho0⟩ := read_rows hy0a
  obtain ⟨roots0, hr0⟩ := read_ints hy0b
  refine (colorJust_any c0a c0b outs0 roots0 W ho0 hr0).mono fun e W' ⟨he, hk⟩ => ?_
  exact ⟨_, he, law_post rfl (by kernel_rfl) rfl (by rw [Try.params10]; decide +kernel) hW' hk⟩

theorem colorJust_h1 : Try.prog.funcNamed Rows.colorJustRow.func = some 10 := by kernel_rfl
theorem colorJust_h2 : joinedFacts Try.prog 10 Try.f10 Rows.colorJustSpec Rows.colorJustRow = true := by
  unfold joinedFacts
  with_reducible (repeat' apply band_intro)
  all_goals first | with_reducible exact fact_mayEnter | ((with_reducible refine fact_lifts_of _ ?_); rfl) | ((with_reducible refine fact_make_of _ ?_); rfl) | as_aux_lemma => kernel_rfl
theorem colorJust_h3 : Try.f10.isInstance Try.prog Rows.colorJustRow.origin Rows.colorJustRow.targs := of_decide_eq_true (by kernel_rfl)
theorem colorJust_h4 : Try.f10.isWrapper Try.prog Rows.colorJustRow.wrapper Rows.colorJustRow.mainSum := by unfold Func.isWrapper; rw [if_neg (by decide +kernel)]; exact ⟨rfl, rfl⟩
theorem colorJust_holds : Rows.ColorJustSaid :=
  OpenClaim.holds_of_wide 10 Try.f10 rfl rfl rfl rfl rfl rfl rfl ⟨rfl, rfl, rfl, rfl, rfl⟩ rfl rfl rfl rfl rfl colorJust_h1 Try.func10 colorJust_h2 colorJust_h3 colorJust_h4
    (fun os started H enc _ => colorJust_lifted os started H enc)

#print axioms colorJust_holds
end Go.Proofs.Ytkfibfacfgiplaa
