/- The law ColorSafe holds of every input that its types let in. No condition. -/
import Derived.Test.YtkfibfacfgiplaaWrap
import Derived.Test.YtkfibfacfgiplaaColorSafe
namespace Go.Proofs.Ytkfibfacfgiplaa
open Go.RowKit Go.ChangeShapes Go.WideShapes Go.ChangeAt Go.Joins Go.Deep

set_option maxRecDepth 100000 in
theorem colorSafe_lifted (os : Os) (started : os.Started) (H : Type) (enc : TypeId × Value → H) :
    ReturnsInHanded {} Try.checked os 14 .any (Rows.colorSafeSpec.pre6 enc Try.prog Try.f14 Rows.colorSafeRow.domain false) (Rows.colorSafeSpec.post enc Try.prog Try.f14 false true false false) := by
  refine returnsInHanded_of_change (C := Try.checked) wrap_own started (by kernel_rfl) Try.func14
    (ChangeSpec.witness6 (enc := enc) (C := Try.checked) false ⟨#[], #[.agg #[.slice none 0 0, .slice none 0 0], .slice none 0 0], []⟩ 8 (by kernel_rfl) (by kernel_rfl) (by kernel_rfl) (by kernel_rfl)) ?_
  intro W base args ds gs before hval0 hW _ _
  have hval : ∀ (j : Nat) t v, Try.f14.params[j]? = some t → args[j]? = some v → Value.okWide Try.prog W .any base t v := hval0
  have hW' := hW
  obtain ⟨p, q, hA0, hV, rfl, _, _⟩ := hW
  have hA : DataW.TrodAll enc Try.prog W 0 (fun _ => true) true Try.f14.params.toList args.toList ds p := hA0
  rw [Try.params14] at hA hval
  obtain ⟨v0, v1, d0, d1, p0, p1, rfl, rfl, rfl, h0, h1⟩ := trodAll_two hA
  obtain ⟨c0a, c0b, y0a, y0b, m0, rfl, rfl, rfl, hy0a, hy0b⟩ := open_agg2 Try.underlying25 (by kernel_rfl) wrap_cells_heap (hval 0 25 v0 rfl rfl) h0
  obtain ⟨outs0, ho0⟩ := read_rows hy0a
  obtain ⟨roots0, hr0⟩ := read_ints hy0b
  obtain ⟨A1, len1, cap1, rfl⟩ := okWide_slice Try.underlying22 (hval 1 22 v1 rfl rfl)
  obtain ⟨fuel1, hf1⟩ := h1
  obtain ⟨xss1, hx1⟩ := read_rows hf1
  refine (colorSafe_any c0a c0b _ outs0 roots0 xss1 W ho0 hr0 hx1).mono fun e W' ⟨he, hk⟩ => ?_
  exact ⟨_, he, law_post rfl (by kernel_rfl) rfl (by rw [Try.params14]; decide +kernel) hW' hk⟩

theorem colorSafe_h1 : Try.prog.funcNamed Rows.colorSafeRow.func = some 14 := by kernel_rfl
theorem colorSafe_h2 : joinedFacts Try.prog 14 Try.f14 Rows.colorSafeSpec Rows.colorSafeRow = true := by
  unfold joinedFacts
  with_reducible (repeat' apply band_intro)
  all_goals first | with_reducible exact fact_mayEnter | ((with_reducible refine fact_lifts_of _ ?_); rfl) | ((with_reducible refine fact_make_of _ ?_); rfl) | as_aux_lemma => kernel_rfl
theorem colorSafe_h3 : Try.f14.isInstance Try.prog Rows.colorSafeRow.origin Rows.colorSafeRow.targs := of_decide_eq_true (by kernel_rfl)
theorem colorSafe_h4 : Try.f14.isWrapper Try.prog Rows.colorSafeRow.wrapper Rows.colorSafeRow.mainSum := by unfold Func.isWrapper; rw [if_neg (by decide +kernel)]; exact ⟨rfl, rfl⟩
theorem colorSafe_holds : Rows.ColorSafeSaid :=
  OpenClaim.holds_of_wide 14 Try.f14 rfl rfl rfl rfl rfl rfl rfl ⟨rfl, rfl, rfl, rfl, rfl⟩ rfl rfl rfl rfl rfl colorSafe_h1 Try.func14 colorSafe_h2 colorSafe_h3 colorSafe_h4
    (fun os started H enc _ => colorSafe_lifted os started H enc)

#print axioms colorSafe_holds
end Go.Proofs.Ytkfibfacfgiplaa
