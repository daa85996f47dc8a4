/- The law SweepSays holds of every input that its types let in. No condition. -/
import Derived.Test.YtgbdjidjbcbhjaaDoorWrap
import Derived.Test.YtgbdjidjbcbhjaaDoorLaid
import Derived.Test.YtgbdjidjbcbhjaaDoorSweepSays
namespace Go.Proofs.YtgbdjidjbcbhjaaDoor
open Go.RowKit Go.ChangeShapes Go.WideShapes Go.ChangeAt Go.Joins Go.Deep

set_option maxRecDepth 100000 in
theorem sweepSays_lifted (os : Os) (started : os.Started) (H : Type) (enc : TypeId × Value → H) :
    ReturnsInHanded {} Tryd.checked os 8 .any (fun w args => (Rows.sweepSaysSpec.pre enc Tryd.prog Tryd.f8 [] false w args ∧ laidMetH Tryd.prog Rows.sweepSaysRow.laid w) ∧ sizedMet enc Tryd.prog Tryd.f8 (OpenSpec.ofChange Rows.sweepSaysSpec) false w args) (Rows.sweepSaysSpec.post enc Tryd.prog Tryd.f8 false true false false) := by
  refine returnsInHanded_of_change_and (C := Tryd.checked) (X := fun w _ => laidMetH Tryd.prog Rows.sweepSaysRow.laid w) (fun _ _ _ hh h => h.of_heap hh) wrap_own started (by kernel_rfl) Tryd.func8
    (ChangeSpec.witness_at (enc := enc) (C := Tryd.checked) (os := os) (X := fun w _ => laidMetH Tryd.prog Rows.sweepSaysRow.laid w) false (laidWorld os) #[.agg #[.slice none 0 0, .slice none 0 0]] 8 rfl (by kernel_rfl) (by kernel_rfl) (by kernel_rfl) (by kernel_rfl) (by kernel_rfl) (laidWorld_met os _)) ?_
  intro W base args ds gs before hval0 hW _ _ hL _
  have hg := handle_of_laid hL
  have hval : ∀ (j : Nat) t v, Tryd.f8.params[j]? = some t → args[j]? = some v → Value.okWide Tryd.prog W .any base t v := hval0
  have hW' := hW
  obtain ⟨p, q, hA0, hV, rfl, _, _⟩ := hW
  have hA : DataW.TrodAll enc Tryd.prog W 0 (fun _ => true) true Tryd.f8.params.toList args.toList ds p := hA0
  rw [Tryd.params8] at hA hval
  obtain ⟨v0, d0, rfl, rfl, h0⟩ := trodAll_one hA
  obtain ⟨c0a, c0b, y0a, y0b, m0, rfl, rfl, rfl, hy0a, hy0b⟩ := open_agg2 Tryd.underlying25 (by kernel_rfl) wrap_cells_heap (hval 0 25 v0 rfl rfl) h0
  obtain ⟨outs0, ho0⟩ := read_rows hy0a
  obtain ⟨roots0, hr0⟩ := read_ints hy0b
  refine (sweepSays_any c0a c0b outs0 roots0 W ho0 hr0 hg).mono fun e W' ⟨he, hk⟩ => ?_
  exact ⟨_, he, law_post rfl (by kernel_rfl) rfl (by rw [Tryd.params8]; decide +kernel) hW' hk⟩

theorem sweepSays_h1 : Tryd.prog.funcNamed Rows.sweepSaysRow.func = some 8 := by kernel_rfl
theorem sweepSays_h2 : joinedFacts Tryd.prog 8 Tryd.f8 Rows.sweepSaysSpec Rows.sweepSaysRow = true := by
  unfold joinedFacts
  with_reducible (repeat' apply band_intro)
  all_goals first | with_reducible exact fact_mayEnter | ((with_reducible refine fact_lifts_of _ ?_); rfl) | ((with_reducible refine fact_make_of _ ?_); rfl) | as_aux_lemma => kernel_rfl
theorem sweepSays_h3 : Tryd.f8.isInstance Tryd.prog Rows.sweepSaysRow.origin Rows.sweepSaysRow.targs := of_decide_eq_true (by kernel_rfl)
theorem sweepSays_h4 : Tryd.f8.isWrapper Tryd.prog Rows.sweepSaysRow.wrapper Rows.sweepSaysRow.mainSum := by unfold Func.isWrapper; rw [if_neg (by decide +kernel)]; exact ⟨rfl, rfl⟩
theorem sweepSays_row : Rows.SweepSaysSaid :=
  OpenClaim.holds_of_wide 8 Tryd.f8 rfl rfl rfl rfl rfl rfl rfl ⟨rfl, rfl, rfl, rfl, rfl⟩ rfl rfl rfl rfl rfl sweepSays_h1 Tryd.func8 sweepSays_h2 sweepSays_h3 sweepSays_h4
    (fun os started H enc _ => sweepSays_lifted os started H enc)

theorem sweepSays_params : ∀ (j : Nat) t, Tryd.f8.params[j]? = some t → Tryd.prog.wantsStandIn t = false := by
  intro j t ht
  rw [Tryd.params8] at ht
  have h3 : t = 25 := by
    rcases j with _ | _ | _ | j <;> simp at ht <;> simp [ht]
  rcases h3 with rfl
  · exact (show Tryd.prog.wantsStandIn 25 = false by kernel_rfl)
theorem sweepSays_holds : Rows.SweepSaysCardSaid :=
  Claim7.holds_tied_plain_at .later [] [.handle] true (true, "4a647e7e388d42896a7327d1a1ce7f395f25dd0968ac3346dfc86a666dcb673d") true
    sweepSays_row (fun _ h => by cases h) (by kernel_rfl) (fun _ h => by cases h) sweepSays_row_tie rfl ⟨rfl, rfl⟩ (by kernel_rfl) rfl
    (fun f fn hf hfn => by
      obtain rfl : f = 8 := Option.some.inj (sweepSays_h1.symm.trans hf) |>.symm
      obtain rfl : fn = Tryd.f8 := (Option.some.inj (Tryd.func8.symm.trans hfn)).symm
      exact ⟨by kernel_rfl, sweepSays_params⟩)
    (by kernel_rfl)
#print axioms sweepSays_holds
end Go.Proofs.YtgbdjidjbcbhjaaDoor
