/- The law TrialSays holds of every input that its types let in. No condition. -/
import Derived.Test.YtgbdjidjbcbhjaaDoorWrap
import Derived.Test.YtgbdjidjbcbhjaaDoorLaid
import Derived.Test.YtgbdjidjbcbhjaaDoorTrialSays
namespace Go.Proofs.YtgbdjidjbcbhjaaDoor
open Go.RowKit Go.ChangeShapes Go.WideShapes Go.ChangeAt Go.Joins Go.Deep

set_option maxRecDepth 100000 in
theorem trialSays_lifted (os : Os) (started : os.Started) (H : Type) (enc : TypeId × Value → H) :
    ReturnsInHanded {} Tryd.checked os 5 .any (fun w args => (Rows.trialSaysSpec.pre enc Tryd.prog Tryd.f5 [] false w args ∧ laidMetH Tryd.prog Rows.trialSaysRow.laid w) ∧ sizedMet enc Tryd.prog Tryd.f5 (OpenSpec.ofChange Rows.trialSaysSpec) false w args) (Rows.trialSaysSpec.post enc Tryd.prog Tryd.f5 false true false false) := by
  refine returnsInHanded_of_change_and (C := Tryd.checked) (X := fun w _ => laidMetH Tryd.prog Rows.trialSaysRow.laid w) (fun _ _ _ hh h => h.of_heap hh) wrap_own started (by kernel_rfl) Tryd.func5
    (ChangeSpec.witness_at (enc := enc) (C := Tryd.checked) (os := os) (X := fun w _ => laidMetH Tryd.prog Rows.trialSaysRow.laid w) false (laidWorld os) #[.agg #[.slice none 0 0, .slice none 0 0], .int .i64 0] 8 rfl (by kernel_rfl) (by kernel_rfl) (by kernel_rfl) (by kernel_rfl) (by kernel_rfl) (laidWorld_met os _)) ?_
  intro W base args ds gs before hval0 hW _ _ hL _
  have hg := handle_of_laid hL
  have hval : ∀ (j : Nat) t v, Tryd.f5.params[j]? = some t → args[j]? = some v → Value.okWide Tryd.prog W .any base t v := hval0
  have hW' := hW
  obtain ⟨p, q, hA0, hV, rfl, _, _⟩ := hW
  have hA : DataW.TrodAll enc Tryd.prog W 0 (fun _ => true) true Tryd.f5.params.toList args.toList ds p := hA0
  rw [Tryd.params5] at hA hval
  obtain ⟨v0, v1, d0, d1, p0, p1, rfl, rfl, rfl, h0, h1⟩ := trodAll_two hA
  obtain ⟨c0a, c0b, y0a, y0b, m0, rfl, rfl, rfl, hy0a, hy0b⟩ := open_agg2 Tryd.underlying25 (by kernel_rfl) wrap_cells_heap (hval 0 25 v0 rfl rfl) h0
  obtain ⟨outs0, ho0⟩ := read_rows hy0a
  obtain ⟨roots0, hr0⟩ := read_ints hy0b
  obtain ⟨n1, rfl, rfl, rfl, wn1⟩ := open_int Tryd.underlying3 (hval 1 3 v1 rfl rfl) h1
  refine (trialSays_any c0a c0b outs0 roots0 n1 W ho0 hr0 hg).mono fun e W' ⟨he, hk⟩ => ?_
  exact ⟨_, he, law_post rfl (by kernel_rfl) rfl (by rw [Tryd.params5]; decide +kernel) hW' hk⟩

theorem trialSays_h1 : Tryd.prog.funcNamed Rows.trialSaysRow.func = some 5 := by kernel_rfl
theorem trialSays_h2 : joinedFacts Tryd.prog 5 Tryd.f5 Rows.trialSaysSpec Rows.trialSaysRow = true := by
  unfold joinedFacts
  with_reducible (repeat' apply band_intro)
  all_goals first | with_reducible exact fact_mayEnter | ((with_reducible refine fact_lifts_of _ ?_); rfl) | ((with_reducible refine fact_make_of _ ?_); rfl) | as_aux_lemma => kernel_rfl
theorem trialSays_h3 : Tryd.f5.isInstance Tryd.prog Rows.trialSaysRow.origin Rows.trialSaysRow.targs := of_decide_eq_true (by kernel_rfl)
theorem trialSays_h4 : Tryd.f5.isWrapper Tryd.prog Rows.trialSaysRow.wrapper Rows.trialSaysRow.mainSum := by unfold Func.isWrapper; rw [if_neg (by decide +kernel)]; exact ⟨rfl, rfl⟩
theorem trialSays_row : Rows.TrialSaysSaid :=
  OpenClaim.holds_of_wide 5 Tryd.f5 rfl rfl rfl rfl rfl rfl rfl ⟨rfl, rfl, rfl, rfl, rfl⟩ rfl rfl rfl rfl rfl trialSays_h1 Tryd.func5 trialSays_h2 trialSays_h3 trialSays_h4
    (fun os started H enc _ => trialSays_lifted os started H enc)

theorem trialSays_params : ∀ (j : Nat) t, Tryd.f5.params[j]? = some t → Tryd.prog.wantsStandIn t = false := by
  intro j t ht
  rw [Tryd.params5] at ht
  have h3 : t = 25 ∨ t = 3 := by
    rcases j with _ | _ | _ | j <;> simp at ht <;> simp [ht]
  rcases h3 with rfl | rfl
  · exact (show Tryd.prog.wantsStandIn 25 = false by kernel_rfl)
  · exact (show Tryd.prog.wantsStandIn 3 = false by kernel_rfl)
theorem trialSays_holds : Rows.TrialSaysCardSaid :=
  Claim7.holds_tied_plain_at .later [] [.handle] true (true, "4a647e7e388d42896a7327d1a1ce7f395f25dd0968ac3346dfc86a666dcb673d") true
    trialSays_row (fun _ h => by cases h) (by kernel_rfl) (fun _ h => by cases h) trialSays_row_tie rfl ⟨rfl, rfl⟩ (by kernel_rfl) rfl
    (fun f fn hf hfn => by
      obtain rfl : f = 5 := Option.some.inj (trialSays_h1.symm.trans hf) |>.symm
      obtain rfl : fn = Tryd.f5 := (Option.some.inj (Tryd.func5.symm.trans hfn)).symm
      exact ⟨by kernel_rfl, trialSays_params⟩)
    (by kernel_rfl)
#print axioms trialSays_holds
end Go.Proofs.YtgbdjidjbcbhjaaDoor
