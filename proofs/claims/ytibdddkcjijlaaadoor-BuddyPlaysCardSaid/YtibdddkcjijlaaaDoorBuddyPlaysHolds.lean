/- The law BuddyPlays holds of every input that its types let in. No condition. -/
import Derived.Test.YtibdddkcjijlaaaDoorWrap
import Derived.Test.YtibdddkcjijlaaaDoorLaid
import Derived.Test.YtibdddkcjijlaaaDoorBuddyPlays
namespace Go.Proofs.YtibdddkcjijlaaaDoor
open Go.RowKit Go.ChangeShapes Go.WideShapes Go.ChangeAt Go.Joins Go.Deep

set_option maxRecDepth 100000 in
theorem buddyPlays_lifted (os : Os) (started : os.Started) (H : Type) (enc : TypeId × Value → H) :
    ReturnsInHanded {} Tryd.checked os 4 .any (fun w args => (Rows.buddyPlaysSpec.pre enc Tryd.prog Tryd.f4 [] false w args ∧ laidMetH Tryd.prog Rows.buddyPlaysRow.laid w) ∧ sizedMet enc Tryd.prog Tryd.f4 (OpenSpec.ofChange Rows.buddyPlaysSpec) false w args) (Rows.buddyPlaysSpec.post enc Tryd.prog Tryd.f4 false true false false) := by
  refine returnsInHanded_of_change_and (C := Tryd.checked) (X := fun w _ => laidMetH Tryd.prog Rows.buddyPlaysRow.laid w) (fun _ _ _ hh h => h.of_heap hh) wrap_own started (by kernel_rfl) Tryd.func4
    (ChangeSpec.witness_at (enc := enc) (C := Tryd.checked) (os := os) (X := fun w _ => laidMetH Tryd.prog Rows.buddyPlaysRow.laid w) false (laidWorld os) #[.slice none 0 0] 8 rfl (by kernel_rfl) (by kernel_rfl) (by kernel_rfl) (by kernel_rfl) (by kernel_rfl) (laidWorld_met os _)) ?_
  intro W base args ds gs before hval0 hW _ _ hL _
  have hg := handle_of_laid hL
  have hval : ∀ (j : Nat) t v, Tryd.f4.params[j]? = some t → args[j]? = some v → Value.okWide Tryd.prog W .any base t v := hval0
  have hW' := hW
  obtain ⟨p, q, hA0, hV, rfl, _, _⟩ := hW
  have hA : DataW.TrodAll enc Tryd.prog W 0 (fun _ => true) true Tryd.f4.params.toList args.toList ds p := hA0
  rw [Tryd.params4] at hA hval
  obtain ⟨v0, d0, rfl, rfl, h0⟩ := trodAll_one hA
  obtain ⟨A0, len0, cap0, rfl⟩ := okWide_slice Tryd.underlying22 (hval 0 22 v0 rfl rfl)
  obtain ⟨fuel0, hf0⟩ := h0
  obtain ⟨xs0, hx0, br0⟩ := read_ints_r hf0
  refine (buddyPlays_any _ xs0 W hx0 br0 hg).mono fun e W' ⟨he, hk⟩ => ?_
  exact ⟨_, he, law_post rfl (by kernel_rfl) rfl (by rw [Tryd.params4]; decide +kernel) hW' hk⟩

theorem buddyPlays_h1 : Tryd.prog.funcNamed Rows.buddyPlaysRow.func = some 4 := by kernel_rfl
theorem buddyPlays_h2 : joinedFacts Tryd.prog 4 Tryd.f4 Rows.buddyPlaysSpec Rows.buddyPlaysRow = true := by
  unfold joinedFacts
  with_reducible (repeat' apply band_intro)
  all_goals first | with_reducible exact fact_mayEnter | ((with_reducible refine fact_lifts_of _ ?_); rfl) | ((with_reducible refine fact_make_of _ ?_); rfl) | as_aux_lemma => kernel_rfl
theorem buddyPlays_h3 : Tryd.f4.isInstance Tryd.prog Rows.buddyPlaysRow.origin Rows.buddyPlaysRow.targs := of_decide_eq_true (by kernel_rfl)
theorem buddyPlays_h4 : Tryd.f4.isWrapper Tryd.prog Rows.buddyPlaysRow.wrapper Rows.buddyPlaysRow.mainSum := by unfold Func.isWrapper; rw [if_neg (by decide +kernel)]; exact ⟨rfl, rfl⟩
theorem buddyPlays_row : Rows.BuddyPlaysSaid :=
  OpenClaim.holds_of_wide 4 Tryd.f4 rfl rfl rfl rfl rfl rfl rfl ⟨rfl, rfl, rfl, rfl, rfl⟩ rfl rfl rfl rfl rfl buddyPlays_h1 Tryd.func4 buddyPlays_h2 buddyPlays_h3 buddyPlays_h4
    (fun os started H enc _ => buddyPlays_lifted os started H enc)

theorem buddyPlays_params : ∀ (j : Nat) t, Tryd.f4.params[j]? = some t → Tryd.prog.wantsStandIn t = false := by
  intro j t ht
  rw [Tryd.params4] at ht
  have h3 : t = 22 := by
    rcases j with _ | _ | _ | j <;> simp at ht <;> simp [ht]
  rcases h3 with rfl
  · exact (show Tryd.prog.wantsStandIn 22 = false by kernel_rfl)
theorem buddyPlays_holds : Rows.BuddyPlaysCardSaid :=
  Claim7.holds_tied_plain_at .later [] [.handle] true (true, "262fccaf0c6a80b8d91177bf003f160dacf8f724397f60d46824665738b40659") true
    buddyPlays_row (fun _ h => by cases h) (by kernel_rfl) (fun _ h => by cases h) buddyPlays_row_tie rfl ⟨rfl, rfl⟩ (by kernel_rfl) rfl
    (fun f fn hf hfn => by
      obtain rfl : f = 4 := Option.some.inj (buddyPlays_h1.symm.trans hf) |>.symm
      obtain rfl : fn = Tryd.f4 := (Option.some.inj (Tryd.func4.symm.trans hfn)).symm
      exact ⟨by kernel_rfl, buddyPlays_params⟩)
    (by kernel_rfl)
#print axioms buddyPlays_holds
end Go.Proofs.YtibdddkcjijlaaaDoor
