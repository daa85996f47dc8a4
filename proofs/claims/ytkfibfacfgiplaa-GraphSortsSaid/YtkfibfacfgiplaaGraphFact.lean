/- The closed fact of the laws on graphs. -/
import Derived.Test.YtkfibfacfgiplaaRounds
namespace Go.Proofs.Ytkfibfacfgiplaa
open Go.RowKit

theorem graphFact_any (w : World) : Calls Try.prog 27 #[] w fun e w' => e = .returned (.bool true) ∧ Kp No w w' := by
  have hok : Ok [[1], [2], [0], [0]] [1] := ok_of_chk (by decide)
  have h1 : reachN [[1], [2], [0], [0]] [1] = 7 := by decide
  have h2 : roundsN [[1], [2], [0], [0]] = 7 := by decide
  have HOK := hide hok
  have H1 := hide h1
  have H2 := hide h2
  clear hok h1 h2
  go_enter Try.func27, Try.ntmps27
  go_wp2_with fail
  refine Calls.mono (ringOf_any 1 _) ?_
  rintro e w1 ⟨vo, vr, rfl, ho, hr, hk1⟩
  have HO := hide ho
  have HR := hide hr
  have HK1 := hide hk1
  clear ho hr hk1
  go_wp2_with fail
  refine Calls.mono (reach_ok vo vr _ _ _ HO.out HR.out HOK.out) ?_
  rw [H1.out]
  rintro e w2 ⟨rfl, hk2⟩
  have HK2 := hide (HK1.out.trans hk2)
  clear hk2 HO HR
  go_wp2_with fail
  refine Calls.mono (ringOf_any 1 _) ?_
  rintro e w3 ⟨vo', vr', rfl, ho, hr, hk3⟩
  have HO := hide ho
  have HR := hide hr
  have HK3 := hide (HK2.out.trans hk3)
  clear ho hr hk3
  go_wp2_with fail
  refine Calls.mono (rounds_ok vo' vr' _ _ _ HO.out HR.out HOK.out) ?_
  rw [H2.out]
  rintro e w4 ⟨rfl, hk4⟩
  have HK4 := hide (HK3.out.trans hk4)
  clear hk4
  go_wp2
  go_ret
  exact ⟨rfl, HK4.out⟩
end Go.Proofs.Ytkfibfacfgiplaa
