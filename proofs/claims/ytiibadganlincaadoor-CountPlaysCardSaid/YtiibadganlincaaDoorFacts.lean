/- What every row's closed facts ask of the whole program. No condition. -/
import Derived.Test.YtiibadganlincaaDoorChecked
import Derived.JoinedOf
import Derived.KernelRfl
namespace Go.Proofs.YtiibadganlincaaDoor
theorem fact_mayEnter : Tryd.prog.mayEnter = true := by kernel_rfl
theorem fact_lifts : (false == Tryd.prog.liftsFinal) = true := by kernel_rfl
theorem fact_lifts_of (x : Bool) (h : x = false) : (x == Tryd.prog.liftsFinal) = true := by subst h; exact fact_lifts
theorem band_intro {a b : Bool} (h : a = true) (k : b = true) : (a && b) = true := by rw [h, k]; rfl
theorem fact_make : (Tryd.prog.make == some .cut) = true := by kernel_rfl
theorem fact_make_of (x : Make) (h : x = .cut) : (Tryd.prog.make == some x) = true := by subst h; exact fact_make
end Go.Proofs.YtiibadganlincaaDoor
