/- What every row's closed facts ask of the whole program. No condition. -/
import Derived.Test.YtjapcoonaabdnaaChecked
import Derived.JoinedOf
import Derived.KernelRfl
namespace Go.Proofs.Ytjapcoonaabdnaa
theorem fact_mayEnter : Try.prog.mayEnter = true := by kernel_rfl
theorem fact_lifts : (false == Try.prog.liftsFinal) = true := by kernel_rfl
theorem fact_lifts_of (x : Bool) (h : x = false) : (x == Try.prog.liftsFinal) = true := by subst h; exact fact_lifts
theorem band_intro {a b : Bool} (h : a = true) (k : b = true) : (a && b) = true := by rw [h, k]; rfl
theorem fact_make : (Try.prog.make == some .cut) = true := by kernel_rfl
theorem fact_make_of (x : Make) (h : x = .cut) : (Try.prog.make == some x) = true := by subst h; exact fact_make
end Go.Proofs.Ytjapcoonaabdnaa
