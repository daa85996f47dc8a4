/- A heap that is being made, in memory: its rows are its own. -/
import Derived.Test.YtibdddkcjijlaaaDoorClone
import Derived.Test.YtibdddkcjijlaaaDoorRead
namespace Go.Proofs.YtibdddkcjijlaaaDoor
open Go.RowKit

theorem kp_set (w : World) (g k : Nat) (u : Value) : Kp (At g) w (w.setCell ⟨g, k, none⟩ u) := Kp.setCell (S := At g) (p := ⟨g, k, none⟩) (Kp.refl _ w) (fun _ => rfl) u

end Go.Proofs.YtibdddkcjijlaaaDoor
