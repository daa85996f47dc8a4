/- graph.Check: what it returns, for every heap. No condition. -/
import Derived.Test.YtiibadganlincaaDoorRead
namespace Go.Proofs.YtiibadganlincaaDoor
open Go.RowKit

set_option maxHeartbeats 1000000

def chkRow (n : Nat) (l : List Int) : Nat := if 4 < l.length then 4 else if allB l 0 ((n : Int) - 1) = false then 1 else 0
def chkRows (n : Nat) : List (List Int) → Nat
  | [] => 0
  | l :: r => if chkRow n l = 0 then chkRows n r else chkRow n l
def chk (outs : List (List Int)) (roots : List Int) : Nat :=
  if 12 < outs.length ∨ 12 < roots.length then 4 else if allB roots 0 ((outs.length : Int) - 1) = false then 1 else chkRows outs.length outs
/-- an error by its number -/
def errV (k : Nat) : Value := if k = 0 then .nilIface else .iface 56 (.int .i64 k)

theorem chkRows_drop {n : Nat} {outs : List (List Int)} {k : Nat} (h : k < outs.length) : chkRows n (outs.drop k) = if chkRow n outs[k] = 0 then chkRows n (outs.drop (k + 1)) else chkRow n outs[k] := by
  rw [List.drop_eq_getElem_cons h]; rfl

end Go.Proofs.YtiibadganlincaaDoor
