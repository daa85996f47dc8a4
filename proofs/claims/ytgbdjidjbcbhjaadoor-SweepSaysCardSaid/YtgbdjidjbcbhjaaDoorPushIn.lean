/- append of one element, inside a fence. -/
import Derived.Test.YtgbdjidjbcbhjaaDoorBase
import Derived.OwnWalkIn
namespace Go.Proofs.YtgbdjidjbcbhjaaDoor
open Go.RowKit

theorem wpListIn_push {F : Fence} {m : Nat} {P : Program} (w : World) {ops : Array Oper} {rest : List Oper} {o : Oper} {a : Act} {Q : Exit → Act → World → Prop} (hgd : o.guard = none) (s x : Operand) (t : TypeId)
    (ho : o.op = .call { callee := .builtin .append, args := #[s, x], argTypes := #[t, t] })
    (base : Nat) (e : TypeId) (z : Value) (bytes : Nat) (ht : P.underlying t = some (.slice e)) (hinfo : (P.info? e).map (fun i => (i.zero, i.size, i.bytes)) = some (some z, 1, bytes)) (hzs : z.cells.size = 1)
    (v : Value) (n : Nat) (xs : List Value) (hs : a.eval s = v) (hown : w.ownsRow base e 1 v n xs)
    (u : Value) (h1 : u.oneCell' = true) (c N : Nat) (hx : a.eval x = .slice (some ⟨N, 0, none⟩) 1 c) (hN : w.heap.size = N)
    (h63 : n + 1 ≤ 1073741824) (hb : bytes ≤ 1024) (hbase : base ≤ w.heap.size)
    (h : ∀ g' c' w', w'.ownsRow base e 1 (.slice (some ⟨g', 0, none⟩) (n + 1) c') (n + 1) (xs ++ [u]) → (w.alloc (.cells #[u] e)).grownBy w' v.ownBlock → (v.ownBlock = some g' ∨ g' = N + 1) → wpListIn F m P ops Q rest (a.put o.dst (.slice (some ⟨g', 0, none⟩) (n + 1) c')) w') :
    wpListIn F m P ops Q (o :: rest) a (w.alloc (.cells #[u] e)) := by
  subst hN
  refine wpListIn_plain hgd fun K hK' => ?_
  obtain ⟨g', c', w', hrun, r1, r2, r3⟩ := run_push (P := P) (w.alloc (.cells #[u] e)) t o.type base e z bytes ht hinfo hzs v n xs (hown.alloc _) u h1 c w.heap.size (by simp) h63 hb (by simp; omega)
  unfold Oper.wpIn
  refine ⟨?_, ?_⟩
  · simp [Oper.about, ho, resolve, Target.leads, Sem.run_pure]
  · rw [Oper.semAt_plain F _ _ (by rw [ho]; intro c hc'; cases hc')]
    simp [execOp, ho, resolve, invoke, builtin, hs, hx, hrun, Result.andThen]
    exact hK' _ _ (h g' c' w' r1 r2 (by simpa using r3))
end Go.Proofs.YtgbdjidjbcbhjaaDoor
