/- core.Hash, walked; bloom's filter of 64 bits and two hashes: New, Add, Has. -/
import Derived.Test.YtjapcoonaabdnaaCheck
import Derived.Test.YtjapcoonaabdnaaOwn
import Derived.Test.YtjapcoonaabdnaaPlan
import Derived.RegionTactic
import Derived.BigRegion
namespace Go.Proofs.Ytjapcoonaabdnaa
open Go.RowKit
set_option linter.unusedSimpArgs false

def hashA (i : Nat) : Nat := [7, 11, 13, 17].getD i 0
def hashB (i : Nat) : Nat := [3, 5, 1, 9].getD i 0
/-- a key's hash -/
def hashN (key i below : Nat) : Nat := (key * hashA i + key / below * hashB i + i) % below
theorem hashN_lt (key i : Nat) {below : Nat} (h : 0 < below) : hashN key i below < below := Nat.mod_lt _ h

theorem wr_in (n : Int) (h : -9223372036854775808 ≤ n ∧ n ≤ 9223372036854775807) : wrap64 n = n := by unfold wrap64; omega

theorem hash_any (key i below : Nat) (w : World) (hk : key ≤ 1000000) (hi : i < 3) (hb : 1 ≤ below) (hb2 : below ≤ 128) :
    Calls Try.prog 34 #[.int .i64 key, .int .i64 i, .int .i64 below] w fun e w' => e = .returned (.int .i64 (hashN key i below : Nat)) ∧ w = w' := by
  have hd : key / below ≤ 1000000 := Nat.le_trans (Nat.div_le_self _ _) hk
  have hbe : (below : Int) ≠ 0 := by omega
  have hq0 : ((key / below : Nat) : Int) = (key : Int) / below := Int.natCast_ediv _ _
  obtain ⟨q, hq⟩ : ∃ q, key / below = q := ⟨_, rfl⟩
  rw [hq] at hq0 hd
  match i, hi with
  | 0, _ =>
    have q1 : ∀ w, (Instr.index 85 (.agg #[.int .i64 7, .int .i64 11, .int .i64 13, .int .i64 17]) (.int .i64 0)).run Try.prog w = .ok (.int .i64 7) w := fun w => by rfl
    have q2 : ∀ w, (Instr.index 85 (.agg #[.int .i64 3, .int .i64 5, .int .i64 1, .int .i64 9]) (.int .i64 0)).run Try.prog w = .ok (.int .i64 3) w := fun w => by rfl
    rw [show ((0 : Nat) : Int) = 0 from rfl]
    go_enter Try.func34, Try.ntmps34
    go_wp2
    go_ret
    refine ⟨ret_int ?_, rfl⟩
    rw [← hq0, show ((key : Int) * 7 + (q : Int) * 3) = ((key * 7 + q * 3 + 0 : Nat) : Int) by push_cast; omega, ← Int.natCast_emod, show (key * 7 + q * 3 + 0) % below = hashN key 0 below by rw [← hq]; rfl]
  | 1, _ =>
    have q1 : ∀ w, (Instr.index 85 (.agg #[.int .i64 7, .int .i64 11, .int .i64 13, .int .i64 17]) (.int .i64 1)).run Try.prog w = .ok (.int .i64 11) w := fun w => by rfl
    have q2 : ∀ w, (Instr.index 85 (.agg #[.int .i64 3, .int .i64 5, .int .i64 1, .int .i64 9]) (.int .i64 1)).run Try.prog w = .ok (.int .i64 5) w := fun w => by rfl
    rw [show ((1 : Nat) : Int) = 1 from rfl]
    go_enter Try.func34, Try.ntmps34
    go_wp2
    go_ret
    refine ⟨ret_int ?_, rfl⟩
    rw [← hq0, show ((key : Int) * 11 + (q : Int) * 5 + 1) = ((key * 11 + q * 5 + 1 : Nat) : Int) by push_cast; omega, ← Int.natCast_emod, show (key * 11 + q * 5 + 1) % below = hashN key 1 below by rw [← hq]; rfl]
  | 2, _ =>
    have q1 : ∀ w, (Instr.index 85 (.agg #[.int .i64 7, .int .i64 11, .int .i64 13, .int .i64 17]) (.int .i64 2)).run Try.prog w = .ok (.int .i64 13) w := fun w => by rfl
    have q2 : ∀ w, (Instr.index 85 (.agg #[.int .i64 3, .int .i64 5, .int .i64 1, .int .i64 9]) (.int .i64 2)).run Try.prog w = .ok (.int .i64 1) w := fun w => by rfl
    rw [show ((2 : Nat) : Int) = 2 from rfl]
    go_enter Try.func34, Try.ntmps34
    go_wp2
    go_ret
    refine ⟨ret_int ?_, rfl⟩
    rw [← hq0, show ((key : Int) * 13 + (q : Int) + 2) = ((key * 13 + q * 1 + 2 : Nat) : Int) by push_cast; omega, ← Int.natCast_emod, show (key * 13 + q * 1 + 2) % below = hashN key 2 below by rw [← hq]; rfl]
end Go.Proofs.Ytjapcoonaabdnaa
