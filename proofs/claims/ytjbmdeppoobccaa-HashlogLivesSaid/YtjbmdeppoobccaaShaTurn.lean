/-
  sha.turn: a word turned down by n digits. Conditions: the word is below 2^32, n from 1 to 31.
-/
import Derived.Test.YtjbmdeppoobccaaProg
import Derived.Test.YtjbmdeppoobccaaBase
import Derived.Test.YtjbmdeppoobccaaShaPlain
namespace Go.Proofs.Ytjbmdeppoobccaa
open Go.RowKit

theorem rot_mask (n : Nat) (h1 : 1 ≤ n) (h2 : n ≤ 31) : bits .and .u64 (IntKind.u64.wrap (-(n : Int))) 31 = ((32 - n : Nat) : Int) := by
  have e1 : IntKind.u64.wrap (-(n : Int)) = ((18446744073709551616 - n : Nat) : Int) := by rw [IntKind.wrap_u64]; omega
  rw [e1, show (31 : Int) = ((31 : Nat) : Int) from rfl, u64_and_nat _ _ (by omega) (by decide), nat_mask5]
  omega

theorem rot_val (x n s : Nat) (hx : x < M32) (h1 : n + s = 32) : bits .or .u32 ((x : Int) * (2 : Int) ^ s % 4294967296) ((x : Int) / (2 : Int) ^ (32 - s)) = (rotr x n : Int) := by
  rw [show 32 - s = n by omega]
  have hp : 0 < 2 ^ n := Nat.pow_pos (by omega)
  have e0 : 2 ^ n * 2 ^ s = M32 := by rw [← Nat.pow_add, h1]; rfl
  have e1 : ((x : Int) * (2 : Int) ^ s % 4294967296) = ((x % 2 ^ n * 2 ^ s : Nat) : Int) := by
    have e : ((x : Int) * (2 : Int) ^ s) = ((x * 2 ^ s : Nat) : Int) := by simp
    rw [e, ← Nat.mul_mod_mul_right, e0]
    rfl
  have e2 : ((x : Int) / (2 : Int) ^ n) = ((x / 2 ^ n : Nat) : Int) := by simp
  have l1 : x / 2 ^ n < 2 ^ s := by apply Nat.div_lt_of_lt_mul; rw [e0]; exact hx
  have l2 : x % 2 ^ n * 2 ^ s < M32 := by
    rw [← e0]; exact Nat.mul_lt_mul_of_pos_right (Nat.mod_lt _ hp) (Nat.pow_pos (by omega))
  rw [e1, e2, u32_or_nat _ _ l2 (Nat.lt_of_le_of_lt (Nat.div_le_self _ _) hx), nat_join s _ _ (Nat.mul_mod_left _ _) l1]
  unfold rotr
  rw [show 32 - n = s by omega, Nat.add_comm]

set_option maxRecDepth 100000 in
theorem rot_core (x n s : Nat) (w : World) (h1 : 1 ≤ s) (h2 : s ≤ 31) (hs : bits .and .u64 (IntKind.u64.wrap (-(n : Int))) 31 = (s : Int)) (hv : Hid (bits .or .u32 ((x : Int) * (2 : Int) ^ s % 4294967296) ((x : Int) / (2 : Int) ^ (32 - s)) = (rotr x n : Int))) :
    Calls Try.prog 72 #[.int .u32 x, .int .i64 (-(n : Int))] w fun e w' => e = .returned (.int .u32 (rotr x n)) ∧ w = w' := by
  go_enter Try.func72, Try.ntmps72
  go_wp2
  go_ret
  exact ⟨ret_int hv.out, rfl⟩

theorem rot_any (x n : Nat) (w : World) (hx : x < M32) (h1 : 1 ≤ n) (h2 : n ≤ 31) :
    Calls Try.prog 72 #[.int .u32 x, .int .i64 (-(n : Int))] w fun e w' => e = .returned (.int .u32 (rotr x n)) ∧ w = w' :=
  rot_core x n (32 - n) w (by omega) (by omega) (rot_mask n h1 h2) (rot_val x n (32 - n) hx (by omega))

set_option maxRecDepth 100000 in
theorem sturn_any (x n : Nat) (w : World) (hx : x < M32) (h1 : 1 ≤ n) (h2 : n ≤ 31) :
    Calls Try.prog 64 #[.int .u32 x, .int .i64 n] w fun e w' => e = .returned (.int .u32 (rotr x n)) ∧ w = w' := by
  have c := Lib.hid (rot_any x n w hx h1 h2)
  go_enter Try.func64, Try.ntmps64
  go_wp2_with (go_at_call 72; refine c.out.mono ?_; rintro e w' ⟨rfl, rfl⟩)
  go_ret
  exact ⟨rfl, rfl⟩

end Go.Proofs.Ytjbmdeppoobccaa
