/-
  The reference of layer 2, its small parts: turned, moved, eight, sixty. Conditions: words of their kind.
-/
import Derived.Test.YtecmagenlbnchaaQStr
namespace Go.Proofs.Ytecmagenlbnchaa
set_option maxRecDepth 100000
open Go.RowKit

theorem rotr_succ (v : Nat) {k : Nat} (hk : k ≤ 31) : rotr v (k + 1) = rotr v k / 2 + rotr v k % 2 * 2147483648 := by
  unfold rotr
  obtain ⟨p, hp⟩ : ∃ p, p = 2 ^ k := ⟨_, rfl⟩
  obtain ⟨q, hq⟩ : ∃ q, q = 2 ^ (31 - k) := ⟨_, rfl⟩
  have hpq : p * q = 2147483648 := by
    rw [hp, hq, ← Nat.pow_add, show k + (31 - k) = 31 by omega]
  have e1 : 2 ^ (32 - (k + 1)) = q := by rw [hq]; congr 1; omega
  have e2 : 2 ^ (32 - k) = 2 * q := by rw [hq, show 32 - k = (31 - k) + 1 by omega, Nat.pow_succ, Nat.mul_comm]
  rw [e1, e2, Nat.pow_succ, ← hp]
  rw [← Nat.div_div_eq_div_mul, Nat.mod_mul]
  have e3 : v / p + v % p * (2 * q) = v / p + 2 * (v % p * q) := by rw [Nat.mul_left_comm]
  rw [e3]
  have e4 : (v / p + 2 * (v % p * q)) / 2 = v / p / 2 + v % p * q := by omega
  have e5 : (v / p + 2 * (v % p * q)) % 2 = v / p % 2 := by omega
  rw [e4, e5, Nat.add_mul, Nat.mul_assoc, Nat.mul_comm (v / p % 2) q, ← Nat.mul_assoc, hpq]
  omega
theorem rotr_zero (v : Nat) : rotr v 0 = v := by simp [rotr, Nat.mod_one]

set_option maxRecDepth 100000 in
theorem ref_turned (w : World) (v n : Nat) (hv : v < M32) (hn : n ≤ 31) : Calls Try.prog 111 #[.int .u32 (v : Int), .int .i64 (n : Int)] w fun e w' => e = .returned (.int .u32 (rotr v n : Nat)) ∧ w = w' := by
  replace hv := Lib.hid hv
  go_enter Try.func111, Try.ntmps111
  go_wp2_with fail
  go_loop [0, 5] (fun x i => ∃ k : Nat, k ≤ n ∧ x = .int .u32 (rotr v k : Nat) ∧ i = .int .i64 k) (fun _ i => n - (intOf i).toNat)
  case atStart => exact ⟨0, Nat.zero_le _, by rw [rotr_zero], rfl⟩
  case round =>
    obtain ⟨k, hk, rfl, rfl⟩ := hrel
    by_cases hlt : k < n
    · have es := Lib.hid (rotr_succ v (show k ≤ 31 by omega))
      have hr : rotr v k < 4294967296 := rotr_lt hv.out (show k ≤ 32 by omega)
      have hr2 : rotr v (k + 1) < 4294967296 := rotr_lt hv.out (show k + 1 ≤ 32 by omega)
      rw [es.out] at hr2
      generalize rotr v k = x at *
      go_wp2_with fail
      go_round
      case rel => exact ⟨k + 1, by omega, by rw [es.out]; go_num, by go_num⟩
      case measure => simp [intOf]; omega
    · obtain rfl : k = n := by omega
      go_wp2_with fail
      go_ret
      exact ⟨rfl, rfl⟩

set_option maxRecDepth 100000 in
theorem ref_moved (w : World) (v n : Nat) (hv : v < M32) (hn : n ≤ 31) : Calls Try.prog 113 #[.int .u32 (v : Int), .int .i64 (n : Int)] w fun e w' => e = .returned (.int .u32 (v / 2 ^ n : Nat)) ∧ w = w' := by
  replace hv := Lib.hid hv
  go_enter Try.func113, Try.ntmps113
  go_wp2_with fail
  go_loop [0, 5] (fun x i => ∃ k : Nat, k ≤ n ∧ x = .int .u32 (v / 2 ^ k : Nat) ∧ i = .int .i64 k) (fun _ i => n - (intOf i).toNat)
  case atStart => exact ⟨0, Nat.zero_le _, by simp, rfl⟩
  case round =>
    obtain ⟨k, hk, rfl, rfl⟩ := hrel
    by_cases hlt : k < n
    · have es := Lib.hid (show v / 2 ^ (k + 1) = v / 2 ^ k / 2 by rw [Nat.pow_succ, Nat.div_div_eq_div_mul])
      have hr : v / 2 ^ k < 4294967296 := Nat.lt_of_le_of_lt (Nat.div_le_self _ _) hv.out
      generalize v / 2 ^ k = x at *
      go_wp2_with fail
      go_round
      case rel => exact ⟨k + 1, by omega, by rw [es.out]; go_num, by go_num⟩
      case measure => simp [intOf]; omega
    · obtain rfl : k = n := by omega
      generalize hx : v / 2 ^ k = x at *
      replace hx := Lib.hid hx
      go_wp2_with fail
      go_ret
      exact ⟨by rw [← hx.out]; simp, rfl⟩

set_option maxRecDepth 100000 in
theorem ref_eight (w : World) : Calls Try.prog 102 #[] w fun e w' => e = .returned (.slice (some ⟨w.heap.size, 0, none⟩) 8 8) ∧ RowU w' w.heap.size 140 shaH ∧ Below w.heap.size w w' := by
  go_enter Try.func102, Try.ntmps102
  go_wp2
  go_ret
  exact ⟨rfl, heap_alloc_new _ _, (Below.refl _ _).alloc (Nat.le_refl _) _⟩
set_option maxRecDepth 100000 in
theorem ref_sixty (w : World) : Calls Try.prog 103 #[] w fun e w' => e = .returned (.slice (some ⟨w.heap.size, 0, none⟩) 64 64) ∧ RowU w' w.heap.size 140 shaK ∧ Below w.heap.size w w' := by
  go_enter Try.func103, Try.ntmps103
  go_wp2
  go_ret
  exact ⟨rfl, heap_alloc_new _ _, (Below.refl _ _).alloc (Nat.le_refl _) _⟩

end Go.Proofs.Ytecmagenlbnchaa
