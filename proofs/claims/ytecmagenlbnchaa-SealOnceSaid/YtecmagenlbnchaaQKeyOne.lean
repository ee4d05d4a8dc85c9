/-
  Keys of one byte and noughts, built. No condition.
-/
import Derived.Test.YtecmagenlbnchaaQKeysRow
import Derived.Test.YtecmagenlbnchaaQKeysPlain
namespace Go.Proofs.Ytecmagenlbnchaa
set_option maxRecDepth 100000
open Go.RowKit

theorem key1_length (n : Nat) : (key1 n).length = 32 := by simp [key1]
theorem key1_small {n : Nat} (h : n < 256) : ∀ x ∈ key1 n, x < 256 := by
  intro x hx
  rcases List.mem_cons.1 hx with h2 | h2
  · omega
  · have := (List.mem_replicate.1 h2).2
    omega
theorem built_key1 : Try.prog.built 23 [(0, .int .u8 1)] = some (u8s (key1 1)) := by kernel_rfl
theorem built_key2 : Try.prog.built 23 [(0, .int .u8 2)] = some (u8s (key1 2)) := by kernel_rfl
theorem built_key3 : Try.prog.built 22 [(0, .int .u8 3)] = some (u8s (key1 3)) := by kernel_rfl
end Go.Proofs.Ytecmagenlbnchaa
