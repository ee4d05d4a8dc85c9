/-
  Streams of marks, plainly. No condition; no program in sight.
-/
import Derived.Test.YtjbmdeppoobccaaHmacPlain
namespace Go.Proofs.Ytjbmdeppoobccaa

/-- The stream's part number k (there is none behind 0). -/
def lastTo (key name : List Nat) : Nat → List Nat
  | 0 => []
  | k + 1 => macs key (lastTo key name k ++ name ++ [(k + 1) % 256])
def outTo (key name : List Nat) : Nat → List Nat
  | 0 => []
  | k + 1 => outTo key name k ++ lastTo key name (k + 1)
def expandOf (key name : List Nat) (n : Nat) : List Nat := (outTo key name ((n + 31) / 32)).take n
theorem macs_length (key t : List Nat) : (macs key t).length = 32 := sumOf_length _
theorem macs_small (key t : List Nat) : ∀ x ∈ macs key t, x < 256 := sumOf_small _
theorem lastTo_length (key name : List Nat) (k : Nat) : (lastTo key name (k + 1)).length = 32 := macs_length _ _
theorem lastTo_le (key name : List Nat) : ∀ k, (lastTo key name k).length ≤ 32
  | 0 => Nat.zero_le _
  | k + 1 => by rw [lastTo_length]; exact Nat.le_refl _
theorem lastTo_small (key name : List Nat) : ∀ k, ∀ x ∈ lastTo key name k, x < 256
  | 0, x, h => by simp [lastTo] at h
  | _ + 1, x, h => macs_small _ _ x h
theorem outTo_length (key name : List Nat) : ∀ k, (outTo key name k).length = 32 * k
  | 0 => rfl
  | k + 1 => by simp only [outTo]; rw [List.length_append, outTo_length key name k, lastTo_length]; omega
theorem outTo_small (key name : List Nat) : ∀ k, ∀ x ∈ outTo key name k, x < 256
  | 0, x, h => by simp [outTo] at h
  | k + 1, x, h => by
    unfold outTo at h
    rcases List.mem_append.1 h with h | h
    · exact outTo_small key name k x h
    · exact lastTo_small key name (k + 1) x h
theorem outTo_succ (key name : List Nat) (k : Nat) : outTo key name (k + 1) = outTo key name k ++ lastTo key name (k + 1) := by simp only [outTo]
theorem lastTo_succ (key name : List Nat) (k : Nat) : lastTo key name (k + 1) = macs key (lastTo key name k ++ name ++ [(k + 1) % 256]) := by simp only [lastTo]
theorem outTo_prefix (key name : List Nat) (k d : Nat) : (outTo key name (k + d)).take (32 * k) = outTo key name k := by
  induction d with
  | zero => rw [Nat.add_zero, List.take_of_length_le (by rw [outTo_length]; exact Nat.le_refl _)]
  | succ d ih =>
    rw [← Nat.add_assoc, outTo_succ, List.take_append_of_le_length (by rw [outTo_length]; omega)]
    exact ih
theorem expandOf_length (key name : List Nat) (n : Nat) : (expandOf key name n).length = n := by
  unfold expandOf
  rw [List.length_take, outTo_length]
  omega
theorem expandOf_small (key name : List Nat) (n : Nat) : ∀ x ∈ expandOf key name n, x < 256 := fun x h => outTo_small _ _ _ x (List.mem_of_mem_take h)
/-- Fewer bytes are a beginning of more. -/
theorem expandOf_take (key name : List Nat) {n m : Nat} (h : n ≤ m) : (expandOf key name m).take n = expandOf key name n := by
  unfold expandOf
  rw [List.take_take, Nat.min_eq_left h]
  obtain ⟨d, hd⟩ : ∃ d, (m + 31) / 32 = (n + 31) / 32 + d := ⟨(m + 31) / 32 - (n + 31) / 32, by omega⟩
  rw [hd, ← outTo_prefix key name ((n + 31) / 32) d, List.take_take, Nat.min_eq_left (by omega)]
theorem outTo_zero (key name : List Nat) : outTo key name 0 = [] := by simp only [outTo]
theorem lastTo_zero (key name : List Nat) : lastTo key name 0 = [] := by simp only [lastTo]
theorem outTo_one (key name : List Nat) : outTo key name 1 = macs key (name ++ [1]) := by
  have h1 : (0 + 1) % 256 = 1 := by decide
  have h := outTo_succ key name 0
  rw [lastTo_succ, outTo_zero, lastTo_zero, h1, List.nil_append, List.nil_append] at h
  exact h
theorem expandOf_first (key name : List Nat) : expandOf key name 32 = macs key (name ++ [1]) := by
  unfold expandOf
  have h : (32 + 31) / 32 = 0 + 1 := by decide
  have h1 : (0 + 1) % 256 = 1 := by decide
  have h2 := outTo_length key name (0 + 1)
  rw [h, List.take_of_length_le (by rw [h2]; decide), outTo_succ, lastTo_succ, outTo_zero, lastTo_zero, h1, List.nil_append, List.nil_append]

end Go.Proofs.Ytjbmdeppoobccaa
