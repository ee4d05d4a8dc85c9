/-
  Marks with a key, plainly. No condition; no program in sight.
-/
import Derived.Test.YtjbmdeppoobccaaShaText
namespace Go.Proofs.Ytjbmdeppoobccaa

/-- The key of a mark: a long one's sum. -/
def hkey (key : List Nat) : List Nat := if 64 < key.length then sumOf key else key
/-- The key's block, xored. -/
def padBy (b : Nat) (key : List Nat) : List Nat := (List.range 64).map fun i => byt key i ^^^ b
/-- The mark of texts, one behind the other. -/
def macs (key : List Nat) (t : List Nat) : List Nat := sumOf (padBy 92 (hkey key) ++ sumOf (padBy 54 (hkey key) ++ t))
/-- The block, xored up to k. -/
def padTo (b : Nat) (key : List Nat) (k : Nat) : List Nat := (List.range 64).map fun i => if i < k then byt key i ^^^ b else byt key i
theorem padTo_full (b : Nat) (key : List Nat) : padTo b key 64 = padBy b key := by
  unfold padTo padBy
  exact List.map_congr_left fun i hi => by rw [if_pos (List.mem_range.1 hi)]
theorem padTo_zero (b : Nat) (key : List Nat) : padTo b key 0 = (List.range 64).map (byt key) := by
  unfold padTo
  exact List.map_congr_left fun i _ => by rw [if_neg (Nat.not_lt_zero i)]
theorem padTo_get (b : Nat) (key : List Nat) {k : Nat} (hk : k < 64) : (padTo b key k)[k]? = some (byt key k) := by simp [padTo, hk]
theorem padTo_set (b : Nat) (key : List Nat) (k : Nat) : (padTo b key k).set k (byt key k ^^^ b) = padTo b key (k + 1) := by
  apply List.ext_getElem
  · simp [padTo]
  · intro j h1 h2
    simp only [List.getElem_set, padTo, List.getElem_map, List.getElem_range]
    by_cases hj : k = j
    · subst hj; simp
    · rw [if_neg hj]
      by_cases h3 : j < k
      · rw [if_pos h3, if_pos (by omega)]
      · rw [if_neg h3, if_neg (by omega)]
@[simp] theorem length_padBy (b : Nat) (key : List Nat) : (padBy b key).length = 64 := by simp [padBy]
@[simp] theorem length_padTo (b : Nat) (key : List Nat) (k : Nat) : (padTo b key k).length = 64 := by simp [padTo]
theorem sumOf_small (t : List Nat) : ∀ x ∈ sumOf t, x < 256 := by
  intro x hx
  unfold sumOf at hx
  obtain ⟨y, _, hy⟩ := List.mem_flatMap.1 hx
  exact beBytes_lt _ _ x hy
theorem sumOf_length (t : List Nat) : (sumOf t).length = 32 := by
  have hlen : ∀ l : List Nat, (l.flatMap (beBytes 4)).length = 4 * l.length := fun l => by
    induction l with
    | nil => rfl
    | cons a l ih => simp [ih]; omega
  unfold sumOf
  rw [hlen, length_hashOf]
theorem hkey_small {key : List Nat} (h : ∀ x ∈ key, x < 256) : ∀ x ∈ hkey key, x < 256 := by
  unfold hkey
  split
  · exact sumOf_small key
  · exact h
theorem hkey_le (key : List Nat) : (hkey key).length ≤ 64 := by
  unfold hkey
  split
  · rw [sumOf_length]; omega
  · omega
theorem padBy_small {b : Nat} (hb : b < 256) {key : List Nat} (h : ∀ x ∈ key, x < 256) : ∀ x ∈ padBy b key, x < 256 := by
  intro x hx
  obtain ⟨i, _, rfl⟩ := List.mem_map.1 hx
  exact Nat.xor_lt_two_pow (n := 8) (byt_lt h i) hb
/-- The key laid over 64 zeros. -/
theorem pad_splice {key : List Nat} (h : key.length ≤ 64) : (List.replicate 64 0).take 0 ++ (key ++ (List.replicate 64 0).drop (0 + key.length)) = (List.range 64).map (byt key) := by
  apply List.ext_getElem
  · simp; omega
  · intro i h1 h2
    simp only [List.take_zero, List.nil_append, List.getElem_map, List.getElem_range]
    by_cases hi : i < key.length
    · rw [List.getElem_append_left hi]
      simp [byt, List.getD, hi]
    · rw [List.getElem_append_right (by omega), List.getElem_drop, List.getElem_replicate]
      simp [byt, List.getD, Nat.le_of_not_lt hi]

end Go.Proofs.Ytjbmdeppoobccaa
