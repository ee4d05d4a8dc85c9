/-
  The sum of a text, plainly: blocks of 64 pressed one behind the other, the text filled up. No condition; no program in sight.
-/
import Derived.Test.YtjbmdeppoobccaaShaPlain
import Derived.Test.YtjbmdeppoobccaaTx
namespace Go.Proofs.Ytjbmdeppoobccaa

theorem spread_congr {b b' : Nat → Nat} (h : ∀ i, i < 64 → b i = b' i) : ∀ k, spreadTo b k = spreadTo b' k
  | 0 => by
    unfold spreadTo
    refine List.map_congr_left fun i hi => ?_
    have := List.mem_range.1 hi
    unfold be32
    rw [h _ (by omega), h _ (by omega), h _ (by omega), h _ (by omega)]
  | k + 1 => by unfold spreadTo; rw [spread_congr h k]
theorem press_congr (x : List Nat) {b b' : Nat → Nat} (h : ∀ i, i < 64 → b i = b' i) : press x b = press x b' := by
  unfold press spread; rw [spread_congr h]

/-- The words behind k blocks. -/
def hashTo (t : Nat → Nat) : Nat → List Nat
  | 0 => shaH
  | k + 1 => press (hashTo t k) fun i => t (64 * k + i)
theorem hashTo_congr {t t' : Nat → Nat} : ∀ k, (∀ i, i < 64 * k → t i = t' i) → hashTo t k = hashTo t' k
  | 0, _ => rfl
  | k + 1, h => by
    unfold hashTo
    rw [hashTo_congr k fun i hi => h i (by omega)]
    exact press_congr _ fun i hi => h _ (by omega)
/-- The words behind a text's whole blocks. -/
def hashOf (t : List Nat) : List Nat := hashTo (byt t) (t.length / 64)
theorem hashOf_short {t d : List Nat} (h : t.length % 64 + d.length < 64) : hashOf (t ++ d) = hashOf t := by
  unfold hashOf
  have e : (t ++ d).length / 64 = t.length / 64 := by simp; omega
  rw [e]
  refine hashTo_congr _ fun i hi => ?_
  rw [byt_append, if_pos (by omega)]
theorem hashOf_full {t d : List Nat} (h : t.length % 64 + d.length = 64) (B : Nat → Nat) (h1 : ∀ i, i < t.length % 64 → B i = byt t (64 * (t.length / 64) + i)) (h2 : ∀ i, i < d.length → B (t.length % 64 + i) = byt d i) :
    hashOf (t ++ d) = press (hashOf t) B := by
  unfold hashOf
  have e : (t ++ d).length / 64 = t.length / 64 + 1 := by simp; omega
  rw [e, hashTo]
  rw [hashTo_congr (t' := byt t) _ fun i hi => by rw [byt_append, if_pos (by omega)]]
  refine press_congr _ fun i hi => ?_
  rw [byt_append]
  by_cases hl : i < t.length % 64
  · rw [if_pos (by omega), h1 i hl]
  · rw [if_neg (by omega)]
    have := h2 (i - t.length % 64) (by omega)
    rw [show t.length % 64 + (i - t.length % 64) = i by omega] at this
    rw [this]; congr 1; omega

/-- How many zeros fill a text of so many bytes up. -/
def zeros (n : Nat) : Nat := (119 - n % 64) % 64
def filled (t : List Nat) : List Nat := t ++ [128] ++ List.replicate (zeros t.length) 0 ++ beBytes 8 (8 * t.length)
/-- The thirty-two bytes of a text's sum. -/
def sumOf (t : List Nat) : List Nat := (hashOf (filled t)).flatMap (beBytes 4)
theorem length_hashTo (t : Nat → Nat) : ∀ k, (hashTo t k).length = 8
  | 0 => rfl
  | _ + 1 => length_press _ _
theorem length_hashOf (t : List Nat) : (hashOf t).length = 8 := length_hashTo _ _
theorem small_hashTo (t : Nat → Nat) : ∀ k, Small (hashTo t k)
  | 0 => small_shaH
  | _ + 1 => small_press _ _
theorem small_hashOf (t : List Nat) : Small (hashOf t) := small_hashTo _ _
theorem filled_mod (t : List Nat) : (t ++ [128] ++ List.replicate (zeros t.length) 0).length % 64 = 56 := by simp [zeros]; omega

end Go.Proofs.Ytjbmdeppoobccaa
