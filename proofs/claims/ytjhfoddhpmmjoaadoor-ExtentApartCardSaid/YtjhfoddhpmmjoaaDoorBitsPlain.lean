/-
  Numbers as rows of digits: 'wb f k' is the number of k digits whose digit i is 'f i'; setting and striking a digit. No condition. No program is in sight here.
-/
import Derived.WalkKit
import Derived.WalkLawsBesides
namespace Go.Proofs.YtjhfoddhpmmjoaaDoor
open Go.RowKit

/-- The number whose digit i (i < k) is 'f i'. -/
def wb (f : Nat → Bool) : Nat → Nat
  | 0 => 0
  | k + 1 => wb f k + if f k then 2 ^ k else 0

theorem wb_lt (f : Nat → Bool) : ∀ k, wb f k < 2 ^ k
  | 0 => by simp [wb]
  | k + 1 => by
    have := wb_lt f k
    simp only [wb, Nat.pow_succ]
    split <;> omega

theorem wb_testBit (f : Nat → Bool) (i : Nat) : ∀ k, (wb f k).testBit i = (decide (i < k) && f i)
  | 0 => by simp [wb]
  | k + 1 => by
    have hl := wb_lt f k
    have ih := wb_testBit f i k
    simp only [wb]
    by_cases hk : f k = true
    · rw [if_pos hk, Nat.add_comm]
      by_cases hi : i = k
      · subst hi
        rw [Nat.testBit_two_pow_add_eq, ih]
        simp [hk]
      · by_cases hlt : i < k
        · rw [Nat.testBit_two_pow_add_gt hlt, ih]
          simp [hlt, Nat.lt_succ_of_lt hlt]
        · have h1 : ¬ i < k + 1 := by omega
          simp only [h1, decide_false, Bool.false_and]
          have h2 : 2 ^ k + wb f k < 2 ^ i := by
            have : 2 ^ (k + 1) ≤ 2 ^ i := Nat.pow_le_pow_right (by omega) (by omega)
            rw [Nat.pow_succ] at this
            omega
          exact Nat.testBit_lt_two_pow h2
    · rw [if_neg hk, Nat.add_zero, ih]
      by_cases hi : i = k
      · subst hi; simp [hk]
      · by_cases hlt : i < k
        · simp [hlt, Nat.lt_succ_of_lt hlt]
        · have h1 : ¬ i < k + 1 := by omega
          simp [h1, hlt]

/-- Word j of a row that has 'L' : its digit i is set where place 64 j + i is held. -/
def wordOf (L : Nat → Nat) (j : Nat) : Nat := wb (fun i => decide (0 < L (64 * j + i))) 64

theorem wordOf_lt (L : Nat → Nat) (j : Nat) : wordOf L j < 18446744073709551616 := wb_lt _ 64

theorem wordOf_testBit (L : Nat → Nat) (j i : Nat) : (wordOf L j).testBit i = (decide (i < 64) && decide (0 < L (64 * j + i))) := wb_testBit _ i 64

theorem wordOf_congr {L L' : Nat → Nat} {j : Nat} (h : ∀ i, i < 64 → (0 < L (64 * j + i) ↔ 0 < L' (64 * j + i))) : wordOf L j = wordOf L' j := by
  apply Nat.eq_of_testBit_eq
  intro i
  rw [wordOf_testBit, wordOf_testBit]
  by_cases hi : i < 64
  · simp [hi, h i hi]
  · simp [hi]

/-- Digit i of a word, as the program asks for it. -/
theorem shr_and_nat (x s : Nat) (hx : x < 18446744073709551616) : bits .and .u64 ((x : Int) / (2 : Int) ^ s) 1 = ((x / 2 ^ s % 2 : Nat) : Int) := by
  have e : ((x : Int) / (2 : Int) ^ s) = ((x / 2 ^ s : Nat) : Int) := by simp
  have h1 : x / 2 ^ s < 18446744073709551616 := Nat.lt_of_le_of_lt (Nat.div_le_self _ _) hx
  rw [e, show (1 : Int) = ((1 : Nat) : Int) from rfl, u64_and_nat _ _ h1 (by decide), nat_mask1]

theorem testBit_div (x s : Nat) : x.testBit s = decide (x / 2 ^ s % 2 = 1) := by
  rw [Nat.testBit_eq_decide_div_mod_eq]

theorem ask_held {L : Nat → Nat} {i : Nat} (h : 0 < L i) : (bits .and .u64 ((wordOf L (i / 64) : Int) / (2 : Int) ^ (i % 64)) 1 == 0) = false := by
  have ht : (wordOf L (i / 64)).testBit (i % 64) = true := by
    rw [wordOf_testBit, show 64 * (i / 64) + i % 64 = i from Nat.div_add_mod i 64]
    simp [h, Nat.mod_lt]
  rw [testBit_div, decide_eq_true_eq] at ht
  rw [shr_and_nat _ _ (wordOf_lt L _), ht]
  rfl

theorem ask_free {L : Nat → Nat} {i : Nat} (h : L i = 0) : (bits .and .u64 ((wordOf L (i / 64) : Int) / (2 : Int) ^ (i % 64)) 1 == 0) = true := by
  have ht : (wordOf L (i / 64)).testBit (i % 64) = false := by
    rw [wordOf_testBit, show 64 * (i / 64) + i % 64 = i from Nat.div_add_mod i 64]
    simp [h]
  rw [testBit_div, decide_eq_false_iff_not] at ht
  have h0 : wordOf L (i / 64) / 2 ^ (i % 64) % 2 = 0 := by omega
  rw [shr_and_nat _ _ (wordOf_lt L _), h0]
  rfl

/-- L, but v at place i. -/
def up (L : Nat → Nat) (i v : Nat) : Nat → Nat := fun k => if k = i then v else L k
theorem up_same (L : Nat → Nat) (i v : Nat) : up L i v i = v := if_pos rfl
theorem up_other (L : Nat → Nat) {i k : Nat} (v : Nat) (h : k ≠ i) : up L i v k = L k := if_neg h

theorem wordOf_up_other (L : Nat → Nat) {i j : Nat} (v : Nat) (h : j ≠ i / 64) : wordOf (up L i v) j = wordOf L j :=
  wordOf_congr fun k hk => by rw [up_other]; omega

theorem wordOf_up_like (L : Nat → Nat) {i v : Nat} (j : Nat) (h : 0 < v ↔ 0 < L i) : wordOf (up L i v) j = wordOf L j :=
  wordOf_congr fun k _ => by
    by_cases e : 64 * j + k = i
    · rw [e, up_same]; exact h
    · rw [up_other _ _ e]

theorem two_pow_wrap (s : Nat) (h : s < 64) : IntKind.u64.wrap ((2 : Int) ^ s) = ((2 ^ s : Nat) : Int) := by
  have h1 : 2 ^ s < 2 ^ 64 := Nat.pow_lt_pow_right (by omega) h
  rw [IntKind.wrap_u64]
  have e : ((2 : Int) ^ s) = ((2 ^ s : Nat) : Int) := by simp
  rw [e]
  have h2 : 2 ^ s < 18446744073709551616 := h1
  generalize 2 ^ s = y at h2 ⊢
  omega

theorem set_digit {L : Nat → Nat} {i v : Nat} (hv : 0 < v) : bits .or .u64 (wordOf L (i / 64) : Int) (IntKind.u64.wrap ((2 : Int) ^ (i % 64))) = (wordOf (up L i v) (i / 64) : Int) := by
  have hs : i % 64 < 64 := Nat.mod_lt _ (by omega)
  have h1 : 2 ^ (i % 64) < 18446744073709551616 := Nat.pow_lt_pow_right (n := 64) (by omega) hs
  rw [two_pow_wrap _ hs, u64_or_nat _ _ (wordOf_lt L _) h1]
  congr 1
  apply Nat.eq_of_testBit_eq
  intro k
  rw [Nat.testBit_or, wordOf_testBit, wordOf_testBit, Nat.testBit_two_pow]
  have hd := Nat.div_add_mod i 64
  by_cases e : i % 64 = k
  · subst e
    rw [hd, up_same]
    simp [hs, hv]
  · have e2 : 64 * (i / 64) + k ≠ i := by omega
    rw [up_other _ _ e2]
    simp [e]

theorem strike_digit {L : Nat → Nat} {i : Nat} : bits .andNot .u64 (wordOf L (i / 64) : Int) (IntKind.u64.wrap ((2 : Int) ^ (i % 64))) = (wordOf (up L i 0) (i / 64) : Int) := by
  have hs : i % 64 < 64 := Nat.mod_lt _ (by omega)
  have h1 : 2 ^ (i % 64) < 18446744073709551616 := Nat.pow_lt_pow_right (n := 64) (by omega) hs
  rw [two_pow_wrap _ hs, u64_andNot_nat _ _ (wordOf_lt L _) h1]
  congr 1
  apply Nat.eq_of_testBit_eq
  intro k
  rw [Nat.testBit_and, wordOf_testBit, wordOf_testBit]
  have hm : (18446744073709551615 - 2 ^ (i % 64)).testBit k = (decide (k < 64) && !(2 ^ (i % 64)).testBit k) := by
    have := Nat.testBit_two_pow_sub_succ (n := 64) h1 k
    rwa [show 2 ^ 64 - (2 ^ (i % 64) + 1) = 18446744073709551615 - 2 ^ (i % 64) by omega] at this
  rw [hm, Nat.testBit_two_pow]
  have hd := Nat.div_add_mod i 64
  by_cases e : i % 64 = k
  · subst e
    rw [hd, up_same]
    simp
  · have e2 : 64 * (i / 64) + k ≠ i := by omega
    rw [up_other _ _ e2]
    simp [e]
    by_cases hk : k < 64 <;> simp [hk]

end Go.Proofs.YtjhfoddhpmmjoaaDoor
