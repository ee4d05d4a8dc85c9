/-
  xts, plainly: masks doubled, stamps' tweaks, sectors turned. No condition; no program in sight.
-/
import Derived.Test.YtnadgjlmlnhknaaAesPlain
namespace Go.Proofs.Ytnadgjlmlnhknaa

/-- What comes over from the byte ahead. -/
def cry (m : Nat → Nat) (k : Nat) : Nat := if k = 0 then 0 else m (k - 1) / 128
def dbl0 (m : Nat → Nat) (i : Nat) : Nat := 2 * m i % 256 ||| cry m i
/-- A mask doubled. -/
def dblM (m : Nat → Nat) (i : Nat) : Nat := if i = 0 ∧ m 15 / 128 = 1 then dbl0 m 0 ^^^ 135 else dbl0 m i
theorem cry_lt {m : Nat → Nat} (hm : Bytes16 m) {k : Nat} (hk : k ≤ 16) : cry m k < 2 := by
  unfold cry
  split
  · decide
  · have := hm (k - 1) (by omega); omega
theorem dbl0_lt {m : Nat → Nat} (hm : Bytes16 m) : Bytes16 (dbl0 m) := fun i hi =>
  Nat.or_lt_two_pow (n := 8) (Nat.mod_lt _ (by decide)) (Nat.lt_of_lt_of_le (cry_lt hm (by omega)) (by decide))
theorem dblM_lt {m : Nat → Nat} (hm : Bytes16 m) : Bytes16 (dblM m) := fun i hi => by
  unfold dblM
  split
  · exact xor_lt8 (dbl0_lt hm 0 (by decide)) (by decide)
  · exact dbl0_lt hm i hi
theorem same_cry {m n : Nat → Nat} (h : Same16 m n) {k : Nat} (hk : k ≤ 16) : cry m k = cry n k := by
  unfold cry
  split
  · rfl
  · rw [h _ (by omega)]
theorem same_dblM {m n : Nat → Nat} (h : Same16 m n) : Same16 (dblM m) (dblM n) := fun i hi => by
  have e0 : cry m i = cry n i := same_cry h (by omega)
  have e1 : cry m 0 = cry n 0 := rfl
  unfold dblM dbl0
  rw [h 15 (by decide), h i hi, h 0 (by decide), e0, e1]

theorem or_xor {a c : Nat} (ha : a < 256) (hc : c < 2) : 2 * a % 256 ||| c = 2 * a % 256 ^^^ c := by
  have h0 := eq_of_beq (of_all (p := fun a => (2 * a % 256 ||| 0) == (2 * a % 256 ^^^ 0)) (by decide +kernel) ha)
  have h1 := eq_of_beq (of_all (p := fun a => (2 * a % 256 ||| 1) == (2 * a % 256 ^^^ 1)) (by decide +kernel) ha)
  rcases (show c = 0 ∨ c = 1 by omega) with rfl | rfl
  · exact h0
  · exact h1
/-- The same, by xor alone. -/
theorem dblM_xor_form {m : Nat → Nat} (hm : Bytes16 m) {i : Nat} (hi : i < 16) : dblM m i = (2 * m i % 256) ^^^ cry m i ^^^ (if i = 0 then 135 * (m 15 / 128) else 0) := by
  have h15 := hm 15 (by decide)
  unfold dblM dbl0
  rw [or_xor (hm i hi) (cry_lt hm (by omega)), or_xor (hm 0 (by decide)) (cry_lt hm (Nat.zero_le _))]
  by_cases h0 : i = 0
  · subst h0
    by_cases h1 : m 15 / 128 = 1
    · rw [if_pos ⟨rfl, h1⟩, if_pos rfl, h1]
    · rw [if_neg (fun h => h1 h.2), if_pos rfl, show m 15 / 128 = 0 by omega]; simp
  · rw [if_neg (fun h => h0 h.1), if_neg h0, Nat.xor_zero]
theorem xor_dbl (a b : Nat) : 2 * (a ^^^ b) % 256 = (2 * a % 256) ^^^ (2 * b % 256) := by
  have e : 2 * (a ^^^ b) = 2 * a ^^^ 2 * b := by
    rw [Nat.mul_comm 2, Nat.mul_comm 2, Nat.mul_comm 2, ← Nat.pow_one 2, ← Nat.shiftLeft_eq, ← Nat.shiftLeft_eq, ← Nat.shiftLeft_eq, Nat.shiftLeft_xor_distrib]
  rw [e]
  exact @Nat.xor_mod_two_pow _ _ 8
theorem xor_hi (a b : Nat) : (a ^^^ b) / 128 = (a / 128) ^^^ (b / 128) := by
  rw [show (128 : Nat) = 2 ^ 7 from rfl, ← Nat.shiftRight_eq_div_pow, ← Nat.shiftRight_eq_div_pow, ← Nat.shiftRight_eq_div_pow, Nat.shiftRight_xor_distrib]
theorem bit_mul {a b : Nat} (ha : a < 2) (hb : b < 2) : 135 * (a ^^^ b) = (135 * a) ^^^ (135 * b) := by
  rcases (show a = 0 ∨ a = 1 by omega) with rfl | rfl <;> rcases (show b = 0 ∨ b = 1 by omega) with rfl | rfl <;> decide
theorem xor6 (a b c d e f : Nat) : (a ^^^ b) ^^^ (c ^^^ d) ^^^ (e ^^^ f) = (a ^^^ c ^^^ e) ^^^ (b ^^^ d ^^^ f) := by ac_rfl
/-- A sum is doubled as its parts. -/
theorem dblM_xor {m n : Nat → Nat} (hm : Bytes16 m) (hn : Bytes16 n) : Same16 (dblM (fun i => m i ^^^ n i)) (fun i => dblM m i ^^^ dblM n i) := fun i hi => by
  have hb : Bytes16 (fun i => m i ^^^ n i) := fun i hi => xor_lt8 (hm i hi) (hn i hi)
  have hm15 := hm 15 (by decide)
  have hn15 := hn 15 (by decide)
  show dblM (fun i => m i ^^^ n i) i = dblM m i ^^^ dblM n i
  rw [dblM_xor_form hb hi, dblM_xor_form hm hi, dblM_xor_form hn hi, ← xor6]
  show (2 * (m i ^^^ n i) % 256) ^^^ _ ^^^ (if i = 0 then 135 * ((m 15 ^^^ n 15) / 128) else 0) = _
  rw [xor_dbl, xor_hi, bit_mul (by omega) (by omega)]
  congr 1
  · congr 1
    unfold cry
    split
    · rfl
    · exact xor_hi _ _
  · split <;> rfl
theorem even_bit {x c : Nat} (hc : c < 2) (h : (2 * x % 256) ^^^ c = 0) : 2 * x % 256 = 0 ∧ c = 0 := by
  have e : 2 * x % 256 = c := by
    have h2 : ((2 * x % 256) ^^^ c) ^^^ c = 0 ^^^ c := by rw [h]
    rwa [Nat.xor_assoc, Nat.xor_self, Nat.xor_zero, Nat.zero_xor] at h2
  omega
theorem dblM_zero {m : Nat → Nat} (hm : Bytes16 m) (h : ∀ i, i < 16 → dblM m i = 0) : ∀ i, i < 16 → m i = 0 := by
  have key : ∀ i, i < 16 → i ≠ 0 → 2 * m i % 256 = 0 ∧ m (i - 1) / 128 = 0 := fun i hi h0 => by
    have e := h i hi
    rw [dblM_xor_form hm hi, if_neg h0, Nat.xor_zero] at e
    have := even_bit (cry_lt hm (by omega)) e
    unfold cry at this
    rw [if_neg h0] at this
    exact this
  have e0 := h 0 (by decide)
  rw [dblM_xor_form hm (by decide), if_pos rfl, show cry m 0 = 0 from rfl, Nat.xor_zero] at e0
  have h15 := hm 15 (by decide)
  have z15 : m 15 / 128 = 0 := by
    rcases (show m 15 / 128 = 0 ∨ m 15 / 128 = 1 by omega) with z | z
    · exact z
    · rw [z] at e0
      have e : 2 * m 0 % 256 = 135 := by
        have h2 : ((2 * m 0 % 256) ^^^ (135 * 1)) ^^^ 135 = 0 ^^^ 135 := by rw [e0]
        rwa [Nat.mul_one, Nat.xor_assoc, Nat.xor_self, Nat.xor_zero, Nat.zero_xor] at h2
      omega
  rw [z15, Nat.mul_zero, Nat.xor_zero] at e0
  intro i hi
  have hb := hm i hi
  have top : m i / 128 = 0 := by
    rcases (show i = 15 ∨ i + 1 < 16 by omega) with rfl | h1
    · exact z15
    · have := (key (i + 1) h1 (by omega)).2
      simpa using this
  have low : 2 * m i % 256 = 0 := by
    rcases Nat.eq_zero_or_pos i with rfl | h1
    · exact e0
    · exact (key i hi (by omega)).1
  omega
theorem xor_zero_iff {a b : Nat} : a ^^^ b = 0 ↔ a = b := by
  constructor
  · intro h
    have h2 : (a ^^^ b) ^^^ b = 0 ^^^ b := by rw [h]
    rwa [Nat.xor_assoc, Nat.xor_self, Nat.xor_zero, Nat.zero_xor] at h2
  · rintro rfl; exact Nat.xor_self _
/-- Unlike masks are doubled to unlike ones. -/
theorem dblM_inj {m n : Nat → Nat} (hm : Bytes16 m) (hn : Bytes16 n) (h : Same16 (dblM m) (dblM n)) : Same16 m n := fun i hi => by
  have hb : Bytes16 (fun i => m i ^^^ n i) := fun i hi => xor_lt8 (hm i hi) (hn i hi)
  refine xor_zero_iff.1 (dblM_zero hb (fun j hj => ?_) i hi)
  rw [dblM_xor hm hn j hj]
  exact xor_zero_iff.2 (h j hj)

/-- A stamp's tweak. -/
def twk (s : Nat) (i : Nat) : Nat := if i < 8 then s / 256 ^ i % 256 else 0
theorem twk_lt (s : Nat) : Bytes16 (twk s) := fun i _ => by
  unfold twk
  split
  · exact Nat.mod_lt _ (by decide)
  · decide
theorem twk_step {s t : Nat} : ∀ k, (∀ i, i < k → s / 256 ^ i % 256 = t / 256 ^ i % 256) → s % 256 ^ k = t % 256 ^ k
  | 0, _ => by simp [Nat.mod_one]
  | k + 1, h => by
    have ih := twk_step k (fun i hi => h i (by omega))
    have hk := h k (by omega)
    have e : ∀ x : Nat, x % 256 ^ (k + 1) = x % 256 ^ k + 256 ^ k * (x / 256 ^ k % 256) := fun x => by rw [Nat.pow_succ, Nat.mod_mul]
    rw [e, e, ih, hk]
theorem twk_inj {s t : Nat} (hs : s < 18446744073709551616) (ht : t < 18446744073709551616) (h : Same16 (twk s) (twk t)) : s = t := by
  have := twk_step (s := s) (t := t) 8 (fun i hi => by
    have := h i (by omega)
    unfold twk at this
    rwa [if_pos hi, if_pos hi] at this)
  rwa [Nat.mod_eq_of_lt (by exact hs), Nat.mod_eq_of_lt (by exact ht)] at this

/-- The masks one behind the other. -/
def maskTo (m : Nat → Nat) : Nat → Nat → Nat
  | 0 => m
  | k + 1 => dblM (maskTo m k)
theorem maskTo_lt {m : Nat → Nat} (hm : Bytes16 m) : ∀ k, Bytes16 (maskTo m k)
  | 0 => hm
  | k + 1 => dblM_lt (maskTo_lt hm k)
def xor16 (x m : Nat → Nat) : Nat → Nat := fun i => x i ^^^ m i
theorem xor16_lt {x m : Nat → Nat} (hx : Bytes16 x) (hm : Bytes16 m) : Bytes16 (xor16 x m) := fun i hi => xor_lt8 (hx i hi) (hm i hi)
theorem xor16_same {x y : Nat → Nat} (h : Same16 x y) (m : Nat → Nat) : Same16 (xor16 x m) (xor16 y m) := fun i hi => by unfold xor16; rw [h i hi]
theorem xor16_twice (x m : Nat → Nat) : xor16 (xor16 x m) m = x := by
  funext i; unfold xor16; rw [Nat.xor_assoc, Nat.xor_self, Nat.xor_zero]
/-- A block turned by E under a mask. -/
def under (E : (Nat → Nat) → Nat → Nat) (m x : Nat → Nat) : Nat → Nat := xor16 (E (xor16 x m)) m
/-- The block at k of a text. -/
def blk (b : Nat → Nat) (k : Nat) : Nat → Nat := fun i => b (16 * k + i)
/-- A sector's k first blocks turned. -/
def sec (E : (Nat → Nat) → Nat → Nat) (m b : Nat → Nat) : Nat → Nat := fun i => under E (maskTo m (i / 16)) (blk b (i / 16)) (i % 16)
end Go.Proofs.Ytnadgjlmlnhknaa
