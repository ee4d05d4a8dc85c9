/-
  The reference's bytes as polynomials, plainly: its products, inverses, powers, boxes are those of the program. No program in sight.
-/
import Derived.Test.YtnadgjlmlnhknaaAesPlain
namespace Go.Proofs.Ytnadgjlmlnhknaa

/-- All products of digits. -/
def clTo (a b : Nat) : Nat → Nat
  | 0 => 0
  | i + 1 => if b / 2 ^ i % 2 = 1 then clTo a b i ^^^ a * 2 ^ i else clTo a b i
/-- .. and what is above the seventh power taken away. -/
def redTo (p : Nat) : Nat → Nat
  | 0 => p
  | k + 1 => if redTo p k / 2 ^ (14 - k) % 2 = 1 then redTo p k ^^^ 283 * 2 ^ (6 - k) else redTo p k
def rmul (a b : Nat) : Nat := redTo (clTo a b 8) 7 % 256

theorem bit_xor (b c i : Nat) : (b ^^^ c) / 2 ^ i % 2 = (b / 2 ^ i % 2 + c / 2 ^ i % 2) % 2 := by
  have e : (b ^^^ c) / 2 ^ i = b / 2 ^ i ^^^ c / 2 ^ i := by
    rw [← Nat.shiftRight_eq_div_pow, ← Nat.shiftRight_eq_div_pow, ← Nat.shiftRight_eq_div_pow, Nat.shiftRight_xor_distrib]
  rw [e]
  have h := @Nat.xor_mod_two_pow (b / 2 ^ i) (c / 2 ^ i) 1
  rw [Nat.pow_one] at h
  rw [h]
  rcases Nat.mod_two_eq_zero_or_one (b / 2 ^ i) with h1 | h1 <;> rcases Nat.mod_two_eq_zero_or_one (c / 2 ^ i) with h2 | h2 <;> simp [h1, h2]
theorem xor_step (x y s : Nat) (p q : Prop) [Decidable p] [Decidable q] (r : Prop) [Decidable r] (h : r ↔ (p ∧ ¬ q) ∨ (¬ p ∧ q)) :
    (if r then (x ^^^ y) ^^^ s else x ^^^ y) = (if p then x ^^^ s else x) ^^^ (if q then y ^^^ s else y) := by
  by_cases hp : p <;> by_cases hq : q <;> simp [h, hp, hq]
  · rw [Nat.xor_assoc x s, Nat.xor_comm s, Nat.xor_assoc y, Nat.xor_self, Nat.xor_zero]
  · rw [Nat.xor_assoc, Nat.xor_assoc, Nat.xor_comm y s]
  · rw [Nat.xor_assoc]
theorem par_iff (m n : Nat) : ((m % 2 + n % 2) % 2 = 1) ↔ (m % 2 = 1 ∧ ¬ n % 2 = 1) ∨ (¬ m % 2 = 1 ∧ n % 2 = 1) := by omega
theorem clTo_xor (a b c : Nat) : ∀ i, clTo a (b ^^^ c) i = clTo a b i ^^^ clTo a c i
  | 0 => by simp [clTo]
  | i + 1 => by
    unfold clTo
    rw [clTo_xor a b c i]
    exact xor_step _ _ _ _ _ _ (by rw [bit_xor]; exact par_iff _ _)
theorem redTo_xor (p q : Nat) : ∀ k, redTo (p ^^^ q) k = redTo p k ^^^ redTo q k
  | 0 => rfl
  | k + 1 => by
    unfold redTo
    rw [redTo_xor p q k]
    exact xor_step _ _ _ _ _ _ (by rw [bit_xor]; exact par_iff _ _)
theorem rmul_xor (a b c : Nat) : rmul a (b ^^^ c) = rmul a b ^^^ rmul a c := by
  unfold rmul
  rw [clTo_xor, redTo_xor]
  exact @Nat.xor_mod_two_pow _ _ 8
theorem lo_hi {b : Nat} (hb : b < 256) : b = (b % 16) ^^^ (16 * (b / 16)) :=
  eq_of_beq (of_all (p := fun b => b == (b % 16) ^^^ (16 * (b / 16))) (by decide +kernel) hb)
/-- What holds of each pair of a byte and a half byte, by trying all. -/
theorem of_all2 {p : Nat → Nat → Bool} (h : (List.range 256).all (fun a => (List.range 16).all (p a)) = true) {a b : Nat} (ha : a < 256) (hb : b < 16) : p a b = true :=
  List.all_eq_true.1 (List.all_eq_true.1 h a (List.mem_range.2 ha)) b (List.mem_range.2 hb)
theorem rmul_eq {a b : Nat} (ha : a < 256) (hb : b < 256) : rmul a b = gmul a b := by
  have h1 : rmul a (b % 16) = gmul a (b % 16) := eq_of_beq (of_all2 (p := fun a b => rmul a b == gmul a b) (by decide +kernel) ha (Nat.mod_lt _ (by decide)))
  have h2 : rmul a (16 * (b / 16)) = gmul a (16 * (b / 16)) := eq_of_beq (of_all2 (p := fun a b => rmul a (16 * b) == gmul a (16 * b)) (by decide +kernel) ha (show b / 16 < 16 by omega))
  rw [lo_hi hb, rmul_xor, gmul_xor, h1, h2]

theorem inv_mul {a b : Nat} (ha : a < 256) (h0 : a ≠ 0) (hb : b < 256) : gmul (ginv a) (gmul a b) = b := by
  have h1 : gmul (ginv a) (gmul a (b % 16)) = b % 16 := by
    have := of_all2 (p := fun a b => a == 0 || gmul (ginv a) (gmul a b) == b) (by decide +kernel) ha (Nat.mod_lt b (show 0 < 16 by decide))
    simpa [h0] using this
  have h2 : gmul (ginv a) (gmul a (16 * (b / 16))) = 16 * (b / 16) := by
    have := of_all2 (p := fun a b => a == 0 || gmul (ginv a) (gmul a (16 * b)) == 16 * b) (by decide +kernel) ha (show b / 16 < 16 by omega)
    simpa [h0] using this
  conv => lhs; rw [lo_hi hb]
  rw [gmul_xor, gmul_xor, h1, h2, ← lo_hi hb]
theorem mul_inv {a : Nat} (ha : a < 256) (h0 : a ≠ 0) : gmul a (ginv a) = 1 := by
  have := of_all (p := fun a => a == 0 || gmul a (ginv a) == 1) (by decide +kernel) ha
  simpa [h0] using this
theorem inv_one {a : Nat} (ha : a < 256) : gmul (ginv a) 1 = ginv a :=
  eq_of_beq (of_all (p := fun a => gmul (ginv a) 1 == ginv a) (by decide +kernel) ha)
/-- The one byte whose product with a is one. -/
theorem inv_iff {a b : Nat} (ha : a < 256) (h0 : a ≠ 0) (hb : b < 256) : rmul a b = 1 ↔ b = ginv a := by
  rw [rmul_eq ha hb]
  constructor
  · intro h
    have := inv_mul ha h0 hb
    rw [h, inv_one ha] at this
    exact this.symm
  · rintro rfl; exact mul_inv ha h0
theorem rmul_zero {b : Nat} (hb : b < 256) : rmul 0 b = 0 := by
  rw [rmul_eq (by decide) hb]
  exact eq_of_beq (of_all (p := fun b => gmul 0 b == 0) (by decide +kernel) hb)

def rpow (a : Nat) : Nat → Nat
  | 0 => 1
  | n + 1 => rmul (rpow a n) a
theorem rpow_two {n : Nat} (hn : n < 7) : rpow 2 n = gpow 2 n := by
  have h : (List.range 256).all (fun n => decide (7 ≤ n) || rpow 2 n == gpow 2 n) = true := by decide +kernel
  have h1 := of_all h (show n < 256 by omega)
  rw [Bool.or_eq_true, decide_eq_true_iff] at h1
  rcases h1 with h1 | h1
  · omega
  · exact eq_of_beq h1

/-- The box, digit by digit. -/
def dig (v i : Nat) : Nat := v / 2 ^ i % 2
def boxD (v i : Nat) : Nat := (dig v i + dig v ((i + 7) % 8) + dig v ((i + 6) % 8) + dig v ((i + 5) % 8) + dig v ((i + 4) % 8) + dig 99 i) % 2
def byteD (l : Nat → Nat) : Nat → Nat
  | 0 => 0
  | k + 1 => 2 * byteD l k + l (7 - k)
theorem rbox_eq {v : Nat} (hv : v < 256) : byteD (boxD v) 8 = v ^^^ 99 ^^^ rotl8 v 1 ^^^ rotl8 v 2 ^^^ rotl8 v 3 ^^^ rotl8 v 4 :=
  eq_of_beq (of_all (p := fun v => byteD (boxD v) 8 == v ^^^ 99 ^^^ rotl8 v 1 ^^^ rotl8 v 2 ^^^ rotl8 v 3 ^^^ rotl8 v 4) (by decide +kernel) hv)
theorem rbox_gbox {a : Nat} (ha : a < 256) : byteD (boxD (ginv a)) 8 = gbox a := rbox_eq (ginv_lt ha)
/-- The one byte whose box it is. -/
theorem unb_iff {a i : Nat} (ha : a < 256) (hi : i < 256) : gbox i = a ↔ i = gunb a := by
  constructor
  · intro h; rw [← h]; exact (unb_box i hi).symm
  · intro h; rw [h]; exact (unb_lt_box a ha).2
end Go.Proofs.Ytnadgjlmlnhknaa
